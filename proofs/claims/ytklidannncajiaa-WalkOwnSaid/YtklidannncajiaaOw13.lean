/- What the row of the law WalkOwn leans on: contracts of functions and plain laws, each for all inputs that its own theorem names. -/
import Derived.Test.YtklidannncajiaaOw12
import Derived.Test.YtklidannncajiaaOw8
namespace Go.Proofs.Ytklidannncajiaa.OW
open Go.RowKit Go.Proofs.YtklidannncajiaaW.PrintWords Go.Proofs.YtklidannncajiaaW.PrintLast Go.Proofs.YtklidannncajiaaW.PrintMore Go.Proofs.Ytklidannncajiaa.Am
attribute [local go_sem] eqA24
set_option linter.unusedVariables false
set_option linter.unusedSimpArgs false

theorem low_own (a : Int) (n : Nat) (h0 : 0 < n) (hn : n < 1000) : ∃ r : Nat, inkhornlaw0_Low.f a (n : Int) = some (r : Int) ∧ r < n := by
  have e1 : IntKind.u64.wrap (n : Int) = n := by show (n : Int) % 18446744073709551616 = n; omega
  have e2 : 0 ≤ IntKind.u64.wrap a := by show 0 ≤ a % 18446744073709551616; omega
  unfold inkhornlaw0_Low.f
  rw [e1, if_neg (by omega), Int.tmod_eq_emod_of_nonneg e2]
  have h2 := Int.emod_nonneg (IntKind.u64.wrap a) (b := (n : Int)) (by omega)
  have h3 := Int.emod_lt_of_pos (IntKind.u64.wrap a) (b := (n : Int)) (by omega)
  exact ⟨(IntKind.u64.wrap a % (n : Int)).toNat, by rw [wr64 _ (by omega) (by omega), Int.toNat_of_nonneg h2], by omega⟩
set_option maxHeartbeats 8000000 in
set_option maxRecDepth 100000 in
theorem walkOwn_calls (A : Option Addr) (c : Nat) (l : List ByteArray) (wh k : Int) (w : World) (hr : Kd.C Kd.string w A l.length l) (hc : l.length ≤ c) :
    Calls Try.prog 10 #[.slice A l.length c, .int .i64 wh, .int .i64 k] w fun e w' => e = .returned (.bool true) ∧ Below w.heap.size w w' := by
  have HW := Aside0.mk (Below.refl w.heap.size w)
  have HR := Aside0.mk hr
  have HC := Aside0.mk hc
  clear hr hc
  obtain ⟨T, hT⟩ : ∃ T, T = !decide (Small l) := ⟨_, rfl⟩
  obtain ⟨KT, hK2⟩ := great_ev l
  have hKT : inkhornlaw0_GreatTexts.f KT l = some T := by rw [hT]; exact hK2 KT (Nat.le_refl _)
  have HT := Aside0.mk hKT
  clear hK2 hKT
  go_enter Try.func10, Try.ntmps10
  cases T with
  | true =>
    clear hT
    go_wp2_with (first | ((with_reducible refine gate_callee (f := 27) rfl ?_); (try (refine gate_guard (by rfl) ?_; dsimp only)); refine goesL_ (some 18) rfl rfl Try.func27 (by kernel_rfl) rfl #[.slice A l.length c] rfl (by (try simp only [List.map_toArray, List.map_cons, List.map_nil]); first | done | rfl) ?_; (with_reducible refine (inkhornlaw0_GreatTexts.calls KT A c l true _ HR.out HC.out HT.out).mono ?_); rintro e w2 ⟨rfl, hd⟩; refine ⟨_, rfl, ?_⟩; have hb := hd.below; have q_HW := Aside0.mk (below_step HW.out hb); clear HW; have HW := q_HW; clear q_HW; have q_HR := Aside0.mk (Kd.C_below HR.out hb); clear HR; have HR := q_HR; clear q_HR; clear hb hd) | ((with_reducible refine gate_callee (f := 13) rfl ?_); (try (refine gate_guard (by rfl) ?_; dsimp only)); refine goesL_ (some 19) rfl rfl Try.func13 (by kernel_rfl) rfl #[] rfl (by (try simp only [List.map_toArray, List.map_cons, List.map_nil]); first | done | rfl) ?_; (with_reducible refine (awake_calls _).mono ?_); rintro e w3 ⟨rfl, hb⟩; refine ⟨_, rfl, ?_⟩; have q_HW := Aside0.mk (below_step HW.out hb); clear HW; have HW := q_HW; clear q_HW; have q_HR := Aside0.mk (Kd.C_below HR.out hb); clear HR; have HR := q_HR; clear q_HR; clear hb))
    go_ret
    exact ⟨rfl, HW.out⟩
  | false =>
    have hsm : Small l := by simpa using hT.symm
    have HSM1 := Aside0.mk hsm.1
    have HSM2 := Aside0.mk hsm.2
    clear hT hsm
    go_upto_region 4 with (first | ((with_reducible refine gate_callee (f := 27) rfl ?_); (try (refine gate_guard (by rfl) ?_; dsimp only)); refine goesL_ (some 18) rfl rfl Try.func27 (by kernel_rfl) rfl #[.slice A l.length c] rfl (by (try simp only [List.map_toArray, List.map_cons, List.map_nil]); first | done | rfl) ?_; (with_reducible refine (inkhornlaw0_GreatTexts.calls KT A c l false _ HR.out HC.out HT.out).mono ?_); rintro e w2 ⟨rfl, hd⟩; refine ⟨_, rfl, ?_⟩; have hb := hd.below; have q_HW := Aside0.mk (below_step HW.out hb); clear HW; have HW := q_HW; clear q_HW; have q_HR := Aside0.mk (Kd.C_below HR.out hb); clear HR; have HR := q_HR; clear q_HR; clear hb hd) | ((with_reducible refine gate_callee (f := 31) rfl ?_); (try (refine gate_guard (by rfl) ?_; dsimp only)); refine goesL_ (some 21) rfl rfl Try.func31 (by kernel_rfl) rfl #[.slice A l.length c] rfl (by (try simp only [List.map_toArray, List.map_cons, List.map_nil]); first | done | rfl) ?_; (with_reducible refine (sorted_calls A c l _ (Nat.le_trans HSM1.out (by omega)) (fun s hs => Nat.le_trans (HSM2.out s hs) (by omega)) HR.out HC.out).mono ?_); rintro e w3 ⟨v3, r, rfl, ho, hp, hb⟩; refine ⟨_, rfl, ?_⟩; have q_HW := Aside0.mk (below_step HW.out hb); clear HW; have HW := q_HW; clear q_HW; have HO := Aside0.mk (ho); clear HR; have HP := Aside0.mk hp; obtain ⟨A3, c3, e3⟩ := Kd.R_slice ho; subst e3; clear ho hp; have hrl : r.length ≤ 80 := Nat.le_trans HP.out.2.2 HSM1.out; clear hb))
    by_cases hr0 : r.length = 0
    · have hr1 : ((r.length : Int) == 0) = true := by rw [hr0]; rfl
      clear hr0
      go_wp2_with (first | ((with_reducible refine gate_callee (f := 13) rfl ?_); (try (refine gate_guard (by rfl) ?_; dsimp only)); refine goesL_ (some 30) rfl rfl Try.func13 (by kernel_rfl) rfl #[] rfl (by (try simp only [List.map_toArray, List.map_cons, List.map_nil]); first | done | rfl) ?_; (with_reducible refine (awake_calls _).mono ?_); rintro e w4 ⟨rfl, hb⟩; refine ⟨_, rfl, ?_⟩; have q_HW := Aside0.mk (below_step HW.out hb); clear HW; have HW := q_HW; clear q_HW; have q_HO := Aside0.mk (Kd.R_below HO.out hb); clear HO; have HO := q_HO; clear q_HO; clear hb))
      go_ret
      exact ⟨rfl, HW.out⟩
    have hr1 : ((r.length : Int) == 0) = false := by rw [beq_eq_false_iff_ne]; omega
    by_cases hr60 : 60 < (r.length : Int)
    · have hr2 : decide (60 < (r.length : Int)) = true := decide_eq_true hr60
      clear hr0 hr60
      go_wp2_with (first | ((with_reducible refine gate_callee (f := 13) rfl ?_); (try (refine gate_guard (by rfl) ?_; dsimp only)); refine goesL_ (some 30) rfl rfl Try.func13 (by kernel_rfl) rfl #[] rfl (by (try simp only [List.map_toArray, List.map_cons, List.map_nil]); first | done | rfl) ?_; (with_reducible refine (awake_calls _).mono ?_); rintro e w4 ⟨rfl, hb⟩; refine ⟨_, rfl, ?_⟩; have q_HW := Aside0.mk (below_step HW.out hb); clear HW; have HW := q_HW; clear q_HW; have q_HO := Aside0.mk (Kd.R_below HO.out hb); clear HO; have HO := q_HO; clear q_HO; clear hb))
      go_ret
      exact ⟨rfl, HW.out⟩
    have hr2 : decide (60 < (r.length : Int)) = false := decide_eq_false hr60
    have hgr : GoodW r := ⟨by omega, fun s hs => (HP.out.2.1 s hs).1, HP.out.1⟩
    have hsr : Small r := ⟨by omega, fun s hs => HSM2.out s (HP.out.2.1 s hs).2⟩
    obtain ⟨i, hli, hil⟩ := low_own wh r.length (by omega) (by omega)
    obtain ⟨n, hlk, hn⟩ := low_own k 5 (by omega) (by omega)
    obtain ⟨K, ns, t, hB, hal, hN1, hN2, hN3, hS⟩ := own_facts hsr hgr (List.getElem_mem hil) n (by omega)
    obtain ⟨wd, hwd⟩ : ∃ wd, r[i]'hil = wd := ⟨_, rfl⟩
    obtain ⟨E, hE⟩ : ∃ E, decide ((⟨0, r[i]'hil⟩ :: t : List S24).length ≤ 1) = E := ⟨_, rfl⟩
    rw [hE] at hN1
    rw [hwd] at hN1 hN2 hN3 hE hal
    obtain ⟨al, hal2⟩ : ∃ al : List S24, (⟨0, wd⟩ :: t : List S24) = al := ⟨_, rfl⟩
    have ht2 : al.drop 1 = t := by rw [← hal2]; rfl
    rw [hal2] at hN2 hE hal
    have hal3 : 1 ≤ al.length := by rw [← hal2]; simp
    have HB := Aside0.mk hB
    have HN1 := Aside0.mk hN1
    have HN2 := Aside0.mk hN2
    have HN3 := Aside0.mk hN3
    have HS := Aside0.mk hS
    have HLI := Aside0.mk hli
    have HLK := Aside0.mk (show inkhornlaw0_Low.f k 5 = some (n : Int) from hlk)
    have HT2 := Aside0.mk ht2
    have HAL2 := Aside0.mk hal2
    have ha1 : decide ((al.length : Int) < 1) = false := decide_eq_false (by omega)
    have ha2 : ((al.length : Int) == 1) = E := by
      rw [← hE, Bool.eq_iff_iff]
      simp only [beq_iff_eq, decide_eq_true_eq]
      omega
    have HAL := Aside0.mk hal
    have HAL3 := Aside0.mk hal3
    have hh0 : (0 : Int) ≤ (i : Int) := by omega
    have hh1 : (i : Int) < (r.length : Int) := by omega
    obtain ⟨ad, e101, hx⟩ := Kd.at_string (Kd.R_reads' HO.out).2.2 (i : Int) hh0 hh1
    cases e101
    rw [Int.toNat_natCast, rdOf_nat _ _ _ hil, hwd] at hx
    clear hr0 hr60 hgr hsr hB hN1 hN2 hN3 hS hli hlk hE hal2 ht2 hal hal3 hwd
    go_upto_region 14 with (first | ((with_reducible refine gate_callee (f := 20) rfl ?_); (try (refine gate_guard (by rfl) ?_; dsimp only)); refine goesL_ (some 35) rfl rfl Try.func20 (by kernel_rfl) rfl #[.int .i64 wh, .int .i64 (r.length : Int)] rfl (by (try simp only [List.map_toArray, List.map_cons, List.map_nil]); first | done | rfl) ?_; (with_reducible refine (inkhornlaw0_Low.calls wh (r.length : Int) (i : Int) _ HLI.out).mono ?_); rintro e w4 ⟨rfl, hd⟩; refine ⟨_, rfl, ?_⟩; have hb := hd.below; have q_HW := Aside0.mk (below_step HW.out hb); clear HW; have HW := q_HW; clear q_HW; have q_HO := Aside0.mk (Kd.R_below HO.out hb); clear HO; have HO := q_HO; clear q_HO; have hx := pw_cell_below hb hx; clear hb hd) | ((with_reducible refine gate_callee (f := 20) rfl ?_); (try (refine gate_guard (by rfl) ?_; dsimp only)); refine goesL_ (some 39) rfl rfl Try.func20 (by kernel_rfl) rfl #[.int .i64 k, .int .i64 5] rfl (by (try simp only [List.map_toArray, List.map_cons, List.map_nil]); first | done | rfl) ?_; (with_reducible refine (inkhornlaw0_Low.calls k 5 (n : Int) _ HLK.out).mono ?_); rintro e w5 ⟨rfl, hd⟩; refine ⟨_, rfl, ?_⟩; have hb := hd.below; have q_HW := Aside0.mk (below_step HW.out hb); clear HW; have HW := q_HW; clear q_HW; have q_HO := Aside0.mk (Kd.R_below HO.out hb); clear HO; have HO := q_HO; clear q_HO; clear hx; clear hb hd) | ((with_reducible refine gate_callee (f := 14) rfl ?_); (try (refine gate_guard (by rfl) ?_; dsimp only)); refine goesL_ (some 42) rfl rfl Try.func14 (by kernel_rfl) rfl #[.slice (some ad) r.length c3] rfl (by (try simp only [List.map_toArray, List.map_cons, List.map_nil]); first | done | rfl) ?_; (with_reducible refine (graph_Build.calls K (some ad) c3 r ns _ (Kd.R_reads' HO.out).2.2 (Kd.R_reads' HO.out).2.1 HB.out).mono ?_); rintro e w6 ⟨g, rfl, _, hgr, hb⟩; refine ⟨_, rfl, ?_⟩; have q_HW := Aside0.mk (below_step HW.out hb); clear HW; have HW := q_HW; clear q_HW; have HGR := Aside0.mk (hgr); clear HO; clear hgr; clear hb) | ((with_reducible refine gate_callee (f := 15) rfl ?_); (try (refine gate_guard (by rfl) ?_; dsimp only)); refine goesL_ (some 52) rfl rfl Try.func15 (by kernel_rfl) rfl #[.pointer (some ⟨g, 0, none⟩), .string wd, .int .i64 (n : Int), .bool true, .agg #[.int .i64 0, .string ⟨#[]⟩], .int .i64 1] rfl (by (try simp only [List.map_toArray, List.map_cons, List.map_nil]); first | done | rfl) ?_; (with_reducible refine (walk_Next.calls K g ns wd (n : Int) true ⟨0, ⟨#[]⟩⟩ 1 _ E _ HGR.out HN1.out).mono ?_); rintro e w7 ⟨v7, rfl, ho, hb⟩; refine ⟨_, rfl, ?_⟩; have q_HW := Aside0.mk (below_step HW.out hb); clear HW; have HW := q_HW; clear q_HW; have q_HGR := Aside0.mk (HGR.out.below hb); clear HGR; have HGR := q_HGR; clear q_HGR; have H1 := Aside0.mk (ho); obtain ⟨A1, c1, e1⟩ := Kd.R_slice ho; subst e1; clear ho; clear hb) | ((with_reducible refine gate_callee (f := 15) rfl ?_); (try (refine gate_guard (by rfl) ?_; dsimp only)); refine goesL_ (some 60) rfl rfl Try.func15 (by kernel_rfl) rfl #[.pointer (some ⟨g, 0, none⟩), .string wd, .int .i64 (n : Int), .bool true, .agg #[.int .i64 0, .string ⟨#[]⟩], .int .i64 60] rfl (by (try simp only [List.map_toArray, List.map_cons, List.map_nil]); first | done | rfl) ?_; (with_reducible refine (walk_Next.calls K g ns wd (n : Int) true ⟨0, ⟨#[]⟩⟩ 60 al true _ HGR.out HN2.out).mono ?_); rintro e w8 ⟨v8, rfl, ho, hb⟩; refine ⟨_, rfl, ?_⟩; have q_HW := Aside0.mk (below_step HW.out hb); clear HW; have HW := q_HW; clear q_HW; have q_HGR := Aside0.mk (HGR.out.below hb); clear HGR; have HGR := q_HGR; clear q_HGR; have q_H1 := Aside0.mk (Kd.R_below H1.out hb); clear H1; have H1 := q_H1; clear q_H1; have H2 := Aside0.mk (ho); obtain ⟨A2, c2, e2⟩ := Kd.R_slice ho; subst e2; clear ho; clear hb) | ((with_reducible refine gate_callee (f := 15) rfl ?_); (try (refine gate_guard (by rfl) ?_; dsimp only)); refine goesL_ (some 69) rfl rfl Try.func15 (by kernel_rfl) rfl #[.pointer (some ⟨g, 0, none⟩), .string wd, .int .i64 (n : Int), .bool false, .agg #[.int .i64 0, .string wd], .int .i64 60] rfl (by (try simp only [List.map_toArray, List.map_cons, List.map_nil]); first | done | rfl) ?_; (with_reducible refine (walk_Next.calls K g ns wd (n : Int) false ⟨0, wd⟩ 60 t true _ HGR.out HN3.out).mono ?_); rintro e w9 ⟨v9, rfl, ho, hb⟩; refine ⟨_, rfl, ?_⟩; have q_HW := Aside0.mk (below_step HW.out hb); clear HW; have HW := q_HW; clear q_HW; have q_HGR := Aside0.mk (HGR.out.below hb); clear HGR; have HGR := q_HGR; clear q_HGR; have q_H1 := Aside0.mk (Kd.R_below H1.out hb); clear H1; have H1 := q_H1; clear q_H1; have q_H2 := Aside0.mk (Kd.R_below H2.out hb); clear H2; have H2 := q_H2; clear q_H2; have H3 := Aside0.mk (ho); obtain ⟨A3b, c3b, e3⟩ := Kd.R_slice ho; subst e3; clear ho; clear hb))
    obtain ⟨g1, c1, e1, _, _, cls, hg1⟩ := Kd.R_form H1.out (by simp)
    injection e1 with e1 _ e1c
    subst e1
    subst e1c
    obtain ⟨cel, hcl, hM, hcc, hfr⟩ := Kd.R_elem H1.out z24 0 (by omega) (by simp)
    obtain rfl := k24_openM hM
    have hz0 : w9.cell? ⟨g1, 0, none⟩ = some (.int .i64 0) := by have := hcc 0 _ rfl; simpa using this
    have hz1 : w9.cell? ⟨g1, 1, none⟩ = some (.string wd) := by have := hcc 1 _ rfl; simpa using this
    clear hcc hfr hM hcl hg1
    have HD := Aside0.mk (Kd.C_drop (m := 1) (Kd.R_reads' H2.out).2.2 HAL3.out (Kd.R_reads' H2.out).2.1)
    have HLT := Aside0.mk (show al.length - 1 = t.length by rw [← HT2.out, List.length_drop])
    rw [HT2.out] at HD
    have HC9 := Aside0.mk (show t.length ≤ c2 - 1 by rw [← HT2.out, List.length_drop]; have := (Kd.R_reads' H2.out).2.1; omega)
    by_cases hc21 : c2 = 1
    · subst hc21
      have ht0 : t = [] := List.eq_nil_of_length_eq_zero (by have := HC9.out; omega)
      subst ht0
      have hal1 : al = [⟨0, wd⟩] := HAL2.out.symm
      subst hal1
      obtain rfl : E = true := by rw [← ha2]; rfl
      have HD2 := Aside0.mk (show Kd.C k24 w9 A2 ([] : List S24).length [] from ⟨rfl, Nat.zero_le _, fun h => absurd h (by simp)⟩)
      clear HD
      go_wp2_with (first | ((with_reducible refine gate_callee (f := 17) rfl ?_); (try (refine gate_guard (by rfl) ?_; dsimp only)); refine goesL_ (some 106) rfl rfl Try.func17 (by kernel_rfl) rfl _ rfl (by (try simp only [List.map_toArray, List.map_cons, List.map_nil]); first | done | rfl) ?_; (refine (inkhornlaw0_SameItems.calls K A3b c3b [] _ _ [] true _ (Kd.R_reads' H3.out).2.2 (Kd.R_reads' H3.out).2.1 HD2.out (Nat.zero_le _) HS.out).mono ?_); rintro e w10 ⟨rfl, hd⟩; refine ⟨_, rfl, ?_⟩; have hb := hd.below; have q_HW := Aside0.mk (below_step HW.out hb); clear HW; have HW := q_HW; clear q_HW hz0 hz1 hb hd) | ((with_reducible refine gate_callee (f := 13) rfl ?_); (try (refine gate_guard (by rfl) ?_; dsimp only)); refine goesL_ (some 108) rfl rfl Try.func13 (by kernel_rfl) rfl #[] rfl (by (try simp only [List.map_toArray, List.map_cons, List.map_nil]); first | done | rfl) ?_; (with_reducible refine (awake_calls _).mono ?_); rintro e w11 ⟨rfl, hb⟩; refine ⟨_, rfl, ?_⟩; have q_HW := Aside0.mk (below_step HW.out hb); clear HW; have HW := q_HW; clear q_HW; clear hb))
      go_ret
      exact ⟨rfl, HW.out⟩
    · rw [if_neg hc21] at HD
      have hb1 : (1 : Int) ≤ (al.length : Int) := by have := HAL3.out; omega
      have hb2 : 1 ≤ al.length := HAL3.out
      go_wp2_with (first | ((with_reducible refine gate_callee (f := 17) rfl ?_); (try (refine gate_guard (by rfl) ?_; dsimp only)); refine goesL_ (some 106) rfl rfl Try.func17 (by kernel_rfl) rfl _ rfl (by (try simp only [List.map_toArray, List.map_cons, List.map_nil]); first | done | rfl) ?_; rw [HLT.out]; (refine (inkhornlaw0_SameItems.calls K A3b c3b t _ _ t true _ (Kd.R_reads' H3.out).2.2 (Kd.R_reads' H3.out).2.1 HD.out HC9.out HS.out).mono ?_); rintro e w10 ⟨rfl, hd⟩; refine ⟨_, rfl, ?_⟩; have hb := hd.below; have q_HW := Aside0.mk (below_step HW.out hb); clear HW; have HW := q_HW; clear q_HW hz0 hz1 hb hd) | ((with_reducible refine gate_callee (f := 13) rfl ?_); (try (refine gate_guard (by rfl) ?_; dsimp only)); refine goesL_ (some 108) rfl rfl Try.func13 (by kernel_rfl) rfl #[] rfl (by (try simp only [List.map_toArray, List.map_cons, List.map_nil]); first | done | rfl) ?_; (with_reducible refine (awake_calls _).mono ?_); rintro e w11 ⟨rfl, hb⟩; refine ⟨_, rfl, ?_⟩; have q_HW := Aside0.mk (below_step HW.out hb); clear HW; have HW := q_HW; clear q_HW; clear hb))
      go_ret
      exact ⟨rfl, HW.out⟩
end Go.Proofs.Ytklidannncajiaa.OW
