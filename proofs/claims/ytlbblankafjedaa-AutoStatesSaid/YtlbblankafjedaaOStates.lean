/- The walk of the law AutoStates: where the functions that it calls tell the same states, it answers true. -/
import Derived.Test.YtlbblankafjedaaOLend
import Derived.Test.YtlbblankafjedaaOOver
import Derived.Test.YtlbblankafjedaaOState
import Derived.Test.YtlbblankafjedaaOAutox5
namespace Go.Proofs.Ytlbblankafjedaa.OAuto
open Go.RowKit Go.Proofs.YtlbblankafjedaaW.PrintWords Go.Proofs.YtlbblankafjedaaW.PrintLast Go.Proofs.YtlbblankafjedaaW.PrintMore
set_option linter.unusedVariables false
set_option linter.unusedSimpArgs false

structure StatesOk (K : Nat) (q p : List Int) (k : Int) (S : Nat → List S35) : Prop where
  start : auto_Start.f q k = some (S 0)
  first : inkhornref7_State.f K q [] k = some (S 0)
  state : ∀ i, i ≤ p.length → 0 ≤ k → k ≤ 4 → inkhornref7_State.f K q (p.take i) k = some (S i)
  step : ∀ i, i < p.length → 0 ≤ k → k ≤ 4 → auto_Step.f K q k (S i) (rd p (i : Int)) = some (S (i + 1))
  same : ∀ i, i ≤ p.length → inkhornlaw0_SamePoses.f K (S i) (S i) = some true
  over : ∀ i, i ≤ p.length → inkhornlaw0_OverPoses.f K (S i) = some ()
  len : ∀ i, i ≤ p.length → (S i).length ≤ 1000
theorem state_at (k : Nat) (A0 : Option Addr) (c0 : Nat) (l0 : List Int) (A1 : Option Addr) (c1 n : Nat) (l1 : List Int) (a2 : Int) (r : List (S35)) (w : World) (hn : l1.length = n) (hr0 : Kd.C (Kd.int .i32) w A0 l0.length l0) (hc0 : l0.length ≤ c0) (hr1 : Kd.C (Kd.int .i32) w A1 l1.length l1) (hc1 : n ≤ c1) (h : inkhornref7_State.f k l0 l1 a2 = some r) :
    Calls Try.prog 13 #[.slice A0 l0.length c0, .slice A1 n c1, .int .i64 a2] w fun e w' => ∃ v0_ : Value, e = .returned (v0_) ∧ Kd.R k35 35 w' w.heap.size (fun _ => True) v0_ r ∧ Below w.heap.size w w' := by
  subst hn
  exact inkhornref7_State.calls k A0 c0 l0 A1 c1 l1 a2 r w hr0 hc0 hr1 hc1 h
/-- The same of two rows of the call's own, however they are told. -/
theorem same_at (k : Nat) (v0 v1 : Value) (xs : List S35) (r : Bool) (w : World) (b0 b1 : Nat) (ok0 ok1 : Nat → Prop) (h0 : Kd.R k35 35 w b0 ok0 v0 xs) (h1 : Kd.R k35 35 w b1 ok1 v1 xs) (h : inkhornlaw0_SamePoses.f k xs xs = some r) :
    Calls Try.prog 12 #[v0, v1] w fun e w' => e = .returned (.bool r) ∧ Drawn0 w w' := by
  obtain ⟨A0, c0, rfl, hc0, hr0⟩ := Kd.R_reads h0
  obtain ⟨A1, c1, rfl, hc1, hr1⟩ := Kd.R_reads h1
  exact inkhornlaw0_SamePoses.calls k A0 c0 xs A1 c1 xs r w hr0 hc0 hr1 hc1 h
theorem lend_at (v : Value) (xs : List S35) (w : World) (b : Nat) (ok : Nat → Prop) (h : Kd.R k35 35 w b ok v xs) (hl : xs.length ≤ 1000) :
    Calls Try.prog 14 #[v] w fun e w' => ∃ g, e = .returned (.slice (some ⟨g, 0, none⟩) xs.length (xs.length + 3)) ∧ w.heap.size ≤ g ∧ Lent w' g xs 3 ∧ Below w.heap.size w w' := by
  obtain ⟨A0, c0, rfl, hc0, hr0⟩ := Kd.R_reads h
  exact inkhornlaw0_LendPoses.calls A0 c0 xs w hr0 hl
theorem kept_at (k g : Nat) (v : Value) (xs : List S35) (w : World) (b : Nat) (ok : Nat → Prop) (hL : Lent w g xs 3) (h1 : Kd.R k35 35 w b ok v xs) (hl : xs.length ≤ 1000) (h : inkhornlaw0_SamePoses.f k xs xs = some true) :
    Calls Try.prog 16 #[.slice (some ⟨g, 0, none⟩) xs.length (xs.length + 3), v] w fun e w' => e = .returned (.bool true) ∧ Drawn0 w w' := by
  obtain ⟨A1, c1, rfl, hc1, hr1⟩ := Kd.R_reads h1
  exact inkhornlaw0_KeptPoses.calls k g xs A1 c1 xs true w hL hl hr1 hc1 h
theorem Lent.drewN {w : World} {g : Nat} {xs : List S35} {m : Nat} (h : Lent w g xs m) (n : Nat) : Lent (w.drewN n) g xs m := h.move rfl
theorem Lent.lt {w : World} {g : Nat} {xs : List S35} {m : Nat} (h : Lent w g xs m) : g < w.heap.size := by
  obtain ⟨cur, hb, _⟩ := h.row
  exact blk_lt hb
theorem drawn_below {B : Nat} {w w1 w2 : World} (h : Below B w w1) (hd : Drawn0 w1 w2) : Below B w w2 := by
  obtain ⟨n, rfl⟩ := hd
  exact pw_below_drewN h n
theorem drawn_R {w1 w2 : World} {b : Nat} {ok : Nat → Prop} {v : Value} {xs : List S35} (h : Kd.R k35 35 w1 b ok v xs) (hd : Drawn0 w1 w2) : Kd.R k35 35 w2 b ok v xs := by
  obtain ⟨n, rfl⟩ := hd
  exact Kd.R_drewN h n
theorem drawn_lent {w1 w2 : World} {g m : Nat} {xs : List S35} (h : Lent w1 g xs m) (hd : Drawn0 w1 w2) : Lent w2 g xs m := by
  obtain ⟨n, rfl⟩ := hd
  exact h.drewN n
/-- A new row lives on where an elder block is written over. -/
theorem R_past {w1 w2 : World} {b g : Nat} {ok : Nat → Prop} {v : Value} {xs : List S35} (h : Kd.R k35 35 w1 b ok v xs) (hg : g < b) (hk : Kept w1 w2 (fun k => k = g)) : Kd.R k35 35 w2 b (fun _ => True) v xs :=
  Kd.R_mono (Kd.R_step (Kd.R_bound h) (fun k ho hlt => hk.2 k hlt (fun e => by have := ho.2.1; omega))) (fun _ _ => trivial)
set_option maxHeartbeats 4000000 in
set_option maxRecDepth 100000 in
theorem inkhornlaw7_AutoStates.calls (K : Nat) (S : Nat → List S35) (A0 : Option Addr) (c0 : Nat) (l0 : List Int) (A1 : Option Addr) (c1 : Nat) (l1 : List Int) (a2 : Int) (w : World) (hr0 : Kd.C (Kd.int .i32) w A0 l0.length l0) (hc0 : l0.length ≤ c0) (hr1 : Kd.C (Kd.int .i32) w A1 l1.length l1) (hc1 : l1.length ≤ c1) (hp : l1.length ≤ 1000)
    (hlg : inkhornlaw7_long.f l0 l1 = some false) (haw : inkhornlaw7_awake.f K = some true) (hok : StatesOk K l0 l1 a2 S) :
    Calls Try.prog 3 #[.slice A0 l0.length c0, .slice A1 l1.length c1, .int .i64 a2] w fun e w' => e = .returned (.bool true) ∧ Below w.heap.size w w' := by
  have HR0 := Aside0.mk hr0
  have HC0 := Aside0.mk hc0
  have HR1 := Aside0.mk hr1
  have HC1 := Aside0.mk hc1
  have HP := Aside0.mk hp
  have HLG := Aside0.mk hlg
  have HAW := Aside0.mk haw
  have HOK := Aside0.mk hok
  clear hr0 hc0 hr1 hc1 hp hlg haw hok
  have HNIL : Aside0 (∀ W : World, Kd.C (Kd.int .i32) W none 0 ([] : List Int)) := ⟨fun W => ⟨rfl, by omega, fun h => absurd h (by omega)⟩⟩
  have HB := Aside0.mk (Below.refl w.heap.size w)
  by_cases ck : 0 ≤ a2 ∧ a2 ≤ 4
  · obtain ⟨ck0, ck1⟩ := ck
    have d0 : decide (0 ≤ a2) = true := decide_eq_true ck0
    have d1 : decide (a2 ≤ 4) = true := decide_eq_true ck1
    have CK0 := Aside0.mk ck0
    have CK1 := Aside0.mk ck1
    clear ck0 ck1
    go_enter Try.func3, Try.ntmps3
    go_wp2_with (first | ((with_reducible refine gate_callee (f := 9) rfl ?_); (try (refine gate_guard (by rfl) ?_; dsimp only)); refine goesL_ (some 13) rfl rfl Try.func9 (by kernel_rfl) rfl #[.slice A0 l0.length c0, .slice A1 l1.length c1] rfl (by (try simp only [List.map_toArray, List.map_cons, List.map_nil]); first | done | rfl) ?_; (with_reducible refine (inkhornlaw7_long.calls _ _ l0 _ _ l1 false _ (Kd.C_below HR0.out HB.out) HC0.out (Kd.C_below HR1.out HB.out) HC1.out HLG.out).mono ?_); rintro e w1 ⟨rfl, hd⟩; refine ⟨_, rfl, ?_⟩; have n0_ := Aside0.mk (drawn_below HB.out hd); clear HB hd; have HB := n0_; clear n0_) | ((with_reducible refine gate_callee (f := 11) rfl ?_); (try (refine gate_guard (by rfl) ?_; dsimp only)); refine goesL_ (some 17) rfl rfl Try.func11 (by kernel_rfl) rfl #[.slice A0 l0.length c0, .int .i64 a2] rfl (by (try simp only [List.map_toArray, List.map_cons, List.map_nil]); first | done | rfl) ?_; (with_reducible refine (auto_Start.calls _ _ l0 a2 (S 0) _ (Kd.C_below HR0.out HB.out) HC0.out HOK.out.start).mono ?_); rintro e w2 ⟨vs0, rfl, ho, hb⟩; refine ⟨_, rfl, ?_⟩; have n0_ := Aside0.mk (Kd.R_lower ho HB.out.size); have n1_ := Aside0.mk (below_step HB.out hb); clear HB hb ho; have HO := n0_; have HB := n1_; clear n0_ n1_) | ((with_reducible refine gate_callee (f := 13) rfl ?_); (try (refine gate_guard (by rfl) ?_; dsimp only)); refine goesL_ (some 21) rfl rfl Try.func13 (by kernel_rfl) rfl #[.slice A0 l0.length c0, .slice none 0 0, .int .i64 a2] rfl (by (try simp only [List.map_toArray, List.map_cons, List.map_nil]); first | done | rfl) ?_; (with_reducible refine (state_at K _ _ l0 none 0 0 [] a2 (S 0) _ rfl (Kd.C_below HR0.out HB.out) HC0.out (HNIL.out _) (Nat.le_refl _) HOK.out.first).mono ?_); rintro e w3 ⟨vr0, rfl, ho, hb⟩; refine ⟨_, rfl, ?_⟩; have n0_ := Aside0.mk (Kd.R_below HO.out hb); have n1_ := Aside0.mk (ho); have n2_ := Aside0.mk (below_step HB.out hb); clear HB hb ho HO; have HO := n0_; have HS := n1_; have HB := n2_; clear n0_ n1_ n2_) | ((with_reducible refine gate_callee (f := 12) rfl ?_); (try (refine gate_guard (by rfl) ?_; dsimp only)); refine goesL_ (some 22) rfl rfl Try.func12 (by kernel_rfl) rfl #[vs0, vr0] rfl (by (try simp only [List.map_toArray, List.map_cons, List.map_nil]); first | done | rfl) ?_; (with_reducible refine (same_at K _ _ (S 0) true _ _ _ _ _ HO.out HS.out (HOK.out.same 0 (Nat.zero_le _))).mono ?_); rintro e w4 ⟨rfl, hd⟩; refine ⟨_, rfl, ?_⟩; have n0_ := Aside0.mk (drawn_R HO.out hd); have n1_ := Aside0.mk (drawn_below HB.out hd); clear HB hd HO HS; have HO := n0_; have HB := n1_; clear n0_ n1_))
    go_loopw [7, 8] (fun v7 v8 wr => ∃ i : Nat, i ≤ l1.length ∧ v8 = .int .i64 i ∧ Aside0 (Kd.R k35 35 wr w.heap.size (fun _ => True) v7 (S i)) ∧ Aside0 (Below w.heap.size w wr)) (fun _ v8 _ => l1.length - (intOf v8).toNat)
    case atStart => exact ⟨0, Nat.zero_le _, rfl, HO, HB⟩
    case round =>
      clear HO HB
      obtain ⟨i, hi, rfl, HO, HB⟩ := hrel
      by_cases hlt : i < l1.length
      · have HLT := Aside0.mk hlt
        have hpl := HP.out
        have hcl := HC1.out
        obtain ⟨ad, rfl, hx⟩ := Kd.at_int HR1.out (i : Int) (by omega) (by omega)
        rw [Int.toNat_natCast] at hx
        have HX := Aside0.mk hx
        clear hx
        go_wp2_with (first | ((with_reducible refine gate_callee (f := 14) rfl ?_); (try (refine gate_guard (by rfl) ?_; dsimp only)); refine goesL_ (some 39) rfl rfl Try.func14 (by kernel_rfl) rfl #[u7] rfl (by (try simp only [List.map_toArray, List.map_cons, List.map_nil]); first | done | rfl) ?_; (with_reducible refine (lend_at _ (S i) _ _ _ HO.out (HOK.out.len i (by have := HLT.out; omega))).mono ?_); rintro e w1 ⟨g, rfl, hg, hL, hb⟩; refine ⟨_, rfl, ?_⟩; have n0_ := Aside0.mk (Kd.R_below HO.out hb); have n1_ := Aside0.mk (below_step HB.out hb); have n2_ := Aside0.mk (hL); have n3_ := Aside0.mk (Nat.le_trans HB.out.size hg); clear HB hb HO hL hg; have HO := n0_; have HB := n1_; have HL := n2_; have HG := n3_; clear n0_ n1_ n2_ n3_; have hx1 := pw_cell_below HB.out HX.out) | ((with_reducible refine gate_callee (f := 15) rfl ?_); (try (refine gate_guard (by rfl) ?_; dsimp only)); refine goesL_ (some 47) rfl rfl Try.func15 (by kernel_rfl) rfl #[.slice A0 l0.length c0, .int .i64 a2, .slice (some ⟨g, 0, none⟩) (S i).length ((S i).length + 3), .int .i32 (rd l1 i)] rfl (by (try simp only [List.map_toArray, List.map_cons, List.map_nil]); first | done | rfl) ?_; (with_reducible refine (auto_Step.calls K _ _ l0 a2 _ _ (S i) (rd l1 (i : Int)) (S (i + 1)) _ (Kd.C_below HR0.out HB.out) HC0.out (HL.out.reads (HOK.out.len i (by have := HLT.out; omega))) (Nat.le_add_right _ _) (HOK.out.step i HLT.out CK0.out CK1.out)).mono ?_); rintro e w2 ⟨vt, rfl, ho, hb⟩; refine ⟨_, rfl, ?_⟩; clear hx1; have n0_ := Aside0.mk (Kd.R_below HO.out hb); have n1_ := Aside0.mk (ho); have n2_ := Aside0.mk (HL.out.lt); have n3_ := Aside0.mk (HB.out.size); have n4_ := Aside0.mk (HL.out.below hb); have n5_ := Aside0.mk (below_step HB.out hb); clear HB hb HO HL ho; have HO := n0_; have HT := n1_; have HGT := n2_; have HW := n3_; have HL := n4_; have HB := n5_; clear n0_ n1_ n2_ n3_ n4_ n5_) | ((with_reducible refine gate_callee (f := 13) rfl ?_); (try (refine gate_guard (by rfl) ?_; dsimp only)); refine goesL_ (some 55) rfl rfl Try.func13 (by kernel_rfl) rfl #[.slice A0 l0.length c0, .slice (some ad) (i + 1) c1, .int .i64 a2] rfl (by (try simp only [List.map_toArray, List.map_cons, List.map_nil]); first | done | rfl) ?_; (with_reducible refine (state_at K _ _ l0 (some ad) c1 (i + 1) (l1.take (i + 1)) a2 (S (i + 1)) _ (by rw [List.length_take]; have := HLT.out; omega) (Kd.C_below HR0.out HB.out) HC0.out (Kd.C_take (Kd.C_below HR1.out HB.out) (by have := HLT.out; omega)) (by have := HLT.out; have := HC1.out; omega) (HOK.out.state (i + 1) (Nat.succ_le_of_lt HLT.out) CK0.out CK1.out)).mono ?_); rintro e w3 ⟨vr, rfl, ho, hb⟩; refine ⟨_, rfl, ?_⟩; have n0_ := Aside0.mk (Kd.R_below HO.out hb); have n1_ := Aside0.mk (Kd.R_below HT.out hb); have n2_ := Aside0.mk (ho); have n3_ := Aside0.mk (HL.out.below hb); have n4_ := Aside0.mk (below_step HB.out hb); clear HB hb HO HL HT ho; have HO := n0_; have HT := n1_; have HS := n2_; have HL := n3_; have HB := n4_; clear n0_ n1_ n2_ n3_ n4_) | ((with_reducible refine gate_callee (f := 12) rfl ?_); (try (refine gate_guard (by rfl) ?_; dsimp only)); refine goesL_ (some 56) rfl rfl Try.func12 (by kernel_rfl) rfl #[vt, vr] rfl (by (try simp only [List.map_toArray, List.map_cons, List.map_nil]); first | done | rfl) ?_; (with_reducible refine (same_at K _ _ (S (i + 1)) true _ _ _ _ _ HT.out HS.out (HOK.out.same (i + 1) (Nat.succ_le_of_lt HLT.out))).mono ?_); rintro e w4 ⟨rfl, hd⟩; refine ⟨_, rfl, ?_⟩; have n0_ := Aside0.mk (drawn_R HO.out hd); have n1_ := Aside0.mk (drawn_R HT.out hd); have n2_ := Aside0.mk (drawn_lent HL.out hd); have n3_ := Aside0.mk (drawn_below HB.out hd); clear HB hd HO HS HT HL; have HO := n0_; have HT := n1_; have HL := n2_; have HB := n3_; clear n0_ n1_ n2_ n3_) | ((with_reducible refine gate_callee (f := 16) rfl ?_); (try (refine gate_guard (by rfl) ?_; dsimp only)); refine goesL_ (some 61) rfl rfl Try.func16 (by kernel_rfl) rfl #[.slice (some ⟨g, 0, none⟩) (S i).length ((S i).length + 3), u7] rfl (by (try simp only [List.map_toArray, List.map_cons, List.map_nil]); first | done | rfl) ?_; (with_reducible refine (kept_at K g _ (S i) _ _ _ HL.out HO.out (HOK.out.len i (by have := HLT.out; omega)) (HOK.out.same i (by have := HLT.out; omega))).mono ?_); rintro e w5 ⟨rfl, hd⟩; refine ⟨_, rfl, ?_⟩; have n0_ := Aside0.mk (drawn_R HT.out hd); have n1_ := Aside0.mk (drawn_lent HL.out hd); have n2_ := Aside0.mk (drawn_below HB.out hd); clear HB hd HO HT HL; have HT := n0_; have HL := n1_; have HB := n2_; clear n0_ n1_ n2_) | ((with_reducible refine gate_callee (f := 17) rfl ?_); (try (refine gate_guard (by rfl) ?_; dsimp only)); refine goesL_ (some 65) rfl rfl Try.func17 (by kernel_rfl) rfl #[.slice (some ⟨g, 0, none⟩) (S i).length ((S i).length + 3)] rfl (by (try simp only [List.map_toArray, List.map_cons, List.map_nil]); first | done | rfl) ?_; (with_reducible refine (inkhornlaw0_OverPoses.calls K (fun k => k = g) _ (S i) w _ HB.out (HL.out.own (HOK.out.len i (by have := HLT.out; omega)) _ HG.out) (HOK.out.over i (by have := HLT.out; omega))).mono ?_); rintro e w6 ⟨rfl, hb, hk⟩; refine ⟨_, rfl, ?_⟩; have n0_ := Aside0.mk (Kd.R_lower (R_past HT.out HGT.out hk) HW.out); have n1_ := Aside0.mk (hb); clear HB hb hk HT HL HG HGT; have HT := n0_; have HB := n1_; clear n0_ n1_))
        go_roundw
        case rel => exact ⟨i + 1, Nat.succ_le_of_lt HLT.out, by go_num, HT, HB⟩
        case measure => simp [intOf]; have := HLT.out; omega
      · have hie : i = l1.length := by omega
        subst hie
        go_wp2_with (first | ((with_reducible refine gate_callee (f := 10) rfl ?_); (try (refine gate_guard (by rfl) ?_; dsimp only)); refine goesL_ (some 67) rfl rfl Try.func10 (by kernel_rfl) rfl #[] rfl (by (try simp only [List.map_toArray, List.map_cons, List.map_nil]); first | done | rfl) ?_; (with_reducible refine (inkhornlaw7_awake.calls K true _ HAW.out).mono ?_); rintro e w9 ⟨rfl, hb⟩; refine ⟨_, rfl, ?_⟩; have n0_ := Aside0.mk (below_step HB.out hb); clear HB hb; have HB := n0_; clear n0_))
        go_ret
        exact ⟨rfl, HB.out⟩
  · have hkk : a2 < 0 ∨ 4 < a2 := by omega
    go_enter Try.func3, Try.ntmps3
    go_wp2_with (first | ((with_reducible refine gate_callee (f := 9) rfl ?_); (try (refine gate_guard (by rfl) ?_; dsimp only)); refine goesL_ (some 13) rfl rfl Try.func9 (by kernel_rfl) rfl #[.slice A0 l0.length c0, .slice A1 l1.length c1] rfl (by (try simp only [List.map_toArray, List.map_cons, List.map_nil]); first | done | rfl) ?_; (with_reducible refine (inkhornlaw7_long.calls _ _ l0 _ _ l1 false _ (Kd.C_below HR0.out HB.out) HC0.out (Kd.C_below HR1.out HB.out) HC1.out HLG.out).mono ?_); rintro e w1 ⟨rfl, hd⟩; refine ⟨_, rfl, ?_⟩; have n0_ := Aside0.mk (drawn_below HB.out hd); clear HB hd; have HB := n0_; clear n0_) | ((with_reducible refine gate_callee (f := 11) rfl ?_); (try (refine gate_guard (by rfl) ?_; dsimp only)); refine goesL_ (some 17) rfl rfl Try.func11 (by kernel_rfl) rfl #[.slice A0 l0.length c0, .int .i64 a2] rfl (by (try simp only [List.map_toArray, List.map_cons, List.map_nil]); first | done | rfl) ?_; (with_reducible refine (auto_Start.calls _ _ l0 a2 (S 0) _ (Kd.C_below HR0.out HB.out) HC0.out HOK.out.start).mono ?_); rintro e w2 ⟨vs0, rfl, ho, hb⟩; refine ⟨_, rfl, ?_⟩; have n0_ := Aside0.mk (Kd.R_lower ho HB.out.size); have n1_ := Aside0.mk (below_step HB.out hb); clear HB hb ho; have HO := n0_; have HB := n1_; clear n0_ n1_) | ((with_reducible refine gate_callee (f := 13) rfl ?_); (try (refine gate_guard (by rfl) ?_; dsimp only)); refine goesL_ (some 21) rfl rfl Try.func13 (by kernel_rfl) rfl #[.slice A0 l0.length c0, .slice none 0 0, .int .i64 a2] rfl (by (try simp only [List.map_toArray, List.map_cons, List.map_nil]); first | done | rfl) ?_; (with_reducible refine (state_at K _ _ l0 none 0 0 [] a2 (S 0) _ rfl (Kd.C_below HR0.out HB.out) HC0.out (HNIL.out _) (Nat.le_refl _) HOK.out.first).mono ?_); rintro e w3 ⟨vr0, rfl, ho, hb⟩; refine ⟨_, rfl, ?_⟩; have n0_ := Aside0.mk (Kd.R_below HO.out hb); have n1_ := Aside0.mk (ho); have n2_ := Aside0.mk (below_step HB.out hb); clear HB hb ho HO; have HO := n0_; have HS := n1_; have HB := n2_; clear n0_ n1_ n2_) | ((with_reducible refine gate_callee (f := 12) rfl ?_); (try (refine gate_guard (by rfl) ?_; dsimp only)); refine goesL_ (some 22) rfl rfl Try.func12 (by kernel_rfl) rfl #[vs0, vr0] rfl (by (try simp only [List.map_toArray, List.map_cons, List.map_nil]); first | done | rfl) ?_; (with_reducible refine (same_at K _ _ (S 0) true _ _ _ _ _ HO.out HS.out (HOK.out.same 0 (Nat.zero_le _))).mono ?_); rintro e w4 ⟨rfl, hd⟩; refine ⟨_, rfl, ?_⟩; have n0_ := Aside0.mk (drawn_R HO.out hd); have n1_ := Aside0.mk (drawn_below HB.out hd); clear HB hd HO HS; have HO := n0_; have HB := n1_; clear n0_ n1_))
    go_loopw [7, 8] (fun v7 v8 wr => v8 = .int .i64 0 ∧ Aside0 (Below w.heap.size w wr)) (fun _ _ _ => 0)
    case atStart => exact ⟨rfl, HB⟩
    case round =>
      clear HO HB
      obtain ⟨rfl, HB⟩ := hrel
      by_cases h0 : 0 < l1.length
      · have e0 : decide (0 < l1.length) = true := decide_eq_true h0
        rcases hkk with hk | hk
        · have d0 : decide (0 ≤ a2) = false := decide_eq_false (by omega)
          go_wp2_with (first | ((with_reducible refine gate_callee (f := 10) rfl ?_); (try (refine gate_guard (by rfl) ?_; dsimp only)); refine goesL_ (some 67) rfl rfl Try.func10 (by kernel_rfl) rfl #[] rfl (by (try simp only [List.map_toArray, List.map_cons, List.map_nil]); first | done | rfl) ?_; (with_reducible refine (inkhornlaw7_awake.calls K true _ HAW.out).mono ?_); rintro e w9 ⟨rfl, hb⟩; refine ⟨_, rfl, ?_⟩; have n0_ := Aside0.mk (below_step HB.out hb); clear HB hb; have HB := n0_; clear n0_))
          go_ret
          exact ⟨rfl, HB.out⟩
        · have d0 : decide (0 ≤ a2) = true := decide_eq_true (by omega)
          have d1 : decide (a2 ≤ 4) = false := decide_eq_false (by omega)
          go_wp2_with (first | ((with_reducible refine gate_callee (f := 10) rfl ?_); (try (refine gate_guard (by rfl) ?_; dsimp only)); refine goesL_ (some 67) rfl rfl Try.func10 (by kernel_rfl) rfl #[] rfl (by (try simp only [List.map_toArray, List.map_cons, List.map_nil]); first | done | rfl) ?_; (with_reducible refine (inkhornlaw7_awake.calls K true _ HAW.out).mono ?_); rintro e w9 ⟨rfl, hb⟩; refine ⟨_, rfl, ?_⟩; have n0_ := Aside0.mk (below_step HB.out hb); clear HB hb; have HB := n0_; clear n0_))
          go_ret
          exact ⟨rfl, HB.out⟩
      · have e0 : l1.length = 0 := by omega
        go_wp2_with (first | ((with_reducible refine gate_callee (f := 10) rfl ?_); (try (refine gate_guard (by rfl) ?_; dsimp only)); refine goesL_ (some 67) rfl rfl Try.func10 (by kernel_rfl) rfl #[] rfl (by (try simp only [List.map_toArray, List.map_cons, List.map_nil]); first | done | rfl) ?_; (with_reducible refine (inkhornlaw7_awake.calls K true _ HAW.out).mono ?_); rintro e w9 ⟨rfl, hb⟩; refine ⟨_, rfl, ?_⟩; have n0_ := Aside0.mk (below_step HB.out hb); clear HB hb; have HB := n0_; clear n0_))
        go_ret
        exact ⟨rfl, HB.out⟩
set_option maxHeartbeats 2000000 in
set_option maxRecDepth 100000 in
theorem inkhornlaw7_AutoStates.calls_long (K : Nat) (A0 : Option Addr) (c0 : Nat) (l0 : List Int) (A1 : Option Addr) (c1 : Nat) (l1 : List Int) (a2 : Int) (w : World) (hr0 : Kd.C (Kd.int .i32) w A0 l0.length l0) (hc0 : l0.length ≤ c0) (hr1 : Kd.C (Kd.int .i32) w A1 l1.length l1) (hc1 : l1.length ≤ c1)
    (hlg : inkhornlaw7_long.f l0 l1 = some true) (haw : inkhornlaw7_awake.f K = some true) :
    Calls Try.prog 3 #[.slice A0 l0.length c0, .slice A1 l1.length c1, .int .i64 a2] w fun e w' => e = .returned (.bool true) ∧ Below w.heap.size w w' := by
  have HR0 := Aside0.mk hr0
  have HC0 := Aside0.mk hc0
  have HR1 := Aside0.mk hr1
  have HC1 := Aside0.mk hc1
  have HLG := Aside0.mk hlg
  have HAW := Aside0.mk haw
  clear hr0 hc0 hr1 hc1 hlg haw
  have HB := Aside0.mk (Below.refl w.heap.size w)
  go_enter Try.func3, Try.ntmps3
  go_wp2_with (first | ((with_reducible refine gate_callee (f := 9) rfl ?_); (try (refine gate_guard (by rfl) ?_; dsimp only)); refine goesL_ (some 13) rfl rfl Try.func9 (by kernel_rfl) rfl #[.slice A0 l0.length c0, .slice A1 l1.length c1] rfl (by (try simp only [List.map_toArray, List.map_cons, List.map_nil]); first | done | rfl) ?_; (with_reducible refine (inkhornlaw7_long.calls _ _ l0 _ _ l1 true _ (Kd.C_below HR0.out HB.out) HC0.out (Kd.C_below HR1.out HB.out) HC1.out HLG.out).mono ?_); rintro e w1 ⟨rfl, hd⟩; refine ⟨_, rfl, ?_⟩; have n0_ := Aside0.mk (drawn_below HB.out hd); clear HB hd; have HB := n0_; clear n0_) | ((with_reducible refine gate_callee (f := 10) rfl ?_); (try (refine gate_guard (by rfl) ?_; dsimp only)); refine goesL_ (some 14) rfl rfl Try.func10 (by kernel_rfl) rfl #[] rfl (by (try simp only [List.map_toArray, List.map_cons, List.map_nil]); first | done | rfl) ?_; (with_reducible refine (inkhornlaw7_awake.calls K true _ HAW.out).mono ?_); rintro e w9 ⟨rfl, hb⟩; refine ⟨_, rfl, ?_⟩; have n0_ := Aside0.mk (below_step HB.out hb); clear HB hb; have HB := n0_; clear n0_))
  go_ret
  exact ⟨rfl, HB.out⟩
def inkhornlaw7_AutoStates.Pure : Prop := ∀ (l0 : List Int) (l1 : List Int) (a2 : Int), ∃ K, inkhornlaw7_awake.f K = some true ∧ (inkhornlaw7_long.f l0 l1 = some true ∨ inkhornlaw7_long.f l0 l1 = some false ∧ l1.length ≤ 1000 ∧ ∃ S, StatesOk K l0 l1 a2 S)
theorem inkhornlaw7_AutoStates.walk (P : inkhornlaw7_AutoStates.Pure) (a0 : Option Addr) (len0 cap0 : Nat) (z0 : List Int) (a1 : Option Addr) (len1 cap1 : Nat) (z1 : List Int) (a2 : Int) (w : World) (w0 : (a0 = none ∧ len0 = 0 ∧ cap0 = 0 ∧ z0 = []) ∨ ∃ x, a0 = some x ∧ len0 ≤ cap0 ∧ cap0 ≤ maxLen ∧ z0.length = cap0 ∧ (∀ i, i < z0.length → w.cell? (x.add i) = some (.int .i32 (z0.getD i 0))) ∧ ∀ n ∈ z0, (Lit.int .i32 n).wf = true) (y0 : len0 * 4 ≤ 140737488351232) (w1 : (a1 = none ∧ len1 = 0 ∧ cap1 = 0 ∧ z1 = []) ∨ ∃ x, a1 = some x ∧ len1 ≤ cap1 ∧ cap1 ≤ maxLen ∧ z1.length = cap1 ∧ (∀ i, i < z1.length → w.cell? (x.add i) = some (.int .i32 (z1.getD i 0))) ∧ ∀ n ∈ z1, (Lit.int .i32 n).wf = true) (y1 : len1 * 4 ≤ 140737488351232) (w2 : (Lit.int .i64 a2).wf = true) :
    Calls Try.prog 3 #[.slice a0 len0 cap0, .slice a1 len1 cap1, .int .i64 a2] w fun e w' => e = .returned (.bool true) ∧ Below w.heap.size w w' := by
  obtain ⟨l0, rfl, hr0, hm0, hw0, hc0⟩ := ReadsInt.ofRowC w0
  obtain ⟨l1, rfl, hr1, hm1, hw1, hc1⟩ := ReadsInt.ofRowC w1
  have h0 := Kd.C_of_reads (d := (0 : Int)) (h1 := fun _ => rfl) hr0
  have h1 := Kd.C_of_reads (d := (0 : Int)) (h1 := fun _ => rfl) hr1
  obtain ⟨K, ha, h | ⟨h, hp, S, hS⟩⟩ := P l0 l1 a2
  · refine (inkhornlaw7_AutoStates.calls_long K _ _ l0 _ _ l1 a2 w h0 hc0 h1 hc1 h ha).mono ?_
    rintro e w' ⟨rfl, hd⟩
    exact ⟨rfl, hd⟩
  · refine (inkhornlaw7_AutoStates.calls K S _ _ l0 _ _ l1 a2 w h0 hc0 h1 hc1 hp h ha hS).mono ?_
    rintro e w' ⟨rfl, hd⟩
    exact ⟨rfl, hd⟩
end Go.Proofs.Ytlbblankafjedaa.OAuto
