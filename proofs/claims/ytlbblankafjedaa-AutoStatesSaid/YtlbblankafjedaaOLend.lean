/- LendPoses and KeptPoses: a copy with three marked places of spare room, and whether all is as it was lent. -/
import Derived.Test.YtlbblankafjedaaOAutox0
import Derived.Test.YtlbblankafjedaaOAutox1
import Derived.Test.YtlbblankafjedaaOAutox2
import Derived.Deep.DeepAppendRoom
namespace Go.Proofs.Ytlbblankafjedaa.OAuto
open Go.RowKit Go.Proofs.YtlbblankafjedaaW.PrintWords Go.Proofs.YtlbblankafjedaaW.PrintLast Go.Proofs.YtlbblankafjedaaW.PrintMore

/-- What three marked places behind n elements hold; m of them are marked. -/
structure Room (w : World) (g n m : Nat) : Prop where
  at_ : ∀ j, j < m → w.cell? ⟨g, 2 * (n + j), none⟩ = some (.int .i64 (-7)) ∧ w.cell? ⟨g, 2 * (n + j) + 1, none⟩ = some (.int .i64 0)
structure Lent (w : World) (g : Nat) (xs : List S35) (m : Nat) : Prop where
  row : ∃ cur, w.heap[g]? = some (.cells cur 35 (0, 0)) ∧ cur.size = (xs.length + 3) * 2 ∧
    (∀ j p, xs[j]? = some p → cur[j * 2]? = some (.int .i64 p.f0) ∧ cur[j * 2 + 1]? = some (.int .i64 p.f1)) ∧
    (∀ j, j < m → cur[(xs.length + j) * 2]? = some (.int .i64 (-7)) ∧ cur[(xs.length + j) * 2 + 1]? = some (.int .i64 0))
theorem Lent.cell {w : World} {g : Nat} {xs : List S35} {m : Nat} (h : Lent w g xs m) (i : Nat) (hi : i < (xs.length + 3) * 2) : (∃ u, w.cell? ⟨g, i, none⟩ = some u) ∧ w.frozen? ⟨g, i, none⟩ = false := by
  obtain ⟨cur, hb, hs, _⟩ := h.row
  refine ⟨⟨cur[i]'(by omega), ?_⟩, blk_frozen hb i⟩
  rw [blk_cell hb]
  exact Array.getElem?_eq_getElem (by omega)
theorem Lent.room {w : World} {g : Nat} {xs : List S35} {m : Nat} (h : Lent w g xs m) (j : Nat) (hj : j < m) : w.cell? ⟨g, (xs.length + j) * 2, none⟩ = some (.int .i64 (-7)) ∧ w.cell? ⟨g, (xs.length + j) * 2 + 1, none⟩ = some (.int .i64 0) := by
  obtain ⟨cur, hb, _, _, hr⟩ := h.row
  rw [blk_cell hb, blk_cell hb]
  exact hr j hj
theorem Lent.mark {w : World} {g : Nat} {xs : List S35} {m : Nat} (h : Lent w g xs m) (hm : m < 3) :
    Lent ((w.setCell ⟨g, (xs.length + m) * 2, none⟩ (.int .i64 (-7))).setCell ⟨g, (xs.length + m) * 2 + 1, none⟩ (.int .i64 0)) g xs (m + 1) := by
  obtain ⟨cur, hb, hs, hx, hr⟩ := h.row
  refine ⟨_, blk_set (blk_set hb _ _) _ _, by simp [hs], fun j p hj => ?_, fun j hj => ?_⟩
  · have hl := (List.getElem?_eq_some_iff.1 hj).1
    have := hx j p hj
    rw [Array.getElem?_setIfInBounds, Array.getElem?_setIfInBounds, Array.getElem?_setIfInBounds, Array.getElem?_setIfInBounds, if_neg (by omega), if_neg (by omega), if_neg (by omega), if_neg (by omega)]
    exact this
  · by_cases e : j = m
    · subst e
      rw [Array.getElem?_setIfInBounds, Array.getElem?_setIfInBounds, Array.getElem?_setIfInBounds, Array.size_setIfInBounds]
      rw [if_neg (by omega), if_pos rfl, if_pos (by omega), if_pos rfl, if_pos (by omega)]
      exact ⟨rfl, rfl⟩
    · have := hr j (by omega)
      rw [Array.getElem?_setIfInBounds, Array.getElem?_setIfInBounds, Array.getElem?_setIfInBounds, Array.getElem?_setIfInBounds, if_neg (by omega), if_neg (by omega), if_neg (by omega), if_neg (by omega)]
      exact this
theorem Lent.move {w w1 : World} {g : Nat} {xs : List S35} {m : Nat} (h : Lent w g xs m) (hb : w1.heap[g]? = w.heap[g]?) : Lent w1 g xs m := by
  obtain ⟨cur, h1, h2⟩ := h.row
  exact ⟨cur, hb.trans h1, h2⟩
theorem Lent.below {w w1 : World} {g : Nat} {xs : List S35} {m : Nat} (h : Lent w g xs m) (hb : Below w.heap.size w w1) : Lent w1 g xs m := by
  obtain ⟨cur, h1, h2⟩ := h.row
  exact ⟨cur, (hb.block g (blk_lt h1)).trans h1, h2⟩
theorem Lent.own {w : World} {g : Nat} {xs : List S35} {m : Nat} (h : Lent w g xs m) (hl : xs.length ≤ 1000) (base : Nat) (hg : base ≤ g) : Kd.R k35 35 w base (fun k => k = g) (.slice (some ⟨g, 0, none⟩) xs.length (xs.length + 3)) xs := by
  obtain ⟨cur, hb, hs, hx, _⟩ := h.row
  have hlen : (cur.toList.take (xs.length * 2)).length = xs.length * 2 := by have hz : cur.toList.length = cur.size := Array.length_toList; rw [List.length_take]; omega
  refine ⟨fun k hk => ?_, cur.toList.take (xs.length * 2), ⟨hlen, .inr ⟨g, xs.length + 3, cur, rfl, hg, hb, by omega, by unfold maxLen; omega, hs, rfl⟩⟩, hlen, fun j p hj => ?_⟩
  · have : g = k := by simpa [Value.ownBlock] using hk
    exact this.symm
  · have hl := (List.getElem?_eq_some_iff.1 hj).1
    have h2 := hx j p hj
    have e : ((cur.toList.take (xs.length * 2)).drop (j * 2)).take 2 = [.int .i64 p.f0, .int .i64 p.f1] := by
      apply List.ext_getElem?
      intro i
      rw [List.getElem?_take]
      match i with
      | 0 => rw [if_pos (by omega), List.getElem?_drop, List.getElem?_take, if_pos (by omega), Array.getElem?_toList]; exact h2.1
      | 1 => rw [if_pos (by omega), List.getElem?_drop, List.getElem?_take, if_pos (by omega), Array.getElem?_toList]; exact h2.2
      | i + 2 => rw [if_neg (by omega)]; rfl
    show k35.M _ _ _ p (((cur.toList.take (xs.length * 2)).drop (j * 2)).take 2)
    rw [e]
    exact k35_mkM _ _ _ p
theorem Lent.reads {w : World} {g : Nat} {xs : List S35} {m : Nat} (h : Lent w g xs m) (hl : xs.length ≤ 1000) : Kd.C k35 w (some ⟨g, 0, none⟩) xs.length xs := (Kd.R_reads' (h.own hl 0 (Nat.zero_le _))).2.2
/-- A row that is the call's own, with room for three more: lent, nothing marked yet. -/
theorem Lent.of_own {w : World} {base g : Nat} {xs : List S35} {inner : List Value} (ho : w.ownsRow base 35 2 (.slice (some ⟨g, 0, none⟩) xs.length (xs.length + 3)) xs.length inner)
    (hr : ∀ j p, xs[j]? = some p → inner[j * 2]? = some (.int .i64 p.f0) ∧ inner[j * 2 + 1]? = some (.int .i64 p.f1)) : Lent w g xs 0 := by
  rcases ho.2 with ⟨h0, _⟩ | ⟨g', cap', cur, hv, hbg, hb, hnc, hcm, hcs, htake⟩
  · cases h0
  · injection hv with hv1 hv2 hv3
    injection hv1 with hv1
    injection hv1 with hv1
    subst hv1
    subst hv3
    refine ⟨cur, hb, hcs, fun j p hj => ?_, fun j hj => by omega⟩
    have hl := (List.getElem?_eq_some_iff.1 hj).1
    have := hr j p hj
    rw [← htake, List.getElem?_take, List.getElem?_take, if_pos (by omega), if_pos (by omega), Array.getElem?_toList, Array.getElem?_toList] at this
    exact this

section
variable {P : Program} {ops : Array Oper} {rest : List Oper} {o : Oper} {a : Act} {Q : Exit → Act → World → Prop}
/-- An append whose run is known. -/
theorem arm_append {W W' : World} (hgd : o.guard = none) (s x : Operand) (t : TypeId) (ho : o.op = .call { callee := .builtin .append, args := #[s, x], argTypes := #[t, t] })
    (v v2 r : Value) (hs : a.eval s = v) (hx : a.eval x = v2) (hr : (Builtin.append_ #[t, t] o.type #[v, v2]).run P W = .ok r W') (h : wpList P ops Q rest (a.put o.dst r) W') : wpList P ops Q (o :: rest) a W := by
  refine wpList_plain hgd fun K hK => ?_
  unfold Oper.wp execOp
  simp only [ho, resolve, invoke, builtin, Sem.run_bind, Sem.run_pure, Result.andThen_ok, List.map_toArray, List.map_cons, List.map_nil, hs, hx, hr]
  exact hK _ _ h
end
/-- The cells of a row of positions. -/
def flatP (xs : List S35) : List Value := xs.flatMap fun p => [.int .i64 p.f0, .int .i64 p.f1]
theorem flatP_len (xs : List S35) : (flatP xs).length = xs.length * 2 := by
  induction xs with
  | nil => rfl
  | cons x xs ih => simp only [flatP, List.flatMap_cons, List.length_append, List.length_cons, List.length_nil] at ih ⊢; omega
theorem flatP_at (xs : List S35) : ∀ j p, xs[j]? = some p → (flatP xs)[j * 2]? = some (.int .i64 p.f0) ∧ (flatP xs)[j * 2 + 1]? = some (.int .i64 p.f1) := by
  induction xs with
  | nil => intro j p h; simp at h
  | cons x xs ih =>
    intro j p h
    cases j with
    | zero =>
      obtain rfl : x = p := by simpa using h
      exact ⟨rfl, rfl⟩
    | succ j =>
      have := ih j p (by simpa using h)
      have e1 : (j + 1) * 2 = j * 2 + 1 + 1 := by omega
      have e2 : (j + 1) * 2 + 1 = j * 2 + 1 + 1 + 1 := by omega
      rw [e1, ← e1, e1]
      exact this
theorem append_lent {W : World} {base g : Nat} {A0 : Option Addr} {c0 : Nat} {xs : List S35} (hl : xs.length ≤ 1000) (ho : W.ownsRow base 35 2 (.slice (some ⟨g, 0, none⟩) 0 (xs.length + 3)) 0 []) (hC : Kd.C k35 W A0 xs.length xs) :
    ∃ W', (Builtin.append_ #[25, 25] 25 #[.slice (some ⟨g, 0, none⟩) 0 (xs.length + 3), .slice A0 xs.length c0]).run Try.prog W = .ok (.slice (some ⟨g, 0, none⟩) xs.length (xs.length + 3)) W' ∧ Lent W' g xs 0 ∧ W.grownBy W' (some g) := by
  obtain ⟨i0, hi, hzz⟩ := Option.map_eq_some_iff.1 info35
  simp only [Prod.mk.injEq] at hzz
  obtain ⟨hz0, hz1, hz2⟩ := hzz
  cases A0 with
  | none =>
    obtain rfl : xs = [] := by
      cases xs with
      | nil => rfl
      | cons x xs => obtain ⟨ad, e, _⟩ := hC.2.2 (by simp); cases e
    refine ⟨W, ?_, Lent.of_own (inner := []) ho (fun j p h => by simp at h), World.grownBy.refl W _⟩
    simp [Builtin.append_, run_underlying Try.underlying25, sizeOf, typeInfo, hi, Builtin.lenOf, Builtin.firstCells, storeCells]
  | some ad =>
    have hnews : ∀ j u, (flatP xs)[j]? = some u → W.cell? (ad.add j) = some u := by
      intro j u hu
      have hj : j < xs.length * 2 := by rw [← flatP_len]; exact (List.getElem?_eq_some_iff.1 hu).1
      obtain ⟨ad', e, hc⟩ := hC.2.2 (by omega)
      injection e with e
      subst e
      have hjx : j / 2 < xs.length := by omega
      obtain ⟨c, hcl, hM, hcell⟩ := hc (j / 2) _ (List.getElem?_eq_getElem hjx)
      obtain rfl := k35_open hM
      have hf := flatP_at xs (j / 2) _ (List.getElem?_eq_getElem hjx)
      rcases Nat.mod_two_eq_zero_or_one j with h0 | h0
      · have ej : j / 2 * 2 = j := by omega
        rw [ej] at hf
        rw [hf.1] at hu
        have := hcell 0 u (by rw [← hu]; rfl)
        rwa [show j / 2 * k35.sz + 0 = j from ej] at this
      · have ej : j / 2 * 2 + 1 = j := by omega
        rw [ej] at hf
        rw [hf.2] at hu
        have := hcell 1 u (by rw [← hu]; rfl)
        rwa [show j / 2 * k35.sz + 1 = j from ej] at this
    have h1 : ∀ u ∈ flatP xs, u.oneCell' = true := by
      intro u hu
      simp only [flatP, List.mem_flatMap] at hu
      obtain ⟨p, _, hp⟩ := hu
      simp only [List.mem_cons, List.not_mem_nil, or_false] at hp
      rcases hp with rfl | rfl <;> rfl
    obtain ⟨W', hr, ho', hg⟩ := run_append_own_spare (P := Try.prog) W base 25 25 35 i0 2 Try.underlying25 hi hz1 g 0 (xs.length + 3) [] ho ad xs.length c0 (flatP xs) (flatP_len xs) hnews h1 (by omega)
    rw [Nat.zero_add] at hr ho'
    exact ⟨W', hr, Lent.of_own (inner := flatP xs) ho' (flatP_at xs), hg⟩

set_option maxHeartbeats 2000000 in
set_option maxRecDepth 100000 in
theorem inkhornlaw0_LendPoses.calls (A0 : Option Addr) (c0 : Nat) (xs : List S35) (w : World) (hr0 : Kd.C k35 w A0 xs.length xs) (hl : xs.length ≤ 1000) :
    Calls Try.prog 14 #[.slice A0 xs.length c0] w fun e w' => ∃ g, e = .returned (.slice (some ⟨g, 0, none⟩) xs.length (xs.length + 3)) ∧ w.heap.size ≤ g ∧ Lent w' g xs 3 ∧ Below w.heap.size w w' := by
  have HR := Aside0.mk hr0
  have HL := Aside0.mk hl
  clear hr0
  obtain ⟨i0, hi, hzz⟩ := Option.map_eq_some_iff.1 info35
  simp only [Prod.mk.injEq] at hzz
  obtain ⟨hz0, hz1, hz2⟩ := hzz
  have hmk : ∀ W : World, ∃ w', (Instr.makeSlice 25 (.int .i64 0) (.int .i64 ((xs.length : Int) + 3))).run Try.prog W = .ok (.slice (some ⟨W.heap.size, 0, none⟩) 0 (xs.length + 3)) w' ∧
      w'.ownsRow W.heap.size 35 2 (.slice (some ⟨W.heap.size, 0, none⟩) 0 (xs.length + 3)) 0 [] ∧ W.grownBy w' none := by
    intro W
    have := run_make_own (P := Try.prog) W W.heap.size 25 35 i0 _ 2 Try.underlying25 hi hz0 hz1 .i64 .i64 (xs.length + 3) (by rw [hz2]; omega) (by unfold maxLen; omega) (Nat.le_refl _)
    rw [Int.natCast_add] at this
    exact this
  obtain ⟨w1, hr1, ho1, hg1⟩ := hmk w
  have hb1 : Below w.heap.size w w1 := (Below.refl _ _).grown hg1 (Nat.le_refl _) (by simp)
  obtain ⟨w2, hr2, hL0, hg2⟩ := append_lent (c0 := c0) hl ho1 (Kd.C_below HR.out hb1)
  have hb2 : Below w.heap.size w w2 := hb1.grown hg2 hb1.size (fun k hk => by simp at hk; omega)
  have HL0 := Aside0.mk hL0
  have HB2 := Aside0.mk hb2
  have HR2 := Aside0.mk hr2
  clear hmk ho1 hg1 hb1 hr2 hL0 hg2 hb2 hz0 hz1 hz2 hi
  have hge : w.heap.size ≤ w.heap.size := Nat.le_refl _
  obtain ⟨g, hg⟩ : ∃ g, g = w.heap.size := ⟨_, rfl⟩
  have GE := Aside0.mk (Nat.le_of_eq hg.symm)
  rw [← hg] at hr1 HL0 HR2
  clear hge hg
  have e3 : xs.length + 3 - xs.length = 3 := by omega
  go_enter Try.func14, Try.ntmps14
  go_wp2_with (at_builtin; refine arm_append rfl (.tmp 10) (.tmp 11) 25 rfl _ _ _ rfl rfl HR2.out ?_)
  go_loopw [5] (fun v5 wr => ∃ m : Nat, m ≤ 3 ∧ v5 = .int .i64 m ∧ Aside0 (Lent wr g xs m) ∧ Aside0 (Below w.heap.size w wr)) (fun v5 _ => 3 - (intOf v5).toNat)
  case atStart => exact ⟨0, by omega, rfl, HL0, HB2⟩
  case round =>
    obtain ⟨m, hm, rfl, HM, HBW⟩ := hrel
    by_cases hlt : m < 3
    · have hc0 := HM.out.cell ((xs.length + m) * 2) (by omega)
      have hc1 := HM.out.cell ((xs.length + m) * 2 + 1) (by omega)
      obtain ⟨⟨u0, hu0⟩, hf0⟩ := hc0
      obtain ⟨⟨u1, hu1⟩, hf1⟩ := hc1
      have hn := HM.out.mark hlt
      rw [Nat.add_mul] at hu0 hf0 hu1 hf1 hn
      have HN := Aside0.mk hn
      clear hn
      go_wp2
      go_roundw
      case rel => exact ⟨m + 1, by omega, by go_num, HN, ⟨below_set (below_set HBW.out GE.out) GE.out⟩⟩
      case measure => simp [intOf]; omega
    · obtain rfl : m = 3 := by omega
      go_wp2
      go_ret
      exact ⟨g, rfl, GE.out, HM.out, HBW.out⟩

attribute [local go_sem high] eqA35
set_option maxHeartbeats 2000000 in
set_option maxRecDepth 100000 in
theorem inkhornlaw0_KeptPoses.calls (k : Nat) (g : Nat) (xs : List S35) (A1 : Option Addr) (c1 : Nat) (ys : List S35) (r : Bool) (w : World) (hL : Lent w g xs 3) (hl : xs.length ≤ 1000) (hr1 : Kd.C k35 w A1 ys.length ys) (hc1 : ys.length ≤ c1)
    (h : inkhornlaw0_SamePoses.f k xs ys = some r) :
    Calls Try.prog 16 #[.slice (some ⟨g, 0, none⟩) xs.length (xs.length + 3), .slice A1 ys.length c1] w fun e w' => e = .returned (.bool r) ∧ Drawn0 w w' := by
  have HL := Aside0.mk hL
  have HR1 := Aside0.mk hr1
  have HC1 := Aside0.mk hc1
  have HS := Aside0.mk h
  have HR0 := Aside0.mk (hL.reads hl)
  clear hL hr1 hc1 h
  have e3 : xs.length + 3 - xs.length = 3 := by omega
  go_enter Try.func16, Try.ntmps16
  go_wp2
  go_loopw [6] (fun v6 wr => ∃ m : Nat, m ≤ 3 ∧ v6 = .int .i64 m ∧ wr = w) (fun v6 _ => 3 - (intOf v6).toNat)
  case atStart => exact ⟨0, by omega, rfl, rfl⟩
  case round =>
    obtain ⟨m, hm, rfl, rfl⟩ := hrel
    by_cases hlt : m < 3
    · obtain ⟨hu0, hu1⟩ := HL.out.room m hlt
      rw [Nat.add_mul] at hu0 hu1
      go_wp2
      go_roundw
      case rel => exact ⟨m + 1, by omega, by go_num, trivial⟩
      case measure => simp [intOf]; omega
    · obtain rfl : m = 3 := by omega
      go_wp2_with ((with_reducible refine gate_callee (f := 12) rfl ?_); refine goesL_ (some 26) rfl rfl Try.func12 (by kernel_rfl) rfl #[.slice (some ⟨g, 0, none⟩) xs.length (xs.length + 3), .slice A1 ys.length c1] rfl (by first | done | rfl | (simp only [List.map_toArray, List.map_cons, List.map_nil]; rfl)) ?_; (with_reducible refine (inkhornlaw0_SamePoses.calls k _ _ xs _ _ ys r _ HR0.out (Nat.le_add_right _ _) HR1.out HC1.out HS.out).mono ?_); rintro e w' ⟨rfl, ⟨nd, rfl⟩⟩; refine ⟨_, rfl, ?_⟩)
      go_ret
      exact ⟨rfl, by repeat (first | exact Drawn0.refl _ | apply Drawn0.step)⟩
end Go.Proofs.Ytlbblankafjedaa.OAuto
