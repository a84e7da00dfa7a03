/- The law AutoOther as a statement over lists alone: all runes that a text does not have step alike. -/
import Derived.Test.YtlbblankafjedaaAmC
import Derived.Test.YtlbblankafjedaaOAutox9
namespace Go.Proofs.Ytlbblankafjedaa.Pure
open Go.RowKit Go.Proofs.Ytlbblankafjedaa.OAuto Go.Proofs.YtlbblankafjedaaW.PrintWords Go.Proofs.YtlbblankafjedaaW.PrintLast Go.Proofs.Ytlbblankafjedaa.Am

theorem stepRow_other (q : List Int) (a b : Int) (f : Nat → Nat) (n : Nat) (hn : n ≤ q.length) (ha : ∀ i, i < q.length → q.getD i 0 ≠ a) (hb : ∀ i, i < q.length → q.getD i 0 ≠ b) : ∀ i, i ≤ n → stepRow q a f i = stepRow q b f i := by
  intro i
  induction i with
  | zero => intro _; rfl
  | succ i ih =>
    intro hi
    simp only [stepRow]
    rw [ih (by omega), if_neg (ha i (by omega)), if_neg (hb i (by omega))]
theorem St_congr (k n : Nat) (f g : Nat → Nat) (h : ∀ i, i ≤ n → f i = g i) : St k n f = St k n g := by
  unfold St
  have hk : ∀ j ∈ List.range (n + 1), keep k n f j = keep k n g j := by
    intro j hj
    have hj' : j ≤ n := by have := List.mem_range.1 hj; omega
    rw [Bool.eq_iff_iff, keep_iff, keep_iff, h j hj']
    constructor
    · rintro ⟨h1, h2⟩
      exact ⟨h1, fun i hi => by rw [← h i hi]; exact h2 i hi⟩
    · rintro ⟨h1, h2⟩
      exact ⟨h1, fun i hi => by rw [h i hi]; exact h2 i hi⟩
  rw [List.filter_congr hk]
  apply List.map_congr_left
  intro j hj
  have hj' : j ≤ n := by have := List.mem_range.1 (List.mem_filter.1 hj).1; omega
  rw [h j hj']

theorem other_l0 (l0 l1 : List Int) (a2 a3 a4 : Int) (h0 : l0.length ≤ 16) (h1 : l1.length ≤ 16) :
    ∀ (d i : Nat), i + d = l0.length → (∀ j, j < i → l0.getD j 0 ≠ a3 ∧ l0.getD j 0 ≠ a4) →
      Ev (fun K => inkhornlaw7_AutoOther.l0 K l0 l1 a2 a3 a4 (i : Int)) true := by
  intro d
  induction d with
  | zero =>
    intro i hi hne
    obtain ⟨k, hk, hlow⟩ := Low_any a2 5 (.inr rfl)
    have hlow' : inkhornlaw0_Low.f a2 5 = some (k : Int) := hlow
    have e : St k l0.length (stepRow l0 a3 (dp l0 l1)) = St k l0.length (stepRow l0 a4 (dp l0 l1)) :=
      St_congr _ _ _ _ (fun j hj => stepRow_other l0 a3 a4 _ l0.length (Nat.le_refl _) (fun j hj => (hne j (by omega)).1) (fun j hj => (hne j (by omega)).2) j hj)
    have s1 := Step_St l0 a3 k (by omega) h0 (dp l0 l1) (lip_dp _ _)
    have s2 := Step_St l0 a4 k (by omega) h0 (dp l0 l1) (lip_dp _ _)
    rw [← e] at s2
    have hl := St_len k l0.length (stepRow l0 a3 (dp l0 l1))
    refine Ev.step (f := fun K => (inkhornlaw7_behind.f K l0 k l1).bind fun t256 => ((auto_Step.f K l0 k t256 a3).bind fun t259 => ((auto_Step.f K l0 k t256 a4).bind fun t262 => ((inkhornlaw0_SamePoses.f K t259 t262).bind fun t265 => (if t265 = true then ((inkhornlaw7_awake.f K).bind fun t266 => (some t266)) else (some false)))))) (fun K => ?_) ?_
    · simp only [inkhornlaw7_AutoOther.l0]
      rw [if_neg (by omega), hlow', Option.bind_some]
    · refine Ev.bind (f := fun K t256 => ((auto_Step.f K l0 k t256 a3).bind fun t259 => ((auto_Step.f K l0 k t256 a4).bind fun t262 => ((inkhornlaw0_SamePoses.f K t259 t262).bind fun t265 => (if t265 = true then ((inkhornlaw7_awake.f K).bind fun t266 => (some t266)) else (some false)))))) (behind_dp l0 l1 k (by omega) h0 h1) ?_
      refine Ev.bind (f := fun K t259 => ((auto_Step.f K l0 k (St k l0.length (dp l0 l1)) a4).bind fun t262 => ((inkhornlaw0_SamePoses.f K t259 t262).bind fun t265 => (if t265 = true then ((inkhornlaw7_awake.f K).bind fun t266 => (some t266)) else (some false))))) s1 ?_
      refine Ev.bind (f := fun K t262 => ((inkhornlaw0_SamePoses.f K (St k l0.length (stepRow l0 a3 (dp l0 l1))) t262).bind fun t265 => (if t265 = true then ((inkhornlaw7_awake.f K).bind fun t266 => (some t266)) else (some false)))) s2 ?_
      refine Ev.bind (f := fun K t265 => (if t265 = true then ((inkhornlaw7_awake.f K).bind fun t266 => (some t266)) else (some false))) (same_ev _ (by omega)) ?_
      simp only [if_true]
      exact awake_bind
  | succ d ih =>
    intro i hi hne
    by_cases e3 : l0.getD i 0 = a3
    · refine Ev.step (fun K => ?_) awake_bind
      simp only [inkhornlaw7_AutoOther.l0]
      rw [if_pos (by omega), if_pos (by omega), rd_nat, if_pos e3]
    · by_cases e4 : l0.getD i 0 = a4
      · refine Ev.step (fun K => ?_) awake_bind
        simp only [inkhornlaw7_AutoOther.l0]
        rw [if_pos (by omega), if_pos (by omega), rd_nat, if_neg e3, if_pos e4]
      · refine Ev.step (fun K => ?_) (ih (i + 1) (by omega) (fun j hj => ?_))
        · simp only [inkhornlaw7_AutoOther.l0]
          rw [if_pos (by omega), if_pos (by omega), rd_nat, if_neg e3, if_neg e4, wr _ (by omega) (by omega)]
          rfl
        · by_cases e : j = i
          · subst e; exact ⟨e3, e4⟩
          · exact hne j (by omega)
theorem AutoOther : inkhornlaw7_AutoOther.Pure := by
  intro l0 l1 a2 a3 a4 _ _ _ _ _ _ _ _ _
  apply Ev.rounds
  by_cases h : l0.length > 16
  · refine Ev.congr (f := fun K => inkhornlaw7_AutoOther.j0 K l0 l1 a2 a3 a4 true) (fun K => ?_) (Ev.step (fun K => ?_) awake_bind)
    · unfold inkhornlaw7_AutoOther.f; rw [if_pos (by omega)]
    · simp only [inkhornlaw7_AutoOther.j0, if_true]
  · by_cases h1 : l1.length > 16
    · refine Ev.congr (f := fun K => inkhornlaw7_AutoOther.j0 K l0 l1 a2 a3 a4 true) (fun K => ?_) (Ev.step (fun K => ?_) awake_bind)
      · unfold inkhornlaw7_AutoOther.f
        rw [if_neg (by omega), show decide ((l1.length : Int) > 16) = true by simp; omega]
      · simp only [inkhornlaw7_AutoOther.j0, if_true]
    · refine Ev.congr (f := fun K => inkhornlaw7_AutoOther.j0 K l0 l1 a2 a3 a4 false) (fun K => ?_) (Ev.step (fun K => ?_) (other_l0 l0 l1 a2 a3 a4 (by omega) (by omega) l0.length 0 (by omega) (fun j hj => by omega)))
      · unfold inkhornlaw7_AutoOther.f
        rw [if_neg (by omega), show decide ((l1.length : Int) > 16) = false by simp; omega]
      · simp only [inkhornlaw7_AutoOther.j0, Bool.false_eq_true, if_false]
        rfl
end Go.Proofs.Ytlbblankafjedaa.Pure
