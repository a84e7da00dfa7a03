/- States of positions: how many there are, when there is none, and that none comes back. -/
import Derived.Test.YtlbblankafjedaaAmC
import Derived.Test.YtlbblankafjedaaOAutox12
namespace Go.Proofs.Ytlbblankafjedaa.Am
open Go.RowKit Go.Proofs.Ytlbblankafjedaa.OAuto Go.Proofs.YtlbblankafjedaaW.PrintWords Go.Proofs.YtlbblankafjedaaW.PrintLast Go.Proofs.YtlbblankafjedaaW.PrintMore

theorem few (P : Nat → Bool) (a w : Nat) (h : ∀ j, P j = true → a ≤ j ∧ j < a + w) : ∀ d s, ((List.range' s d).filter P).length ≤ (a + w) - max s a := by
  intro d
  induction d with
  | zero => intro s; simp
  | succ d ih =>
    intro s
    rw [List.range'_succ, List.filter_cons]
    have := ih (s + 1)
    by_cases c : P s = true
    · rw [if_pos c, List.length_cons]; have := h s c; omega
    · rw [if_neg c]; omega
theorem St_few (q p : List Int) (k : Nat) : (St k q.length (dp q p)).length ≤ 2 * k + 1 := by
  unfold St
  rw [List.length_map, List.range_eq_range']
  have := few (keep k q.length (dp q p)) (p.length - k) (2 * k + 1) (fun j hj => by
    have h1 := ((keep_iff _ _ _ _).1 hj).1
    have h2 := dp_len q p j
    omega) (q.length + 1) 0
  omega
theorem St_nil (k n : Nat) (f : Nat → Nat) : St k n f = [] ↔ ∀ i, i ≤ n → k < f i := by
  constructor
  · intro h i hi
    apply Classical.byContradiction
    intro hk
    obtain ⟨j, hj, hkeep, _⟩ := kept_below k n f (f i) i (Nat.le_refl _) hi (by omega)
    have : (⟨(j : Int), (f j : Int)⟩ : S35) ∈ St k n f := St_mem.2 ⟨j, hj, hkeep, rfl⟩
    rw [h] at this
    cases this
  · intro h
    rw [List.eq_nil_iff_forall_not_mem]
    intro x hx
    obtain ⟨j, hj, hkeep, _⟩ := St_mem.1 hx
    have := h j hj
    have := ((keep_iff _ _ _ _).1 hkeep).1
    omega
theorem dead_on (q p : List Int) (r : Int) (k : Nat) (h : St k q.length (dp q p) = []) : St k q.length (dp q (p ++ [r])) = [] := by
  rw [St_nil] at h ⊢
  rw [dp_snoc]
  exact dead_step q r _ k q.length h
theorem dead_f (s : List S35) : auto_Dead.f s = some ((s.length : Int) == 0) := rfl
theorem len_zero (s : List S35) : ((s.length : Int) == 0) = decide (s = []) := by
  cases s with
  | nil => rfl
  | cons x s => simp; omega
end Go.Proofs.Ytlbblankafjedaa.Am
