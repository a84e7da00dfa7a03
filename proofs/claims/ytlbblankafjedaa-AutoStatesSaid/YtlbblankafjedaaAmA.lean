/- The distance of two lists, row by row; it is that of alignments, so it is the same for both lists read backwards, and for the two in the other order. -/
import Derived.WalkKit
namespace Go.Proofs.Ytlbblankafjedaa.Am

/-- The next row of distances, when one more rune r has been read. -/
def stepRow (q : List Int) (r : Int) (f : Nat → Nat) : Nat → Nat
  | 0 => f 0 + 1
  | i + 1 => min (min (f (i + 1) + 1) (stepRow q r f i + 1)) (f i + if q.getD i 0 = r then 0 else 1)
/-- The distances of p to the beginnings of q; p's runes are read one by one. -/
def dp (q : List Int) (p : List Int) : Nat → Nat := p.foldl (fun f r => stepRow q r f) (fun i => i)
theorem dp_nil (q : List Int) (i : Nat) : dp q [] i = i := rfl
theorem dp_snoc (q p : List Int) (r : Int) : dp q (p ++ [r]) = stepRow q r (dp q p) := by simp [dp]

theorem step_le_old (q : List Int) (r : Int) (f : Nat → Nat) (i : Nat) : stepRow q r f i ≤ f i + 1 := by
  cases i with
  | zero => simp [stepRow]
  | succ i => simp only [stepRow]; omega
theorem step_le_left (q : List Int) (r : Int) (f : Nat → Nat) (i : Nat) : stepRow q r f (i + 1) ≤ stepRow q r f i + 1 := by
  simp only [stepRow]; omega
/-- A row of distances rises and falls by at most one. -/
structure Lip (f : Nat → Nat) : Prop where
  up : ∀ i, f (i + 1) ≤ f i + 1
  down : ∀ i, f i ≤ f (i + 1) + 1
theorem lip_step {q : List Int} {r : Int} {f : Nat → Nat} (h : Lip f) : Lip (stepRow q r f) := by
  refine ⟨step_le_left q r f, fun i => ?_⟩
  have h1 := step_le_old q r f i
  have h2 := h.down i
  have h3 : stepRow q r f (i + 1) = min (min (f (i + 1) + 1) (stepRow q r f i + 1)) (f i + if q.getD i 0 = r then 0 else 1) := rfl
  rw [h3]
  omega
theorem snoc_induction {P : List Int → Prop} (h0 : P []) (h1 : ∀ p r, P p → P (p ++ [r])) : ∀ p, P p := by
  intro p
  rw [← List.reverse_reverse p]
  generalize p.reverse = q
  induction q with
  | nil => exact h0
  | cons x q ih => rw [List.reverse_cons]; exact h1 _ _ ih
theorem lip_dp (q p : List Int) : Lip (dp q p) := by
  induction p using snoc_induction with
  | h0 => exact ⟨fun i => by simp [dp_nil], fun i => by simp [dp_nil]; omega⟩
  | h1 p r ih => rw [dp_snoc]; exact lip_step ih
theorem Lip.far {f : Nat → Nat} (h : Lip f) (i d : Nat) : f (i + d) ≤ f i + d ∧ f i ≤ f (i + d) + d := by
  induction d with
  | zero => simp
  | succ d ih =>
    have h1 := h.up (i + d)
    have h2 := h.down (i + d)
    have e : i + (d + 1) = i + d + 1 := by omega
    rw [e]
    omega
theorem Lip.any {f : Nat → Nat} (h : Lip f) (i j : Nat) : f i ≤ f j + ((i - j) + (j - i)) := by
  rcases Nat.le_total i j with h1 | h1
  · obtain ⟨d, rfl⟩ : ∃ d, j = i + d := ⟨j - i, by omega⟩
    have := (h.far i d).2
    omega
  · obtain ⟨d, rfl⟩ : ∃ d, i = j + d := ⟨i - j, by omega⟩
    have := (h.far j d).1
    omega
/-- A distance is at least as great as the lengths differ. -/
theorem dp_len (q p : List Int) : ∀ i, i ≤ dp q p i + p.length ∧ p.length ≤ dp q p i + i := by
  induction p using snoc_induction with
  | h0 => intro i; simp [dp_nil]
  | h1 p r ih =>
    intro i
    rw [dp_snoc, List.length_append, List.length_singleton]
    induction i with
    | zero => have := ih 0; simp only [stepRow]; omega
    | succ i ih2 =>
      have h1 := ih (i + 1)
      have h2 := ih i
      simp only [stepRow]
      omega
/-- No row is everywhere further off than a later one. -/
theorem dead_step (q : List Int) (r : Int) (f : Nat → Nat) (k n : Nat) (h : ∀ i, i ≤ n → k < f i) : ∀ i, i ≤ n → k < stepRow q r f i := by
  intro i
  induction i with
  | zero => intro hi; have := h 0 hi; simp only [stepRow]; omega
  | succ i ih =>
    intro hi
    have h1 := h (i + 1) hi
    have h2 := h i (by omega)
    have h3 := ih (by omega)
    simp only [stepRow]
    omega
/-- The row looks at the beginnings alone. -/
theorem dp_take (a c p : List Int) : ∀ i, i ≤ a.length → dp (a ++ c) p i = dp a p i := by
  induction p using snoc_induction with
  | h0 => intro i _; simp [dp_nil]
  | h1 p r ih =>
    intro i
    rw [dp_snoc, dp_snoc]
    induction i with
    | zero => intro hi; simp only [stepRow]; rw [ih 0 hi]
    | succ i ih2 =>
      intro hi
      simp only [stepRow]
      rw [ih (i + 1) hi, ih i (by omega), ih2 (by omega)]
      have e : (a ++ c).getD i 0 = a.getD i 0 := by
        simp [List.getD_eq_getElem?_getD, List.getElem?_append_left (show i < a.length by omega)]
      rw [e]

/-! ### Alignments -/
inductive Al : List Int → List Int → Nat → Prop
  | nil : Al [] [] 0
  | del {a b n} (x : Int) : Al a b n → Al (a ++ [x]) b (n + 1)
  | ins {a b n} (y : Int) : Al a b n → Al a (b ++ [y]) (n + 1)
  | sub {a b n} (x y : Int) : Al a b n → Al (a ++ [x]) (b ++ [y]) (n + 1)
  | keep {a b n} (x : Int) : Al a b n → Al (a ++ [x]) (b ++ [x]) n
theorem Al.swap {a b : List Int} {n : Nat} (h : Al a b n) : Al b a n := by
  induction h with
  | nil => exact .nil
  | del x _ ih => exact .ins x ih
  | ins y _ ih => exact .del y ih
  | sub x y _ ih => exact .sub y x ih
  | keep x _ ih => exact .keep x ih
theorem Al.append {a b c d : List Int} {n m : Nat} (h : Al a b n) (k : Al c d m) : Al (a ++ c) (b ++ d) (n + m) := by
  induction k with
  | nil => simpa using h
  | del x _ ih => rw [← List.append_assoc]; exact .del x ih
  | ins y _ ih => rw [← List.append_assoc]; exact .ins y ih
  | sub x y _ ih => rw [← List.append_assoc, ← List.append_assoc]; exact .sub x y ih
  | keep x _ ih => rw [← List.append_assoc, ← List.append_assoc]; exact .keep x ih
theorem Al.reverse {a b : List Int} {n : Nat} (h : Al a b n) : Al a.reverse b.reverse n := by
  induction h with
  | nil => exact .nil
  | del x _ ih => rw [List.reverse_append, Nat.add_comm]; exact Al.append (.del x .nil) ih
  | ins y _ ih => rw [List.reverse_append, Nat.add_comm]; exact Al.append (.ins y .nil) ih
  | sub x y _ ih => rw [List.reverse_append, List.reverse_append, Nat.add_comm]; exact Al.append (.sub x y .nil) ih
  | keep x _ ih =>
    rw [List.reverse_append, List.reverse_append]
    have := Al.append (.keep x .nil) ih
    simpa using this
theorem getD_snoc (a : List Int) (x : Int) : (a ++ [x]).getD a.length 0 = x := by simp [List.getD_eq_getElem?_getD]
theorem Al.least {a b : List Int} {n : Nat} (h : Al a b n) : dp a b a.length ≤ n := by
  induction h with
  | nil => simp [dp_nil]
  | @del a b n x _ ih =>
    rw [List.length_append, List.length_singleton]
    have h1 := (lip_dp (a ++ [x]) b).up a.length
    rw [dp_take a [x] b a.length (Nat.le_refl _)] at h1
    omega
  | @ins a b n y _ ih =>
    rw [dp_snoc]
    have := step_le_old a y (dp a b) a.length
    omega
  | @sub a b n x y _ ih =>
    rw [dp_snoc, List.length_append, List.length_singleton]
    simp only [stepRow]
    rw [dp_take a [x] b a.length (Nat.le_refl _)]
    split <;> omega
  | @keep a b n x _ ih =>
    rw [dp_snoc, List.length_append, List.length_singleton]
    simp only [stepRow]
    rw [dp_take a [x] b a.length (Nat.le_refl _), getD_snoc, if_pos rfl]
    omega
theorem take_snoc (q : List Int) (i : Nat) (h : i < q.length) : q.take (i + 1) = q.take i ++ [q.getD i 0] := by
  rw [List.take_succ_eq_append_getElem h]
  simp [List.getD_eq_getElem?_getD, List.getElem?_eq_getElem h]
theorem al_dp (q p : List Int) : ∀ i, i ≤ q.length → Al (q.take i) p (dp q p i) := by
  induction p using snoc_induction with
  | h0 =>
    intro i
    induction i with
    | zero => intro _; simpa [dp_nil] using Al.nil
    | succ i ih => intro hi; rw [take_snoc q i (by omega)]; exact .del _ (ih (by omega))
  | h1 p r ih =>
    intro i
    rw [dp_snoc]
    induction i with
    | zero => intro hi; simp only [stepRow]; exact .ins _ (ih 0 hi)
    | succ i ih2 =>
      intro hi
      have h1 := Al.ins r (ih (i + 1) hi)
      have h2 := Al.del (q.getD i 0) (ih2 (by omega))
      rw [← take_snoc q i (by omega)] at h2
      have h3 : Al (q.take (i + 1)) (p ++ [r]) (dp q p i + if q.getD i 0 = r then 0 else 1) := by
        rw [take_snoc q i (by omega)]
        by_cases e : q.getD i 0 = r
        · rw [if_pos e, e]; exact .keep r (ih i (by omega))
        · rw [if_neg e]; exact .sub _ r (ih i (by omega))
      simp only [stepRow]
      rcases Nat.le_total (dp q p (i + 1) + 1) (stepRow q r (dp q p) i + 1) with l1 | l1
      · rw [Nat.min_eq_left l1]
        rcases Nat.le_total (dp q p (i + 1) + 1) (dp q p i + if q.getD i 0 = r then 0 else 1) with l2 | l2
        · rw [Nat.min_eq_left l2]; exact h1
        · rw [Nat.min_eq_right l2]; exact h3
      · rw [Nat.min_eq_right l1]
        rcases Nat.le_total (stepRow q r (dp q p) i + 1) (dp q p i + if q.getD i 0 = r then 0 else 1) with l2 | l2
        · rw [Nat.min_eq_left l2]; exact h2
        · rw [Nat.min_eq_right l2]; exact h3
/-- The distance of two lists. -/
def far (a b : List Int) : Nat := dp a b a.length
theorem al_far (a b : List Int) : Al a b (far a b) := by have := al_dp a b a.length (Nat.le_refl _); rwa [List.take_length] at this
theorem far_swap (a b : List Int) : far a b = far b a := Nat.le_antisymm (al_far b a).swap.least (al_far a b).swap.least
theorem far_reverse (a b : List Int) : far a.reverse b.reverse = far a b := by
  refine Nat.le_antisymm (al_far a b).reverse.least ?_
  have := (al_far a.reverse b.reverse).reverse.least
  rwa [List.reverse_reverse, List.reverse_reverse] at this
end Go.Proofs.Ytlbblankafjedaa.Am
