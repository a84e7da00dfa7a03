/- The law AutoWindow as a statement over lists alone: the positions of a state rise, and none lies outside its window. -/
import Derived.Test.YtlbblankafjedaaAmE
import Derived.Test.YtlbblankafjedaaOAutox7
namespace Go.Proofs.Ytlbblankafjedaa.Pure
open Go.RowKit Go.Proofs.Ytlbblankafjedaa.OAuto Go.Proofs.YtlbblankafjedaaW.PrintWords Go.Proofs.YtlbblankafjedaaW.PrintLast Go.Proofs.Ytlbblankafjedaa.Am

theorem St_rises (k n : Nat) (f : Nat → Nat) : (St k n f).Pairwise (fun a b => a.f0 < b.f0) := by
  unfold St
  rw [List.pairwise_map]
  refine (List.pairwise_lt_range.filter _).imp ?_
  intro a b h
  show (a : Int) < (b : Int)
  omega
theorem rd_T35_get (s : List S35) (j : Nat) (h : j < s.length) : rd_T35 s (j : Int) = s[j] := by
  simp [rd_T35, List.getD_eq_getElem?_getD, List.getElem?_eq_getElem h]
theorem window_l1 (q p : List Int) (k : Nat) (hk : k ≤ 4) (hq : q.length ≤ 16) (hp : p.length ≤ 16) (i : Nat) (hi : i ≤ p.length)
    (hnext : Ev (fun K => if (i : Int) < (p.length : Int) then ((auto_Step.f K q k (St k q.length (dp q (p.take i))) (rd p (i : Int))).bind fun t240 => (inkhornlaw7_AutoWindow.l0 K q p k t240 ((i + 1 : Nat) : Int))) else (inkhornlaw7_AutoWindow.l0 K q p k (St k q.length (dp q (p.take i))) ((i + 1 : Nat) : Int))) true) :
    ∀ (d j : Nat), j + d = (St k q.length (dp q (p.take i))).length → Ev (fun K => inkhornlaw7_AutoWindow.l1 K q p k (St k q.length (dp q (p.take i))) (i : Int) (j : Int)) true := by
  have hlen : (p.take i).length = i := by rw [List.length_take]; omega
  have hs : ∀ x ∈ St k q.length (dp q (p.take i)), 0 ≤ x.f0 ∧ x.f0 ≤ q.length ∧ 0 ≤ x.f1 ∧ x.f1 ≤ k ∧ x.f0 - i ≤ x.f1 ∧ i - x.f0 ≤ x.f1 := by
    intro x hx
    obtain ⟨h1, h2, h3, h4⟩ := St_valid x hx
    obtain ⟨j, hj, hkeep, rfl⟩ := St_mem.1 hx
    have := dp_len q (p.take i) j
    rw [hlen] at this
    refine ⟨h1, h2, h3, h4, ?_, ?_⟩ <;> simp only <;> omega
  have hr := List.pairwise_iff_getElem.1 (St_rises k q.length (dp q (p.take i)))
  have hl := St_len k q.length (dp q (p.take i))
  generalize St k q.length (dp q (p.take i)) = s at hs hr hnext hl ⊢
  intro d
  induction d with
  | zero =>
    intro j hj
    refine Ev.step (fun K => ?_) hnext
    simp only [inkhornlaw7_AutoWindow.l1]
    rw [if_neg (by omega), wr _ (by omega) (by omega)]
    by_cases c : (i : Int) < (p.length : Int)
    · rw [if_pos c, if_pos c, if_pos (by omega)]
      rfl
    · rw [if_neg c, if_neg c]
      rfl
  | succ d ih =>
    intro j hj
    have hjl : j < s.length := by omega
    have hw : wrap64 ((j : Int) + 1) = ((j + 1 : Nat) : Int) := by rw [wr _ (by omega) (by omega)]; rfl
    have hrec := ih (j + 1) (by omega)
    have hx := rd_T35_get s j hjl
    have hg := hs s[j] (List.getElem_mem hjl)
    have hprev : ∀ y, j = y + 1 → (rd_T35 s (y : Int)).f0 < s[j].f0 := by
      intro y hy
      subst hy
      rw [rd_T35_get s y (by omega)]
      exact hr y (y + 1) (by omega) hjl (by omega)
    generalize s[j] = x at hx hg hprev
    clear ih hr hs hnext
    obtain ⟨g1, g2, g3, g4, g5, g6⟩ := hg
    have w1 : wrap64 (x.f0 - (i : Int)) = x.f0 - i := wr _ (by omega) (by omega)
    have w2 : wrap64 ((i : Int) - x.f0) = i - x.f0 := wr _ (by omega) (by omega)
    refine Ev.step (fun K => ?_) hrec
    simp only [inkhornlaw7_AutoWindow.l1]
    rw [if_pos (by omega), if_pos (by omega), hx, w1, w2, if_neg (by omega), if_neg (by omega), if_neg (by omega), if_neg (by omega), if_neg (by omega), if_neg (by omega), if_neg (by omega), if_neg (by omega), hw]
    clear hw w1 w2 hx hrec
    cases j with
    | zero => rw [if_neg (by omega)]
    | succ j =>
      have hlt := hprev j rfl
      have e : wrap64 (((j + 1 : Nat) : Int) - 1) = (j : Int) := by rw [wr _ (by omega) (by omega)]; omega
      rw [if_pos (by omega), e, if_pos (by omega), if_pos (by omega), if_neg (by omega)]
theorem window_l0 (q p : List Int) (k : Nat) (hk : k ≤ 4) (hq : q.length ≤ 16) (hp : p.length ≤ 16) :
    ∀ (d i : Nat), i + d = p.length → Ev (fun K => inkhornlaw7_AutoWindow.l0 K q p k (St k q.length (dp q (p.take i))) (i : Int)) true := by
  have done : ∀ s, Ev (fun K => inkhornlaw7_AutoWindow.l0 K q p k s ((p.length + 1 : Nat) : Int)) true := by
    intro s
    refine Ev.step (fun K => ?_) awake_bind
    simp only [inkhornlaw7_AutoWindow.l0]
    rw [if_neg (by omega)]
  intro d
  induction d with
  | zero =>
    intro i hi
    obtain rfl : i = p.length := by omega
    refine Ev.step (fun K => ?_) (window_l1 q p k hk hq hp p.length (by omega) ?_ (St k q.length (dp q (p.take p.length))).length 0 (by omega))
    · simp only [inkhornlaw7_AutoWindow.l0]
      rw [if_pos (by omega)]
      rfl
    · refine Ev.congr (fun K => ?_) (done (St k q.length (dp q (p.take p.length))))
      rw [if_neg (by omega)]
  | succ d ih =>
    intro i hi
    have h1 := Step_dp q (p.take i) (rd p (i : Int)) k hk hq
    rw [← take_succ_rd p i (by omega)] at h1
    refine Ev.step (fun K => ?_) (window_l1 q p k hk hq hp i (by omega) ?_ (St k q.length (dp q (p.take i))).length 0 (by omega))
    · simp only [inkhornlaw7_AutoWindow.l0]
      rw [if_pos (by omega)]
      rfl
    · refine Ev.congr (f := fun K => (auto_Step.f K q k (St k q.length (dp q (p.take i))) (rd p (i : Int))).bind fun t240 => (inkhornlaw7_AutoWindow.l0 K q p k t240 ((i + 1 : Nat) : Int))) (fun K => ?_) (Ev.bind (f := fun K t240 => (inkhornlaw7_AutoWindow.l0 K q p k t240 ((i + 1 : Nat) : Int))) h1 (ih (i + 1) (by omega)))
      rw [if_pos (by omega)]
theorem AutoWindow : inkhornlaw7_AutoWindow.Pure := by
  intro l0 l1 a2 _ _ _ _ _ _ _
  apply Ev.rounds
  by_cases h : 16 < l0.length ∨ 16 < l1.length
  · refine Ev.congr (fun K => ?_) awake_bind
    unfold inkhornlaw7_AutoWindow.f
    rw [long_ev, Option.bind_some, if_pos (by simpa using h)]
  · obtain ⟨k, hk, hlow⟩ := Low_any a2 5 (.inr rfl)
    have hlow' : inkhornlaw0_Low.f a2 5 = some (k : Int) := hlow
    refine Ev.congr (fun K => ?_) (window_l0 l0 l1 k (by omega) (by omega) (by omega) l1.length 0 (by omega))
    unfold inkhornlaw7_AutoWindow.f
    rw [long_ev, Option.bind_some, if_neg (by simpa using h), hlow', Option.bind_some, Start_St l0 k (by omega), Option.bind_some]
    rfl
end Go.Proofs.Ytlbblankafjedaa.Pure
