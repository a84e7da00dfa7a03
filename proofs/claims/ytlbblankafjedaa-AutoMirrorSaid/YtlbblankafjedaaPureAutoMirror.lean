/- The law AutoMirror as a statement over lists alone: a text is as near to another one as both read backwards are, and as that one is to it. -/
import Derived.Test.YtlbblankafjedaaAmC
import Derived.Test.YtlbblankafjedaaOAutox11
namespace Go.Proofs.Ytlbblankafjedaa.Pure
open Go.RowKit Go.Proofs.Ytlbblankafjedaa.OAuto Go.Proofs.YtlbblankafjedaaW.PrintWords Go.Proofs.YtlbblankafjedaaW.PrintLast Go.Proofs.Ytlbblankafjedaa.Am

theorem drop_rev (q : List Int) (i : Nat) (h : i < q.length) : (q.drop i).reverse = (q.drop (i + 1)).reverse ++ [rd q (i : Int)] := by
  rw [List.drop_eq_getElem_cons h, List.reverse_cons, rd_nat]
  simp [List.getD_eq_getElem?_getD, List.getElem?_eq_getElem h]
/-- What the law says behind both loops. -/
def tail_ (K : Nat) (x0 x1 : List Int) (x2 : Int) (x7 x8 : List Int) : Option Bool :=
  (inkhornlaw7_behind.f K x0 x2 x1).bind fun t282 => ((auto_Dist.f K x0 x2 t282).bind fun bt285 => ((inkhornlaw7_behind.f K x7 x2 x8).bind fun t287 => ((auto_Dist.f K x7 x2 t287).bind fun bt290 => ((inkhornlaw7_behind.f K x1 x2 x0).bind fun t292 => ((auto_Dist.f K x1 x2 t292).bind fun bt295 => (if bt285.1 = bt290.1 then (if (bt285.2 == bt290.2) = true then (if bt285.1 = bt295.1 then (if (bt285.2 == bt295.2) = true then ((inkhornlaw7_awake.f K).bind fun t297 => (some t297)) else (some false)) else (some false)) else (some false)) else (some false)))))))
theorem tail_ev (q p : List Int) (k : Nat) (hk : k ≤ 4) (hq : q.length ≤ 16) (hp : p.length ≤ 16) : Ev (fun K => tail_ K q p k q.reverse p.reverse) true := by
  have b1 := behind_dp q p k hk hq hp
  have d1 := Dist_dp q p k hk hq
  have b2 := behind_dp q.reverse p.reverse k hk (by simpa using hq) (by simpa using hp)
  have d2 := Dist_dp q.reverse p.reverse k hk (by simpa using hq)
  have b3 := behind_dp p q k hk hp hq
  have d3 := Dist_dp p q k hk hp
  rw [far_reverse] at d2
  rw [far_swap p q] at d3
  generalize (if far q p ≤ k then ((far q p : Int), true) else (0, false)) = r at d1 d2 d3
  unfold tail_
  refine Ev.bind (f := fun K t282 => ((auto_Dist.f K q k t282).bind fun bt285 => ((inkhornlaw7_behind.f K q.reverse k p.reverse).bind fun t287 => ((auto_Dist.f K q.reverse k t287).bind fun bt290 => ((inkhornlaw7_behind.f K p k q).bind fun t292 => ((auto_Dist.f K p k t292).bind fun bt295 => (if bt285.1 = bt290.1 then (if (bt285.2 == bt290.2) = true then (if bt285.1 = bt295.1 then (if (bt285.2 == bt295.2) = true then ((inkhornlaw7_awake.f K).bind fun t297 => (some t297)) else (some false)) else (some false)) else (some false)) else (some false)))))))) b1 ?_
  refine Ev.bind (f := fun K bt285 => ((inkhornlaw7_behind.f K q.reverse k p.reverse).bind fun t287 => ((auto_Dist.f K q.reverse k t287).bind fun bt290 => ((inkhornlaw7_behind.f K p k q).bind fun t292 => ((auto_Dist.f K p k t292).bind fun bt295 => (if bt285.1 = bt290.1 then (if (bt285.2 == bt290.2) = true then (if bt285.1 = bt295.1 then (if (bt285.2 == bt295.2) = true then ((inkhornlaw7_awake.f K).bind fun t297 => (some t297)) else (some false)) else (some false)) else (some false)) else (some false))))))) d1 ?_
  refine Ev.bind (f := fun K t287 => ((auto_Dist.f K q.reverse k t287).bind fun bt290 => ((inkhornlaw7_behind.f K p k q).bind fun t292 => ((auto_Dist.f K p k t292).bind fun bt295 => (if r.1 = bt290.1 then (if (r.2 == bt290.2) = true then (if r.1 = bt295.1 then (if (r.2 == bt295.2) = true then ((inkhornlaw7_awake.f K).bind fun t297 => (some t297)) else (some false)) else (some false)) else (some false)) else (some false)))))) b2 ?_
  refine Ev.bind (f := fun K bt290 => ((inkhornlaw7_behind.f K p k q).bind fun t292 => ((auto_Dist.f K p k t292).bind fun bt295 => (if r.1 = bt290.1 then (if (r.2 == bt290.2) = true then (if r.1 = bt295.1 then (if (r.2 == bt295.2) = true then ((inkhornlaw7_awake.f K).bind fun t297 => (some t297)) else (some false)) else (some false)) else (some false)) else (some false))))) d2 ?_
  refine Ev.bind (f := fun K t292 => ((auto_Dist.f K p k t292).bind fun bt295 => (if r.1 = r.1 then (if (r.2 == r.2) = true then (if r.1 = bt295.1 then (if (r.2 == bt295.2) = true then ((inkhornlaw7_awake.f K).bind fun t297 => (some t297)) else (some false)) else (some false)) else (some false)) else (some false)))) b3 ?_
  refine Ev.bind (f := fun K bt295 => (if r.1 = r.1 then (if (r.2 == r.2) = true then (if r.1 = bt295.1 then (if (r.2 == bt295.2) = true then ((inkhornlaw7_awake.f K).bind fun t297 => (some t297)) else (some false)) else (some false)) else (some false)) else (some false))) d3 ?_
  simp only [if_true, beq_self_eq_true]
  exact awake_bind
theorem mirror_l1 (q p : List Int) (k : Nat) (hk : k ≤ 4) (hq : q.length ≤ 16) (hp : p.length ≤ 16) :
    ∀ i : Nat, i ≤ p.length → Ev (fun K => inkhornlaw7_AutoMirror.l1 K q p k q.reverse (p.drop i).reverse ((i : Int) - 1)) true := by
  intro i
  induction i with
  | zero =>
    intro _
    refine Ev.step (fun K => ?_) (tail_ev q p k hk hq hp)
    simp only [inkhornlaw7_AutoMirror.l1]
    rw [if_neg (by omega)]
    rfl
  | succ i ih =>
    intro hi
    refine Ev.step (fun K => ?_) (ih (by omega))
    simp only [inkhornlaw7_AutoMirror.l1]
    rw [if_pos (by omega), if_pos (by omega), if_pos (by omega), if_pos (by simp; omega), wr _ (by omega) (by omega), show ((i + 1 : Nat) : Int) - 1 = (i : Int) by omega, ← drop_rev p i (by omega)]
theorem mirror_l0 (q p : List Int) (k : Nat) (hk : k ≤ 4) (hq : q.length ≤ 16) (hp : p.length ≤ 16) :
    ∀ i : Nat, i ≤ q.length → Ev (fun K => inkhornlaw7_AutoMirror.l0 K q p k (q.drop i).reverse ((i : Int) - 1)) true := by
  intro i
  induction i with
  | zero =>
    intro _
    have h := mirror_l1 q p k hk hq hp p.length (Nat.le_refl _)
    rw [List.drop_length] at h
    refine Ev.step (fun K => ?_) h
    simp only [inkhornlaw7_AutoMirror.l0]
    rw [if_neg (by omega), wr _ (by omega) (by omega)]
    rfl
  | succ i ih =>
    intro hi
    refine Ev.step (fun K => ?_) (ih (by omega))
    simp only [inkhornlaw7_AutoMirror.l0]
    rw [if_pos (by omega), if_pos (by omega), if_pos (by omega), if_pos (by simp; omega), wr _ (by omega) (by omega), show ((i + 1 : Nat) : Int) - 1 = (i : Int) by omega, ← drop_rev q i (by omega)]
theorem AutoMirror : inkhornlaw7_AutoMirror.Pure := by
  intro l0 l1 a2 _ _ _ _ _ _ _
  apply Ev.rounds
  have yes : Ev (fun K => inkhornlaw7_AutoMirror.j0 K l0 l1 a2 true) true := Ev.step (fun K => by simp only [inkhornlaw7_AutoMirror.j0, if_true]) awake_bind
  by_cases h : l0.length > 16
  · refine Ev.congr (fun K => ?_) yes
    unfold inkhornlaw7_AutoMirror.f; rw [if_pos (by omega)]
  · by_cases h1 : l1.length > 16
    · refine Ev.congr (fun K => ?_) yes
      unfold inkhornlaw7_AutoMirror.f
      rw [if_neg (by omega), show decide ((l1.length : Int) > 16) = true by simp; omega]
    · obtain ⟨k, hk, hlow⟩ := Low_any a2 5 (.inr rfl)
      have hlow' : inkhornlaw0_Low.f a2 5 = some (k : Int) := hlow
      have h0 := mirror_l0 l0 l1 k (by omega) (by omega) (by omega) l0.length (Nat.le_refl _)
      rw [List.drop_length] at h0
      refine Ev.congr (f := fun K => inkhornlaw7_AutoMirror.j0 K l0 l1 a2 false) (fun K => ?_) (Ev.step (fun K => ?_) h0)
      · unfold inkhornlaw7_AutoMirror.f
        rw [if_neg (by omega), show decide ((l1.length : Int) > 16) = false by simp; omega]
      · simp only [inkhornlaw7_AutoMirror.j0, Bool.false_eq_true, if_false]
        rw [hlow', Option.bind_some, wr _ (by omega) (by omega)]
        rfl
end Go.Proofs.Ytlbblankafjedaa.Pure
