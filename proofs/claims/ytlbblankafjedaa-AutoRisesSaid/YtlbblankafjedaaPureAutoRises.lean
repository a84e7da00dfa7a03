/- The law AutoRises as a statement over lists alone: a greater K tells the same of what is near with the lesser one; a dead state stays dead. -/
import Derived.Test.YtlbblankafjedaaAmE
import Derived.Test.YtlbblankafjedaaOAutox14
namespace Go.Proofs.Ytlbblankafjedaa.Pure
open Go.RowKit Go.Proofs.Ytlbblankafjedaa.OAuto Go.Proofs.YtlbblankafjedaaW.PrintWords Go.Proofs.YtlbblankafjedaaW.PrintLast Go.Proofs.Ytlbblankafjedaa.Am

theorem rises_l1 (q p more : List Int) (k : Nat) (hk : k ≤ 4) (hq : q.length ≤ 16) (hm : more.length ≤ 16) (b : Bool) :
    ∀ (d i : Nat), i + d = more.length → (b = true → St k q.length (dp q (p ++ more.take i)) = []) →
      Ev (fun K => inkhornlaw7_AutoRises.l1 K q more k (St k q.length (dp q (p ++ more.take i))) b (i : Int)) true := by
  intro d
  induction d with
  | zero =>
    intro i hi _
    refine Ev.step (fun K => ?_) awake_bind
    simp only [inkhornlaw7_AutoRises.l1]
    rw [if_neg (by omega)]
  | succ d ih =>
    intro i hi hb
    have h1 := Step_dp q (p ++ more.take i) (rd more (i : Int)) k hk hq
    have hdead := dead_on q (p ++ more.take i) (rd more (i : Int)) k
    rw [List.append_assoc, ← take_succ_rd more i (by omega)] at h1 hdead
    have hi2 := ih (i + 1) (by omega) (fun h => hdead (hb h))
    generalize St k q.length (dp q (p ++ more.take (i + 1))) = s' at h1 hdead hi2
    generalize St k q.length (dp q (p ++ more.take i)) = s at h1 hdead hb
    refine Ev.step (f := fun K => (auto_Step.f K q k s (rd more (i : Int))).bind fun t348 => (if b = true then ((auto_Dead.f t348).bind fun t351 => (if t351 = true then (inkhornlaw7_AutoRises.l1 K q more k t348 b (wrap64 ((i : Int) + 1))) else (some false))) else (inkhornlaw7_AutoRises.l1 K q more k t348 b (wrap64 ((i : Int) + 1))))) (fun K => ?_) (Ev.bind h1 (Ev.congr (fun K => ?_) hi2))
    · simp only [inkhornlaw7_AutoRises.l1]
      rw [if_pos (by omega), if_pos (by omega)]
    · rw [wr _ (by omega) (by omega)]
      by_cases c : b = true
      · rw [if_pos c, dead_f, Option.bind_some, len_zero, if_pos (by simpa using hdead (hb c))]
        rfl
      · rw [if_neg c]
        rfl
theorem rises_j2 (q p more : List Int) (k : Nat) (hk : k ≤ 4) (hq : q.length ≤ 16) (hm : more.length ≤ 16) :
    Ev (fun K => inkhornlaw7_AutoRises.j2 K q more k (St k q.length (dp q p)) false) true := by
  have h := rises_l1 q p more k hk hq hm (decide (St k q.length (dp q p) = [])) more.length 0 (by omega) (by simp)
  rw [List.take_zero, List.append_nil] at h
  refine Ev.step (fun K => ?_) h
  simp only [inkhornlaw7_AutoRises.j2, Bool.false_eq_true, if_false]
  rw [dead_f, Option.bind_some, len_zero]
  rfl
theorem rises_l0 (q p more : List Int) (k : Nat) (hk : k + 1 ≤ 4) (hq : q.length ≤ 16) (hp : p.length ≤ 16) (hm : more.length ≤ 16) :
    ∀ (d i : Nat), i + d = p.length → Ev (fun K => inkhornlaw7_AutoRises.l0 K q p more k (St k q.length (dp q (p.take i))) (St (k + 1) q.length (dp q (p.take i))) (i : Int)) true := by
  intro d
  induction d with
  | zero =>
    intro i hi
    have e : p.take i = p := List.take_of_length_le (by omega)
    rw [e]
    have hj := rises_j2 q p more k (by omega) hq hm
    refine Ev.step (f := fun K => (auto_Dist.f K q k (St k q.length (dp q p))).bind fun bt341 => ((auto_Dist.f K q ((k + 1 : Nat) : Int) (St (k + 1) q.length (dp q p))).bind fun bt343 => (if bt341.2 = true then (if bt343.2 = true then (if bt341.1 = bt343.1 then (inkhornlaw7_AutoRises.j2 K q more k (St k q.length (dp q p)) false) else (inkhornlaw7_AutoRises.j2 K q more k (St k q.length (dp q p)) true)) else (inkhornlaw7_AutoRises.j2 K q more k (St k q.length (dp q p)) true)) else (if bt343.2 = true then (inkhornlaw7_AutoRises.j2 K q more k (St k q.length (dp q p)) (bt343.1 != ((k + 1 : Nat) : Int))) else (inkhornlaw7_AutoRises.j2 K q more k (St k q.length (dp q p)) false))))) (fun K => ?_) ?_
    · simp only [inkhornlaw7_AutoRises.l0]
      rw [if_neg (by omega), wr _ (by omega) (by omega)]
      rfl
    · refine Ev.bind (f := fun (K : Nat) (bt341 : Int × Bool) => ((auto_Dist.f K q ((k + 1 : Nat) : Int) (St (k + 1) q.length (dp q p))).bind fun bt343 => (if bt341.2 = true then (if bt343.2 = true then (if bt341.1 = bt343.1 then (inkhornlaw7_AutoRises.j2 K q more k (St k q.length (dp q p)) false) else (inkhornlaw7_AutoRises.j2 K q more k (St k q.length (dp q p)) true)) else (inkhornlaw7_AutoRises.j2 K q more k (St k q.length (dp q p)) true)) else (if bt343.2 = true then (inkhornlaw7_AutoRises.j2 K q more k (St k q.length (dp q p)) (bt343.1 != ((k + 1 : Nat) : Int))) else (inkhornlaw7_AutoRises.j2 K q more k (St k q.length (dp q p)) false))))) (Dist_dp q p k (by omega) hq) ?_
      refine Ev.bind (f := fun (K : Nat) (bt343 : Int × Bool) => (if (if far q p ≤ k then ((far q p : Int), true) else (0, false)).2 = true then (if bt343.2 = true then (if (if far q p ≤ k then ((far q p : Int), true) else (0, false)).1 = bt343.1 then (inkhornlaw7_AutoRises.j2 K q more k (St k q.length (dp q p)) false) else (inkhornlaw7_AutoRises.j2 K q more k (St k q.length (dp q p)) true)) else (inkhornlaw7_AutoRises.j2 K q more k (St k q.length (dp q p)) true)) else (if bt343.2 = true then (inkhornlaw7_AutoRises.j2 K q more k (St k q.length (dp q p)) (bt343.1 != ((k + 1 : Nat) : Int))) else (inkhornlaw7_AutoRises.j2 K q more k (St k q.length (dp q p)) false)))) (Dist_dp q p (k + 1) hk hq) ?_
      by_cases c : far q p ≤ k
      · have c' : far q p ≤ k + 1 := by omega
        simp only [if_pos c, if_pos c', if_true]
        exact hj
      · by_cases c' : far q p ≤ k + 1
        · have e2 : ((far q p : Int) != ((k + 1 : Nat) : Int)) = false := by simp; omega
          simp only [if_neg c, if_pos c', if_true, Bool.false_eq_true, if_false, e2]
          exact hj
        · simp only [if_neg c, if_neg c', Bool.false_eq_true, if_false]
          exact hj
  | succ d ih =>
    intro i hi
    have h1 := Step_dp q (p.take i) (rd p (i : Int)) k (by omega) hq
    have h2 := Step_dp q (p.take i) (rd p (i : Int)) (k + 1) hk hq
    rw [← take_succ_rd p i (by omega)] at h1 h2
    have hi2 := ih (i + 1) (by omega)
    have hne : St (k + 1) q.length (dp q (p.take (i + 1))) = [] → St k q.length (dp q (p.take (i + 1))) = [] := by
      intro h
      rw [St_nil] at h ⊢
      intro j hj
      have := h j hj
      omega
    generalize St k q.length (dp q (p.take (i + 1))) = s' at h1 hi2 hne
    generalize St (k + 1) q.length (dp q (p.take (i + 1))) = t' at h2 hi2 hne
    generalize St k q.length (dp q (p.take i)) = s at h1
    generalize St (k + 1) q.length (dp q (p.take i)) = t at h2
    refine Ev.step (f := fun K => (auto_Step.f K q k s (rd p (i : Int))).bind fun t332 => ((auto_Step.f K q ((k + 1 : Nat) : Int) t (rd p (i : Int))).bind fun t336 => ((auto_Dead.f t332).bind fun t339 => (if t339 = true then (inkhornlaw7_AutoRises.l0 K q p more k t332 t336 (wrap64 ((i : Int) + 1))) else ((auto_Dead.f t336).bind fun t340 => (if t340 = true then (some false) else (inkhornlaw7_AutoRises.l0 K q p more k t332 t336 (wrap64 ((i : Int) + 1))))))))) (fun K => ?_) (Ev.bind (f := fun K t332 => ((auto_Step.f K q ((k + 1 : Nat) : Int) t (rd p (i : Int))).bind fun t336 => ((auto_Dead.f t332).bind fun t339 => (if t339 = true then (inkhornlaw7_AutoRises.l0 K q p more k t332 t336 (wrap64 ((i : Int) + 1))) else ((auto_Dead.f t336).bind fun t340 => (if t340 = true then (some false) else (inkhornlaw7_AutoRises.l0 K q p more k t332 t336 (wrap64 ((i : Int) + 1))))))))) h1 (Ev.bind h2 (Ev.congr (fun K => ?_) hi2)))
    · simp only [inkhornlaw7_AutoRises.l0]
      rw [if_pos (by omega), if_pos (by omega), show wrap64 ((k : Int) + 1) = ((k + 1 : Nat) : Int) by rw [wr _ (by omega) (by omega)]; rfl]
    · rw [wr _ (by omega) (by omega), dead_f, Option.bind_some, len_zero]
      by_cases c : s' = []
      · rw [if_pos (by simpa using c)]
        rfl
      · rw [if_neg (by simpa using c), dead_f, Option.bind_some, len_zero, if_neg (by simpa using fun h => c (hne h))]
        rfl
theorem AutoRises : inkhornlaw7_AutoRises.Pure := by
  intro l0 l1 l2 a3 _ _ _ _ _ _ _ _ _ _
  apply Ev.rounds
  have yes : Ev (fun K => inkhornlaw7_AutoRises.j0 K l0 l1 l2 a3 true) true := Ev.step (fun K => by simp only [inkhornlaw7_AutoRises.j0, if_true]) awake_bind
  by_cases h : 16 < l0.length ∨ 16 < l1.length
  · refine Ev.congr (fun K => ?_) yes
    unfold inkhornlaw7_AutoRises.f
    rw [long_ev, Option.bind_some, if_pos (by simpa using h)]
  · by_cases h2 : l2.length > 16
    · refine Ev.congr (fun K => ?_) yes
      unfold inkhornlaw7_AutoRises.f
      rw [long_ev, Option.bind_some, if_neg (by simpa using h), show decide ((l2.length : Int) > 16) = true by simp; omega]
    · obtain ⟨k, hk, hlow⟩ := Low_any a3 4 (.inl rfl)
      have hlow' : inkhornlaw0_Low.f a3 4 = some (k : Int) := hlow
      refine Ev.congr (f := fun K => inkhornlaw7_AutoRises.j0 K l0 l1 l2 a3 false) (fun K => ?_) (Ev.step (fun K => ?_) (rises_l0 l0 l1 l2 k (by omega) (by omega) (by omega) (by omega) l1.length 0 (by omega)))
      · unfold inkhornlaw7_AutoRises.f
        rw [long_ev, Option.bind_some, if_neg (by simpa using h), show decide ((l2.length : Int) > 16) = false by simp; omega]
      · simp only [inkhornlaw7_AutoRises.j0, Bool.false_eq_true, if_false]
        rw [hlow', Option.bind_some, Start_St l0 k (by omega), Option.bind_some, show wrap64 ((k : Int) + 1) = ((k + 1 : Nat) : Int) by rw [wr _ (by omega) (by omega)]; rfl, Start_St l0 (k + 1) (by omega), Option.bind_some]
        rfl
end Go.Proofs.Ytlbblankafjedaa.Pure
