/- The law AutoNear as a statement over lists alone: behind a text's runes the automaton tells whether that is near, and how near; a state with no position has none any more. -/
import Derived.Test.YtlbblankafjedaaAmD
import Derived.Test.YtlbblankafjedaaAmE
import Derived.Test.YtlbblankafjedaaOAutox13
namespace Go.Proofs.Ytlbblankafjedaa.Pure
open Go.RowKit Go.Proofs.Ytlbblankafjedaa.OAuto Go.Proofs.YtlbblankafjedaaW.PrintWords Go.Proofs.YtlbblankafjedaaW.PrintLast Go.Proofs.Ytlbblankafjedaa.Am

theorem near_l0 (q p : List Int) (k : Nat) (hk : k ≤ 4) (hq : q.length ≤ 16) (hp : p.length ≤ 16) :
    ∀ (d i : Nat), i + d = p.length → Ev (fun K => inkhornlaw7_AutoNear.l0 K q p k (St k q.length (dp q (p.take i))) (i : Int)) true := by
  intro d
  induction d with
  | zero =>
    intro i hi
    have e : p.take i = p := List.take_of_length_le (by omega)
    rw [e]
    refine Ev.step (f := fun K => (inkhornref5_Runes.f K q p).bind fun t317 => ((auto_Dist.f K q k (St k q.length (dp q p))).bind fun bt318 => (if t317 > k then (if bt318.1 = 0 then (if bt318.2 = true then (some false) else ((inkhornlaw7_awake.f K).bind fun t320 => (some t320))) else (some false)) else (if bt318.1 = t317 then (if bt318.2 = true then ((inkhornlaw7_awake.f K).bind fun t321 => (some t321)) else (some false)) else (some false))))) (fun K => ?_) ?_
    · simp only [inkhornlaw7_AutoNear.l0]
      rw [if_neg (by omega)]
    · refine Ev.bind (f := fun (K : Nat) (t317 : Int) => ((auto_Dist.f K q k (St k q.length (dp q p))).bind fun bt318 => (if t317 > k then (if bt318.1 = 0 then (if bt318.2 = true then (some false) else ((inkhornlaw7_awake.f K).bind fun t320 => (some t320))) else (some false)) else (if bt318.1 = t317 then (if bt318.2 = true then ((inkhornlaw7_awake.f K).bind fun t321 => (some t321)) else (some false)) else (some false))))) (runes_ev q p hq hp) ?_
      refine Ev.bind (f := fun (K : Nat) (bt318 : Int × Bool) => (if ((far q p : Nat) : Int) > k then (if bt318.1 = 0 then (if bt318.2 = true then (some false) else ((inkhornlaw7_awake.f K).bind fun t320 => (some t320))) else (some false)) else (if bt318.1 = ((far q p : Nat) : Int) then (if bt318.2 = true then ((inkhornlaw7_awake.f K).bind fun t321 => (some t321)) else (some false)) else (some false)))) (Dist_dp q p k hk hq) ?_
      by_cases c : far q p ≤ k
      · have c' : ¬ (((far q p : Nat) : Int) > k) := by omega
        simp only [if_pos c, if_neg c', if_true]
        exact awake_bind
      · have c' : ((far q p : Nat) : Int) > k := by omega
        simp only [if_neg c, if_pos c', if_true, Bool.false_eq_true, if_false]
        exact awake_bind
  | succ d ih =>
    intro i hi
    have h1 := Step_dp q (p.take i) (rd p (i : Int)) k hk hq
    have hfew := St_few q (p.take i ++ [rd p (i : Int)]) k
    have hdead := dead_on q (p.take i) (rd p (i : Int)) k
    rw [← take_succ_rd p i (by omega)] at h1 hfew hdead
    have hi2 := ih (i + 1) (by omega)
    generalize St k q.length (dp q (p.take (i + 1))) = s' at h1 hfew hdead hi2
    generalize St k q.length (dp q (p.take i)) = s at h1 hdead
    refine Ev.step (f := fun K => (auto_Step.f K q k s (rd p (i : Int))).bind fun t311 => (if (t311.length : Int) > (wrap64 ((wrap64 (2 * (k : Int))) + 1)) then (some false) else (if decide (s = []) = true then ((auto_Dead.f t311).bind fun t314 => (if t314 = true then ((auto_Dead.f t311).bind fun t315 => (if (t315 != ((t311.length : Int) == 0)) = true then (some false) else (inkhornlaw7_AutoNear.l0 K q p k t311 (wrap64 ((i : Int) + 1))))) else (some false))) else ((auto_Dead.f t311).bind fun t316 => (if (t316 != ((t311.length : Int) == 0)) = true then (some false) else (inkhornlaw7_AutoNear.l0 K q p k t311 (wrap64 ((i : Int) + 1)))))))) (fun K => ?_) (Ev.bind h1 (Ev.congr (fun K => ?_) hi2))
    · simp only [inkhornlaw7_AutoNear.l0]
      rw [if_pos (by omega), dead_f s, Option.bind_some, if_pos (by omega), len_zero s]
    · rw [if_neg (by rw [wr (2 * (k : Int)) (by omega) (by omega), wr _ (by omega) (by omega)]; omega)]
      simp only [dead_f, Option.bind_some, bne_self_eq_false, Bool.false_eq_true, if_false]
      rw [wr _ (by omega) (by omega)]
      by_cases c : s = []
      · rw [if_pos (by simpa using c), if_pos (by rw [len_zero]; simpa using hdead c)]
        rfl
      · rw [if_neg (by simpa using c)]
        rfl
theorem AutoNear : inkhornlaw7_AutoNear.Pure := by
  intro l0 l1 a2 _ _ _ _ _ _ _
  apply Ev.rounds
  by_cases h : 16 < l0.length ∨ 16 < l1.length
  · refine Ev.congr (fun K => ?_) awake_bind
    unfold inkhornlaw7_AutoNear.f
    rw [long_ev, Option.bind_some, if_pos (by simpa using h)]
  · obtain ⟨k, hk, hlow⟩ := Low_any a2 5 (.inr rfl)
    have hlow' : inkhornlaw0_Low.f a2 5 = some (k : Int) := hlow
    refine Ev.congr (fun K => ?_) (near_l0 l0 l1 k (by omega) (by omega) (by omega) l1.length 0 (by omega))
    unfold inkhornlaw7_AutoNear.f
    rw [long_ev, Option.bind_some, if_neg (by simpa using h), hlow', Option.bind_some, Start_St l0 k (by omega), Option.bind_some]
    rfl
end Go.Proofs.Ytlbblankafjedaa.Pure
