/- What the automaton tells of a text behind another one's runes; what the table of all beginnings tells. -/
import Derived.Test.YtlbblankafjedaaAmB
namespace Go.Proofs.Ytlbblankafjedaa.Am
open Go.RowKit Go.Proofs.Ytlbblankafjedaa.OAuto Go.Proofs.YtlbblankafjedaaW.PrintWords Go.Proofs.YtlbblankafjedaaW.PrintLast Go.Proofs.YtlbblankafjedaaW.PrintMore

theorem rd_nat (xs : List Int) (i : Nat) : rd xs (i : Int) = xs.getD i 0 := by unfold rd; rw [Int.toNat_natCast]
theorem awake_ev : Ev (fun K => inkhornlaw7_awake.f K) true := Ev.of (g := fun K => inkhornlaw7_awake.f K) (fun k => inkhornlaw7_awake.mono k) (k := 40) (by decide +kernel)
theorem awake_bind : Ev (fun K => (inkhornlaw7_awake.f K).bind fun t => some t) true := Ev.congr (fun _ => bind_self _) awake_ev
theorem St_start (k : Nat) (n : Nat) : St k n (fun i => i) = [⟨0, 0⟩] := by
  unfold St
  rw [List.range_eq_range', List.range'_succ, List.filter_cons]
  have h0 : keep k n (fun i => i) 0 = true := (keep_iff _ _ _ _).2 ⟨Nat.zero_le _, fun i _ h => by omega⟩
  rw [h0, if_pos rfl]
  have h1 : (List.range' (0 + 1) n).filter (keep k n (fun i => i)) = [] := by
    rw [List.filter_eq_nil_iff]
    intro j hj
    rw [List.mem_range'] at hj
    obtain ⟨m, hm, rfl⟩ := hj
    rw [keep_iff]
    intro h
    have := h.2 0 (Nat.zero_le _) (by omega)
    omega
  rw [h1]
  rfl
theorem Start_St (q : List Int) (k : Nat) (hk : k ≤ 4) : auto_Start.f q k = some (St k q.length (dp q [])) := by
  unfold auto_Start.f
  rw [may_yes k hk, Option.bind_some, if_pos rfl]
  rw [show dp q [] = fun i => i from rfl, St_start]
theorem Step_dp (q p : List Int) (r : Int) (k : Nat) (hk : k ≤ 4) (hq : q.length ≤ 16) :
    Ev (fun K => auto_Step.f K q k (St k q.length (dp q p)) r) (St k q.length (dp q (p ++ [r]))) := by
  rw [dp_snoc]
  exact Step_St q r k hk hq _ (lip_dp q p)
theorem take_succ_rd (p : List Int) (i : Nat) (h : i < p.length) : p.take (i + 1) = p.take i ++ [rd p (i : Int)] := by
  rw [take_snoc p i h, rd_nat]
theorem Dist_dp (q p : List Int) (k : Nat) (hk : k ≤ 4) (hq : q.length ≤ 16) :
    Ev (fun K => auto_Dist.f K q k (St k q.length (dp q p))) (if far q p ≤ k then ((far q p : Int), true) else (0, false)) := by
  have hr := cap_row k q.length (dp q p)
  have h1 := hr.rd_ q.length (Nat.le_refl _)
  refine Ev.congr (f := fun K => (auto_spread.f K q k (St k q.length (dp q p))).bind fun t268 => (if 0 ≤ (q.length : Int) then (if (q.length : Int) < (t268.length : Int) then (if (rd t268 (q.length : Int)) > k then (some (0, false)) else (some (rd t268 (q.length : Int), true))) else (none)) else (none))) (fun K => ?_) (Ev.bind (spread_St q k hk hq _ (lip_dp q p)) (Ev.congr (fun K => ?_) (Ev.now _)))
  · unfold auto_Dist.f
    rw [may_yes k hk, Option.bind_some, if_pos rfl]
  · rw [if_pos (by omega), if_pos (by rw [hr.len]; omega), h1]
    unfold far
    by_cases c : dp q p q.length ≤ k
    · rw [if_pos c, if_neg (by omega), show min (dp q p q.length) (k + 1) = dp q p q.length by omega]
    · rw [if_neg c, if_pos (by omega)]
theorem same_ev (s : List S35) (hs : s.length ≤ 1000) : Ev (fun K => inkhornlaw0_SamePoses.f K s s) true := by
  have key : ∀ (d i : Nat), i + d = s.length → Ev (fun K => inkhornlaw0_SamePoses.l0 K s s (i : Int)) true := by
    intro d
    induction d with
    | zero =>
      intro i hi
      refine Ev.step (fun K => ?_) (Ev.now _)
      simp only [inkhornlaw0_SamePoses.l0]
      rw [if_neg (by omega)]
    | succ d ih =>
      intro i hi
      refine Ev.step (fun K => ?_) (ih (i + 1) (by omega))
      simp only [inkhornlaw0_SamePoses.l0]
      rw [if_pos (by omega), if_pos (by omega), if_pos (by omega), if_neg (by simp), wr _ (by omega) (by omega)]
      rfl
  refine Ev.congr (fun K => ?_) (key s.length 0 (by omega))
  unfold inkhornlaw0_SamePoses.f
  rw [if_pos rfl]
  rfl
theorem Low_any (a : Int) (n : Nat) (h : (n = 4) ∨ (n = 5)) : ∃ k : Nat, k < n ∧ inkhornlaw0_Low.f a n = some (k : Int) := by
  have hu : IntKind.u64.wrap (n : Int) = n := by rcases h with rfl | rfl <;> decide
  have hr : 0 ≤ IntKind.u64.wrap a := by
    simp only [IntKind.wrap, IntKind.signed, IntKind.bits]
    simp
    omega
  refine ⟨(Int.tmod (IntKind.u64.wrap a) n).toNat, ?_, ?_⟩
  · have h1 := Int.tmod_lt_of_pos (IntKind.u64.wrap a) (show (0 : Int) < n by omega)
    have h2 := Int.tmod_nonneg (n : Int) hr
    omega
  · unfold inkhornlaw0_Low.f
    have h1 := Int.tmod_lt_of_pos (IntKind.u64.wrap a) (show (0 : Int) < n by omega)
    have h2 := Int.tmod_nonneg (n : Int) hr
    rw [hu, if_neg (by omega), wr _ (by omega) (by omega), Int.toNat_of_nonneg h2]
theorem behind_dp (q p : List Int) (k : Nat) (hk : k ≤ 4) (hq : q.length ≤ 16) (hp : p.length ≤ 16) :
    Ev (fun K => inkhornlaw7_behind.f K q k p) (St k q.length (dp q p)) := by
  have key : ∀ (d i : Nat), i + d = p.length → Ev (fun K => inkhornlaw7_behind.l0 K q k p (St k q.length (dp q (p.take i))) (i : Int)) (St k q.length (dp q p)) := by
    intro d
    induction d with
    | zero =>
      intro i hi
      refine Ev.step (fun K => ?_) (Ev.now _)
      simp only [inkhornlaw7_behind.l0]
      rw [if_neg (by omega), List.take_of_length_le (by omega)]
    | succ d ih =>
      intro i hi
      have h1 := Step_dp q (p.take i) (rd p (i : Int)) k hk hq
      rw [← take_succ_rd p i (by omega)] at h1
      refine Ev.step (fun K => ?_) (Ev.bind (f := fun K t => inkhornlaw7_behind.l0 K q k p t ((i + 1 : Nat) : Int)) h1 (ih (i + 1) (by omega)))
      simp only [inkhornlaw7_behind.l0]
      rw [if_pos (by omega), if_pos (by omega), wr _ (by omega) (by omega)]
      rfl
  refine Ev.congr (fun K => ?_) (key p.length 0 (by omega))
  unfold inkhornlaw7_behind.f
  rw [Start_St q k hk, Option.bind_some]
  rfl
theorem long_ev (l0 l1 : List Int) : inkhornlaw7_long.f l0 l1 = some (decide (16 < l0.length ∨ 16 < l1.length)) := by
  unfold inkhornlaw7_long.f
  by_cases h : l0.length > 16
  · rw [if_pos (by omega)]; simp [h]
  · rw [if_neg (by omega)]
    congr 1
    rw [decide_eq_decide]
    omega
end Go.Proofs.Ytlbblankafjedaa.Am
