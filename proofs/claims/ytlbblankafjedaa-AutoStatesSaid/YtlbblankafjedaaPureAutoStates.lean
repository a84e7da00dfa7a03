/- The law AutoStates as a statement over lists alone: the reference's state of each beginning is the automaton's. -/
import Derived.Test.YtlbblankafjedaaAmD
import Derived.Test.YtlbblankafjedaaOStates
namespace Go.Proofs.Ytlbblankafjedaa.Pure
open Go.RowKit Go.Proofs.Ytlbblankafjedaa.OAuto Go.Proofs.YtlbblankafjedaaW.PrintWords Go.Proofs.YtlbblankafjedaaW.PrintLast Go.Proofs.Ytlbblankafjedaa.Am

theorem mkRow_range (g : Nat → Int) (m : Nat) : (List.range (m + 1)).map g = (List.range m).map g ++ [g m] := by
  rw [List.range_succ, List.map_append]
  rfl
theorem rows_l0 (a b : List Int) (ha : a.length ≤ 16) (hb : b.length ≤ 16) :
    ∀ (d i : Nat), i + d = a.length + 1 → Ev (fun K => inkhornref5_Rows.l0 K a b (tab a b (a.length + 1)) ((List.range i).map fun i => ((dp a b i : Nat) : Int)) (i : Int)) (mkRow a.length (fun i => ((dp a b i : Nat) : Int))) := by
  intro d
  induction d with
  | zero =>
    intro i hi
    obtain rfl : i = a.length + 1 := by omega
    refine Ev.step (fun K => ?_) (Ev.now _)
    simp only [inkhornref5_Rows.l0]
    rw [if_neg (by omega)]
    rfl
  | succ d ih =>
    intro i hi
    have h := ih (i + 1) (by omega)
    rw [mkRow_range] at h
    have hw : wrap64 ((i : Int) + 1) = ((i + 1 : Nat) : Int) := by rw [wr _ (by omega) (by omega)]; rfl
    refine Ev.step (fun K => ?_) h
    simp only [inkhornref5_Rows.l0]
    rw [if_pos (by omega), if_pos (by omega), if_pos (by rw [tab_len]; omega), if_pos (by omega), tab_rd a b _ i (by omega), if_pos (by rw [trow_len]; omega), if_pos (by simp; omega), trow_rd a b _ _ b.length (by omega), List.take_length, hw]
theorem rows_ev (a b : List Int) (ha : a.length ≤ 16) (hb : b.length ≤ 16) : Ev (fun K => inkhornref5_Rows.f K a b) (mkRow a.length (fun i => ((dp a b i : Nat) : Int))) :=
  Ev.bind (f := fun K t => inkhornref5_Rows.l0 K a b t ([] : List Int) 0) (table_ev a b ha hb) (rows_l0 a b ha hb (a.length + 1) 0 (by omega))

/-! ### The reference's two passes -/
def near_ (k : Nat) (f : Nat → Nat) (j : Nat) : Bool := decide (f j ≤ k)
def pos_ (f : Nat → Nat) (j : Nat) : S35 := ⟨(j : Int), (f j : Int)⟩
def all_ (k n : Nat) (f : Nat → Nat) : List S35 := ((List.range (n + 1)).filter (near_ k f)).map (pos_ f)
/-- Does a position stay among others? -/
def stays (l : List S35) (p : S35) : Bool := !l.any (fun b => decide (b.f1 < p.f1) && decide (max (p.f0 - b.f0) (b.f0 - p.f0) ≤ p.f1 - b.f1))
theorem mem_all {k n : Nat} {f : Nat → Nat} {p : S35} : p ∈ all_ k n f ↔ ∃ j, j ≤ n ∧ f j ≤ k ∧ p = pos_ f j := by
  unfold all_
  simp only [List.mem_map, List.mem_filter, List.mem_range, Nat.lt_succ_iff, near_, decide_eq_true_eq]
  constructor
  · rintro ⟨j, ⟨h1, h2⟩, rfl⟩; exact ⟨j, h1, h2, rfl⟩
  · rintro ⟨j, h1, h2, rfl⟩; exact ⟨j, ⟨h1, h2⟩, rfl⟩
theorem all_len (k n : Nat) (f : Nat → Nat) : (all_ k n f).length ≤ n + 1 := by
  unfold all_
  rw [List.length_map]
  exact Nat.le_trans (List.length_filter_le _ _) (by simp)
theorem stays_iff (l : List S35) (p : S35) : stays l p = true ↔ ∀ b ∈ l, ¬ (b.f1 < p.f1 ∧ max (p.f0 - b.f0) (b.f0 - p.f0) ≤ p.f1 - b.f1) := by
  unfold stays
  simp only [Bool.not_eq_true', List.any_eq_false, Bool.and_eq_true, decide_eq_true_eq]
theorem stays_keep (k n : Nat) (f : Nat → Nat) (j : Nat) : (near_ k f j && stays (all_ k n f) (pos_ f j)) = keep k n f j := by
  rw [Bool.eq_iff_iff, Bool.and_eq_true, stays_iff, keep_iff]
  unfold near_
  rw [decide_eq_true_eq]
  constructor
  · rintro ⟨h1, h2⟩
    refine ⟨h1, fun i hi h3 h4 => h2 (pos_ f i) (mem_all.2 ⟨i, hi, by omega, rfl⟩) ?_⟩
    simp only [pos_]
    omega
  · rintro ⟨h1, h2⟩
    refine ⟨h1, fun b hb h3 => ?_⟩
    obtain ⟨i, hi, h4, rfl⟩ := mem_all.1 hb
    simp only [pos_] at h3
    exact h2 i hi (by omega) (by omega)
theorem all_stays (k n : Nat) (f : Nat → Nat) : (all_ k n f).filter (stays (all_ k n f)) = St k n f := by
  unfold St
  have h : ∀ j ∈ List.range (n + 1), keep k n f j = (near_ k f j && stays (all_ k n f) (pos_ f j)) := fun j _ => (stays_keep k n f j).symm
  rw [List.filter_congr h]
  conv => lhs; unfold all_
  rw [List.filter_map, List.filter_filter]
  have e : ∀ l : List Nat, (l.filter fun a => (stays (List.map (pos_ f) (List.filter (near_ k f) (List.range (n + 1)))) ∘ pos_ f) a && near_ k f a) = l.filter fun x => near_ k f x && stays (all_ k n f) (pos_ f x) := by
    intro l
    apply List.filter_congr
    intro x _
    rw [Bool.and_comm]
    rfl
  rw [e]
  rfl
theorem st_l2 (l out : List S35) (hl : l.length ≤ 100) (ho : out.length ≤ 100) (hv : ∀ p ∈ l, 0 ≤ p.f0 ∧ p.f0 ≤ 100 ∧ 0 ≤ p.f1 ∧ p.f1 ≤ 100) (i : Nat) (hi : i < l.length) (R : List S35) :
    ∀ (suf pre : List S35) (b : Bool), l = pre ++ suf →
      (∀ b', (b' = true ↔ (b = true ∧ ∀ c ∈ suf, ¬ (c.f1 < (l[i]).f1 ∧ max ((l[i]).f0 - c.f0) (c.f0 - (l[i]).f0) ≤ (l[i]).f1 - c.f1))) →
        Ev (fun K => if b' = true then (inkhornref7_State.l1 K l (out ++ [l[i]]) ((i + 1 : Nat) : Int)) else (inkhornref7_State.l1 K l out ((i + 1 : Nat) : Int))) R) →
      Ev (fun K => inkhornref7_State.l2 K l out (i : Int) b (pre.length : Int)) R := by
  have hxi : rd_T35 l (i : Int) = l[i] := by simp [rd_T35, List.getD_eq_getElem?_getD, List.getElem?_eq_getElem hi]
  have hvi := hv l[i] (List.getElem_mem hi)
  generalize l[i] = x at hxi hvi
  intro suf
  induction suf with
  | nil =>
    intro pre b he hc
    have hpl : pre.length = l.length := by rw [he]; simp
    refine Ev.step (fun K => ?_) (hc b ⟨fun h => ⟨h, fun c hc => by cases hc⟩, fun h => h.1⟩)
    simp only [inkhornref7_State.l2]
    have hw : wrap64 ((i : Int) + 1) = ((i + 1 : Nat) : Int) := by rw [wr _ (by omega) (by omega)]; rfl
    rw [if_neg (by omega), hxi, hw]
    by_cases hb : b = true
    · rw [if_pos hb, if_pos hb, if_pos (by omega), if_pos (by omega), if_pos (by omega)]
    · rw [if_neg hb, if_neg hb]
  | cons c suf ih =>
    intro pre b he hc
    have hpl : l.length = pre.length + (suf.length + 1) := by rw [he]; simp
    have hxc : rd_T35 l (pre.length : Int) = c := by rw [he]; exact rd_T35_mid _ _ _
    have hvc := hv c (by rw [he]; simp)
    have hw : wrap64 ((pre.length : Int) + 1) = ((pre ++ [c]).length : Int) := by rw [wr _ (by omega) (by omega)]; simp
    have w1 : wrap64 (x.f0 - c.f0) = x.f0 - c.f0 := wr _ (by omega) (by omega)
    have w2 : wrap64 (c.f0 - x.f0) = c.f0 - x.f0 := wr _ (by omega) (by omega)
    have w3 : wrap64 (x.f1 - c.f1) = x.f1 - c.f1 := wr _ (by omega) (by omega)
    by_cases hb : c.f1 < x.f1 ∧ max (x.f0 - c.f0) (c.f0 - x.f0) ≤ x.f1 - c.f1
    · refine Ev.step (fun K => ?_) (ih (pre ++ [c]) false (by rw [he]; simp) fun b' hb' => hc b' (hb'.trans ⟨fun h => absurd h.1 (by simp), fun h => absurd hb (h.2 c (List.mem_cons_self ..))⟩))
      simp only [inkhornref7_State.l2]
      rw [if_pos (by omega), if_pos (by omega), if_pos (by omega), if_pos (by omega), hxi, hxc, if_pos hb.1, w1, w2, w3, mx_eq, if_pos hb.2, hw]
    · refine Ev.step (fun K => ?_) (ih (pre ++ [c]) b (by rw [he]; simp) fun b' hb' => hc b' (hb'.trans ⟨fun h => ⟨h.1, fun c' hc' => by
        rcases List.mem_cons.1 hc' with rfl | hc'
        · exact hb
        · exact h.2 c' hc'⟩, fun h => ⟨h.1, fun c' hc' => h.2 c' (List.mem_cons_of_mem _ hc')⟩⟩))
      simp only [inkhornref7_State.l2]
      rw [if_pos (by omega), if_pos (by omega), if_pos (by omega), if_pos (by omega), hxi, hxc, w1, w2, w3, mx_eq, hw]
      by_cases h1 : c.f1 < x.f1
      · rw [if_pos h1, if_neg (fun h2 => hb ⟨h1, h2⟩)]
      · rw [if_neg h1]
theorem st_l1 (l : List S35) (hl : l.length ≤ 100) (hv : ∀ p ∈ l, 0 ≤ p.f0 ∧ p.f0 ≤ 100 ∧ 0 ≤ p.f1 ∧ p.f1 ≤ 100) :
    ∀ (suf pre out : List S35), l = pre ++ suf → out.length ≤ pre.length → Ev (fun K => inkhornref7_State.l1 K l out (pre.length : Int)) (out ++ suf.filter (stays l)) := by
  intro suf
  induction suf with
  | nil =>
    intro pre out he _
    have hpl : pre.length = l.length := by rw [he]; simp
    refine Ev.step (fun K => ?_) (Ev.now _)
    simp only [inkhornref7_State.l1]
    rw [if_neg (by omega)]
    simp
  | cons x suf ih =>
    intro pre out he ho
    have hpl : l.length = pre.length + (suf.length + 1) := by rw [he]; simp
    have hi : pre.length < l.length := by omega
    have hxi : l[pre.length] = x := by simp [he]
    refine Ev.step (fun K => ?_) (st_l2 l out hl (by omega) hv pre.length hi _ l [] true rfl fun b' hb' => ?_)
    · simp only [inkhornref7_State.l1]
      rw [if_pos (by omega)]
      rfl
    · rw [hxi] at hb' ⊢
      have hs : stays l x = b' := by
        rw [Bool.eq_iff_iff, stays_iff, hb']
        exact ⟨fun h => ⟨rfl, h⟩, fun h => h.2⟩
      rw [List.filter_cons, hs]
      have hlen : ((pre.length + 1 : Nat) : Int) = ((pre ++ [x]).length : Int) := by simp
      cases b' with
      | true =>
        simp only [if_true]
        have := ih (pre ++ [x]) (out ++ [x]) (by rw [he]; simp) (by simp; omega)
        rw [hlen]
        simpa [List.append_assoc] using this
      | false =>
        simp only [Bool.false_eq_true, if_false]
        have := ih (pre ++ [x]) out (by rw [he]; simp) (by simp; omega)
        rw [hlen]
        exact this
theorem st_l0 (k n : Nat) (hk : k ≤ 4) (hn : n ≤ 16) (f : Nat → Nat) :
    ∀ (d i : Nat) (acc : List S35), i + d = n + 1 → acc.length ≤ i → acc ++ ((List.range' i d).filter (near_ k f)).map (pos_ f) = all_ k n f →
      Ev (fun K => inkhornref7_State.l0 K k acc ([] : List S35) (mkRow n (fun i => ((f i : Nat) : Int))) (i : Int)) (St k n f) := by
  have hr := isRow_mk n (fun i => ((f i : Nat) : Int))
  have hl := hr.len
  intro d
  induction d with
  | zero =>
    intro i acc hi ha he
    have hacc : acc = all_ k n f := by rw [← he]; simp
    have hlen := all_len k n f
    have hv : ∀ p ∈ all_ k n f, 0 ≤ p.f0 ∧ p.f0 ≤ 100 ∧ 0 ≤ p.f1 ∧ p.f1 ≤ 100 := by
      intro p hp
      obtain ⟨j, hj, hfj, rfl⟩ := mem_all.1 hp
      simp only [pos_]
      omega
    have h := st_l1 (all_ k n f) (by omega) hv (all_ k n f) [] [] rfl (Nat.le_refl _)
    rw [List.nil_append, all_stays] at h
    refine Ev.step (fun K => ?_) h
    simp only [inkhornref7_State.l0]
    rw [if_neg (by omega), hacc]
    rfl
  | succ d ih =>
    intro i acc hi ha he
    have hrd := hr.rd_ i (by omega)
    have hw : wrap64 ((i : Int) + 1) = ((i + 1 : Nat) : Int) := by rw [wr _ (by omega) (by omega)]; rfl
    rw [List.range'_succ, List.filter_cons] at he
    by_cases c : f i ≤ k
    · have hc : near_ k f i = true := by unfold near_; simpa using c
      rw [hc, if_pos rfl, List.map_cons] at he
      refine Ev.step (fun K => ?_) (ih (i + 1) (acc ++ [pos_ f i]) (by omega) (by simp; omega) (by rw [← he]; simp))
      simp only [inkhornref7_State.l0]
      rw [if_pos (by omega), if_pos (by omega), hrd, if_pos (by omega), if_pos (by omega), hw]
      rfl
    · have hc : near_ k f i = false := by unfold near_; simpa using c
      rw [hc, if_neg (by simp)] at he
      refine Ev.step (fun K => ?_) (ih (i + 1) acc (by omega) (by omega) he)
      simp only [inkhornref7_State.l0]
      rw [if_pos (by omega), if_pos (by omega), hrd, if_neg (by omega), hw]
theorem state_ev (q p : List Int) (k : Nat) (hk : k ≤ 4) (hq : q.length ≤ 16) (hp : p.length ≤ 16) : Ev (fun K => inkhornref7_State.f K q p k) (St k q.length (dp q p)) := by
  have h := st_l0 k q.length hk hq (dp q p) (q.length + 1) 0 [] (by omega) (by simp) (by rw [← List.range_eq_range']; rfl)
  refine Ev.congr (f := fun K => inkhornref7_State.j0 K q p k ([] : List S35) ([] : List S35) false) (fun K => ?_) (Ev.step (fun K => ?_) (Ev.bind (f := fun K t => inkhornref7_State.l0 K k ([] : List S35) ([] : List S35) t 0) (rows_ev q p hq hp) h))
  · unfold inkhornref7_State.f
    rw [if_neg (by omega), show decide ((k : Int) > 4) = false by simp; omega]
  · simp only [inkhornref7_State.j0, Bool.false_eq_true, if_false]
theorem state_none (q p : List Int) (a : Int) (h : a < 0 ∨ 4 < a) : Ev (fun K => inkhornref7_State.f K q p a) [] := by
  refine Ev.congr (f := fun K => inkhornref7_State.j0 K q p a ([] : List S35) ([] : List S35) true) (fun K => ?_) (Ev.step (fun K => ?_) (Ev.now _))
  · unfold inkhornref7_State.f
    by_cases c : a < 0
    · rw [if_pos c]
    · rw [if_neg c, show decide (a > 4) = true by simp; omega]
  · simp only [inkhornref7_State.j0, if_true]
theorem over_ev (s : List S35) (hs : s.length ≤ 1000) : Ev (fun K => inkhornlaw0_OverPoses.f K s) () := by
  have key : ∀ (d i : Nat) (t : List S35), t.length = s.length → i + d = s.length → Ev (fun K => inkhornlaw0_OverPoses.l0 K t (i : Int)) () := by
    intro d
    induction d with
    | zero =>
      intro i t ht hi
      refine Ev.step (fun K => ?_) (Ev.now _)
      simp only [inkhornlaw0_OverPoses.l0]
      rw [if_neg (by omega), if_pos (by omega)]
    | succ d ih =>
      intro i t ht hi
      refine Ev.step (fun K => ?_) (ih (i + 1) (t.set i (⟨-9, 0⟩ : S35)) (by rw [List.length_set]; exact ht) (by omega))
      simp only [inkhornlaw0_OverPoses.l0]
      rw [if_pos (by omega), if_pos (by omega), wr _ (by omega) (by omega)]
      rfl
  exact key s.length 0 s rfl (by omega)
/-- Finitely many that come to their answers come to them at one number of rounds. -/
theorem ev_all {α : Type} (g : Nat → Nat → Option α) (r : Nat → α) : ∀ n, (∀ i, i ≤ n → Ev (g i) (r i)) → ∃ K, ∀ k, K ≤ k → ∀ i, i ≤ n → g i k = some (r i) := by
  intro n
  induction n with
  | zero =>
    intro h
    obtain ⟨K, hK⟩ := h 0 (Nat.le_refl _)
    exact ⟨K, fun k hk i hi => by obtain rfl : i = 0 := by omega
                                  exact hK k hk⟩
  | succ n ih =>
    intro h
    obtain ⟨K, hK⟩ := ih (fun i hi => h i (by omega))
    obtain ⟨K', hK'⟩ := h (n + 1) (Nat.le_refl _)
    refine ⟨max K K', fun k hk i hi => ?_⟩
    by_cases e : i = n + 1
    · subst e; exact hK' k (by omega)
    · exact hK k (by omega) i (by omega)
theorem AutoStates : inkhornlaw7_AutoStates.Pure := by
  intro q p a
  obtain ⟨K0, hK0⟩ := awake_ev
  by_cases h : 16 < q.length ∨ 16 < p.length
  · exact ⟨K0, hK0 K0 (Nat.le_refl _), .inl (by rw [long_ev]; simpa using h)⟩
  · have hlg : inkhornlaw7_long.f q p = some false := by rw [long_ev]; simpa using h
    have hq : q.length ≤ 16 := by omega
    have hp : p.length ≤ 16 := by omega
    by_cases hk : 0 ≤ a ∧ a ≤ 4
    · obtain ⟨k, rfl⟩ : ∃ k : Nat, a = k := ⟨a.toNat, by omega⟩
      have hk4 : k ≤ 4 := by omega
      obtain ⟨K1, h1⟩ := ev_all (fun i K => inkhornref7_State.f K q (p.take i) k) (fun i => St k q.length (dp q (p.take i))) p.length (fun i hi => state_ev q (p.take i) k hk4 hq (by rw [List.length_take]; omega))
      obtain ⟨K2, h2⟩ := ev_all (fun i K => auto_Step.f K q k (St k q.length (dp q (p.take i))) (rd p (i : Int))) (fun i => St k q.length (dp q (p.take i ++ [rd p (i : Int)]))) p.length (fun i hi => Step_dp q (p.take i) (rd p (i : Int)) k hk4 hq)
      obtain ⟨K3, h3⟩ := ev_all (fun i K => inkhornlaw0_SamePoses.f K (St k q.length (dp q (p.take i))) (St k q.length (dp q (p.take i)))) (fun _ => true) p.length (fun i hi => same_ev _ (by have := St_len k q.length (dp q (p.take i)); omega))
      obtain ⟨K4, h4⟩ := ev_all (fun i K => inkhornlaw0_OverPoses.f K (St k q.length (dp q (p.take i)))) (fun _ => ()) p.length (fun i hi => over_ev _ (by have := St_len k q.length (dp q (p.take i)); omega))
      refine ⟨max K0 (max (max K1 K2) (max K3 K4)), hK0 _ (by omega), .inr ⟨hlg, by omega, fun i => St k q.length (dp q (p.take i)), ?_⟩⟩
      refine ⟨Start_St q k hk4, ?_, fun i hi _ _ => h1 _ (by omega) i hi, fun i hi _ _ => ?_, fun i hi => h3 _ (by omega) i hi, fun i hi => h4 _ (by omega) i hi, fun i hi => by have := St_len k q.length (dp q (p.take i)); omega⟩
      · have := h1 (max K0 (max (max K1 K2) (max K3 K4))) (by omega) 0 (Nat.zero_le _)
        simpa using this
      · have := h2 (max K0 (max (max K1 K2) (max K3 K4))) (by omega) i (by omega)
        rw [← take_succ_rd p i hi] at this
        exact this
    · have hbad : a < 0 ∨ 4 < a := by omega
      obtain ⟨K1, h1⟩ := state_none q [] a hbad
      obtain ⟨K3, h3⟩ := same_ev [] (by simp)
      obtain ⟨K4, h4⟩ := over_ev [] (by simp)
      refine ⟨max K0 (max K1 (max K3 K4)), hK0 _ (by omega), .inr ⟨hlg, by omega, fun _ => [], ?_⟩⟩
      refine ⟨?_, h1 _ (by omega), fun i hi h0 h4 => by omega, fun i hi h0 h4 => by omega, fun i hi => h3 _ (by omega), fun i hi => h4 _ (by omega), fun i hi => by simp⟩
      unfold auto_Start.f auto_may.f
      by_cases c : a ≥ 0
      · rw [if_pos c, show decide (a ≤ 4) = false by simp; omega]; rfl
      · rw [if_neg c]; rfl
end Go.Proofs.Ytlbblankafjedaa.Pure
