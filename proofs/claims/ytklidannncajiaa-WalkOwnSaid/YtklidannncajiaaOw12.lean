/- What the row of the law WalkOwn leans on: contracts of functions and plain laws, each for all inputs that its own theorem names. -/
import Derived.Test.YtklidannncajiaaOw11
import Derived.Test.YtklidannncajiaaOw1
import Derived.Test.YtklidannncajiaaOw0
import Derived.Test.YtklidannncajiaaOw2
import Derived.Test.YtklidannncajiaaOw9
import Derived.Outline
namespace Go.Proofs.Ytklidannncajiaa.OW
open Go.RowKit Go.Proofs.YtklidannncajiaaW.PrintWords Go.Proofs.YtklidannncajiaaW.PrintLast Go.Proofs.YtklidannncajiaaW.PrintMore Go.Proofs.Ytklidannncajiaa.Am

/-- Is an item ahead of another one? -/
def lessP (a b : S24) : Bool := decide (a.f0 < b.f0 ∨ (a.f0 = b.f0 ∧ ltB a.f1 b.f1))
theorem or_eq (k : Nat) (a b : Int) : cmp_Or_int.f (k + 3) [a, b] = some (if a = 0 then b else a) := by
  unfold cmp_Or_int.f
  simp only [cmp_Or_int.l0, List.length_cons, List.length_nil, rd]
  by_cases ha : a = 0
  · by_cases hb : b = 0
    · simp [ha, hb, wrap64]
    · simp [ha, hb, wrap64]
  · simp [ha]
theorem cmpInt_eq (a b : Int) : cmp_Compare_int.f a b = some (if a < b then -1 else if a > b then 1 else 0) := by
  unfold cmp_Compare_int.f cmp_isNaN_int.f
  simp only [Option.bind_some, bne_self_eq_false, Bool.false_eq_true, if_false]
  by_cases h1 : a < b
  · rw [if_pos h1, if_pos h1]
  · rw [if_neg h1, if_neg h1]
    by_cases h2 : a > b
    · rw [if_pos h2, if_pos h2]
    · rw [if_neg h2, if_neg h2]
theorem compareP_eq (k : Nat) (hk : 3 ≤ k) (a b : S24) : rank_compare.f k a.f0 a.f1 b.f0 b.f1 = some (if a.f0 < b.f0 then -1 else if a.f0 > b.f0 then 1 else Lib.compareBytes a.f1.data.toList b.f1.data.toList) := by
  obtain ⟨m, rfl⟩ : ∃ m, k = m + 3 := ⟨k - 3, by omega⟩
  unfold rank_compare.f
  rw [cmpInt_eq, Option.bind_some, compare_eq, Option.bind_some, or_eq, Option.bind_some]
  congr 1
  by_cases h1 : a.f0 < b.f0
  · simp [h1]
  · by_cases h2 : a.f0 > b.f0
    · simp [h1, h2]
    · simp [h1, h2]
theorem less_eq (k : Nat) (hk : 3 ≤ k) (a b : S24) : rank_Less.f k a.f0 a.f1 b.f0 b.f1 = some (lessP a b) := by
  unfold rank_Less.f
  rw [compareP_eq k hk, Option.bind_some]
  congr 1
  unfold lessP ltB
  rw [Bool.eq_iff_iff]
  simp only [decide_eq_true_eq]
  by_cases h1 : a.f0 < b.f0
  · simp [h1]
  · by_cases h2 : a.f0 > b.f0
    · simp [h1, h2]; omega
    · have : a.f0 = b.f0 := by omega
      simp [this]
def keepP (first : Bool) (af x : S24) : Bool := first || lessP af x
theorem skip_eq (k : Nat) (hk : 3 ≤ k) (d : Int) (first : Bool) (af : S24) (s : ByteArray) : nextSkip k d first af s = some (!keepP first af ⟨d, s⟩) := by
  unfold nextSkip keepP
  cases first with
  | true => rfl
  | false =>
    rw [if_neg (by simp)]
    have := less_eq k hk af ⟨d, s⟩
    dsimp only at this
    rw [this]
    rfl
theorem nextStep_eq (k : Nat) (hk : 3 ≤ k) (d : Int) (first : Bool) (af : S24) (bt : Int) : nextStep k d first af bt = nextStep 3 d first af bt := by
  funext a s
  unfold nextStep
  rw [skip_eq k hk, skip_eq 3 (Nat.le_refl _)]
/-- Items are taken one by one; true: one more would have been taken. -/
def feed (first : Bool) (af : S24) (bt : Int) : List S24 → List S24 → List S24 × Bool
  | l, [] => (l, false)
  | l, x :: xs => if keepP first af x = true then (if (l.length : Int) = bt then (l, true) else feed first af bt (l ++ [x]) xs) else feed first af bt l xs
theorem feed_cons (first : Bool) (af : S24) (bt : Int) (l : List S24) (x : S24) (xs : List S24) : feed first af bt l (x :: xs) = if keepP first af x = true then (if (l.length : Int) = bt then (l, true) else feed first af bt (l ++ [x]) xs) else feed first af bt l xs := rfl
theorem feed_append (first : Bool) (af : S24) (bt : Int) : ∀ (u v l : List S24), feed first af bt l (u ++ v) = if (feed first af bt l u).2 = true then feed first af bt l u else feed first af bt (feed first af bt l u).1 v
  | [], v, l => by simp [feed]
  | x :: u, v, l => by
    rw [List.cons_append, feed_cons, feed_cons]
    by_cases h1 : keepP first af x = true
    · rw [if_pos h1, if_pos h1]
      by_cases h2 : (l.length : Int) = bt
      · rw [if_pos h2, if_pos h2, if_pos rfl]
      · rw [if_neg h2, if_neg h2]
        exact feed_append first af bt u v _
    · rw [if_neg h1, if_neg h1]
      exact feed_append first af bt u v l
theorem runs_next (d : Int) (first : Bool) (af : S24) (bt : Int) : ∀ (ws : List ByteArray) (l : List S24), l.length + ws.length ≤ 1000000 →
    runs (nextStep 3 d first af bt) (l, false) ws = some (feed first af bt l (ws.map fun w => ⟨d, w⟩), !(feed first af bt l (ws.map fun w => ⟨d, w⟩)).2)
  | [], l, _ => by simp [runs, feed]
  | w :: ws, l, h => by
    simp only [List.length_cons] at h
    show (nextStep 3 d first af bt (l, false) w).bind _ = _
    unfold nextStep
    rw [skip_eq 3 (Nat.le_refl _), Option.bind_some]
    simp only [List.map_cons]
    unfold feed
    by_cases hk : keepP first af ⟨d, w⟩ = true
    · rw [if_pos hk]
      simp only [hk, Bool.not_true, Bool.false_eq_true, if_false]
      by_cases hb : (l.length : Int) = bt
      · rw [if_pos hb, if_pos hb]; rfl
      · rw [if_neg hb, if_neg hb, if_pos (by omega)]
        simp only [Option.bind_some, Bool.not_false, if_true]
        exact runs_next d first af bt ws _ (by simp; omega)
    · rw [if_neg hk]
      have hk' : keepP first af ⟨d, w⟩ = false := by simpa using hk
      simp only [hk', Bool.not_false, if_true, Option.bind_some]
      exact runs_next d first af bt ws l (by omega)
theorem feed_eq (first : Bool) (af : S24) (bt : Nat) : ∀ (items l : List S24), l.length ≤ bt → feed first af bt l items = (l ++ (items.filter (keepP first af)).take (bt - l.length), decide (bt - l.length < (items.filter (keepP first af)).length))
  | [], l, _ => by simp [feed]
  | x :: xs, l, h => by
    unfold feed
    by_cases hk : keepP first af x = true
    · rw [if_pos hk, List.filter_cons, if_pos hk]
      by_cases hb : (l.length : Int) = bt
      · have : bt - l.length = 0 := by omega
        rw [if_pos hb, this]; simp
      · obtain ⟨m, hm⟩ : ∃ m, bt - l.length = m + 1 := ⟨bt - l.length - 1, by omega⟩
        rw [if_neg hb, feed_eq first af bt xs (l ++ [x]) (by simp; omega), hm]
        have : bt - (l ++ [x]).length = m := by simp; omega
        rw [this]
        simp
    · rw [if_neg hk, List.filter_cons, if_neg hk]
      exact feed_eq first af bt xs l h
/-- The items at distances from d on, n of them. -/
def level (q : List Int) (l : List ByteArray) (d : Nat) : List S24 := (near q d l).map fun w => ⟨(d : Int), w⟩
def levels (q : List Int) (l : List ByteArray) (d n : Nat) : List S24 := (List.range' d n).flatMap (level q l)
theorem levels_succ (q : List Int) (l : List ByteArray) (d n : Nat) : levels q l d (n + 1) = level q l d ++ levels q l (d + 1) n := by
  unfold levels
  rw [List.range'_succ, List.flatMap_cons]
theorem near_len (q : List Int) (d : Nat) (l : List ByteArray) : (near q d l).length ≤ l.length := List.length_filter_le _ _
theorem level_len (q : List Int) (l : List ByteArray) (d : Nat) : (level q l d).length ≤ l.length := by unfold level; rw [List.length_map]; exact near_len q d l
theorem feed_len (first : Bool) (af : S24) (bt : Int) : ∀ (items l : List S24), (feed first af bt l items).1.length ≤ l.length + items.length
  | [], l => by simp [feed]
  | x :: xs, l => by
    unfold feed
    split
    · split
      · simp
      · have := feed_len first af bt xs (l ++ [x])
        simp at this ⊢
        omega
    · have := feed_len first af bt xs l
      simp
      omega
/-- A graph of words: its first node stands for all of them. -/
structure Graph (ns : List S72) (l : List ByteArray) : Prop where
  rep : ∃ f, Rep f ns 0 l
  good : GoodR (restsOf l)
  size : bytesOf_ l + l.length ≤ 100000
theorem next_l0 (q : List Int) (hq : q.length ≤ 16) (ns : List S72) (l : List ByteArray) (hG : Graph ns l) (first : Bool) (af : S24) (bt : Int) (top : Nat) (ht : top ≤ 5) : ∀ (n d : Nat), d + n = top → ∀ (b : List S24), b.length + n * l.length ≤ 900000 →
    ∃ K0, ∀ k kq, K0 ≤ k → K0 ≤ kq → walk_Next.l0 k q ns first af bt top kq d (b, false) = some (feed first af bt b (levels q l d n)) := by
  intro n
  induction n with
  | zero =>
    intro d hd b _
    refine ⟨1, fun k kq _ hkq => ?_⟩
    obtain ⟨m, rfl⟩ : ∃ m, kq = m + 1 := ⟨kq - 1, by omega⟩
    simp only [walk_Next.l0]
    rw [if_neg (by omega)]
    simp [levels, feed]
  | succ n ih =>
    intro d hd b hb
    have hsz := hG.size
    have hnl := near_len q d l
    have hmul : (n + 1) * l.length = n * l.length + l.length := by rw [Nat.add_mul, Nat.one_mul]
    obtain ⟨f, hR⟩ := hG.rep
    have hrun := runs_next (d : Int) first af bt (near q d l) b (by omega)
    obtain ⟨K1, h1⟩ := each_ev q d ns (nextStep 3 (d : Int) first af bt) (by omega) hq f l hR hG.good hG.size (b, false) _ hrun
    have hlv : feed first af bt b ((near q d l).map fun w => ⟨(d : Int), w⟩) = feed first af bt b (level q l d) := rfl
    have hfl := feed_len first af bt (level q l d) b
    have hll := level_len q l d
    by_cases hm : (feed first af bt b (level q l d)).2 = true
    · refine ⟨max K1 3 + 1, fun k kq hk hkq => ?_⟩
      obtain ⟨m, rfl⟩ : ∃ m, kq = m + 1 := ⟨kq - 1, by omega⟩
      have h2 : walk_each.f k q d ns (nextStep 3 (d : Int) first af bt) (b, false) = some _ := h1 k (by omega)
      simp only [walk_Next.l0]
      rw [if_pos (by omega), nextStep_eq k (by omega), h2, Option.bind_some, hlv, if_pos hm, levels_succ, feed_append, if_pos hm]
    · obtain ⟨K2, h3⟩ := ih (d + 1) (by omega) (feed first af bt b (level q l d)).1 (by omega)
      refine ⟨max (max K1 3) K2 + 1, fun k kq hk hkq => ?_⟩
      obtain ⟨m, rfl⟩ : ∃ m, kq = m + 1 := ⟨kq - 1, by omega⟩
      have h2 : walk_each.f k q d ns (nextStep 3 (d : Int) first af bt) (b, false) = some _ := h1 k (by omega)
      simp only [walk_Next.l0]
      rw [if_pos (by omega), nextStep_eq k (by omega), h2, Option.bind_some, hlv, if_neg hm, levels_succ, feed_append, if_neg hm]
      have h4 := h3 k m (by omega) (by omega)
      have e : (feed first af bt b (level q l d)) = ((feed first af bt b (level q l d)).1, false) := Prod.ext rfl (by simpa using hm)
      rw [← h4]
      congr 1
/-- The next batch: the items of all distances up to k, behind 'after', as many as are wanted. -/
def allP (s : ByteArray) (k : Int) (l : List ByteArray) : List S24 := if mayAsk s k then levels (runes s 0) l 0 (k.toNat + 1) else []
def restP (s : ByteArray) (k : Int) (l : List ByteArray) (first : Bool) (af : S24) : List S24 := (allP s k l).filter (keepP first af)
def nextP (s : ByteArray) (k : Int) (l : List ByteArray) (first : Bool) (af : S24) (batch : Int) : List S24 × Bool := ((restP s k l first af).take batch.toNat, decide ((restP s k l first af).length ≤ batch.toNat))
theorem next_ev {ns : List S72} {l : List ByteArray} (hG : Graph ns l) (s : ByteArray) (hs : s.size ≤ 1000000) (k : Int) (first : Bool) (af : S24) (batch : Int) : Ev (fun K => walk_Next.f K ns s k first af batch) (nextP s k l first af batch) := by
  unfold nextP restP allP
  by_cases hm : mayAsk s k
  · obtain ⟨⟨hc, hl⟩, h0, h4⟩ := hm
    have hm : mayAsk s k := ⟨⟨hc, hl⟩, h0, h4⟩
    have hsz := hG.size
    obtain ⟨m, rfl⟩ := Int.eq_ofNat_of_zero_le h0
    obtain ⟨K0, hK⟩ := next_l0 (runes s 0) hl ns l hG first af (if batch < 0 then 0 else batch) (m + 1) (by omega) (m + 1) 0 (by omega) [] (by
      have : (m + 1) * l.length ≤ 5 * l.length := Nat.mul_le_mul_right _ (by omega)
      simp only [List.length_nil]
      omega)
    refine ⟨K0, fun k hk => ?_⟩
    have hK' := hK k k hk hk
    show walk_Next.f k ns s m first af batch = _
    unfold walk_Next.f
    rw [walk_asked_eq hs, if_pos hm, Option.bind_some, if_pos rfl]
    have hbt : (if batch < 0 then 0 else batch) = ((batch.toNat : Nat) : Int) := by split <;> omega
    rw [if_pos hm]
    rw [hbt] at hK' ⊢
    have e1 : ((m : Int) + 1) = ((m + 1 : Nat) : Int) := by omega
    rw [e1]
    show (walk_Next.l0 k (runes s 0) ns first af ((batch.toNat : Nat) : Int) ((m + 1 : Nat) : Int) k ((0 : Nat) : Int) ([], false)).bind _ = _
    rw [hK', Option.bind_some, feed_eq first af batch.toNat _ [] (by simp)]
    simp only [List.nil_append, List.length_nil, Nat.sub_zero, Int.toNat_natCast]
    congr 2
    rw [Bool.eq_iff_iff]
    simp
  · refine ⟨0, fun k' _ => ?_⟩
    show walk_Next.f k' ns s k first af batch = _
    unfold walk_Next.f
    rw [walk_asked_eq hs, if_neg hm, Option.bind_some, if_neg (by simp), if_neg hm]
    simp
theorem small_bytes {l : List ByteArray} (h : ∀ s ∈ l, s.size ≤ 100) : bytesOf_ l ≤ 100 * l.length := by
  induction l with
  | nil => simp [bytesOf_]
  | cons s t ih =>
    have h1 := h s List.mem_cons_self
    have h2 := ih (fun x hx => h x (List.mem_cons_of_mem _ hx))
    simp only [bytesOf_, List.map_cons, List.sum_cons, List.length_cons] at h2 ⊢
    omega
theorem edges_cons (f : Nat) (s : ByteArray) (t : List ByteArray) (es : List S91) (st : Bld) : edges (f + 1) (s :: t) es st = if s.size ≤ 1000000 ∧ 0 < s.size ∧ es.length ≤ 1000000 ∧ (s :: t).length ≤ 1000000 then
    (node f (grp (hd s) (wd s) (s :: t)) st).bind fun y => edges f ((s :: t).drop (grp (hd s) (wd s) (s :: t)).length) (es ++ [⟨((Utf8.decode s 0).1 : Int), y.1⟩]) y.2 else none := by
  simp only [edges]
  rfl
theorem node_mono : ∀ f : Nat, (∀ l st r, node f l st = some r → node (f + 1) l st = some r) ∧ (∀ l es st r, edges f l es st = some r → edges (f + 1) l es st = some r)
  | 0 => ⟨fun _ _ _ h => by simp [node] at h, fun _ _ _ _ h => by simp [edges] at h⟩
  | f + 1 => by
    obtain ⟨h1, h2⟩ := node_mono f
    refine ⟨fun l st r h => ?_, fun l es st r h => ?_⟩
    · rw [node] at h ⊢
      by_cases hc : l ≠ [] ∧ (Lib.join (l.map (·.data.toList)) [255]).length ≤ 1000000 ∧ st.ns.length ≤ 1000000 ∧ l.length ≤ 1000000
      · rw [if_pos hc] at h ⊢
        cases hF : st.F (restsKey l) with
        | some n => rw [hF] at h; exact h
        | none =>
          rw [hF] at h
          dsimp only at h ⊢
          obtain ⟨y, hy, hr⟩ := Option.bind_eq_some_iff.1 h
          rw [h2 _ _ _ _ hy]
          exact hr
      · rw [if_neg hc] at h; cases h
    · cases l with
      | nil => simp only [edges] at h ⊢; exact h
      | cons s t =>
        rw [edges_cons] at h
        split at h
        · rename_i hc
          rw [edges_cons, if_pos hc]
          obtain ⟨y, hy, hr⟩ := Option.bind_eq_some_iff.1 h
          rw [h1 _ _ _ hy, Option.bind_some]
          have h3 := h2 _ _ _ _ hr
          exact h3
        · cases h
theorem node_up {f f' : Nat} (hf : f ≤ f') {l : List ByteArray} {st : Bld} {r : Int × Bld} (h : node f l st = some r) : node f' l st = some r := by
  induction hf with
  | refl => exact h
  | step _ ih => exact (node_mono _).1 _ _ _ ih
theorem build_ev {l : List ByteArray} (hs : Small l) : ∃ e ns, Ev (fun K => graph_Build.f K l) (e, ns) ∧ (e = 0 → GoodW l ∧ Graph ns l) := by
  obtain ⟨e, he, hg⟩ := good_ev hs
  have hb := small_bytes hs.2
  have h80 := hs.1
  by_cases h0 : e = 0
  · subst h0
    have hw := hg rfl
    by_cases hl : l = []
    · subst hl
      refine ⟨0, [z72], ?_, fun _ => ⟨hw, ⟨2, ?_⟩, ⟨by simp [restsOf, isEnd], by simp [restsOf, isEnd]⟩, by simp [bytesOf_]⟩⟩
      · unfold graph_Build.f
        refine Ev.bind (f := fun K e => if e = 0 then (if ([] : List ByteArray) = [] then some (0, [z72]) else (node K [] ⟨[], fun _ => none⟩).bind fun y => some (0, y.2.ns)) else some (e, [])) he ?_
        simp only [if_true]
        exact Ev.now _
      · simp [Rep, RepE, z72, isEnd, restsOf]
    · have hgl : GoodL l := ⟨hl, fun s hs' => (hw.words s hs').1, hw.sorted⟩
      obtain ⟨r, st, h1, h2, ⟨f', h3⟩, h4, h5⟩ := (node_spec (2 * bytesOf_ l + l.length + 2)).1 l ⟨[], fun _ => none⟩ (bytesOf_ l + 1) hgl (fun _ _ h => by cases h) (Nat.lt_succ_self _) (Nat.le_refl _) (by omega) (by simp only [List.length_nil]; omega)
      have hr0 : r = 0 := by
        rw [node] at h1
        split at h1
        · dsimp only at h1
          obtain ⟨y, _, hy⟩ := Option.bind_eq_some_iff.1 h1
          split at hy
          · exact (Prod.mk.inj (Option.some.inj hy)).1.symm
          · cases hy
        · cases h1
      subst hr0
      refine ⟨0, st.ns, ?_, fun _ => ⟨hw, ⟨f', h3⟩, restsOf_good hgl, by omega⟩⟩
      unfold graph_Build.f
      refine Ev.bind (f := fun K e => if e = 0 then (if l = [] then some (0, [z72]) else (node K l ⟨[], fun _ => none⟩).bind fun y => some (0, y.2.ns)) else some (e, [])) he ?_
      simp only [hl, if_true, if_false]
      exact ⟨2 * bytesOf_ l + l.length + 2, fun k hk => by show (node k l ⟨[], fun _ => none⟩).bind _ = _; rw [node_up hk h1]; rfl⟩
  · refine ⟨e, [], ?_, fun h => absurd h h0⟩
    unfold graph_Build.f
    refine Ev.bind (f := fun K e => if e = 0 then (if l = [] then some (0, [z72]) else (node K l ⟨[], fun _ => none⟩).bind fun y => some (0, y.2.ns)) else some (e, [])) he ?_
    simp only [h0, if_false]
    exact Ev.now _
end Go.Proofs.Ytklidannncajiaa.OW

-- Laid by a program of this session (wip/ownprint.py, wip/hooks.py) over the seat's translation. Lean checks it.
namespace Go.Proofs.Ytklidannncajiaa.OW
open Go.RowKit Go.Proofs.YtklidannncajiaaW.PrintWords Go.Proofs.YtklidannncajiaaW.PrintLast Go.Proofs.YtklidannncajiaaW.PrintMore
attribute [local go_sem] max2_int min2_int max_two min_two max_three min_three max_four min_four   -- for this text's walks alone
set_option linter.unusedVariables false
set_option linter.unusedSimpArgs false

/-! ### rank_May: function 19 -/
/-! ### inkhornlaw0_Low: function 20 -/
def inkhornlaw0_Low.f (a0 : Int) (a1 : Int) : Option (Int) := if (IntKind.u64.wrap (a1)) = 0 then (none) else (some (wrap64 (Int.tmod (IntKind.u64.wrap (a0)) (IntKind.u64.wrap (a1)))))
set_option maxHeartbeats 8000000 in
set_option maxRecDepth 100000 in
theorem inkhornlaw0_Low.calls (a0 : Int) (a1 : Int) (r : Int) (w : World) (h : inkhornlaw0_Low.f a0 a1 = some r) :
    Calls Try.prog 20 #[.int .i64 a0, .int .i64 a1] w fun e w' => e = .returned (.int .i64 r) ∧ Drawn0 w w' := by
  have H : (if (IntKind.u64.wrap (a1)) = 0 then (none) else (some (wrap64 (Int.tmod (IntKind.u64.wrap (a0)) (IntKind.u64.wrap (a1)))))) = some r := h
  clear h
  by_cases c3 : (IntKind.u64.wrap (a1)) = 0
  · rw [if_pos c3] at H
    exact absurd H (by simp)
  · rw [if_neg c3] at H
    have c3b0 : ((IntKind.u64.wrap (a1)) == 0) = false := beq_eq_false_iff_ne.mpr c3
    have c3b1 : ((IntKind.u64.wrap (a1)) != 0) = true := bne_iff_ne.mpr c3
    obtain rfl := Option.some.inj H
    go_enter Try.func20, Try.ntmps20
    go_wp2
    go_ret
    exact ⟨by first | rfl | (simp; done) | (simp [*]; done), by repeat (first | exact Drawn0.refl _ | apply Drawn0.step)⟩

-- NOT PRINTED: function 4 (inkhornlaw11_WalkSplit)

-- NOT PRINTED: function 21 (walk_Dists)

/-! ### inkhornlaw0_SameTexts: function 22 -/
/-! ### inkhornref11_Dists: function 23 -/
/-! ### inkhornlaw0_OverTexts: function 24 -/
-- NOT PRINTED: function 5 (inkhornlaw11_WalkDists)

-- NOT PRINTED: function 6 (inkhornlaw11_WalkFar)

-- NOT PRINTED: function 66 (slices_BinarySearchFunc_string_string_string)

-- NOT PRINTED: function 45 (list_At)

-- NOT PRINTED: function 29 (list_Without)

-- NOT PRINTED: function 7 (inkhornlaw11_WalkLevels)

end Go.Proofs.Ytklidannncajiaa.OW

namespace Go.Proofs.Ytklidannncajiaa.OW
open Go.RowKit Go.Proofs.YtklidannncajiaaW.PrintWords Go.Proofs.YtklidannncajiaaW.PrintLast Go.Proofs.YtklidannncajiaaW.PrintMore Go.Proofs.Ytklidannncajiaa.Am
set_option linter.unusedVariables false
set_option linter.unusedSimpArgs false

theorem sameItems_ev (l : List S24) (hl : l.length ≤ 1000000) : Ev (fun K => inkhornlaw0_SameItems.f K l l) true := by
  have key : ∀ (d i : Nat), i + d = l.length → Ev (fun K => inkhornlaw0_SameItems.l0 K l l (i : Int)) true := by
    intro d
    induction d with
    | zero => intro i hi; exact Ev.step (f := fun _ => some true) (fun K => by simp only [inkhornlaw0_SameItems.l0]; rw [if_neg (by omega)]) (Ev.now _)
    | succ d ih =>
      intro i hi
      refine Ev.step (fun K => ?_) (ih (i + 1) (by omega))
      simp only [inkhornlaw0_SameItems.l0]
      rw [if_pos (by omega), if_pos (by omega), if_pos (by omega), if_neg (by simp), wr64 _ (by omega) (by omega)]
      rfl
  unfold inkhornlaw0_SameItems.f
  simp only [if_true]
  exact key l.length 0 (by omega)
def wordsA : List ByteArray := [⟨#[97, 98]⟩, ⟨#[97, 98, 99]⟩, ⟨#[98]⟩, ⟨#[122, 122]⟩]
theorem smallA : Small wordsA := by decide +kernel
theorem goodA : list_Good.f 50 wordsA = some 0 := by decide +kernel
theorem next1 : nextP ⟨#[97, 98]⟩ 1 wordsA true z24 2 = ([⟨0, ⟨#[97, 98]⟩⟩, ⟨1, ⟨#[97, 98, 99]⟩⟩], false) := by kernel_rfl
theorem next2 : nextP ⟨#[97, 98]⟩ 1 wordsA false ⟨1, ⟨#[97, 98, 99]⟩⟩ 2 = ([⟨1, ⟨#[98]⟩⟩], true) := by kernel_rfl
theorem awake_facts : ∃ K ns, graph_Build.f K wordsA = some (0, ns) ∧ walk_Next.f K ns ⟨#[97, 98]⟩ 1 true ⟨0, ⟨#[]⟩⟩ 2 = some ([⟨0, ⟨#[97, 98]⟩⟩, ⟨1, ⟨#[97, 98, 99]⟩⟩], false) ∧
    walk_Next.f K ns ⟨#[97, 98]⟩ 1 false ⟨1, ⟨#[97, 98, 99]⟩⟩ 2 = some ([⟨1, ⟨#[98]⟩⟩], true) ∧ inkhornlaw0_SameItems.f K [⟨0, ⟨#[97, 98]⟩⟩, ⟨1, ⟨#[97, 98, 99]⟩⟩] [⟨0, ⟨#[97, 98]⟩⟩, ⟨1, ⟨#[97, 98, 99]⟩⟩] = some true ∧ inkhornlaw0_SameItems.f K [⟨1, ⟨#[98]⟩⟩] [⟨1, ⟨#[98]⟩⟩] = some true := by
  obtain ⟨e, ns, ⟨K0, h0⟩, hg⟩ := build_ev smallA
  have hgood : Ev (fun K => list_Good.f K wordsA) 0 := Ev.of (g := fun K => list_Good.f K wordsA) (fun k => list_Good.mono _ k) goodA
  obtain ⟨K1, h1⟩ := hgood
  have e0 : e = 0 := by
    have h2 : graph_Build.f (max K0 K1) wordsA = some (e, ns) := h0 _ (by omega)
    have h3 : list_Good.f (max K0 K1) wordsA = some 0 := h1 _ (by omega)
    unfold graph_Build.f at h2
    rw [h3, Option.bind_some, if_pos rfl] at h2
    split at h2
    · exact (Prod.mk.inj (Option.some.inj h2)).1.symm
    · obtain ⟨y, _, hy⟩ := Option.bind_eq_some_iff.1 h2
      exact (Prod.mk.inj (Option.some.inj hy)).1.symm
  obtain ⟨hw, hG⟩ := hg e0
  subst e0
  have n1 := next_ev hG ⟨#[97, 98]⟩ (by decide) 1 true z24 2
  have n2 := next_ev hG ⟨#[97, 98]⟩ (by decide) 1 false ⟨1, ⟨#[97, 98, 99]⟩⟩ 2
  rw [next1] at n1
  rw [next2] at n2
  obtain ⟨K2, h2⟩ := n1
  obtain ⟨K3, h3⟩ := n2
  obtain ⟨K4, h4⟩ := sameItems_ev [⟨0, ⟨#[97, 98]⟩⟩, ⟨1, ⟨#[97, 98, 99]⟩⟩] (by simp)
  obtain ⟨K5, h5⟩ := sameItems_ev [⟨1, ⟨#[98]⟩⟩] (by simp)
  exact ⟨max K0 (max K2 (max K3 (max K4 K5))), ns, h0 _ (by omega), h2 _ (by omega), h3 _ (by omega), h4 _ (by omega), h5 _ (by omega)⟩
set_option maxHeartbeats 4000000 in
set_option maxRecDepth 100000 in
theorem awake_calls (w : World) : Calls Try.prog 13 #[] w fun e w' => e = .returned (.bool true) ∧ Below w.heap.size w w' := by
  obtain ⟨K, ns, hb, hn1, hn2, hs1, hs2⟩ := awake_facts
  have HB := Aside0.mk hb
  have HN1 := Aside0.mk hn1
  have HN2 := Aside0.mk hn2
  have HS1 := Aside0.mk hs1
  have HS2 := Aside0.mk hs2
  clear hb hn1 hn2 hs1 hs2
  go_enter Try.func13, Try.ntmps13
  go_wp2_with (first | ((with_reducible refine gate_dst (N := 8) rfl ?_); refine Kd.R_lit (w0 := w) Kd.string w.heap.size 9 ?hg (N := 8) ?hd (xs := wordsA) (inner := [.string ⟨#[97, 98]⟩, .string ⟨#[97, 98, 99]⟩, .string ⟨#[98]⟩, .string ⟨#[122, 122]⟩]) (ok := fun _ => True) (okp := fun _ => True) ?hr ?hp (fun _ hk => hk) trivial (Below.refl _ _) (Nat.le_refl _) (by decide) ?_; (case hd => rfl); (case hg => rfl); (case hr => first | (go_simp; done) | (go_simp; rfl)); (case hp => exact (Reps.one (show Kd.M Kd.string _ _ _ _ _ from rfl) (Reps.one (show Kd.M Kd.string _ _ _ _ _ from rfl) (Reps.one (show Kd.M Kd.string _ _ _ _ _ from rfl) (Reps.one (show Kd.M Kd.string _ _ _ _ _ from rfl) (Reps.none _ _)))))); intro v1 w1 ho hb1 _ _; obtain ⟨A1, c1, e1⟩ := Kd.R_slice ho; subst e1; have HO1 := Aside0.mk ho; have HB1 := Aside0.mk hb1; clear ho hb1) | ((with_reducible refine gate_callee (f := 14) rfl ?_); (try (refine gate_guard (by rfl) ?_; dsimp only)); refine goesL_ (some 9) rfl rfl Try.func14 (by kernel_rfl) rfl #[.slice A1 wordsA.length c1] rfl (by (try simp only [List.map_toArray, List.map_cons, List.map_nil]); first | done | rfl) ?_; (with_reducible refine (graph_Build.calls K A1 c1 wordsA ns w1 (Kd.R_reads' HO1.out).2.2 (Kd.R_reads' HO1.out).2.1 HB.out).mono ?_); rintro e w2 ⟨g, rfl, _, hg, hb2⟩; refine ⟨_, rfl, ?_⟩; have HG2 := Aside0.mk hg; have HB2 := Aside0.mk (below_step HB1.out hb2); clear hg hb2 HO1) | ((with_reducible refine gate_callee (f := 15) rfl ?_); (try (refine gate_guard (by rfl) ?_; dsimp only)); refine goesL_ (some 15) rfl rfl Try.func15 (by kernel_rfl) rfl #[.pointer (some ⟨g, 0, none⟩), .string ⟨#[97, 98]⟩, .int .i64 1, .bool true, .agg #[.int .i64 0, .string ⟨#[]⟩], .int .i64 2] rfl (by (try simp only [List.map_toArray, List.map_cons, List.map_nil]); first | done | rfl) ?_; (with_reducible refine (walk_Next.calls K g ns ⟨#[97, 98]⟩ 1 true ⟨0, ⟨#[]⟩⟩ 2 [⟨0, ⟨#[97, 98]⟩⟩, ⟨1, ⟨#[97, 98, 99]⟩⟩] false _ HG2.out HN1.out).mono ?_); rintro e w3 ⟨v3, rfl, ho, hb2⟩; refine ⟨_, rfl, ?_⟩; obtain ⟨A3, c3, e3⟩ := Kd.R_slice ho; subst e3; have HO3 := Aside0.mk ho; have HG3 := Aside0.mk (HG2.out.below hb2); have HB3 := Aside0.mk (below_step HB2.out hb2); clear ho hb2) | ((with_reducible refine gate_callee (f := 15) rfl ?_); (try (refine gate_guard (by rfl) ?_; dsimp only)); refine goesL_ (some 21) rfl rfl Try.func15 (by kernel_rfl) rfl #[.pointer (some ⟨g, 0, none⟩), .string ⟨#[97, 98]⟩, .int .i64 1, .bool false, .agg #[.int .i64 1, .string ⟨#[97, 98, 99]⟩], .int .i64 2] rfl (by (try simp only [List.map_toArray, List.map_cons, List.map_nil]); first | done | rfl) ?_; (with_reducible refine (walk_Next.calls K g ns ⟨#[97, 98]⟩ 1 false ⟨1, ⟨#[97, 98, 99]⟩⟩ 2 [⟨1, ⟨#[98]⟩⟩] true _ HG3.out HN2.out).mono ?_); rintro e w4 ⟨v4, rfl, ho, hb2⟩; refine ⟨_, rfl, ?_⟩; obtain ⟨A4, c4, e4⟩ := Kd.R_slice ho; subst e4; have HO4 := Aside0.mk ho; have HG4 := Aside0.mk (HG3.out.below hb2); have HB4 := Aside0.mk (below_step HB3.out hb2); have HO3' := Aside0.mk (Kd.R_below HO3.out hb2); clear ho hb2) | ((with_reducible refine gate_dst (N := 27) rfl ?_); (try (refine gate_guard (by rfl) ?_; dsimp only)); refine Kd.R_lit (w0 := w4) k24 w4.heap.size 24 ?hg (N := 27) ?hd (xs := ([⟨0, ⟨#[97, 98]⟩⟩, ⟨1, ⟨#[97, 98, 99]⟩⟩] : List S24)) (inner := [.int .i64 0, .string ⟨#[97, 98]⟩, .int .i64 1, .string ⟨#[97, 98, 99]⟩]) (ok := fun _ => True) (okp := fun _ => True) ?hr ?hp (fun _ hk => hk) trivial (Below.refl _ _) (Nat.le_refl _) (by decide) ?_; (case hd => rfl); (case hg => rfl); (case hr => first | (go_simp; done) | (go_simp; rfl)); (case hp => exact (Reps.c2 (show Kd.M k24 _ _ _ _ _ from k24_mkM _ _ _ (⟨0, ⟨#[97, 98]⟩⟩ : S24)) (Reps.c2 (show Kd.M k24 _ _ _ _ _ from k24_mkM _ _ _ (⟨1, ⟨#[97, 98, 99]⟩⟩ : S24)) (Reps.none _ _)))); intro v5 w5 ho hb2 _ _; obtain ⟨A5, c5, e5⟩ := Kd.R_slice ho; subst e5; have HO5 := Aside0.mk ho; have HO35 := Aside0.mk (Kd.R_below HO3'.out hb2); have HO45 := Aside0.mk (Kd.R_below HO4.out hb2); have HB5 := Aside0.mk (below_step HB4.out hb2); clear ho hb2) | ((with_reducible refine gate_callee (f := 17) rfl ?_); (try (refine gate_guard (by rfl) ?_; dsimp only)); refine goesL_ (some 28) rfl rfl Try.func17 (by kernel_rfl) rfl #[.slice A3 ([⟨0, ⟨#[97, 98]⟩⟩, ⟨1, ⟨#[97, 98, 99]⟩⟩] : List S24).length c3, .slice A5 ([⟨0, ⟨#[97, 98]⟩⟩, ⟨1, ⟨#[97, 98, 99]⟩⟩] : List S24).length c5] rfl (by (try simp only [List.map_toArray, List.map_cons, List.map_nil]); first | done | rfl) ?_; (with_reducible refine (inkhornlaw0_SameItems.calls K A3 c3 [⟨0, ⟨#[97, 98]⟩⟩, ⟨1, ⟨#[97, 98, 99]⟩⟩] A5 c5 [⟨0, ⟨#[97, 98]⟩⟩, ⟨1, ⟨#[97, 98, 99]⟩⟩] true _ (Kd.R_reads' HO35.out).2.2 (Kd.R_reads' HO35.out).2.1 (Kd.R_reads' HO5.out).2.2 (Kd.R_reads' HO5.out).2.1 HS1.out).mono ?_); rintro e w6 ⟨rfl, hd⟩; refine ⟨_, rfl, ?_⟩; have hb2 := hd.below; have HB6 := Aside0.mk (below_step HB5.out hb2); have HO46 := Aside0.mk (Kd.R_below HO45.out hb2); clear hd hb2) | ((with_reducible refine gate_dst (N := 36) rfl ?_); (try (refine gate_guard (by rfl) ?_; dsimp only)); refine Kd.R_lit (w0 := w6) k24 w6.heap.size 24 ?hg (N := 36) ?hd (xs := ([⟨1, ⟨#[98]⟩⟩] : List S24)) (inner := [.int .i64 1, .string ⟨#[98]⟩]) (ok := fun _ => True) (okp := fun _ => True) ?hr ?hp (fun _ hk => hk) trivial (Below.refl _ _) (Nat.le_refl _) (by decide) ?_; (case hd => rfl); (case hg => rfl); (case hr => first | (go_simp; done) | (go_simp; rfl)); (case hp => exact (Reps.c2 (show Kd.M k24 _ _ _ _ _ from k24_mkM _ _ _ (⟨1, ⟨#[98]⟩⟩ : S24)) (Reps.none _ _))); intro v7 w7 ho hb2 _ _; obtain ⟨A7, c7, e7⟩ := Kd.R_slice ho; subst e7; have HO7 := Aside0.mk ho; have HO47 := Aside0.mk (Kd.R_below HO46.out hb2); have HB7 := Aside0.mk (below_step HB6.out hb2); clear ho hb2) | ((with_reducible refine gate_callee (f := 17) rfl ?_); (try (refine gate_guard (by rfl) ?_; dsimp only)); refine goesL_ (some 37) rfl rfl Try.func17 (by kernel_rfl) rfl #[.slice A4 ([⟨1, ⟨#[98]⟩⟩] : List S24).length c4, .slice A7 ([⟨1, ⟨#[98]⟩⟩] : List S24).length c7] rfl (by (try simp only [List.map_toArray, List.map_cons, List.map_nil]); first | done | rfl) ?_; (with_reducible refine (inkhornlaw0_SameItems.calls K A4 c4 [⟨1, ⟨#[98]⟩⟩] A7 c7 [⟨1, ⟨#[98]⟩⟩] true _ (Kd.R_reads' HO47.out).2.2 (Kd.R_reads' HO47.out).2.1 (Kd.R_reads' HO7.out).2.2 (Kd.R_reads' HO7.out).2.1 HS2.out).mono ?_); rintro e w8 ⟨rfl, hd⟩; refine ⟨_, rfl, ?_⟩; have hb2 := hd.below; have HB8 := Aside0.mk (below_step HB7.out hb2); clear hd hb2))
  go_ret
  exact ⟨rfl, HB8.out⟩
end Go.Proofs.Ytklidannncajiaa.OW

namespace Go.Proofs.Ytklidannncajiaa.OW
open Go.RowKit Go.Proofs.YtklidannncajiaaW.PrintWords Go.Proofs.YtklidannncajiaaW.PrintLast Go.Proofs.YtklidannncajiaaW.PrintMore Go.Proofs.Ytklidannncajiaa.Am

theorem lessP_iff {a b : S24} : lessP a b = true ↔ (a.f0 < b.f0 ∨ (a.f0 = b.f0 ∧ ltB a.f1 b.f1)) := by unfold lessP; exact decide_eq_true_iff
theorem lessP_trans {a b c : S24} (h : lessP a b = true) (h' : lessP b c = true) : lessP a c = true := by
  rw [lessP_iff] at *
  rcases h with h | ⟨h, h2⟩
  · rcases h' with h' | ⟨h', _⟩ <;> exact .inl (by omega)
  · rcases h' with h' | ⟨h', h3⟩
    · exact .inl (by omega)
    · exact .inr ⟨by omega, h2.trans h3⟩
theorem lessP_irrefl (a : S24) : ¬ lessP a a = true := by
  rw [lessP_iff]
  rintro (h | ⟨_, h⟩)
  · omega
  · exact ltB.irrefl _ h
theorem level_sorted (q : List Int) {l : List ByteArray} (h : l.Pairwise ltB) (d : Nat) : (level q l d).Pairwise (fun a b => lessP a b = true) := by
  unfold level near
  exact (h.filter _).map _ (fun a b hab => lessP_iff.2 (.inr ⟨rfl, hab⟩))
theorem level_f0 {q : List Int} {l : List ByteArray} {d : Nat} {x : S24} (h : x ∈ level q l d) : x.f0 = d := by
  unfold level at h
  obtain ⟨y, _, rfl⟩ := List.mem_map.1 h
  rfl
theorem levels_f0 {q : List Int} {l : List ByteArray} {x : S24} {d n : Nat} (h : x ∈ levels q l d n) : (d : Int) ≤ x.f0 := by
  unfold levels at h
  obtain ⟨e, he, hx⟩ := List.mem_flatMap.1 h
  have := (List.mem_range'_1.1 he).1
  rw [level_f0 hx]
  omega
theorem levels_sorted (q : List Int) {l : List ByteArray} (h : l.Pairwise ltB) : ∀ (n d : Nat), (levels q l d n).Pairwise (fun a b => lessP a b = true)
  | 0, d => by simp [levels]
  | n + 1, d => by
    rw [levels_succ]
    refine List.pairwise_append.2 ⟨level_sorted q h d, levels_sorted q h n (d + 1), fun a ha b hb => lessP_iff.2 (.inl ?_)⟩
    have := level_f0 ha
    have := levels_f0 hb
    omega
theorem all_sorted (s : ByteArray) (k : Int) {l : List ByteArray} (h : l.Pairwise ltB) : (allP s k l).Pairwise (fun a b => lessP a b = true) := by
  unfold allP
  split
  · exact levels_sorted _ h _ _
  · exact .nil
theorem keep_le {first : Bool} {af x y : S24} (h : keepP first af x = true) (h' : lessP x y = true) : keepP first af y = true := by
  unfold keepP at *
  rcases Bool.or_eq_true_iff.1 h with h | h
  · exact Bool.or_eq_true_iff.2 (.inl h)
  · exact Bool.or_eq_true_iff.2 (.inr (lessP_trans h h'))
theorem rest_split {L : List S24} (hs : L.Pairwise (fun a b => lessP a b = true)) (first : Bool) (af x : S24) (j : Nat) (hx : (L.filter (keepP first af))[j]? = some x) : L.filter (keepP false x) = (L.filter (keepP first af)).drop (j + 1) := by
  have hj : j < (L.filter (keepP first af)).length := (List.getElem?_eq_some_iff.1 hx).1
  have hxe : (L.filter (keepP first af))[j] = x := (List.getElem?_eq_some_iff.1 hx).2
  have hR : (L.filter (keepP first af)).Pairwise (fun a b => lessP a b = true) := hs.filter _
  have hkx : keepP first af x = true := (List.mem_filter.1 (hxe ▸ List.getElem_mem hj)).2
  have e1 : L.filter (keepP false x) = (L.filter (keepP first af)).filter (keepP false x) := by
    rw [List.filter_filter]
    refine List.filter_congr fun y _ => ?_
    cases h : keepP false x y with
    | false => simp
    | true =>
      have : lessP x y = true := by simpa [keepP] using h
      rw [keep_le hkx this]; rfl
  rw [e1]
  generalize L.filter (keepP first af) = R at *
  rw [List.pairwise_iff_getElem] at hR
  conv => lhs; rw [← List.take_append_drop (j + 1) R]
  rw [List.filter_append]
  have e2 : (R.take (j + 1)).filter (keepP false x) = [] := by
    rw [List.filter_eq_nil_iff]
    intro y hy hk
    have hk : lessP x y = true := by simpa [keepP] using hk
    obtain ⟨i, hi, rfl⟩ := List.getElem_of_mem hy
    rw [List.length_take] at hi
    rw [List.getElem_take] at hk
    rcases Nat.lt_or_ge i j with h | h
    · have := hR i j (by omega) hj h
      rw [hxe] at this
      exact lessP_irrefl _ (lessP_trans this hk)
    · have : i = j := by omega
      subst this
      rw [hxe] at hk
      exact lessP_irrefl _ hk
  have e3 : (R.drop (j + 1)).filter (keepP false x) = R.drop (j + 1) := by
    rw [List.filter_eq_self]
    intro y hy
    obtain ⟨i, hi, rfl⟩ := List.getElem_of_mem hy
    rw [List.length_drop] at hi
    rw [List.getElem_drop]
    have := hR j (j + 1 + i) hj (by omega) (by omega)
    rw [hxe] at this
    simpa [keepP] using this
  rw [e2, e3, List.nil_append]
/-! ### a text that parts in length from all words -/
end Go.Proofs.Ytklidannncajiaa.OW

namespace Go.Proofs.Ytklidannncajiaa.OW
open Go.RowKit Go.Proofs.YtklidannncajiaaW.PrintWords Go.Proofs.YtklidannncajiaaW.PrintLast Go.Proofs.YtklidannncajiaaW.PrintMore Go.Proofs.Ytklidannncajiaa.Am
set_option linter.unusedVariables false
set_option linter.unusedSimpArgs false

/-! ### Put -/
def putP : List S24 → S24 → List S24
  | [], x => [x]
  | y :: ys, x => if lessP x y = true then x :: y :: ys else y :: putP ys x
theorem lessP_total {a b : S24} (h : ¬ lessP a b = true) (hne : a ≠ b) : lessP b a = true := by
  rw [lessP_iff] at h ⊢
  by_cases h1 : b.f0 < a.f0
  · exact .inl h1
  · have e : a.f0 = b.f0 := by
      by_cases h2 : a.f0 < b.f0
      · exact absurd (.inl h2) h
      · omega
    refine .inr ⟨e.symm, ltB.total (fun h3 => h (.inr ⟨e, h3⟩)) (fun h3 => hne ?_)⟩
    cases a; cases b
    simp only at e h3
    rw [e, h3]
theorem mem_put {x z : S24} : ∀ {l : List S24}, z ∈ putP l x ↔ z = x ∨ z ∈ l
  | [] => by simp [putP]
  | y :: ys => by
    unfold putP
    split
    · simp
    · rw [List.mem_cons, mem_put (l := ys), List.mem_cons]
      constructor
      · rintro (h | h | h)
        · exact .inr (.inl h)
        · exact .inl h
        · exact .inr (.inr h)
      · rintro (h | h | h)
        · exact .inr (.inl h)
        · exact .inl h
        · exact .inr (.inr h)
theorem put_sorted {x : S24} : ∀ {l : List S24}, l.Pairwise (fun a b => lessP a b = true) → x ∉ l → (putP l x).Pairwise (fun a b => lessP a b = true)
  | [], _, _ => by simp [putP]
  | y :: ys, h, hn => by
    obtain ⟨h1, h2⟩ := List.pairwise_cons.1 h
    have hxy : x ≠ y := fun e => hn (e ▸ List.mem_cons_self)
    unfold putP
    by_cases hl : lessP x y = true
    · rw [if_pos hl]
      refine List.pairwise_cons.2 ⟨fun z hz => ?_, h⟩
      rcases List.mem_cons.1 hz with rfl | hz
      · exact hl
      · exact lessP_trans hl (h1 z hz)
    · rw [if_neg hl]
      refine List.pairwise_cons.2 ⟨fun z hz => ?_, put_sorted h2 (fun hm => hn (List.mem_cons_of_mem _ hm))⟩
      rcases mem_put.1 hz with rfl | hz
      · exact lessP_total hl hxy
      · exact h1 z hz
theorem sorted_eq : ∀ {a b : List S24}, a.Pairwise (fun a b => lessP a b = true) → b.Pairwise (fun a b => lessP a b = true) → (∀ x, x ∈ a ↔ x ∈ b) → a = b
  | [], [], _, _, _ => rfl
  | [], y :: b, _, _, h => absurd ((h y).2 List.mem_cons_self) (by simp)
  | x :: a, [], _, _, h => absurd ((h x).1 List.mem_cons_self) (by simp)
  | x :: a, y :: b, ha, hb, h => by
    obtain ⟨a1, a2⟩ := List.pairwise_cons.1 ha
    obtain ⟨b1, b2⟩ := List.pairwise_cons.1 hb
    have e : x = y := by
      rcases List.mem_cons.1 ((h x).1 List.mem_cons_self) with h1 | h1
      · exact h1
      · rcases List.mem_cons.1 ((h y).2 List.mem_cons_self) with h2 | h2
        · exact h2.symm
        · exact absurd (lessP_trans (a1 y h2) (b1 x h1)) (lessP_irrefl x)
    subst e
    rw [sorted_eq a2 b2 (fun z => ?_)]
    constructor
    · intro hz
      rcases List.mem_cons.1 ((h z).1 (List.mem_cons_of_mem _ hz)) with rfl | h1
      · exact absurd (a1 z hz) (lessP_irrefl z)
      · exact h1
    · intro hz
      rcases List.mem_cons.1 ((h z).2 (List.mem_cons_of_mem _ hz)) with rfl | h1
      · exact absurd (b1 z hz) (lessP_irrefl z)
      · exact h1
theorem mem_levels {q : List Int} {l : List ByteArray} {n : Nat} {x : S24} : x ∈ levels q l 0 n ↔ ∃ w ∈ l, far q (runes w 0) < n ∧ x = ⟨(far q (runes w 0) : Int), w⟩ := by
  unfold levels
  rw [List.mem_flatMap]
  constructor
  · rintro ⟨d, hd, hx⟩
    unfold level near at hx
    obtain ⟨w, hw, rfl⟩ := List.mem_map.1 hx
    obtain ⟨hw1, hw2⟩ := List.mem_filter.1 hw
    have hw2 : far q (runes w 0) = d := by simpa using hw2
    have := (List.mem_range'_1.1 hd).2
    exact ⟨w, hw1, by omega, by rw [hw2]⟩
  · rintro ⟨w, hw, hlt, rfl⟩
    refine ⟨far q (runes w 0), List.mem_range'_1.2 ⟨Nat.zero_le _, by omega⟩, ?_⟩
    unfold level near
    exact List.mem_map.2 ⟨w, List.mem_filter.2 ⟨hw, by simp⟩, rfl⟩
theorem levels_len (q : List Int) (l : List ByteArray) : ∀ (n d : Nat), (levels q l d n).length ≤ n * l.length
  | 0, d => by simp [levels]
  | n + 1, d => by
    rw [levels_succ, List.length_append, Nat.succ_mul]
    have := level_len q l d
    have := levels_len q l n (d + 1)
    omega
theorem levels_put {q : List Int} {pre : List ByteArray} {w : ByteArray} (h : (pre ++ [w]).Pairwise ltB) (n : Nat) :
    levels q (pre ++ [w]) 0 n = if far q (runes w 0) < n then putP (levels q pre 0 n) ⟨(far q (runes w 0) : Int), w⟩ else levels q pre 0 n := by
  obtain ⟨h1, _, h3⟩ := List.pairwise_append.1 h
  have hnm : ∀ d : Int, (⟨d, w⟩ : S24) ∉ levels q pre 0 n := by
    intro d hm
    obtain ⟨v, hv, _, e⟩ := mem_levels.1 hm
    have : w = v := congrArg S24.f1 e
    subst this
    exact ltB.irrefl _ (h3 w hv w (List.mem_singleton.2 rfl))
  by_cases hlt : far q (runes w 0) < n
  · rw [if_pos hlt]
    refine sorted_eq (levels_sorted q h n 0) (put_sorted (levels_sorted q h1 n 0) (hnm _)) (fun x => ?_)
    rw [mem_put, mem_levels, mem_levels]
    constructor
    · rintro ⟨v, hv, h4, rfl⟩
      rcases List.mem_append.1 hv with hv | hv
      · exact .inr ⟨v, hv, h4, rfl⟩
      · rw [List.mem_singleton.1 hv]; exact .inl rfl
    · rintro (rfl | ⟨v, hv, h4, rfl⟩)
      · exact ⟨w, by simp, hlt, rfl⟩
      · exact ⟨v, List.mem_append_left _ hv, h4, rfl⟩
  · rw [if_neg hlt]
    refine sorted_eq (levels_sorted q h n 0) (levels_sorted q h1 n 0) (fun x => ?_)
    rw [mem_levels, mem_levels]
    constructor
    · rintro ⟨v, hv, h4, rfl⟩
      rcases List.mem_append.1 hv with hv | hv
      · exact ⟨v, hv, h4, rfl⟩
      · rw [List.mem_singleton.1 hv] at h4; exact absurd h4 hlt
    · rintro ⟨v, hv, h4, rfl⟩
      exact ⟨v, List.mem_append_left _ hv, h4, rfl⟩
end Go.Proofs.Ytklidannncajiaa.OW

namespace Go.Proofs.Ytklidannncajiaa.OW
open Go.RowKit Go.Proofs.YtklidannncajiaaW.PrintWords Go.Proofs.YtklidannncajiaaW.PrintLast Go.Proofs.YtklidannncajiaaW.PrintMore Go.Proofs.Ytklidannncajiaa.Am
set_option linter.unusedVariables false
set_option linter.unusedSimpArgs false

theorem good_good {l : List ByteArray} (hg : GoodW l) (hb : ∀ w ∈ l, w.size ≤ 1000000) : Ev (fun K => list_Good.f K l) 0 := by
  have hl := hg.len
  have k1 : ∀ (d i : Nat), 1 ≤ i → i + d = max l.length 1 → Ev (fun K => list_Good.l1 K l (i : Int)) 0 := by
    intro d
    induction d with
    | zero =>
      intro i h1 hi
      exact Ev.step (f := fun _ => some 0) (fun K => by simp only [list_Good.l1]; rw [if_neg (by omega)]) (Ev.now _)
    | succ d ih =>
      intro i h1 hi
      have hil : i < l.length := by omega
      have hlt : Lib.compareBytes l[i - 1].data.toList l[i].data.toList < 0 := (List.pairwise_iff_getElem.1 hg.sorted) (i - 1) i (by omega) hil (by omega)
      refine Ev.step (fun K => ?_) (ih (i + 1) (by omega) (by omega))
      simp only [list_Good.l1]
      rw [if_pos (by omega), wr64 _ (by omega) (by omega), if_pos (by omega), if_pos (by omega), if_pos (by omega), show ((i : Int) - 1) = ((i - 1 : Nat) : Int) by omega, rdOf_nat _ _ _ (by omega), rdOf_nat _ _ _ hil, compare_eq, Option.bind_some, wr64 _ (by omega) (by omega), if_neg (by omega)]
      rfl
  have k0 : ∀ (d i : Nat), i + d = l.length → Ev (fun K => list_Good.l0 K l l (l.length : Int) (i : Int)) 0 := by
    intro d
    induction d with
    | zero =>
      intro i hi
      exact Ev.step (f := fun K => list_Good.l1 K l 1) (fun K => by simp only [list_Good.l0]; rw [if_neg (by omega)]) (k1 (max l.length 1 - 1) 1 (by omega) (by omega))
    | succ d ih =>
      intro i hi
      have hil : i < l.length := by omega
      refine Ev.step (fun K => ?_) (ih (i + 1) (by omega))
      simp only [list_Good.l0]
      rw [if_pos (by omega), if_pos (by omega), if_pos (by omega), rdOf_nat _ _ _ hil, word_eq (hb _ (List.getElem_mem hil)), Option.bind_some, decide_eq_true (hg.words _ (List.getElem_mem hil)), if_pos rfl, wr64 _ (by omega) (by omega)]
      rfl
  exact Ev.congr (fun K => by unfold list_Good.f; rw [if_neg (by omega)]; rfl) (k0 l.length 0 (by omega))
theorem build_good {l : List ByteArray} (hs : Small l) (hg : GoodW l) : ∃ ns, Ev (fun K => graph_Build.f K l) (0, ns) ∧ Graph ns l := by
  obtain ⟨e, ns, hE, hG⟩ := build_ev hs
  obtain ⟨K0, h0⟩ := hE
  obtain ⟨K1, h1⟩ := good_good hg (fun w hw => Nat.le_trans (hs.2 w hw) (by omega))
  have e0 : e = 0 := by
    have h2 : graph_Build.f (max K0 K1) l = some (e, ns) := h0 _ (by omega)
    have h3 : list_Good.f (max K0 K1) l = some 0 := h1 _ (by omega)
    unfold graph_Build.f at h2
    rw [h3, Option.bind_some, if_pos rfl] at h2
    split at h2
    · exact (Prod.mk.inj (Option.some.inj h2)).1.symm
    · obtain ⟨y, _, hy⟩ := Option.bind_eq_some_iff.1 h2
      exact (Prod.mk.inj (Option.some.inj hy)).1.symm
  subst e0
  exact ⟨ns, ⟨K0, h0⟩, (hG rfl).2⟩
theorem put_len (x : S24) : ∀ l : List S24, (putP l x).length = l.length + 1
  | [] => rfl
  | y :: ys => by
    unfold putP
    split
    · rfl
    · rw [List.length_cons, put_len x ys, List.length_cons]
theorem levels_total (q : List Int) {l : List ByteArray} (h : l.Pairwise ltB) (n : Nat) : (levels q l 0 n).length ≤ l.length := by
  have key : ∀ i, i ≤ l.length → (levels q (l.take i) 0 n).length ≤ i := by
    intro i
    induction i with
    | zero =>
      intro _
      have := levels_len q (l.take 0) n 0
      rw [List.take_zero, List.length_nil, Nat.mul_zero] at this
      rw [List.take_zero]
      exact this
    | succ i ih =>
      intro hi
      have hil : i < l.length := by omega
      have e : l.take (i + 1) = l.take i ++ [l[i]] := by rw [List.take_add_one, List.getElem?_eq_getElem hil]; rfl
      have hp : (l.take i ++ [l[i]]).Pairwise ltB := by rw [← e]; exact h.sublist (List.take_sublist _ _)
      rw [e, levels_put hp]
      have := ih (by omega)
      split
      · rw [put_len]; omega
      · omega
  have := key l.length (Nat.le_refl _)
  rw [List.take_length] at this
  exact this
end Go.Proofs.Ytklidannncajiaa.OW

namespace Go.Proofs.Ytklidannncajiaa.OW
open Go.RowKit Go.Proofs.YtklidannncajiaaW.PrintWords Go.Proofs.YtklidannncajiaaW.PrintLast Go.Proofs.YtklidannncajiaaW.PrintMore Go.Proofs.Ytklidannncajiaa.Am
set_option linter.unusedVariables false
set_option linter.unusedSimpArgs false

theorem al_same (a : List Int) : Al a a 0 := by
  induction a using snoc_induction with
  | h0 => exact .nil
  | h1 p r ih => exact .keep r ih
theorem al_zero {a b : List Int} {n : Nat} (h : Al a b n) (h0 : n = 0) : a = b := by
  induction h with
  | nil => rfl
  | del x _ _ => omega
  | ins x _ _ => omega
  | sub x y _ _ => omega
  | keep x _ ih => rw [ih h0]
theorem far_self (a : List Int) : far a a = 0 := Nat.le_zero.1 (al_same a).least
theorem far_zero {a b : List Int} (h : far a b = 0) : a = b := al_zero (al_far a b) h
/-- What the law WalkOwn asks of a word of a good list. -/
theorem own_first {l : List ByteArray} (hg : GoodW l) {w : ByteArray} (hw : w ∈ l) (n : Nat) : ∃ t, levels (runes w 0) l 0 (n + 1) = ⟨0, w⟩ :: t := by
  have hm : (⟨0, w⟩ : S24) ∈ levels (runes w 0) l 0 (n + 1) := mem_levels.2 ⟨w, hw, by rw [far_self]; omega, by rw [far_self]; rfl⟩
  have hs := levels_sorted (runes w 0) hg.sorted (n + 1) 0
  cases hA : levels (runes w 0) l 0 (n + 1) with
  | nil => rw [hA] at hm; cases hm
  | cons h t =>
    rw [hA] at hm hs
    refine ⟨t, ?_⟩
    rcases List.mem_cons.1 hm with e | ht
    · rw [e]
    · have h1 := (List.pairwise_cons.1 hs).1 _ ht
      obtain ⟨v, hv, _, e⟩ := mem_levels.1 (show h ∈ levels (runes w 0) l 0 (n + 1) by rw [hA]; exact List.mem_cons_self)
      rw [e] at h1 ⊢
      rcases lessP_iff.1 h1 with h2 | ⟨h2, h3⟩
      · dsimp only at h2; omega
      · dsimp only at h2 h3
        have h4 : far (runes w 0) (runes v 0) = 0 := by omega
        have h5 := runes_inj w.size w v (Nat.le_refl _) (hg.words w hw).1 (hg.words v hv).1 (far_zero h4)
        rw [← h5] at h3
        exact absurd h3 (ltB.irrefl w)
theorem own_facts {l : List ByteArray} (hs : Small l) (hg : GoodW l) {w : ByteArray} (hw : w ∈ l) (n : Nat) (hn : n ≤ 4) :
    ∃ K ns all, graph_Build.f K l = some (0, ns) ∧ (⟨0, w⟩ :: all : List S24).length ≤ 60 ∧
      walk_Next.f K ns w (n : Int) true ⟨0, ⟨#[]⟩⟩ 1 = some ([⟨0, w⟩], decide ((⟨0, w⟩ :: all : List S24).length ≤ 1)) ∧ walk_Next.f K ns w (n : Int) true ⟨0, ⟨#[]⟩⟩ 60 = some (⟨0, w⟩ :: all, true) ∧ walk_Next.f K ns w (n : Int) false ⟨0, w⟩ 60 = some (all, true) ∧ inkhornlaw0_SameItems.f K all all = some true := by
  have hws := hs.2 w hw
  have hwd := hg.words w hw
  have hm : mayAsk w (n : Int) := ⟨⟨hwd.1, Nat.le_trans hwd.2.2 (by omega)⟩, by omega, by omega⟩
  obtain ⟨ns, ⟨K0, h0⟩, hG⟩ := build_good hs hg
  obtain ⟨t, ht⟩ := own_first hg hw n
  have htot := levels_total (runes w 0) hg.sorted (n + 1)
  have hlen := hg.len
  rw [ht] at htot
  have e1 : restP w (n : Int) l true ⟨0, ⟨#[]⟩⟩ = ⟨0, w⟩ :: t := by
    unfold restP allP
    rw [if_pos hm, show ((n : Int)).toNat = n by omega, ht, List.filter_eq_self]
    intro x _
    rfl
  have e2 : restP w (n : Int) l false ⟨0, w⟩ = t := by
    have h1 := rest_split (all_sorted w (n : Int) hg.sorted) true ⟨0, ⟨#[]⟩⟩ ⟨0, w⟩ 0 (by
      have := e1
      unfold restP at this
      rw [this]; rfl)
    have h2 := e1
    unfold restP at h2 ⊢
    rw [h1, h2]
    rfl
  obtain ⟨K1, h1⟩ := next_ev hG w (by omega) (n : Int) true ⟨0, ⟨#[]⟩⟩ 1
  obtain ⟨K2, h2⟩ := next_ev hG w (by omega) (n : Int) true ⟨0, ⟨#[]⟩⟩ 60
  obtain ⟨K3, h3⟩ := next_ev hG w (by omega) (n : Int) false ⟨0, w⟩ 60
  simp only [List.length_cons] at htot
  obtain ⟨K4, h4⟩ := sameItems_ev t (by omega)
  have n1 : nextP w (n : Int) l true ⟨0, ⟨#[]⟩⟩ 1 = ([⟨0, w⟩], decide ((⟨0, w⟩ :: t : List S24).length ≤ 1)) := by
    unfold nextP
    rw [e1]
    rfl
  have n2 : nextP w (n : Int) l true ⟨0, ⟨#[]⟩⟩ 60 = (⟨0, w⟩ :: t, true) := by
    unfold nextP
    rw [e1, show ((60 : Int)).toNat = 60 by omega, List.take_of_length_le (by simp only [List.length_cons]; omega), decide_eq_true (by simp only [List.length_cons]; omega)]
  have n3 : nextP w (n : Int) l false ⟨0, w⟩ 60 = (t, true) := by
    unfold nextP
    rw [e2, show ((60 : Int)).toNat = 60 by omega, List.take_of_length_le (by omega), decide_eq_true (by omega)]
  rw [n1] at h1
  rw [n2] at h2
  rw [n3] at h3
  exact ⟨max K0 (max K1 (max K2 (max K3 K4))), ns, t, h0 _ (by omega), by simp only [List.length_cons]; omega, h1 _ (by omega), h2 _ (by omega), h3 _ (by omega), h4 _ (by omega)⟩
end Go.Proofs.Ytklidannncajiaa.OW

namespace Go.Proofs.Ytklidannncajiaa.OW
open Go.RowKit Go.Proofs.YtklidannncajiaaW.PrintWords Go.Proofs.YtklidannncajiaaW.PrintLast Go.Proofs.YtklidannncajiaaW.PrintMore
attribute [local go_sem] max2_int min2_int max_two min_two
set_option linter.unusedVariables false
set_option linter.unusedSimpArgs false

theorem compact_calls' {W : World} {base : Nat} {ok : Nat → Prop} (A : Option Addr) (c n : Nat) (ys : List ByteArray) (hn : ys.length = n) (hl : ys.length ≤ 1000) (h : Kd.R Kd.string 9 W base ok (.slice A n c) ys) :
    Calls Try.prog 49 #[.slice A n c] W fun e w' => ∃ v', e = .returned v' ∧ Kd.R Kd.string 9 w' base ok v' (compactP ys) ∧ W.grownBy w' (Value.slice A n c).ownBlock := by
  subst hn
  exact compact_calls A c ys hl h
theorem take_texts (A : Option Addr) (n c m : Nat) (hm : m ≤ c) : ∀ W : World, (Instr.slice 22 (.slice A n c) none (some (.int .i64 (m : Int))) none).run Try.prog W = .ok (.slice A m c) W := by
  intro W
  obtain ⟨i, hi, hz⟩ := Option.map_eq_some_iff.1 info9
  simp only [Prod.mk.injEq] at hz
  have hel : Try.prog.elem 22 = 9 := by simp [Program.elem, Try.underlying22]
  have hu : Try.prog.underlying 22 = some (.slice (Try.prog.elem 22)) := by rw [hel]; exact Try.underlying22
  have ha : (A.map fun x => x.add 0) = A := by cases A <;> simp [Addr.add]
  rw [run_slice_h W 22 A n c hu .i64 (m : Int) (by omega) (by omega), hel]
  simp [sizeOf, typeInfo, hi, hz.2.1, sliced, Result.andThen, ha]
set_option maxHeartbeats 8000000 in
set_option maxRecDepth 100000 in
theorem sorted_calls (A : Option Addr) (c : Nat) (l : List ByteArray) (w : World) (hl : l.length ≤ 1000) (hb : ∀ s ∈ l, s.size ≤ 1000000) (hr : Kd.C Kd.string w A l.length l) (hc : l.length ≤ c) :
    Calls Try.prog 31 #[.slice A l.length c] w fun e w' => ∃ v r, e = .returned v ∧ Kd.R Kd.string 9 w' w.heap.size (fun _ => True) v r ∧ (r.Pairwise ltB ∧ (∀ s ∈ r, isWord s ∧ s ∈ l) ∧ r.length ≤ l.length) ∧ Below w.heap.size w w' := by
  have HR := Aside0.mk hr
  have HC := Aside0.mk hc
  have HBS := Aside0.mk hb
  have hmin : (if (l.length : Int) < 1000 then (l.length : Int) else 1000) = (l.length : Int) := by split <;> omega
  have hrun := take_texts A l.length c l.length hc
  have hl0 : (0 : Int) ≤ (l.length : Int) := by omega
  clear hr hb
  go_enter Try.func31, Try.ntmps31
  go_upto_region 3 with fail
  clear hrun hmin hc
  go_wp2_with fail
  go_loopg [3, 13] l.length (fun kq v3 v13 W => ∃ (i : Nat) (acc : List ByteArray), v13 = .int .i64 i ∧ Aside0 (i + kq = l.length) ∧ Aside0 (acc = (l.take i).filter (fun x => decide (isWord x))) ∧ Aside0 (Kd.R Kd.string 9 W w.heap.size (fun _ => True) v3 acc) ∧ Aside0 (Below w.heap.size w W))
  case atStart => exact ⟨0, [], rfl, ⟨by omega⟩, ⟨by simp⟩, ⟨Kd.R_nil _ _ _ _ _⟩, ⟨Below.refl _ _⟩⟩
  case round =>
    obtain ⟨i, acc, rfl, HI, HACC, HO, HW⟩ := hrel
    have HR0 := Aside0.mk (Kd.C_below HR.out HW.out)
    have hi := HI.out
    cases gk with
    | zero =>
      obtain rfl : i = l.length := by omega
      have hlt2 : decide ((l.length : Int) < (l.length : Int)) = false := decide_eq_false (by omega)
      obtain ⟨A3, c3, e3⟩ := Kd.R_slice HO.out
      subst e3
      have hal : acc.length ≤ l.length := by
        rw [HACC.out]
        exact Nat.le_trans (List.length_filter_le _ _) (by rw [List.length_take]; omega)
      go_wp2_with (first | ((with_reducible refine gate_callee (f := 48) rfl ?_); (try (refine gate_guard (by rfl) ?_; dsimp only)); refine goesL_ (some 26) rfl rfl Try.func48 (by kernel_rfl) rfl #[.slice A3 acc.length c3, .func (.func 44) #[] #[]] rfl (by (try simp only [List.map_toArray, List.map_cons, List.map_nil]); first | done | rfl) ?_; (with_reducible refine (sort_calls A3 c3 acc (by omega) HO.out).mono ?_); rintro e w2 ⟨rfl, ys, hyl, hym, hys, hyr, hyg⟩; refine ⟨_, rfl, ?_⟩; have HW2 := Aside0.mk (HW.out.grown hyg HW.out.size (Kd.R_base HO.out)); have HYL := Aside0.mk hyl; have HYM := Aside0.mk hym; have HYS := Aside0.mk hys; have HYR := Aside0.mk hyr; clear hyl hym hys hyr hyg) | ((with_reducible refine gate_callee (f := 49) rfl ?_); (try (refine gate_guard (by rfl) ?_; dsimp only)); refine goesL_ (some 28) rfl rfl Try.func49 (by kernel_rfl) rfl #[.slice A3 acc.length c3] rfl (by (try simp only [List.map_toArray, List.map_cons, List.map_nil]); first | done | rfl) ?_; (with_reducible refine (compact_calls' A3 c3 acc.length ys HYL.out (by have := HYL.out; omega) HYR.out).mono ?_); rintro e w3 ⟨v3, rfl, hcr, hcg⟩; refine ⟨_, rfl, ?_⟩; have HW3 := Aside0.mk (HW2.out.grown hcg HW2.out.size (Kd.R_base HYR.out)); have HCR := Aside0.mk hcr; clear hcr hcg))
      go_ret
      refine ⟨_, compactP ys, rfl, HCR.out, ⟨compactP_sorted HYS.out, fun s hs => ?_, ?_⟩, HW3.out⟩
      · have h1 := HYM.out s (compactP_mem hs)
        rw [HACC.out, List.take_length] at h1
        obtain ⟨h2, h3⟩ := List.mem_filter.1 h1
        exact ⟨of_decide_eq_true h3, h2⟩
      · have := compactP_len ys
        have := HYL.out
        omega
    | succ ko =>
        have hil : i < l.length := by omega
        have hil2 : decide ((i : Int) < (l.length : Int)) = true := decide_eq_true (by omega)
        have hh0 : (0 : Int) ≤ (i : Int) := by omega
        have hh1 : (i : Int) < (l.length : Int) := by omega
        obtain ⟨ad, e101, hx⟩ := Kd.at_string HR0.out (i : Int) (by omega) (by omega)
        cases e101
        rw [Int.toNat_natCast, rdOf_nat _ _ _ hil] at hx
        obtain ⟨y, hy⟩ : ∃ y, l[i]'hil = y := ⟨_, rfl⟩
        rw [hy] at hx
        have hys : y.size ≤ 1000000 := by rw [← hy]; exact HBS.out _ (List.getElem_mem hil)
        obtain ⟨b, hb⟩ : ∃ b, decide (isWord y) = b := ⟨_, rfl⟩
        have HB := Aside0.mk (show text_Word.f y = some b by rw [word_eq hys, hb])
        have hacc : acc.length ≤ l.length := by
          rw [HACC.out]
          exact Nat.le_trans (List.length_filter_le _ _) (by rw [List.length_take]; omega)
        have hnew : (l.take (i + 1)).filter (fun x => decide (isWord x)) = acc ++ (if b = true then [y] else []) := by
          rw [List.take_add_one, List.getElem?_eq_getElem hil, hy, List.filter_append, HACC.out]
          congr 1
          show List.filter (fun x => decide (isWord x)) [y] = _
          rw [List.filter_cons, hb]
          cases b <;> rfl
        have HN := Aside0.mk hnew
        clear hnew hb hy hys
        cases b with
        | false =>
          go_wp2_with ((with_reducible refine gate_callee (f := 43) rfl ?_); (try (refine gate_guard (by rfl) ?_; dsimp only)); refine goesL_ (some 18) rfl rfl Try.func43 (by kernel_rfl) rfl #[.string y] rfl (by (try simp only [List.map_toArray, List.map_cons, List.map_nil]); first | done | rfl) ?_; (with_reducible refine (text_Word.calls y false _ HB.out).mono ?_); rintro e w2 ⟨rfl, hb⟩; refine ⟨_, rfl, ?_⟩; have HO2 := Aside0.mk (Kd.R_below HO.out hb); have HW2 := Aside0.mk (below_step HW.out hb); clear hb HO HW HR0 hx)
          go_roundg ko
          case measure => omega
          case rel => exact ⟨i + 1, acc, by go_num, ⟨by omega⟩, ⟨by have := HN.out; simp only [Bool.false_eq_true, if_false, List.append_nil] at this; exact this.symm⟩, HO2, HW2⟩
        | true =>
          go_wp2_with (first | ((with_reducible refine gate_callee (f := 43) rfl ?_); (try (refine gate_guard (by rfl) ?_; dsimp only)); refine goesL_ (some 18) rfl rfl Try.func43 (by kernel_rfl) rfl #[.string y] rfl (by (try simp only [List.map_toArray, List.map_cons, List.map_nil]); first | done | rfl) ?_; (with_reducible refine (text_Word.calls y true _ HB.out).mono ?_); rintro e w2 ⟨rfl, hb⟩; refine ⟨_, rfl, ?_⟩; have HO2 := Aside0.mk (Kd.R_below HO.out hb); have HW2 := Aside0.mk (below_step HW.out hb); clear hb HO HW HR0 hx) | ((with_reducible refine gate_builtin (b := .append) (xs := #[.tmp 19, .tmp 21]) rfl ?_); at_builtin; refine Kd.R_append Kd.string (w0 := w) w.heap.size rfl (.tmp 19) (.tmp 21) 22 9 (.string ⟨#[]⟩) 16 rfl Try.underlying22 info9 rfl (by decide) (by omega) u3 acc y [.string y] (fun _ => True) (fun _ => False) rfl rfl ?aP (fun _ hk => hk.elim) (fun _ _ => trivial) HO2.out HW2.out HW2.out.size (by omega) ?_; (case aP => exact rfl); intro v1 w1 ho hb hg hat; have HO3 := Aside0.mk ho; have HW3 := Aside0.mk hb; clear ho hb hg hat HO2 HW2))
          go_roundg ko
          case measure => omega
          case rel => exact ⟨i + 1, acc ++ [y], by go_num, ⟨by omega⟩, ⟨by have := HN.out; simp only [if_true] at this; exact this.symm⟩, HO3, HW3⟩
end Go.Proofs.Ytklidannncajiaa.OW
