/- What the automaton's functions tell, of rows of distances: a state's whole row, a row's state, one rune more, the distance told. -/
import Derived.Test.YtlbblankafjedaaAmA
import Derived.Test.YtlbblankafjedaaOAutox2
import Derived.Test.YtlbblankafjedaaOAutox3
import Derived.Test.YtlbblankafjedaaOAutox4
import Derived.Test.YtlbblankafjedaaOAutox5
import Derived.Test.YtlbblankafjedaaOAutox6
import Derived.Test.YtlbblankafjedaaOAutox8
import Derived.Test.YtlbblankafjedaaOAutox10
namespace Go.Proofs.Ytlbblankafjedaa.Am
open Go.RowKit Go.Proofs.Ytlbblankafjedaa.OAuto Go.Proofs.YtlbblankafjedaaW.PrintWords Go.Proofs.YtlbblankafjedaaW.PrintLast Go.Proofs.YtlbblankafjedaaW.PrintMore

theorem wr (x : Int) (h1 : -9223372036854775808 ≤ x) (h2 : x ≤ 9223372036854775807) : wrap64 x = x := by
  unfold wrap64; omega
theorem bind_self {α : Type} (o : Option α) : (o.bind fun t => some t) = o := by cases o <;> rfl
theorem mx_eq (a b : Int) : mx a b = max a b := by unfold mx; split <;> omega
theorem mn_eq (a b : Int) : mn a b = min a b := by unfold mn; split <;> omega

/-! ### Rows -/
structure IsRow (xs : List Int) (n : Nat) (g : Nat → Int) : Prop where
  len : xs.length = n + 1
  at_ : ∀ i, i ≤ n → xs.getD i 0 = g i
def mkRow (n : Nat) (g : Nat → Int) : List Int := (List.range (n + 1)).map g
theorem isRow_mk (n : Nat) (g : Nat → Int) : IsRow (mkRow n g) n g :=
  ⟨by simp [mkRow], fun i hi => by simp [mkRow, List.getD_eq_getElem?_getD, List.getElem?_range (show i < n + 1 by omega)]⟩
theorem IsRow.eq {xs : List Int} {n : Nat} {g : Nat → Int} (h : IsRow xs n g) : xs = mkRow n g := by
  apply List.ext_getElem
  · rw [h.len, (isRow_mk n g).len]
  · intro i h1 h2
    have hi : i ≤ n := by have := h.len; omega
    have e1 := h.at_ i hi
    have e2 := (isRow_mk n g).at_ i hi
    simp only [List.getD_eq_getElem?_getD, List.getElem?_eq_getElem h1, List.getElem?_eq_getElem h2, Option.getD_some] at e1 e2
    rw [e1, e2]
theorem IsRow.rd_ {xs : List Int} {n : Nat} {g : Nat → Int} (h : IsRow xs n g) (i : Nat) (hi : i ≤ n) : rd xs (i : Int) = g i := by
  unfold rd; rw [Int.toNat_natCast]; exact h.at_ i hi
theorem IsRow.congr {xs : List Int} {n : Nat} {g g' : Nat → Int} (h : IsRow xs n g) (e : ∀ i, i ≤ n → g i = g' i) : IsRow xs n g' :=
  ⟨h.len, fun i hi => (h.at_ i hi).trans (e i hi)⟩
theorem getD_set (xs : List Int) (i j : Nat) (v : Int) (h : i < xs.length) : (xs.set i v).getD j 0 = if i = j then v else xs.getD j 0 := by
  simp only [List.getD_eq_getElem?_getD, List.getElem?_set, h]
  split <;> simp
theorem IsRow.set_ {xs : List Int} {n : Nat} {g : Nat → Int} (h : IsRow xs n g) (i : Nat) (hi : i ≤ n) (v : Int) : IsRow (xs.set i v) n (fun j => if i = j then v else g j) :=
  ⟨by rw [List.length_set, h.len], fun j hj => by rw [getD_set _ _ _ _ (by rw [h.len]; omega), h.at_ j hj]⟩

/-! ### spread: a state's whole row -/
/-- What one position does to the row. -/
def one (k : Nat) (p : S35) (g : Nat → Int) : Nat → Int := fun i => if (i : Int) - p.f0 ≤ k ∧ p.f0 - (i : Int) ≤ k then min (g i) (p.f1 + max ((i : Int) - p.f0) (p.f0 - (i : Int))) else g i
def mrow (k : Nat) : List S35 → (Nat → Int) → Nat → Int
  | [], g => g
  | p :: s, g => mrow k s (one k p g)
theorem mrow_le (k : Nat) : ∀ (s : List S35) (g : Nat → Int) (i : Nat), mrow k s g i ≤ g i
  | [], _, _ => Int.le_refl _
  | p :: s, g, i => by
    have h := mrow_le k s (one k p g) i
    have h2 : one k p g i ≤ g i := by unfold one; split <;> omega
    show mrow k s (one k p g) i ≤ g i
    omega
theorem mrow_le_mem (k : Nat) : ∀ (s : List S35) (g : Nat → Int) (i : Nat) (p : S35), p ∈ s → (i : Int) - p.f0 ≤ k → p.f0 - (i : Int) ≤ k → mrow k s g i ≤ p.f1 + max ((i : Int) - p.f0) (p.f0 - (i : Int))
  | p' :: s, g, i, p, hp, h1, h2 => by
    show mrow k s (one k p' g) i ≤ _
    rcases List.mem_cons.1 hp with rfl | hp
    · have h := mrow_le k s (one k p g) i
      have h3 : one k p g i ≤ p.f1 + max ((i : Int) - p.f0) (p.f0 - (i : Int)) := by unfold one; rw [if_pos ⟨h1, h2⟩]; omega
      omega
    · exact mrow_le_mem k s _ i p hp h1 h2
theorem mrow_ge (k : Nat) (c : Int) (i : Nat) : ∀ (s : List S35) (g : Nat → Int), c ≤ g i → (∀ p ∈ s, c ≤ p.f1 + max ((i : Int) - p.f0) (p.f0 - (i : Int))) → c ≤ mrow k s g i
  | [], _, h, _ => h
  | p :: s, g, h, hs => by
    show c ≤ mrow k s (one k p g) i
    refine mrow_ge k c i s _ ?_ (fun q hq => hs q (List.mem_cons_of_mem _ hq))
    have := hs p (List.mem_cons_self ..)
    unfold one
    split <;> omega

theorem spread_l2 (q : List Int) (k : Nat) (hk : k ≤ 4) (hq : q.length ≤ 16) (s : List S35) (p : S35) (t : Int) (h0 : 0 ≤ p.f0) (h1 : p.f0 ≤ q.length) (h2 : 0 ≤ p.f1) (h3 : p.f1 ≤ k) (R : List Int) :
    ∀ (d x : Nat) (xs : List Int) (g : Nat → Int), IsRow xs q.length g → (x : Int) + d = max (min (p.f0 + k) q.length + 1) (x : Int) →
      (∀ xs', IsRow xs' q.length (fun i => if x ≤ i ∧ (i : Int) ≤ min (p.f0 + k) q.length then min (g i) (p.f1 + max ((i : Int) - p.f0) (p.f0 - (i : Int))) else g i) → Ev (fun K => auto_spread.l1 K q k xs' s s.length (wrap64 (t + 1))) R) →
      Ev (fun K => auto_spread.l2 K q k xs (x : Int) s s.length t p.f0 p.f1) R := by
  intro d
  induction d with
  | zero =>
    intro x xs g hr hd hc
    refine Ev.step (fun K => ?_) (hc xs (hr.congr fun i hi => ?_))
    · simp only [auto_spread.l2]
      rw [if_neg (by rw [mn_eq, wr _ (by omega) (by omega)]; omega)]
    · rw [if_neg (by omega)]
  | succ d ih =>
    intro x xs g hr hd hc
    have hx : (x : Int) ≤ min (p.f0 + k) q.length := by omega
    have hxn : x ≤ q.length := by omega
    refine Ev.step (fun K => ?_) (ih (x + 1) (xs.set x (min (g x) (p.f1 + max ((x : Int) - p.f0) (p.f0 - (x : Int))))) _ (hr.set_ x hxn _) (by omega) fun xs' hr' => hc xs' (hr'.congr fun i hi => ?_))
    · simp only [auto_spread.l2]
      rw [if_pos (by rw [mn_eq, wr _ (by omega) (by omega)]; omega), if_pos (by omega), if_pos (by rw [hr.len]; omega)]
      rw [hr.rd_ x hxn, mn_eq, mx_eq, wr ((x : Int) - p.f0) (by omega) (by omega), wr (p.f0 - (x : Int)) (by omega) (by omega), wr (p.f1 + _) (by omega) (by omega), wr ((x : Int) + 1) (by omega) (by omega), Int.toNat_natCast]
      rfl
    · by_cases e : x = i
      · subst e
        rw [if_neg (by omega), if_pos rfl, if_pos (by omega)]
      · rw [if_neg e]
        by_cases c : x ≤ i ∧ (i : Int) ≤ min (p.f0 + k) q.length
        · rw [if_pos c, if_pos (by omega)]
        · rw [if_neg c, if_neg (by omega)]

theorem rd_T35_mid (pre suf : List S35) (p : S35) : rd_T35 (pre ++ p :: suf) (pre.length : Int) = p := by
  simp [rd_T35, List.getD_eq_getElem?_getD]
theorem spread_l1 (q : List Int) (k : Nat) (hk : k ≤ 4) (hq : q.length ≤ 16) (s : List S35) (hs : s.length ≤ 100) :
    ∀ (suf pre : List S35) (xs : List Int) (g : Nat → Int), s = pre ++ suf → IsRow xs q.length g → (∀ p ∈ suf, 0 ≤ p.f0 ∧ p.f0 ≤ q.length ∧ 0 ≤ p.f1 ∧ p.f1 ≤ k) →
      Ev (fun K => auto_spread.l1 K q k xs s s.length (pre.length : Int)) (mkRow q.length (mrow k suf g)) := by
  intro suf
  induction suf with
  | nil =>
    intro pre xs g he hr _
    refine Ev.step (fun K => ?_) (Ev.now _)
    simp only [auto_spread.l1]
    rw [if_neg (by rw [he]; simp), hr.eq]
    rfl
  | cons p suf ih =>
    intro pre xs g he hr hv
    obtain ⟨h0, h1, h2, h3⟩ := hv p (List.mem_cons_self ..)
    have hl : s.length = pre.length + (suf.length + 1) := by rw [he]; simp
    have hp : rd_T35 s (pre.length : Int) = p := by rw [he]; exact rd_T35_mid _ _ _
    refine Ev.step (fun K => ?_) (Ev.step (f := fun K => auto_spread.l2 K q k xs (mx (wrap64 (p.f0 - k)) 0) s s.length pre.length p.f0 p.f1) (g := fun K => auto_spread.j2 K q k xs s s.length pre.length false p.f0 p.f1) (fun K => ?_) ?_)
    · simp only [auto_spread.l1]
      rw [if_pos (by omega), if_pos (by omega), if_pos (by omega), hp, if_neg (by omega), if_neg (by omega), if_neg (by omega)]
      rw [show decide (p.f1 > (k : Int)) = false by simp; omega]
    · simp only [auto_spread.j2]
      rfl
    · obtain ⟨x, hx⟩ : ∃ x : Nat, (x : Int) = mx (wrap64 (p.f0 - k)) 0 := ⟨(mx (wrap64 (p.f0 - k)) 0).toNat, by rw [mx_eq]; omega⟩
      rw [← hx]
      have hx' : (x : Int) = max (p.f0 - k) 0 := by rw [hx, mx_eq, wr _ (by omega) (by omega)]
      refine spread_l2 q k hk hq s p pre.length h0 h1 h2 h3 _ (max (min (p.f0 + k) q.length + 1) (x : Int) - x).toNat x xs g hr (by omega) fun xs' hr' => ?_
      rw [wr _ (by omega) (by omega)]
      have := ih (pre ++ [p]) xs' (one k p g) (by rw [he]; simp) (hr'.congr fun i hi => ?_) (fun p' hp' => hv p' (List.mem_cons_of_mem _ hp'))
      · rw [List.length_append, List.length_singleton, Int.natCast_add] at this
        exact this
      · unfold one
        by_cases c : (i : Int) - p.f0 ≤ k ∧ p.f0 - (i : Int) ≤ k
        · rw [if_pos c, if_pos (by omega)]
        · rw [if_neg c, if_neg (by omega)]
theorem spread_l0 (q : List Int) (k : Nat) (hk : k ≤ 4) (hq : q.length ≤ 16) (s : List S35) (R : List Int)
    (hc : Ev (fun K => auto_spread.l1 K q k (mkRow q.length (fun _ => (k : Int) + 1)) s s.length 0) R) :
    ∀ (d x : Nat) (xs : List Int), xs.length = q.length + 1 → x + d = q.length + 1 → (∀ i, i < x → xs.getD i 0 = (k : Int) + 1) →
      Ev (fun K => auto_spread.l0 K q k s xs ((q.length : Int) + 1) (x : Int)) R := by
  intro d
  induction d with
  | zero =>
    intro x xs hl hd hx
    have hr : IsRow xs q.length (fun _ => (k : Int) + 1) := ⟨hl, fun i hi => hx i (by omega)⟩
    refine Ev.step (fun K => ?_) hc
    simp only [auto_spread.l0]
    rw [if_neg (by omega), hr.eq]
  | succ d ih =>
    intro x xs hl hd hx
    refine Ev.step (fun K => ?_) (ih (x + 1) (xs.set x ((k : Int) + 1)) (by rw [List.length_set, hl]) (by omega) (fun i hi => ?_))
    · simp only [auto_spread.l0]
      rw [if_pos (by omega), if_pos (by omega), if_pos (by rw [hl]; omega), wr ((k : Int) + 1) (by omega) (by omega), wr ((x : Int) + 1) (by omega) (by omega), Int.toNat_natCast]
      rfl
    · rw [getD_set _ _ _ _ (by omega)]
      by_cases e : x = i
      · rw [if_pos e]
      · rw [if_neg e]; exact hx i (by omega)
theorem spread_any (q : List Int) (k : Nat) (hk : k ≤ 4) (hq : q.length ≤ 16) (s : List S35) (hs : s.length ≤ 100) (hv : ∀ p ∈ s, 0 ≤ p.f0 ∧ p.f0 ≤ q.length ∧ 0 ≤ p.f1 ∧ p.f1 ≤ k) :
    Ev (fun K => auto_spread.f K q k s) (mkRow q.length (mrow k s (fun _ => (k : Int) + 1))) := by
  have h1 := spread_l1 q k hk hq s hs s [] (mkRow q.length (fun _ => (k : Int) + 1)) _ rfl (isRow_mk _ _) hv
  have h0 := spread_l0 q k hk hq s _ h1 (q.length + 1) 0 (List.replicate (q.length + 1) 0) (by simp) (by omega) (fun i hi => by omega)
  refine Ev.congr (fun K => ?_) h0
  unfold auto_spread.f
  have e : (wrap64 ((q.length : Int) + 1)).toNat = q.length + 1 := by rw [wr _ (by omega) (by omega)]; omega
  rw [if_pos (by rw [wr _ (by omega) (by omega)]; omega), if_pos (by omega), e, Option.bind_some, List.length_replicate]
  rfl

/-! ### The state of a row -/
def keep (k n : Nat) (f : Nat → Nat) (j : Nat) : Bool := decide (f j ≤ k) && !(List.range (n + 1)).any (fun i => decide (f i < f j) && decide ((i - j) + (j - i) ≤ f j - f i))
theorem keep_iff (k n : Nat) (f : Nat → Nat) (j : Nat) : keep k n f j = true ↔ f j ≤ k ∧ ∀ i, i ≤ n → f i < f j → ¬ ((i - j) + (j - i) ≤ f j - f i) := by
  unfold keep
  simp only [Bool.and_eq_true, decide_eq_true_eq, Bool.not_eq_true', List.any_eq_false, List.mem_range, Nat.lt_succ_iff, not_and]
/-- The state of a row of distances. -/
def St (k n : Nat) (f : Nat → Nat) : List S35 := ((List.range (n + 1)).filter (keep k n f)).map (fun j : Nat => (⟨(j : Int), (f j : Int)⟩ : S35))
theorem St_len (k n : Nat) (f : Nat → Nat) : (St k n f).length ≤ n + 1 := by
  unfold St
  rw [List.length_map]
  exact Nat.le_trans (List.length_filter_le _ _) (by simp)
theorem St_mem {k n : Nat} {f : Nat → Nat} {p : S35} : p ∈ St k n f ↔ ∃ j, j ≤ n ∧ keep k n f j = true ∧ p = ⟨(j : Int), (f j : Int)⟩ := by
  unfold St
  simp only [List.mem_map, List.mem_filter, List.mem_range, Nat.lt_succ_iff]
  constructor
  · rintro ⟨j, ⟨h1, h2⟩, rfl⟩; exact ⟨j, h1, h2, rfl⟩
  · rintro ⟨j, h1, h2, rfl⟩; exact ⟨j, ⟨h1, h2⟩, rfl⟩
theorem St_valid {k n : Nat} {f : Nat → Nat} : ∀ p ∈ St k n f, 0 ≤ p.f0 ∧ p.f0 ≤ n ∧ 0 ≤ p.f1 ∧ p.f1 ≤ k := by
  intro p hp
  obtain ⟨j, h1, h2, rfl⟩ := St_mem.1 hp
  have := (keep_iff k n f j).1 h2
  refine ⟨?_, ?_, ?_, ?_⟩ <;> simp <;> omega
/-- Each distance that is not above k is told by a position that stays. -/
theorem kept_below (k n : Nat) (f : Nat → Nat) : ∀ (m j : Nat), f j ≤ m → j ≤ n → f j ≤ k → ∃ i, i ≤ n ∧ keep k n f i = true ∧ f i + ((i - j) + (j - i)) ≤ f j := by
  intro m
  induction m with
  | zero =>
    intro j h0 hj hk
    exact ⟨j, hj, (keep_iff _ _ _ _).2 ⟨hk, fun i _ hi => by omega⟩, by omega⟩
  | succ m ih =>
    intro j hm hj hk
    by_cases hkeep : keep k n f j = true
    · exact ⟨j, hj, hkeep, by omega⟩
    · rw [keep_iff] at hkeep
      have : ∃ i, i ≤ n ∧ f i < f j ∧ (i - j) + (j - i) ≤ f j - f i := by
        apply Classical.byContradiction
        intro hno
        exact hkeep ⟨hk, fun i hi h1 h2 => hno ⟨i, hi, h1, h2⟩⟩
      obtain ⟨i, hi, h1, h2⟩ := this
      obtain ⟨i', hi', h3, h4⟩ := ih i (by omega) hi (by omega)
      exact ⟨i', hi', h3, by omega⟩
theorem mrow_St (k n : Nat) (f : Nat → Nat) (hf : Lip f) (i : Nat) (hi : i ≤ n) : mrow k (St k n f) (fun _ => (k : Int) + 1) i = ((min (f i) (k + 1) : Nat) : Int) := by
  have h1 := mrow_le k (St k n f) (fun _ => (k : Int) + 1) i
  have h2 : ((min (f i) (k + 1) : Nat) : Int) ≤ mrow k (St k n f) (fun _ => (k : Int) + 1) i := by
    refine mrow_ge k _ i _ _ (by omega) fun p hp => ?_
    obtain ⟨j, hj, hkeep, rfl⟩ := St_mem.1 hp
    have := hf.any i j
    simp only
    omega
  by_cases hk : f i ≤ k
  · obtain ⟨j, hj, hkeep, hle⟩ := kept_below k n f (f i) i (Nat.le_refl _) hi hk
    have h3 := mrow_le_mem k (St k n f) (fun _ => (k : Int) + 1) i ⟨(j : Int), (f j : Int)⟩ (St_mem.2 ⟨j, hj, hkeep, rfl⟩) (by simp only; omega) (by simp only; omega)
    simp only at h3
    omega
  · omega
/-- A row of distances, none told above k and 1. -/
def cap (k n : Nat) (f : Nat → Nat) : List Int := mkRow n (fun i => ((min (f i) (k + 1) : Nat) : Int))
theorem cap_row (k n : Nat) (f : Nat → Nat) : IsRow (cap k n f) n (fun i => ((min (f i) (k + 1) : Nat) : Int)) := isRow_mk _ _
theorem spread_St (q : List Int) (k : Nat) (hk : k ≤ 4) (hq : q.length ≤ 16) (f : Nat → Nat) (hf : Lip f) :
    Ev (fun K => auto_spread.f K q k (St k q.length f)) (cap k q.length f) := by
  have h := spread_any q k hk hq (St k q.length f) (by have := St_len k q.length f; omega) St_valid
  have e : mkRow q.length (mrow k (St k q.length f) (fun _ => (k : Int) + 1)) = cap k q.length f :=
    ((isRow_mk q.length (mrow k (St k q.length f) (fun _ => (k : Int) + 1))).congr fun i hi => mrow_St k q.length f hf i hi).eq
  rwa [e] at h

theorem state_l1 (k n : Nat) (hk : k ≤ 4) (hn : n ≤ 16) (f : Nat → Nat) (xs : List Int) (hr : IsRow xs n (fun i => ((min (f i) (k + 1) : Nat) : Int))) (j : Nat) (hj : j ≤ n) (hfj : f j ≤ k) (acc : List S35) (R : List S35) :
    ∀ (d x : Nat) (b : Bool), (x : Int) + d = max ((min ((j : Int) + k) n) + 1) x →
      (∀ b', (b' = true ↔ (b = true ∨ ∃ i : Nat, x ≤ i ∧ i ≤ j + k ∧ i ≤ n ∧ f i < f j ∧ (i - j) + (j - i) ≤ f j - f i)) →
        Ev (fun K => if b' = true then (auto_state.l0 K xs k acc xs xs.length ((j : Int) + 1)) else (if acc.length < 8796093022208 then (auto_state.l0 K xs k (acc ++ [(⟨(j : Int), (f j : Int)⟩ : S35)]) xs xs.length ((j : Int) + 1)) else none)) R) →
      Ev (fun K => auto_state.l1 K xs k acc j (f j) b x xs xs.length j) R := by
  intro d
  have hl := hr.len
  induction d with
  | zero =>
    intro x b hd hc
    refine Ev.step (fun K => ?_) (hc b ⟨fun h => .inl h, fun h => ?_⟩)
    · simp only [auto_state.l1]
      rw [if_neg (by rw [mn_eq, wr _ (by omega) (by omega), wr _ (by omega) (by omega)]; omega), wr ((j : Int) + 1) (by omega) (by omega)]
    · rcases h with h | ⟨i, h1, h2, h3, _⟩
      · exact h
      · omega
  | succ d ih =>
    intro x b hd hc
    have hx : x ≤ j + k ∧ x ≤ n := by omega
    have hg : (x : Int) ≤ mn (wrap64 ((j : Int) + k)) (wrap64 ((xs.length : Int) - 1)) := by rw [mn_eq, wr _ (by omega) (by omega), wr _ (by omega) (by omega)]; omega
    have hw : wrap64 ((x : Int) + 1) = ((x + 1 : Nat) : Int) := by rw [wr _ (by omega) (by omega)]; rfl
    have hrd := hr.rd_ x hx.2
    by_cases hb : b = true
    · subst hb
      refine Ev.step (fun K => ?_) (ih (x + 1) true (by omega) fun b' hb' => hc b' (hb'.trans ⟨fun _ => .inl rfl, fun _ => .inl rfl⟩))
      simp only [auto_state.l1]
      rw [if_pos hg, if_pos trivial, hw]
    · have hbf : b = false := by simpa using hb
      subst hbf
      by_cases hlt : f x < f j
      · refine Ev.step (fun K => ?_) (ih (x + 1) (decide ((x - j) + (j - x) ≤ f j - f x)) (by omega) fun b' hb' => hc b' (hb'.trans ?_))
        · simp only [auto_state.l1]
          rw [if_pos hg, if_neg (by simp), if_pos (by omega), if_pos (by omega), hrd, if_pos (by omega), hw, mx_eq, wr ((x : Int) - j) (by omega) (by omega), wr ((j : Int) - x) (by omega) (by omega), wr _ (by omega) (by omega)]
          have e : decide (max ((x : Int) - j) ((j : Int) - x) ≤ (f j : Int) - ((min (f x) (k + 1) : Nat) : Int)) = decide ((x - j) + (j - x) ≤ f j - f x) := by
            rw [decide_eq_decide]; omega
          rw [e]
        · constructor
          · rintro (h | ⟨i, h1, h2⟩)
            · exact .inr ⟨x, Nat.le_refl _, hx.1, hx.2, hlt, by simpa using h⟩
            · exact .inr ⟨i, by omega, h2⟩
          · rintro (h | ⟨i, h1, h2, h3, h4, h5⟩)
            · exact absurd h (by simp)
            · by_cases e : i = x
              · subst e; exact .inl (by simpa using h5)
              · exact .inr ⟨i, by omega, h2, h3, h4, h5⟩
      · refine Ev.step (fun K => ?_) (ih (x + 1) false (by omega) fun b' hb' => hc b' (hb'.trans ?_))
        · simp only [auto_state.l1]
          rw [if_pos hg, if_neg (by simp), if_pos (by omega), if_pos (by omega), hrd, if_neg (by omega), hw]
        · constructor
          · rintro (h | ⟨i, h1, h2⟩)
            · exact .inl h
            · exact .inr ⟨i, by omega, h2⟩
          · rintro (h | ⟨i, h1, h2, h3, h4, h5⟩)
            · exact .inl h
            · by_cases e : i = x
              · subst e; exact absurd h4 hlt
              · exact .inr ⟨i, by omega, h2, h3, h4, h5⟩
theorem state_l0 (k n : Nat) (hk : k ≤ 4) (hn : n ≤ 16) (f : Nat → Nat) (xs : List Int) (hr : IsRow xs n (fun i => ((min (f i) (k + 1) : Nat) : Int))) :
    ∀ (d j : Nat) (acc : List S35), j + d = n + 1 → acc.length ≤ j →
      Ev (fun K => auto_state.l0 K xs k acc xs xs.length (j : Int)) (acc ++ ((List.range' j d).filter (keep k n f)).map (fun j : Nat => (⟨(j : Int), (f j : Int)⟩ : S35))) := by
  intro d
  have hl := hr.len
  induction d with
  | zero =>
    intro j acc hd _
    refine Ev.step (fun K => ?_) (Ev.now _)
    simp only [auto_state.l0]
    rw [if_neg (by omega)]
    simp
  | succ d ih =>
    intro j acc hd hacc
    have hjn : j ≤ n := by omega
    have hrd := hr.rd_ j hjn
    have hw : wrap64 ((j : Int) + 1) = ((j + 1 : Nat) : Int) := by rw [wr _ (by omega) (by omega)]; rfl
    rw [List.range'_succ, List.filter_cons]
    by_cases hf : f j ≤ k
    · refine Ev.step (f := fun K => auto_state.l1 K xs k acc j (f j) false (max ((j : Int) - k) 0) xs xs.length j) (fun K => ?_) ?_
      · simp only [auto_state.l0]
        rw [if_pos (by omega), if_pos (by omega), if_pos (by omega), hrd, if_neg (by omega), mx_eq, wr _ (by omega) (by omega), show ((min (f j) (k + 1) : Nat) : Int) = (f j : Int) by omega]
      · obtain ⟨x, hx⟩ : ∃ x : Nat, (x : Int) = max ((j : Int) - k) 0 := ⟨(max ((j : Int) - k) 0).toNat, by omega⟩
        rw [← hx]
        refine state_l1 k n hk hn f xs hr j hjn hf acc _ (max ((min ((j : Int) + k) n) + 1) x - x).toNat x false (by omega) fun b' hb' => ?_
        have hkb : keep k n f j = !b' := by
          rw [Bool.eq_iff_iff, keep_iff]
          constructor
          · intro h
            cases b' with
            | false => rfl
            | true =>
              rcases hb'.1 rfl with h' | ⟨i, _, _, h3, h4, h5⟩
              · exact absurd h' (by simp)
              · exact absurd h5 (h.2 i h3 h4)
          · intro h
            refine ⟨hf, fun i hi h4 h5 => ?_⟩
            have : b' = true := hb'.2 (.inr ⟨i, by omega, by omega, hi, h4, h5⟩)
            rw [this] at h
            exact absurd h (by simp)
        rw [hkb]
        cases b' with
        | true =>
          simp only [if_true, Bool.not_true, Bool.false_eq_true, if_false]
          exact ih (j + 1) acc (by omega) (by omega)
        | false =>
          simp only [Bool.false_eq_true, if_false, Bool.not_false, if_true, List.map_cons, show acc.length < 8796093022208 from by omega]
          have := ih (j + 1) (acc ++ [⟨(j : Int), (f j : Int)⟩]) (by omega) (by simp; omega)
          simpa [List.append_assoc] using this
    · have hkf : keep k n f j = false := by
        apply Bool.eq_false_iff.2
        intro h
        exact hf ((keep_iff _ _ _ _).1 h).1
      rw [hkf]
      refine Ev.step (fun K => ?_) (ih (j + 1) acc (by omega) (by omega))
      simp only [auto_state.l0]
      rw [if_pos (by omega), if_pos (by omega), if_pos (by omega), hrd, if_pos (by omega), hw]
theorem state_cap (k n : Nat) (hk : k ≤ 4) (hn : n ≤ 16) (f : Nat → Nat) : Ev (fun K => auto_state.f K (cap k n f) k) (St k n f) := by
  have := state_l0 k n hk hn f _ (cap_row k n f) (n + 1) 0 [] (by omega) (by simp)
  rw [← List.range_eq_range'] at this
  exact this

/-! ### One rune more -/
theorem step_l0 (q : List Int) (r : Int) (k : Nat) (hk : k ≤ 4) (hq : q.length ≤ 16) (f : Nat → Nat) :
    ∀ (d i : Nat) (ys : List Int), i + d = q.length → ys.length = q.length + 1 → (∀ j, j ≤ i → ys.getD j 0 = ((min (stepRow q r f j) (k + 1) : Nat) : Int)) →
      Ev (fun K => auto_Step.l0 K k r (cap k q.length f) ys q q.length (i : Int)) (St k q.length (stepRow q r f)) := by
  intro d
  have hr := cap_row k q.length f
  have hl := hr.len
  induction d with
  | zero =>
    intro i ys hd hy hv
    have e : ys = cap k q.length (stepRow q r f) := (IsRow.eq ⟨hy, fun j hj => hv j (by omega)⟩)
    subst e
    refine Ev.step (fun K => ?_) (state_cap k q.length hk hq (stepRow q r f))
    simp only [auto_Step.l0]
    rw [if_neg (by omega)]
    exact bind_self _
  | succ d ih =>
    intro i ys hd hy hv
    have hw : wrap64 ((i : Int) + 1) = ((i + 1 : Nat) : Int) := by rw [wr _ (by omega) (by omega)]; rfl
    have h1 := hr.rd_ i (by omega)
    have h2 := hr.rd_ (i + 1) (by omega)
    have h3 : rd ys (i : Int) = ((min (stepRow q r f i) (k + 1) : Nat) : Int) := by unfold rd; rw [Int.toNat_natCast]; exact hv i (Nat.le_refl _)
    have hgd : rd q (i : Int) = q.getD i 0 := by unfold rd; rw [Int.toNat_natCast]
    refine Ev.step (fun K => ?_) (ih (i + 1) (ys.set (i + 1) ((min (stepRow q r f (i + 1)) (k + 1) : Nat) : Int)) (by omega) (by rw [List.length_set, hy]) fun j hj => ?_)
    · simp only [auto_Step.l0]
      rw [if_pos (by omega), if_pos (by omega), if_pos (by omega), if_pos (by omega), hw, h1, h2, h3, hgd]
      by_cases e : q.getD i 0 = r
      · rw [if_pos e, if_pos (by omega), if_pos (by omega), if_pos (by omega), if_pos (by omega), mn_eq, mn_eq, mn_eq, wr (((min (f (i + 1)) (k + 1) : Nat) : Int) + 1) (by omega) (by omega), wr (((min (stepRow q r f i) (k + 1) : Nat) : Int) + 1) (by omega) (by omega), wr ((k : Int) + 1) (by omega) (by omega), Int.toNat_natCast]
        simp only [stepRow]
        rw [if_pos e]
        congr 2
        omega
      · rw [if_neg e, if_pos (by omega), if_pos (by omega), if_pos (by omega), if_pos (by omega), mn_eq, mn_eq, mn_eq, wr (((min (f (i + 1)) (k + 1) : Nat) : Int) + 1) (by omega) (by omega), wr (((min (stepRow q r f i) (k + 1) : Nat) : Int) + 1) (by omega) (by omega), wr (((min (f i) (k + 1) : Nat) : Int) + 1) (by omega) (by omega), wr ((k : Int) + 1) (by omega) (by omega), Int.toNat_natCast]
        simp only [stepRow]
        rw [if_neg e]
        congr 2
        omega
    · rw [getD_set _ _ _ _ (by omega)]
      by_cases e : i + 1 = j
      · rw [if_pos e, e]
      · rw [if_neg e]; exact hv j (by omega)
theorem may_yes (k : Nat) (hk : k ≤ 4) : auto_may.f k = some true := by
  unfold auto_may.f
  rw [if_pos (by omega)]
  simp
  omega
theorem Step_St (q : List Int) (r : Int) (k : Nat) (hk : k ≤ 4) (hq : q.length ≤ 16) (f : Nat → Nat) (hf : Lip f) :
    Ev (fun K => auto_Step.f K q k (St k q.length f) r) (St k q.length (stepRow q r f)) := by
  have hr := cap_row k q.length f
  have hl := hr.len
  have h0 := hr.rd_ 0 (by omega)
  have h := step_l0 q r k hk hq f q.length 0 ((cap k q.length f).set 0 ((min (stepRow q r f 0) (k + 1) : Nat) : Int)) (by omega) (by rw [List.length_set, hl]) (fun j hj => by
    obtain rfl : j = 0 := by omega
    rw [getD_set _ _ _ _ (by omega), if_pos rfl])
  refine Ev.congr (f := fun K => (auto_spread.f K q k (St k q.length f)).bind fun t122 => ((slices_Clone_int_int.f t122).bind fun t125 => (if 0 < (t122.length : Int) then (if 0 < (t125.length : Int) then (auto_Step.l0 K k r t122 (t125.set (0 : Int).toNat (mn (wrap64 ((rd t122 0) + 1)) (wrap64 ((k : Int) + 1)))) q (q.length : Int) 0) else (none)) else (none)))) (fun K => ?_) (Ev.bind (spread_St q k hk hq f hf) (Ev.congr (fun K => ?_) h))
  · unfold auto_Step.f
    rw [may_yes k hk, Option.bind_some, if_pos rfl]
  · unfold slices_Clone_int_int.f
    rw [if_pos (by omega), Option.bind_some, if_pos (by omega), if_pos (by omega), show ((0 : Nat) : Int) = 0 from rfl] at *
    rw [h0, mn_eq, wr _ (by omega) (by omega), wr _ (by omega) (by omega)]
    have e : min (((min (f 0) (k + 1) : Nat) : Int) + 1) ((k : Int) + 1) = ((min (stepRow q r f 0) (k + 1) : Nat) : Int) := by simp only [stepRow]; omega
    rw [e]
    rfl
end Go.Proofs.Ytlbblankafjedaa.Am
