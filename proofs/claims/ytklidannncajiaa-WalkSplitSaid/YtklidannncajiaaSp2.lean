/- What the row of the law WalkSplit leans on: contracts of functions and plain laws, each for all inputs that its own theorem names. -/
import Derived.Test.YtklidannncajiaaSp0
import Derived.Test.YtklidannncajiaaSp1
import Derived.Outline
namespace Go.Proofs.Ytklidannncajiaa.Am
open Go.RowKit Go.Proofs.Ytklidannncajiaa.OW Go.Proofs.YtklidannncajiaaW.PrintWords Go.Proofs.YtklidannncajiaaW.PrintLast Go.Proofs.YtklidannncajiaaW.PrintMore

theorem wr (x : Int) (h1 : -9223372036854775808 ≤ x) (h2 : x ≤ 9223372036854775807) : wrap64 x = x := by
  unfold wrap64; omega
theorem bind_self {α : Type} (o : Option α) : (o.bind fun t => some t) = o := by cases o <;> rfl
theorem mx_eq (a b : Int) : mx a b = max a b := by unfold mx; split <;> omega
theorem mn_eq (a b : Int) : mn a b = min a b := by unfold mn; split <;> omega

/-! ### Rows -/
structure IsRow (xs : List Int) (n : Nat) (g : Nat → Int) : Prop where
  len : xs.length = n + 1
  at_ : ∀ i, i ≤ n → xs.getD i 0 = g i
def mkRow (n : Nat) (g : Nat → Int) : List Int := (List.range (n + 1)).map g
theorem isRow_mk (n : Nat) (g : Nat → Int) : IsRow (mkRow n g) n g :=
  ⟨by simp [mkRow], fun i hi => by simp [mkRow, List.getD_eq_getElem?_getD, List.getElem?_range (show i < n + 1 by omega)]⟩
theorem IsRow.eq {xs : List Int} {n : Nat} {g : Nat → Int} (h : IsRow xs n g) : xs = mkRow n g := by
  apply List.ext_getElem
  · rw [h.len, (isRow_mk n g).len]
  · intro i h1 h2
    have hi : i ≤ n := by have := h.len; omega
    have e1 := h.at_ i hi
    have e2 := (isRow_mk n g).at_ i hi
    simp only [List.getD_eq_getElem?_getD, List.getElem?_eq_getElem h1, List.getElem?_eq_getElem h2, Option.getD_some] at e1 e2
    rw [e1, e2]
theorem IsRow.rd_ {xs : List Int} {n : Nat} {g : Nat → Int} (h : IsRow xs n g) (i : Nat) (hi : i ≤ n) : rd xs (i : Int) = g i := by
  unfold rd; rw [Int.toNat_natCast]; exact h.at_ i hi
theorem IsRow.congr {xs : List Int} {n : Nat} {g g' : Nat → Int} (h : IsRow xs n g) (e : ∀ i, i ≤ n → g i = g' i) : IsRow xs n g' :=
  ⟨h.len, fun i hi => (h.at_ i hi).trans (e i hi)⟩
theorem getD_set (xs : List Int) (i j : Nat) (v : Int) (h : i < xs.length) : (xs.set i v).getD j 0 = if i = j then v else xs.getD j 0 := by
  simp only [List.getD_eq_getElem?_getD, List.getElem?_set, h]
  split <;> simp
theorem IsRow.set_ {xs : List Int} {n : Nat} {g : Nat → Int} (h : IsRow xs n g) (i : Nat) (hi : i ≤ n) (v : Int) : IsRow (xs.set i v) n (fun j => if i = j then v else g j) :=
  ⟨by rw [List.length_set, h.len], fun j hj => by rw [getD_set _ _ _ _ (by rw [h.len]; omega), h.at_ j hj]⟩

/-! ### spread: a state's whole row -/
/-- What one position does to the row. -/
def one (k : Nat) (p : S121) (g : Nat → Int) : Nat → Int := fun i => if (i : Int) - p.f0 ≤ k ∧ p.f0 - (i : Int) ≤ k then min (g i) (p.f1 + max ((i : Int) - p.f0) (p.f0 - (i : Int))) else g i
def mrow (k : Nat) : List S121 → (Nat → Int) → Nat → Int
  | [], g => g
  | p :: s, g => mrow k s (one k p g)
theorem mrow_le (k : Nat) : ∀ (s : List S121) (g : Nat → Int) (i : Nat), mrow k s g i ≤ g i
  | [], _, _ => Int.le_refl _
  | p :: s, g, i => by
    have h := mrow_le k s (one k p g) i
    have h2 : one k p g i ≤ g i := by unfold one; split <;> omega
    show mrow k s (one k p g) i ≤ g i
    omega
theorem mrow_le_mem (k : Nat) : ∀ (s : List S121) (g : Nat → Int) (i : Nat) (p : S121), p ∈ s → (i : Int) - p.f0 ≤ k → p.f0 - (i : Int) ≤ k → mrow k s g i ≤ p.f1 + max ((i : Int) - p.f0) (p.f0 - (i : Int))
  | p' :: s, g, i, p, hp, h1, h2 => by
    show mrow k s (one k p' g) i ≤ _
    rcases List.mem_cons.1 hp with rfl | hp
    · have h := mrow_le k s (one k p g) i
      have h3 : one k p g i ≤ p.f1 + max ((i : Int) - p.f0) (p.f0 - (i : Int)) := by unfold one; rw [if_pos ⟨h1, h2⟩]; omega
      omega
    · exact mrow_le_mem k s _ i p hp h1 h2
theorem mrow_ge (k : Nat) (c : Int) (i : Nat) : ∀ (s : List S121) (g : Nat → Int), c ≤ g i → (∀ p ∈ s, c ≤ p.f1 + max ((i : Int) - p.f0) (p.f0 - (i : Int))) → c ≤ mrow k s g i
  | [], _, h, _ => h
  | p :: s, g, h, hs => by
    show c ≤ mrow k s (one k p g) i
    refine mrow_ge k c i s _ ?_ (fun q hq => hs q (List.mem_cons_of_mem _ hq))
    have := hs p (List.mem_cons_self ..)
    unfold one
    split <;> omega

theorem spread_l2 (q : List Int) (k : Nat) (hk : k ≤ 4) (hq : q.length ≤ 16) (s : List S121) (p : S121) (t : Int) (h0 : 0 ≤ p.f0) (h1 : p.f0 ≤ q.length) (h2 : 0 ≤ p.f1) (h3 : p.f1 ≤ k) (R : List Int) :
    ∀ (d x : Nat) (xs : List Int) (g : Nat → Int), IsRow xs q.length g → (x : Int) + d = max (min (p.f0 + k) q.length + 1) (x : Int) →
      (∀ xs', IsRow xs' q.length (fun i => if x ≤ i ∧ (i : Int) ≤ min (p.f0 + k) q.length then min (g i) (p.f1 + max ((i : Int) - p.f0) (p.f0 - (i : Int))) else g i) → Ev (fun K => auto_spread.l1 K q k xs' s s.length (wrap64 (t + 1))) R) →
      Ev (fun K => auto_spread.l2 K q k xs (x : Int) s s.length t p.f0 p.f1) R := by
  intro d
  induction d with
  | zero =>
    intro x xs g hr hd hc
    refine Ev.step (fun K => ?_) (hc xs (hr.congr fun i hi => ?_))
    · simp only [auto_spread.l2]
      rw [if_neg (by rw [mn_eq, wr _ (by omega) (by omega)]; omega)]
    · rw [if_neg (by omega)]
  | succ d ih =>
    intro x xs g hr hd hc
    have hx : (x : Int) ≤ min (p.f0 + k) q.length := by omega
    have hxn : x ≤ q.length := by omega
    refine Ev.step (fun K => ?_) (ih (x + 1) (xs.set x (min (g x) (p.f1 + max ((x : Int) - p.f0) (p.f0 - (x : Int))))) _ (hr.set_ x hxn _) (by omega) fun xs' hr' => hc xs' (hr'.congr fun i hi => ?_))
    · simp only [auto_spread.l2]
      rw [if_pos (by rw [mn_eq, wr _ (by omega) (by omega)]; omega), if_pos (by omega), if_pos (by rw [hr.len]; omega)]
      rw [hr.rd_ x hxn, mn_eq, mx_eq, wr ((x : Int) - p.f0) (by omega) (by omega), wr (p.f0 - (x : Int)) (by omega) (by omega), wr (p.f1 + _) (by omega) (by omega), wr ((x : Int) + 1) (by omega) (by omega), Int.toNat_natCast]
      rfl
    · by_cases e : x = i
      · subst e
        rw [if_neg (by omega), if_pos rfl, if_pos (by omega)]
      · rw [if_neg e]
        by_cases c : x ≤ i ∧ (i : Int) ≤ min (p.f0 + k) q.length
        · rw [if_pos c, if_pos (by omega)]
        · rw [if_neg c, if_neg (by omega)]

theorem rd_T121_mid (pre suf : List S121) (p : S121) : rd_T121 (pre ++ p :: suf) (pre.length : Int) = p := by
  simp [rd_T121, List.getD_eq_getElem?_getD]
theorem spread_l1 (q : List Int) (k : Nat) (hk : k ≤ 4) (hq : q.length ≤ 16) (s : List S121) (hs : s.length ≤ 100) :
    ∀ (suf pre : List S121) (xs : List Int) (g : Nat → Int), s = pre ++ suf → IsRow xs q.length g → (∀ p ∈ suf, 0 ≤ p.f0 ∧ p.f0 ≤ q.length ∧ 0 ≤ p.f1 ∧ p.f1 ≤ k) →
      Ev (fun K => auto_spread.l1 K q k xs s s.length (pre.length : Int)) (mkRow q.length (mrow k suf g)) := by
  intro suf
  induction suf with
  | nil =>
    intro pre xs g he hr _
    refine Ev.step (fun K => ?_) (Ev.now _)
    simp only [auto_spread.l1]
    rw [if_neg (by rw [he]; simp), hr.eq]
    rfl
  | cons p suf ih =>
    intro pre xs g he hr hv
    obtain ⟨h0, h1, h2, h3⟩ := hv p (List.mem_cons_self ..)
    have hl : s.length = pre.length + (suf.length + 1) := by rw [he]; simp
    have hp : rd_T121 s (pre.length : Int) = p := by rw [he]; exact rd_T121_mid _ _ _
    refine Ev.step (fun K => ?_) (Ev.step (f := fun K => auto_spread.l2 K q k xs (mx (wrap64 (p.f0 - k)) 0) s s.length pre.length p.f0 p.f1) (g := fun K => auto_spread.j2 K q k xs s s.length pre.length false p.f0 p.f1) (fun K => ?_) ?_)
    · simp only [auto_spread.l1]
      rw [if_pos (by omega), if_pos (by omega), if_pos (by omega), hp, if_neg (by omega), if_neg (by omega), if_neg (by omega)]
      rw [show decide (p.f1 > (k : Int)) = false by simp; omega]
    · simp only [auto_spread.j2]
      rfl
    · obtain ⟨x, hx⟩ : ∃ x : Nat, (x : Int) = mx (wrap64 (p.f0 - k)) 0 := ⟨(mx (wrap64 (p.f0 - k)) 0).toNat, by rw [mx_eq]; omega⟩
      rw [← hx]
      have hx' : (x : Int) = max (p.f0 - k) 0 := by rw [hx, mx_eq, wr _ (by omega) (by omega)]
      refine spread_l2 q k hk hq s p pre.length h0 h1 h2 h3 _ (max (min (p.f0 + k) q.length + 1) (x : Int) - x).toNat x xs g hr (by omega) fun xs' hr' => ?_
      rw [wr _ (by omega) (by omega)]
      have := ih (pre ++ [p]) xs' (one k p g) (by rw [he]; simp) (hr'.congr fun i hi => ?_) (fun p' hp' => hv p' (List.mem_cons_of_mem _ hp'))
      · rw [List.length_append, List.length_singleton, Int.natCast_add] at this
        exact this
      · unfold one
        by_cases c : (i : Int) - p.f0 ≤ k ∧ p.f0 - (i : Int) ≤ k
        · rw [if_pos c, if_pos (by omega)]
        · rw [if_neg c, if_neg (by omega)]
theorem spread_l0 (q : List Int) (k : Nat) (hk : k ≤ 4) (hq : q.length ≤ 16) (s : List S121) (R : List Int)
    (hc : Ev (fun K => auto_spread.l1 K q k (mkRow q.length (fun _ => (k : Int) + 1)) s s.length 0) R) :
    ∀ (d x : Nat) (xs : List Int), xs.length = q.length + 1 → x + d = q.length + 1 → (∀ i, i < x → xs.getD i 0 = (k : Int) + 1) →
      Ev (fun K => auto_spread.l0 K q k s xs ((q.length : Int) + 1) (x : Int)) R := by
  intro d
  induction d with
  | zero =>
    intro x xs hl hd hx
    have hr : IsRow xs q.length (fun _ => (k : Int) + 1) := ⟨hl, fun i hi => hx i (by omega)⟩
    refine Ev.step (fun K => ?_) hc
    simp only [auto_spread.l0]
    rw [if_neg (by omega), hr.eq]
  | succ d ih =>
    intro x xs hl hd hx
    refine Ev.step (fun K => ?_) (ih (x + 1) (xs.set x ((k : Int) + 1)) (by rw [List.length_set, hl]) (by omega) (fun i hi => ?_))
    · simp only [auto_spread.l0]
      rw [if_pos (by omega), if_pos (by omega), if_pos (by rw [hl]; omega), wr ((k : Int) + 1) (by omega) (by omega), wr ((x : Int) + 1) (by omega) (by omega), Int.toNat_natCast]
      rfl
    · rw [getD_set _ _ _ _ (by omega)]
      by_cases e : x = i
      · rw [if_pos e]
      · rw [if_neg e]; exact hx i (by omega)
theorem spread_any (q : List Int) (k : Nat) (hk : k ≤ 4) (hq : q.length ≤ 16) (s : List S121) (hs : s.length ≤ 100) (hv : ∀ p ∈ s, 0 ≤ p.f0 ∧ p.f0 ≤ q.length ∧ 0 ≤ p.f1 ∧ p.f1 ≤ k) :
    Ev (fun K => auto_spread.f K q k s) (mkRow q.length (mrow k s (fun _ => (k : Int) + 1))) := by
  have h1 := spread_l1 q k hk hq s hs s [] (mkRow q.length (fun _ => (k : Int) + 1)) _ rfl (isRow_mk _ _) hv
  have h0 := spread_l0 q k hk hq s _ h1 (q.length + 1) 0 (List.replicate (q.length + 1) 0) (by simp) (by omega) (fun i hi => by omega)
  refine Ev.congr (fun K => ?_) h0
  unfold auto_spread.f
  have e : (wrap64 ((q.length : Int) + 1)).toNat = q.length + 1 := by rw [wr _ (by omega) (by omega)]; omega
  rw [if_pos (by rw [wr _ (by omega) (by omega)]; omega), if_pos (by omega), e, Option.bind_some, List.length_replicate]
  rfl

/-! ### The state of a row -/
def keep (k n : Nat) (f : Nat → Nat) (j : Nat) : Bool := decide (f j ≤ k) && !(List.range (n + 1)).any (fun i => decide (f i < f j) && decide ((i - j) + (j - i) ≤ f j - f i))
theorem keep_iff (k n : Nat) (f : Nat → Nat) (j : Nat) : keep k n f j = true ↔ f j ≤ k ∧ ∀ i, i ≤ n → f i < f j → ¬ ((i - j) + (j - i) ≤ f j - f i) := by
  unfold keep
  simp only [Bool.and_eq_true, decide_eq_true_eq, Bool.not_eq_true', List.any_eq_false, List.mem_range, Nat.lt_succ_iff, not_and]
/-- The state of a row of distances. -/
def St (k n : Nat) (f : Nat → Nat) : List S121 := ((List.range (n + 1)).filter (keep k n f)).map (fun j : Nat => (⟨(j : Int), (f j : Int)⟩ : S121))
theorem St_len (k n : Nat) (f : Nat → Nat) : (St k n f).length ≤ n + 1 := by
  unfold St
  rw [List.length_map]
  exact Nat.le_trans (List.length_filter_le _ _) (by simp)
theorem St_mem {k n : Nat} {f : Nat → Nat} {p : S121} : p ∈ St k n f ↔ ∃ j, j ≤ n ∧ keep k n f j = true ∧ p = ⟨(j : Int), (f j : Int)⟩ := by
  unfold St
  simp only [List.mem_map, List.mem_filter, List.mem_range, Nat.lt_succ_iff]
  constructor
  · rintro ⟨j, ⟨h1, h2⟩, rfl⟩; exact ⟨j, h1, h2, rfl⟩
  · rintro ⟨j, h1, h2, rfl⟩; exact ⟨j, ⟨h1, h2⟩, rfl⟩
theorem St_valid {k n : Nat} {f : Nat → Nat} : ∀ p ∈ St k n f, 0 ≤ p.f0 ∧ p.f0 ≤ n ∧ 0 ≤ p.f1 ∧ p.f1 ≤ k := by
  intro p hp
  obtain ⟨j, h1, h2, rfl⟩ := St_mem.1 hp
  have := (keep_iff k n f j).1 h2
  refine ⟨?_, ?_, ?_, ?_⟩ <;> simp <;> omega
/-- Each distance that is not above k is told by a position that stays. -/
theorem kept_below (k n : Nat) (f : Nat → Nat) : ∀ (m j : Nat), f j ≤ m → j ≤ n → f j ≤ k → ∃ i, i ≤ n ∧ keep k n f i = true ∧ f i + ((i - j) + (j - i)) ≤ f j := by
  intro m
  induction m with
  | zero =>
    intro j h0 hj hk
    exact ⟨j, hj, (keep_iff _ _ _ _).2 ⟨hk, fun i _ hi => by omega⟩, by omega⟩
  | succ m ih =>
    intro j hm hj hk
    by_cases hkeep : keep k n f j = true
    · exact ⟨j, hj, hkeep, by omega⟩
    · rw [keep_iff] at hkeep
      have : ∃ i, i ≤ n ∧ f i < f j ∧ (i - j) + (j - i) ≤ f j - f i := by
        apply Classical.byContradiction
        intro hno
        exact hkeep ⟨hk, fun i hi h1 h2 => hno ⟨i, hi, h1, h2⟩⟩
      obtain ⟨i, hi, h1, h2⟩ := this
      obtain ⟨i', hi', h3, h4⟩ := ih i (by omega) hi (by omega)
      exact ⟨i', hi', h3, by omega⟩
theorem mrow_St (k n : Nat) (f : Nat → Nat) (hf : Lip f) (i : Nat) (hi : i ≤ n) : mrow k (St k n f) (fun _ => (k : Int) + 1) i = ((min (f i) (k + 1) : Nat) : Int) := by
  have h1 := mrow_le k (St k n f) (fun _ => (k : Int) + 1) i
  have h2 : ((min (f i) (k + 1) : Nat) : Int) ≤ mrow k (St k n f) (fun _ => (k : Int) + 1) i := by
    refine mrow_ge k _ i _ _ (by omega) fun p hp => ?_
    obtain ⟨j, hj, hkeep, rfl⟩ := St_mem.1 hp
    have := hf.any i j
    simp only
    omega
  by_cases hk : f i ≤ k
  · obtain ⟨j, hj, hkeep, hle⟩ := kept_below k n f (f i) i (Nat.le_refl _) hi hk
    have h3 := mrow_le_mem k (St k n f) (fun _ => (k : Int) + 1) i ⟨(j : Int), (f j : Int)⟩ (St_mem.2 ⟨j, hj, hkeep, rfl⟩) (by simp only; omega) (by simp only; omega)
    simp only at h3
    omega
  · omega
/-- A row of distances, none told above k and 1. -/
def cap (k n : Nat) (f : Nat → Nat) : List Int := mkRow n (fun i => ((min (f i) (k + 1) : Nat) : Int))
theorem cap_row (k n : Nat) (f : Nat → Nat) : IsRow (cap k n f) n (fun i => ((min (f i) (k + 1) : Nat) : Int)) := isRow_mk _ _
theorem spread_St (q : List Int) (k : Nat) (hk : k ≤ 4) (hq : q.length ≤ 16) (f : Nat → Nat) (hf : Lip f) :
    Ev (fun K => auto_spread.f K q k (St k q.length f)) (cap k q.length f) := by
  have h := spread_any q k hk hq (St k q.length f) (by have := St_len k q.length f; omega) St_valid
  have e : mkRow q.length (mrow k (St k q.length f) (fun _ => (k : Int) + 1)) = cap k q.length f :=
    ((isRow_mk q.length (mrow k (St k q.length f) (fun _ => (k : Int) + 1))).congr fun i hi => mrow_St k q.length f hf i hi).eq
  rwa [e] at h

theorem state_l1 (k n : Nat) (hk : k ≤ 4) (hn : n ≤ 16) (f : Nat → Nat) (xs : List Int) (hr : IsRow xs n (fun i => ((min (f i) (k + 1) : Nat) : Int))) (j : Nat) (hj : j ≤ n) (hfj : f j ≤ k) (acc : List S121) (R : List S121) :
    ∀ (d x : Nat) (b : Bool), (x : Int) + d = max ((min ((j : Int) + k) n) + 1) x →
      (∀ b', (b' = true ↔ (b = true ∨ ∃ i : Nat, x ≤ i ∧ i ≤ j + k ∧ i ≤ n ∧ f i < f j ∧ (i - j) + (j - i) ≤ f j - f i)) →
        Ev (fun K => if b' = true then (auto_state.l0 K xs k acc xs xs.length ((j : Int) + 1)) else (if acc.length < 8796093022208 then (auto_state.l0 K xs k (acc ++ [(⟨(j : Int), (f j : Int)⟩ : S121)]) xs xs.length ((j : Int) + 1)) else none)) R) →
      Ev (fun K => auto_state.l1 K xs k acc j (f j) b x xs xs.length j) R := by
  intro d
  have hl := hr.len
  induction d with
  | zero =>
    intro x b hd hc
    refine Ev.step (fun K => ?_) (hc b ⟨fun h => .inl h, fun h => ?_⟩)
    · simp only [auto_state.l1]
      rw [if_neg (by rw [mn_eq, wr _ (by omega) (by omega), wr _ (by omega) (by omega)]; omega), wr ((j : Int) + 1) (by omega) (by omega)]
    · rcases h with h | ⟨i, h1, h2, h3, _⟩
      · exact h
      · omega
  | succ d ih =>
    intro x b hd hc
    have hx : x ≤ j + k ∧ x ≤ n := by omega
    have hg : (x : Int) ≤ mn (wrap64 ((j : Int) + k)) (wrap64 ((xs.length : Int) - 1)) := by rw [mn_eq, wr _ (by omega) (by omega), wr _ (by omega) (by omega)]; omega
    have hw : wrap64 ((x : Int) + 1) = ((x + 1 : Nat) : Int) := by rw [wr _ (by omega) (by omega)]; rfl
    have hrd := hr.rd_ x hx.2
    by_cases hb : b = true
    · subst hb
      refine Ev.step (fun K => ?_) (ih (x + 1) true (by omega) fun b' hb' => hc b' (hb'.trans ⟨fun _ => .inl rfl, fun _ => .inl rfl⟩))
      simp only [auto_state.l1]
      rw [if_pos hg, if_pos trivial, hw]
    · have hbf : b = false := by simpa using hb
      subst hbf
      by_cases hlt : f x < f j
      · refine Ev.step (fun K => ?_) (ih (x + 1) (decide ((x - j) + (j - x) ≤ f j - f x)) (by omega) fun b' hb' => hc b' (hb'.trans ?_))
        · simp only [auto_state.l1]
          rw [if_pos hg, if_neg (by simp), if_pos (by omega), if_pos (by omega), hrd, if_pos (by omega), hw, mx_eq, wr ((x : Int) - j) (by omega) (by omega), wr ((j : Int) - x) (by omega) (by omega), wr _ (by omega) (by omega)]
          have e : decide (max ((x : Int) - j) ((j : Int) - x) ≤ (f j : Int) - ((min (f x) (k + 1) : Nat) : Int)) = decide ((x - j) + (j - x) ≤ f j - f x) := by
            rw [decide_eq_decide]; omega
          rw [e]
        · constructor
          · rintro (h | ⟨i, h1, h2⟩)
            · exact .inr ⟨x, Nat.le_refl _, hx.1, hx.2, hlt, by simpa using h⟩
            · exact .inr ⟨i, by omega, h2⟩
          · rintro (h | ⟨i, h1, h2, h3, h4, h5⟩)
            · exact absurd h (by simp)
            · by_cases e : i = x
              · subst e; exact .inl (by simpa using h5)
              · exact .inr ⟨i, by omega, h2, h3, h4, h5⟩
      · refine Ev.step (fun K => ?_) (ih (x + 1) false (by omega) fun b' hb' => hc b' (hb'.trans ?_))
        · simp only [auto_state.l1]
          rw [if_pos hg, if_neg (by simp), if_pos (by omega), if_pos (by omega), hrd, if_neg (by omega), hw]
        · constructor
          · rintro (h | ⟨i, h1, h2⟩)
            · exact .inl h
            · exact .inr ⟨i, by omega, h2⟩
          · rintro (h | ⟨i, h1, h2, h3, h4, h5⟩)
            · exact .inl h
            · by_cases e : i = x
              · subst e; exact absurd h4 hlt
              · exact .inr ⟨i, by omega, h2, h3, h4, h5⟩
theorem state_l0 (k n : Nat) (hk : k ≤ 4) (hn : n ≤ 16) (f : Nat → Nat) (xs : List Int) (hr : IsRow xs n (fun i => ((min (f i) (k + 1) : Nat) : Int))) :
    ∀ (d j : Nat) (acc : List S121), j + d = n + 1 → acc.length ≤ j →
      Ev (fun K => auto_state.l0 K xs k acc xs xs.length (j : Int)) (acc ++ ((List.range' j d).filter (keep k n f)).map (fun j : Nat => (⟨(j : Int), (f j : Int)⟩ : S121))) := by
  intro d
  have hl := hr.len
  induction d with
  | zero =>
    intro j acc hd _
    refine Ev.step (fun K => ?_) (Ev.now _)
    simp only [auto_state.l0]
    rw [if_neg (by omega)]
    simp
  | succ d ih =>
    intro j acc hd hacc
    have hjn : j ≤ n := by omega
    have hrd := hr.rd_ j hjn
    have hw : wrap64 ((j : Int) + 1) = ((j + 1 : Nat) : Int) := by rw [wr _ (by omega) (by omega)]; rfl
    rw [List.range'_succ, List.filter_cons]
    by_cases hf : f j ≤ k
    · refine Ev.step (f := fun K => auto_state.l1 K xs k acc j (f j) false (max ((j : Int) - k) 0) xs xs.length j) (fun K => ?_) ?_
      · simp only [auto_state.l0]
        rw [if_pos (by omega), if_pos (by omega), if_pos (by omega), hrd, if_neg (by omega), mx_eq, wr _ (by omega) (by omega), show ((min (f j) (k + 1) : Nat) : Int) = (f j : Int) by omega]
      · obtain ⟨x, hx⟩ : ∃ x : Nat, (x : Int) = max ((j : Int) - k) 0 := ⟨(max ((j : Int) - k) 0).toNat, by omega⟩
        rw [← hx]
        refine state_l1 k n hk hn f xs hr j hjn hf acc _ (max ((min ((j : Int) + k) n) + 1) x - x).toNat x false (by omega) fun b' hb' => ?_
        have hkb : keep k n f j = !b' := by
          rw [Bool.eq_iff_iff, keep_iff]
          constructor
          · intro h
            cases b' with
            | false => rfl
            | true =>
              rcases hb'.1 rfl with h' | ⟨i, _, _, h3, h4, h5⟩
              · exact absurd h' (by simp)
              · exact absurd h5 (h.2 i h3 h4)
          · intro h
            refine ⟨hf, fun i hi h4 h5 => ?_⟩
            have : b' = true := hb'.2 (.inr ⟨i, by omega, by omega, hi, h4, h5⟩)
            rw [this] at h
            exact absurd h (by simp)
        rw [hkb]
        cases b' with
        | true =>
          simp only [if_true, Bool.not_true, Bool.false_eq_true, if_false]
          exact ih (j + 1) acc (by omega) (by omega)
        | false =>
          simp only [Bool.false_eq_true, if_false, Bool.not_false, if_true, List.map_cons, show acc.length < 8796093022208 from by omega]
          have := ih (j + 1) (acc ++ [⟨(j : Int), (f j : Int)⟩]) (by omega) (by simp; omega)
          simpa [List.append_assoc] using this
    · have hkf : keep k n f j = false := by
        apply Bool.eq_false_iff.2
        intro h
        exact hf ((keep_iff _ _ _ _).1 h).1
      rw [hkf]
      refine Ev.step (fun K => ?_) (ih (j + 1) acc (by omega) (by omega))
      simp only [auto_state.l0]
      rw [if_pos (by omega), if_pos (by omega), if_pos (by omega), hrd, if_pos (by omega), hw]
theorem state_cap (k n : Nat) (hk : k ≤ 4) (hn : n ≤ 16) (f : Nat → Nat) : Ev (fun K => auto_state.f K (cap k n f) k) (St k n f) := by
  have := state_l0 k n hk hn f _ (cap_row k n f) (n + 1) 0 [] (by omega) (by simp)
  rw [← List.range_eq_range'] at this
  exact this

/-! ### One rune more -/
theorem step_l0 (q : List Int) (r : Int) (k : Nat) (hk : k ≤ 4) (hq : q.length ≤ 16) (f : Nat → Nat) :
    ∀ (d i : Nat) (ys : List Int), i + d = q.length → ys.length = q.length + 1 → (∀ j, j ≤ i → ys.getD j 0 = ((min (stepRow q r f j) (k + 1) : Nat) : Int)) →
      Ev (fun K => auto_Step.l0 K k r (cap k q.length f) ys q q.length (i : Int)) (St k q.length (stepRow q r f)) := by
  intro d
  have hr := cap_row k q.length f
  have hl := hr.len
  induction d with
  | zero =>
    intro i ys hd hy hv
    have e : ys = cap k q.length (stepRow q r f) := (IsRow.eq ⟨hy, fun j hj => hv j (by omega)⟩)
    subst e
    refine Ev.step (fun K => ?_) (state_cap k q.length hk hq (stepRow q r f))
    simp only [auto_Step.l0]
    rw [if_neg (by omega)]
    exact bind_self _
  | succ d ih =>
    intro i ys hd hy hv
    have hw : wrap64 ((i : Int) + 1) = ((i + 1 : Nat) : Int) := by rw [wr _ (by omega) (by omega)]; rfl
    have h1 := hr.rd_ i (by omega)
    have h2 := hr.rd_ (i + 1) (by omega)
    have h3 : rd ys (i : Int) = ((min (stepRow q r f i) (k + 1) : Nat) : Int) := by unfold rd; rw [Int.toNat_natCast]; exact hv i (Nat.le_refl _)
    have hgd : rd q (i : Int) = q.getD i 0 := by unfold rd; rw [Int.toNat_natCast]
    refine Ev.step (fun K => ?_) (ih (i + 1) (ys.set (i + 1) ((min (stepRow q r f (i + 1)) (k + 1) : Nat) : Int)) (by omega) (by rw [List.length_set, hy]) fun j hj => ?_)
    · simp only [auto_Step.l0]
      rw [if_pos (by omega), if_pos (by omega), if_pos (by omega), if_pos (by omega), hw, h1, h2, h3, hgd]
      by_cases e : q.getD i 0 = r
      · rw [if_pos e, if_pos (by omega), if_pos (by omega), if_pos (by omega), if_pos (by omega), mn_eq, mn_eq, mn_eq, wr (((min (f (i + 1)) (k + 1) : Nat) : Int) + 1) (by omega) (by omega), wr (((min (stepRow q r f i) (k + 1) : Nat) : Int) + 1) (by omega) (by omega), wr ((k : Int) + 1) (by omega) (by omega), Int.toNat_natCast]
        simp only [stepRow]
        rw [if_pos e]
        congr 2
        omega
      · rw [if_neg e, if_pos (by omega), if_pos (by omega), if_pos (by omega), if_pos (by omega), mn_eq, mn_eq, mn_eq, wr (((min (f (i + 1)) (k + 1) : Nat) : Int) + 1) (by omega) (by omega), wr (((min (stepRow q r f i) (k + 1) : Nat) : Int) + 1) (by omega) (by omega), wr (((min (f i) (k + 1) : Nat) : Int) + 1) (by omega) (by omega), wr ((k : Int) + 1) (by omega) (by omega), Int.toNat_natCast]
        simp only [stepRow]
        rw [if_neg e]
        congr 2
        omega
    · rw [getD_set _ _ _ _ (by omega)]
      by_cases e : i + 1 = j
      · rw [if_pos e, e]
      · rw [if_neg e]; exact hv j (by omega)
theorem may_yes (k : Nat) (hk : k ≤ 4) : auto_may.f k = some true := by
  unfold auto_may.f
  rw [if_pos (by omega)]
  simp
  omega
theorem Step_St (q : List Int) (r : Int) (k : Nat) (hk : k ≤ 4) (hq : q.length ≤ 16) (f : Nat → Nat) (hf : Lip f) :
    Ev (fun K => auto_Step.f K q k (St k q.length f) r) (St k q.length (stepRow q r f)) := by
  have hr := cap_row k q.length f
  have hl := hr.len
  have h0 := hr.rd_ 0 (by omega)
  have h := step_l0 q r k hk hq f q.length 0 ((cap k q.length f).set 0 ((min (stepRow q r f 0) (k + 1) : Nat) : Int)) (by omega) (by rw [List.length_set, hl]) (fun j hj => by
    obtain rfl : j = 0 := by omega
    rw [getD_set _ _ _ _ (by omega), if_pos rfl])
  refine Ev.congr (f := fun K => (auto_spread.f K q k (St k q.length f)).bind fun t122 => ((slices_Clone_int_int.f t122).bind fun t125 => (if 0 < (t122.length : Int) then (if 0 < (t125.length : Int) then (auto_Step.l0 K k r t122 (t125.set (0 : Int).toNat (mn (wrap64 ((rd t122 0) + 1)) (wrap64 ((k : Int) + 1)))) q (q.length : Int) 0) else (none)) else (none)))) (fun K => ?_) (Ev.bind (spread_St q k hk hq f hf) (Ev.congr (fun K => ?_) h))
  · unfold auto_Step.f
    rw [may_yes k hk, Option.bind_some, if_pos rfl]
  · unfold slices_Clone_int_int.f
    rw [if_pos (by omega), Option.bind_some, if_pos (by omega), if_pos (by omega), show ((0 : Nat) : Int) = 0 from rfl] at *
    rw [h0, mn_eq, wr _ (by omega) (by omega), wr _ (by omega) (by omega)]
    have e : min (((min (f 0) (k + 1) : Nat) : Int) + 1) ((k : Int) + 1) = ((min (stepRow q r f 0) (k + 1) : Nat) : Int) := by simp only [stepRow]; omega
    rw [e]
    rfl
end Go.Proofs.Ytklidannncajiaa.Am

namespace Go.Proofs.Ytklidannncajiaa.Am
open Go.RowKit Go.Proofs.Ytklidannncajiaa.OW Go.Proofs.YtklidannncajiaaW.PrintWords Go.Proofs.YtklidannncajiaaW.PrintLast Go.Proofs.YtklidannncajiaaW.PrintMore

theorem St_start (k : Nat) (n : Nat) : St k n (fun i => i) = [⟨0, 0⟩] := by
  unfold St
  rw [List.range_eq_range', List.range'_succ, List.filter_cons]
  have h0 : keep k n (fun i => i) 0 = true := (keep_iff _ _ _ _).2 ⟨Nat.zero_le _, fun i _ h => by omega⟩
  rw [h0, if_pos rfl]
  have h1 : (List.range' (0 + 1) n).filter (keep k n (fun i => i)) = [] := by
    rw [List.filter_eq_nil_iff]
    intro j hj
    rw [List.mem_range'] at hj
    obtain ⟨m, hm, rfl⟩ := hj
    rw [keep_iff]
    intro h
    have := h.2 0 (Nat.zero_le _) (by omega)
    omega
  rw [h1]
  rfl
theorem Start_St (q : List Int) (k : Nat) (hk : k ≤ 4) : auto_Start.f q k = some (St k q.length (dp q [])) := by
  unfold auto_Start.f
  rw [may_yes k hk, Option.bind_some, if_pos rfl]
  rw [show dp q [] = fun i => i from rfl, St_start]
theorem Step_dp (q p : List Int) (r : Int) (k : Nat) (hk : k ≤ 4) (hq : q.length ≤ 16) :
    Ev (fun K => auto_Step.f K q k (St k q.length (dp q p)) r) (St k q.length (dp q (p ++ [r]))) := by
  rw [dp_snoc]
  exact Step_St q r k hk hq _ (lip_dp q p)
theorem Dist_dp (q p : List Int) (k : Nat) (hk : k ≤ 4) (hq : q.length ≤ 16) :
    Ev (fun K => auto_Dist.f K q k (St k q.length (dp q p))) (if far q p ≤ k then ((far q p : Int), true) else (0, false)) := by
  have hr := cap_row k q.length (dp q p)
  have h1 := hr.rd_ q.length (Nat.le_refl _)
  refine Ev.congr (f := fun K => (auto_spread.f K q k (St k q.length (dp q p))).bind fun t268 => (if 0 ≤ (q.length : Int) then (if (q.length : Int) < (t268.length : Int) then (if (rd t268 (q.length : Int)) > k then (some (0, false)) else (some (rd t268 (q.length : Int), true))) else (none)) else (none))) (fun K => ?_) (Ev.bind (spread_St q k hk hq _ (lip_dp q p)) (Ev.congr (fun K => ?_) (Ev.now _)))
  · unfold auto_Dist.f
    rw [may_yes k hk, Option.bind_some, if_pos rfl]
  · rw [if_pos (by omega), if_pos (by rw [hr.len]; omega), h1]
    unfold far
    by_cases c : dp q p q.length ≤ k
    · rw [if_pos c, if_neg (by omega), show min (dp q p q.length) (k + 1) = dp q p q.length by omega]
    · rw [if_neg c, if_pos (by omega)]
end Go.Proofs.Ytklidannncajiaa.Am

-- Laid by a program of this session (wip/ownprint.py, wip/hooks.py) over the seat's translation. Lean checks it.
namespace Go.Proofs.Ytklidannncajiaa.OW
open Go.RowKit Go.Proofs.YtklidannncajiaaW.PrintWords Go.Proofs.YtklidannncajiaaW.PrintLast Go.Proofs.YtklidannncajiaaW.PrintMore
attribute [local go_sem] max2_int min2_int max_two min_two max_three min_three max_four min_four   -- for this text's walks alone
set_option linter.unusedVariables false
set_option linter.unusedSimpArgs false

theorem eqA24 (d : Nat) (w : World) (x0 y0 : Int) (x1 y1 : ByteArray) :
    (Op.equalIn (d + 2) 24 (.agg #[.int .i64 x0, .string x1]) (.agg #[.int .i64 y0, .string y1])).run Try.prog w = .ok (x0 == y0 && (x1.toList == y1.toList)) w := by
  refine eqA_of Try.underlying24 (by kernel_rfl) ?_
  refine eqf_cons (by rfl) (by go_simp; rfl) (by go_simp; rfl) (by go_simp) ?_
  exact eqf_last (by rfl) (by go_simp; rfl) (by go_simp; rfl) (by go_simp)
end Go.Proofs.Ytklidannncajiaa.OW

-- Laid by a program of this session (wip/ownprint.py, wip/hooks.py) over the seat's translation. Lean checks it.
namespace Go.Proofs.Ytklidannncajiaa.OW
open Go.RowKit Go.Proofs.YtklidannncajiaaW.PrintWords Go.Proofs.YtklidannncajiaaW.PrintLast Go.Proofs.YtklidannncajiaaW.PrintMore
attribute [local go_sem] max2_int min2_int max_two min_two max_three min_three max_four min_four   -- for this text's walks alone
set_option linter.unusedVariables false
set_option linter.unusedSimpArgs false

attribute [local go_sem high] eqA24
/-! ### inkhornlaw0_SameItems: function 17 -/
def inkhornlaw0_SameItems.l0 : Nat → List (S24) → List (S24) → Int → Option (Bool)
  | 0, _, _, _ => none
  | k + 1, x0, x1, x5 => if x5 < (x0.length : Int) then (if 0 ≤ x5 then (if x5 < (x1.length : Int) then (if (!(((rd_T24 x0 x5).f0) == ((rd_T24 x1 x5).f0)) || (!((((rd_T24 x0 x5).f1).toList) == (((rd_T24 x1 x5).f1).toList)))) = true then (some false) else (inkhornlaw0_SameItems.l0 k x0 x1 (wrap64 (x5 + 1)))) else (none)) else (none)) else (some true)
def inkhornlaw0_SameItems.f (k : Nat) (l0 : List (S24)) (l1 : List (S24)) : Option (Bool) := if (l0.length : Int) = (l1.length : Int) then (inkhornlaw0_SameItems.l0 k l0 l1 0) else (some false)
set_option maxHeartbeats 8000000 in
set_option maxRecDepth 100000 in
theorem inkhornlaw0_SameItems.calls (k : Nat) (A0 : Option Addr) (c0 : Nat) (l0 : List (S24)) (A1 : Option Addr) (c1 : Nat) (l1 : List (S24)) (r : Bool) (w : World) (hr0 : Kd.C k24 w A0 l0.length l0) (hc0 : l0.length ≤ c0) (hr1 : Kd.C k24 w A1 l1.length l1) (hc1 : l1.length ≤ c1) (h : inkhornlaw0_SameItems.f k l0 l1 = some r) :
    Calls Try.prog 17 #[.slice A0 l0.length c0, .slice A1 l1.length c1] w fun e w' => e = .returned (.bool r) ∧ Drawn0 w w' := by
  have hu24 := Try.underlying24
  have HR0 := Aside0.mk hr0
  have HC0 := Aside0.mk hc0
  clear hr0 hc0
  have HR1 := Aside0.mk hr1
  have HC1 := Aside0.mk hc1
  clear hr1 hc1
  have H : (if (l0.length : Int) = (l1.length : Int) then (inkhornlaw0_SameItems.l0 k l0 l1 0) else (some false)) = some r := h
  clear h
  by_cases c3 : (l0.length : Int) = (l1.length : Int)
  · rw [if_pos c3] at H
    have c3b0 : ((l0.length : Int) == (l1.length : Int)) = true := beq_iff_eq.mpr c3
    have c3b1 : ((l0.length : Int) != (l1.length : Int)) = false := bne_eq_false_iff_eq.mpr c3
    have c3b2 : (l0.length == l1.length) = true := by first | simpa using c3 | (simp at c3 ⊢; omega)
    clear c3
    have H' := Aside0.mk H
    clear H
    go_enter Try.func17, Try.ntmps17
    go_wp2
    repeat (go_quiet (fail); try go_wp2)
    go_loopg [5] k (fun kq v5 w' => ∃ (x5_1 : Int), v5 = .int .i64 x5_1 ∧ Aside0 (inkhornlaw0_SameItems.l0 kq l0 l1 x5_1 = some r) ∧ Aside0 (kq ≤ k) ∧ Drawn0 w w')
    case atStart => exact ⟨(0), (by first | rfl | (simp; done) | (simp [*]; done)), H', ⟨Nat.le_refl _⟩, by repeat (first | exact Drawn0.refl _ | apply Drawn0.step)⟩
    case round =>
      clear H'
      try clear c1
      try clear p2
      try clear c3
      try clear c3b0
      try clear c3b1
      try clear c3b2
      obtain ⟨x5_1, rfl, HA, HK1, ⟨m1, rfl⟩⟩ := hrel
      cases gk with
      | zero => exact absurd HA.out (by simp [inkhornlaw0_SameItems.l0])
      | succ k1 =>
        have H := HA.out
        clear HA
        simp only [inkhornlaw0_SameItems.l0] at H
        by_cases c4 : x5_1 < (l0.length : Int)
        · rw [if_pos c4] at H
          have c4b0 : decide (x5_1 < (l0.length : Int)) = true := decide_eq_true c4
          clear c4
          by_cases c5 : 0 ≤ x5_1
          · rw [if_pos c5] at H
            have c5b0 : decide (0 ≤ x5_1) = true := decide_eq_true c5
            clear c5
            by_cases c6 : x5_1 < (l1.length : Int)
            · rw [if_pos c6] at H
              have c6b0 : decide (x5_1 < (l1.length : Int)) = true := decide_eq_true c6
              clear c6
              by_cases c7 : (!(((rd_T24 l0 x5_1).f0) == ((rd_T24 l1 x5_1).f0)) || (!((((rd_T24 l0 x5_1).f1).toList) == (((rd_T24 l1 x5_1).f1).toList)))) = true
              · rw [if_pos c7] at H
                have c7b0 : (!(((rd_T24 l0 x5_1).f0) == ((rd_T24 l1 x5_1).f0)) || (!((((rd_T24 l0 x5_1).f1).toList) == (((rd_T24 l1 x5_1).f1).toList)))) = true := c7
                clear c7
                obtain rfl := Option.some.inj H
                have p157 : 0 ≤ (x5_1 : Int) := of_decide_eq_true (by first | (with_reducible assumption) | assumption)
                have q157 : x5_1 < (l0.length : Int) := of_decide_eq_true (by first | (with_reducible assumption) | assumption)
                obtain ⟨ad157, e157, hx157_0, hx157_1⟩ := at_T24 HR0.out x5_1 p157 q157
                cases e157
                replace p157 := eq_true p157
                replace q157 := eq_true q157
                have p158 : 0 ≤ (x5_1 : Int) := of_decide_eq_true (by first | (with_reducible assumption) | assumption)
                have q158 : x5_1 < (l1.length : Int) := of_decide_eq_true (by first | (with_reducible assumption) | assumption)
                obtain ⟨ad158, e158, hx158_0, hx158_1⟩ := at_T24 HR1.out x5_1 p158 q158
                cases e158
                replace p158 := eq_true p158
                replace q158 := eq_true q158
                go_wp2
                repeat (go_quiet (fail); try go_wp2)
                go_ret
                exact ⟨by first | rfl | (simp; done) | (simp [*]; done), by repeat (first | exact Drawn0.refl _ | apply Drawn0.step)⟩
              · rw [if_neg c7] at H
                have c7b0 : (!(((rd_T24 l0 x5_1).f0) == ((rd_T24 l1 x5_1).f0)) || (!((((rd_T24 l0 x5_1).f1).toList) == (((rd_T24 l1 x5_1).f1).toList)))) = false := by simpa using c7
                clear c7
                have H' := Aside0.mk H
                clear H
                have p157 : 0 ≤ (x5_1 : Int) := of_decide_eq_true (by first | (with_reducible assumption) | assumption)
                have q157 : x5_1 < (l0.length : Int) := of_decide_eq_true (by first | (with_reducible assumption) | assumption)
                obtain ⟨ad157, e157, hx157_0, hx157_1⟩ := at_T24 HR0.out x5_1 p157 q157
                cases e157
                replace p157 := eq_true p157
                replace q157 := eq_true q157
                have p158 : 0 ≤ (x5_1 : Int) := of_decide_eq_true (by first | (with_reducible assumption) | assumption)
                have q158 : x5_1 < (l1.length : Int) := of_decide_eq_true (by first | (with_reducible assumption) | assumption)
                obtain ⟨ad158, e158, hx158_0, hx158_1⟩ := at_T24 HR1.out x5_1 p158 q158
                cases e158
                replace p158 := eq_true p158
                replace q158 := eq_true q158
                go_wp2
                repeat (go_quiet (fail); try go_wp2)
                go_roundg k1
                case measure => have := HK1.out; omega
                case rel => exact ⟨(wrap64 (x5_1 + 1)), (by first | rfl | (simp; done) | (simp [*]; done)), H', ⟨by have := HK1.out; omega⟩, by repeat (first | exact Drawn0.refl _ | apply Drawn0.step)⟩
            · rw [if_neg c6] at H
              exact absurd H (by simp)
          · rw [if_neg c5] at H
            exact absurd H (by simp)
        · rw [if_neg c4] at H
          have c4b0 : decide (x5_1 < (l0.length : Int)) = false := decide_eq_false c4
          clear c4
          obtain rfl := Option.some.inj H
          go_wp2
          repeat (go_quiet (fail); try go_wp2)
          go_ret
          exact ⟨by first | rfl | (simp; done) | (simp [*]; done), by repeat (first | exact Drawn0.refl _ | apply Drawn0.step)⟩
  · rw [if_neg c3] at H
    have c3b0 : ((l0.length : Int) == (l1.length : Int)) = false := beq_eq_false_iff_ne.mpr c3
    have c3b1 : ((l0.length : Int) != (l1.length : Int)) = true := bne_iff_ne.mpr c3
    have c3b2 : (l0.length == l1.length) = false := by first | simpa using c3 | (simp at c3 ⊢; omega)
    obtain rfl := Option.some.inj H
    go_enter Try.func17, Try.ntmps17
    go_wp2
    repeat (go_quiet (fail); try go_wp2)
    go_ret
    exact ⟨by first | rfl | (simp; done) | (simp [*]; done), by repeat (first | exact Drawn0.refl _ | apply Drawn0.step)⟩

-- NOT PRINTED: function 13 (inkhornlaw11_awake)

/-! ### inkhornref1_more: function 114 -/
/-! ### inkhornref1_one: function 101 -/
/-! ### inkhornref1_Good: function 102 -/
end Go.Proofs.Ytklidannncajiaa.OW

namespace Go.Proofs.Ytklidannncajiaa.Am
open Go.RowKit Go.Proofs.Ytklidannncajiaa.OW Go.Proofs.YtklidannncajiaaW.PrintWords Go.Proofs.YtklidannncajiaaW.PrintLast Go.Proofs.YtklidannncajiaaW.PrintMore

theorem St_nil (k n : Nat) (f : Nat → Nat) : St k n f = [] ↔ ∀ i, i ≤ n → k < f i := by
  constructor
  · intro h i hi
    apply Classical.byContradiction
    intro hk
    obtain ⟨j, hj, hkeep, _⟩ := kept_below k n f (f i) i (Nat.le_refl _) hi (by omega)
    have : (⟨(j : Int), (f j : Int)⟩ : S121) ∈ St k n f := St_mem.2 ⟨j, hj, hkeep, rfl⟩
    rw [h] at this
    cases this
  · intro h
    rw [List.eq_nil_iff_forall_not_mem]
    intro x hx
    obtain ⟨j, hj, hkeep, _⟩ := St_mem.1 hx
    have := h j hj
    have := ((keep_iff _ _ _ _).1 hkeep).1
    omega
theorem dead_on (q p : List Int) (r : Int) (k : Nat) (h : St k q.length (dp q p) = []) : St k q.length (dp q (p ++ [r])) = [] := by
  rw [St_nil] at h ⊢
  rw [dp_snoc]
  exact dead_step q r _ k q.length h
end Go.Proofs.Ytklidannncajiaa.Am

namespace Go.Proofs.Ytklidannncajiaa.OW
open Go.RowKit Go.Proofs.YtklidannncajiaaW.PrintWords Go.Proofs.YtklidannncajiaaW.PrintLast Go.Proofs.YtklidannncajiaaW.PrintMore Go.Proofs.Ytklidannncajiaa.Am

/-- Words are handed on one by one, as long as it is said to go on. -/
def runs {α : Type} (step : α → ByteArray → Option (α × Bool)) : α → List ByteArray → Option (α × Bool)
  | a, [] => some (a, true)
  | a, w :: ws => (step a w).bind fun y => if y.2 = true then runs step y.1 ws else some y
theorem runs_append {α : Type} (step : α → ByteArray → Option (α × Bool)) : ∀ (u v : List ByteArray) (a : α), runs step a (u ++ v) = (runs step a u).bind fun y => if y.2 = true then runs step y.1 v else some y
  | [], v, a => by simp [runs]
  | w :: u, v, a => by
    show (step a w).bind _ = ((step a w).bind _).bind _
    cases h : step a w with
    | none => rfl
    | some y =>
      simp only [Option.bind_some]
      by_cases hy : y.2 = true
      · rw [if_pos hy, if_pos hy]; exact runs_append step u v y.1
      · rw [if_neg hy, if_neg hy, Option.bind_some, if_neg hy]
def Ev2 {α : Type} (g : Nat → Nat → Option α) (r : α) : Prop := ∃ K, ∀ k kq, K ≤ k → K ≤ kq → g k kq = some r
/-- The words at just distance d among rests behind the runes pth, the bytes w. -/
def outW (q : List Int) (d : Nat) (pth : List Int) (w : ByteArray) (l : List ByteArray) : List ByteArray := (l.filter fun x => decide (far q (pth ++ runes x 0) = d)).map (w ++ ·)
theorem outW_append (q : List Int) (d : Nat) (pth : List Int) (w : ByteArray) (u v : List ByteArray) : outW q d pth w (u ++ v) = outW q d pth w u ++ outW q d pth w v := by simp [outW]
theorem append_assoc' (a b c : ByteArray) : a ++ b ++ c = a ++ (b ++ c) := bytes_ext (by simp)
theorem append_empty' (a : ByteArray) : a ++ ⟨#[]⟩ = a := bytes_ext (by simp)
theorem empty_append' (a : ByteArray) : (⟨#[]⟩ : ByteArray) ++ a = a := bytes_ext (by simp)
theorem outW_grp (q : List Int) (d : Nat) (pth : List Int) (w : ByteArray) {s : ByteArray} {t : List ByteArray} (h : GoodR (s :: t)) :
    outW q d pth w ((s :: t).take (grp (hd s) (wd s) (s :: t)).length) = outW q d (pth ++ [((Utf8.decode s 0).1 : Int)]) (w ++ hd s) (grp (hd s) (wd s) (s :: t)) := by
  have hs := h.clean s List.mem_cons_self
  rw [grp_take hs.2]
  unfold outW
  rw [List.filter_map, List.map_map]
  have hr : ∀ c ∈ grp (hd s) (wd s) (s :: t), runes (hd s ++ c) 0 = ((Utf8.decode s 0).1 : Int) :: runes c 0 := by
    intro c hc
    obtain ⟨x, hx, h1, rfl⟩ := grp_mem hc
    have hc' := h.clean x hx
    have hd' := decode_prefix s x hs.2 (hs.1.first_ hs.2) h1
    have hx' : hd s ++ cut x (wd s) = x := bytes_ext (by have := (prefix_cut hs.2 h1).1; simpa using this.symm)
    rw [hx', runes_first x hc'.2, hd']
    rfl
  have hf : (grp (hd s) (wd s) (s :: t)).filter ((fun x => decide (far q (pth ++ runes x 0) = d)) ∘ fun c => hd s ++ c) = (grp (hd s) (wd s) (s :: t)).filter (fun x => decide (far q ((pth ++ [((Utf8.decode s 0).1 : Int)]) ++ runes x 0) = d)) := by
    apply List.filter_congr
    intro c hc
    simp only [Function.comp]
    rw [hr c hc, List.append_assoc]
    rfl
  rw [hf]
  apply List.map_congr_left
  intro c _
  exact (append_assoc' w (hd s) c).symm
theorem dead_all (q : List Int) (k : Nat) : ∀ (r p : List Int), St k q.length (dp q p) = [] → St k q.length (dp q (p ++ r)) = []
  | [], p, h => by rw [List.append_nil]; exact h
  | x :: r, p, h => by
    have := dead_all q k r (p ++ [x]) (dead_on q p x k h)
    rwa [List.append_assoc] at this
theorem outW_dead (q : List Int) (d : Nat) (pth : List Int) (w : ByteArray) (l : List ByteArray) (h : St d q.length (dp q pth) = []) : outW q d pth w l = [] := by
  unfold outW
  rw [List.map_eq_nil_iff, List.filter_eq_nil_iff]
  intro x _ hx
  have h1 := dead_all q d (runes x 0) pth h
  rw [St_nil] at h1
  have h2 := h1 q.length (Nat.le_refl _)
  have h3 : far q (pth ++ runes x 0) = d := by simpa using hx
  unfold far at h3
  omega
def kid (q : List Int) (d : Nat) (pth : List Int) (w : ByteArray) (e : S91) : Option S96 := if St d q.length (dp q (pth ++ [e.f0])) = [] then none else some ⟨e.f1, St d q.length (dp q (pth ++ [e.f0])), w ++ Utf8.encode e.f0⟩
theorem kids_ev (q : List Int) (d : Nat) (hd4 : d ≤ 4) (hq : q.length ≤ 16) (pth : List Int) (w : ByteArray) (hw : w.size < 1000000) (es : List S91) : ∀ (i : Nat) (xs : List S96), i ≤ es.length → xs.length + i ≤ 1000000 →
    Ev (fun K => walk_each.kids K q d (St d q.length (dp q pth)) w es i xs) (xs ++ ((es.take i).filterMap (kid q d pth w)).reverse) := by
  intro i
  induction i with
  | zero => intro xs _ _; simp only [walk_each.kids, List.take_zero, List.filterMap_nil, List.reverse_nil, List.append_nil]; exact Ev.now _
  | succ i ih =>
    intro xs hi hx
    have he : es.take (i + 1) = es.take i ++ [rd_T91 es (i : Int)] := by
      unfold rd_T91
      rw [Int.toNat_natCast, List.take_succ_eq_append_getElem (by omega), List.getD_eq_getElem?_getD, List.getElem?_eq_getElem (by omega)]
      rfl
    simp only [walk_each.kids]
    refine Ev.bind (f := fun K s => if s.length = 0 then walk_each.kids K q d (St d q.length (dp q pth)) w es i xs else if xs.length < 1000000 ∧ w.size < 1000000 then walk_each.kids K q d (St d q.length (dp q pth)) w es i (xs ++ [⟨(rd_T91 es i).f1, s, w ++ Utf8.encode (rd_T91 es i).f0⟩]) else none) (Step_dp q pth (rd_T91 es i).f0 d hd4 hq) ?_
    rw [he, List.filterMap_append]
    by_cases hdead : St d q.length (dp q (pth ++ [(rd_T91 es (i : Int)).f0])) = []
    · have hk : kid q d pth w (rd_T91 es (i : Int)) = none := by unfold kid; rw [if_pos hdead]
      simp only [hdead, List.length_nil, if_true, List.filterMap_cons, hk, List.filterMap_nil, List.append_nil]
      exact ih xs (by omega) (by omega)
    · have hk : kid q d pth w (rd_T91 es (i : Int)) = some ⟨(rd_T91 es (i : Int)).f1, St d q.length (dp q (pth ++ [(rd_T91 es (i : Int)).f0])), w ++ Utf8.encode (rd_T91 es (i : Int)).f0⟩ := by unfold kid; rw [if_neg hdead]
      have hlen : ¬ (St d q.length (dp q (pth ++ [(rd_T91 es (i : Int)).f0]))).length = 0 := fun e => hdead (List.length_eq_zero_iff.1 e)
      simp only [hlen, if_false, show xs.length < 1000000 ∧ w.size < 1000000 from ⟨by omega, hw⟩, and_self, if_true, List.filterMap_cons, hk, List.filterMap_nil, List.reverse_append, List.reverse_cons, List.reverse_nil, List.nil_append]
      have := ih (xs ++ [⟨(rd_T91 es (i : Int)).f1, St d q.length (dp q (pth ++ [(rd_T91 es (i : Int)).f0])), w ++ Utf8.encode (rd_T91 es (i : Int)).f0⟩]) (by omega) (by simp; omega)
      rw [List.append_assoc] at this
      exact this
theorem rd_last (xs : List S96) (p : S96) : rd_T96 (xs ++ [p]) (((xs ++ [p]).length : Int) - 1) = p := by
  unfold rd_T96
  rw [List.length_append, List.length_singleton, show ((((xs.length + 1 : Nat) : Int)) - 1).toNat = xs.length by omega, List.getD_eq_getElem?_getD, List.getElem?_append_right (Nat.le_refl _)]
  simp
theorem runes_empty' {s : ByteArray} (h : s = ⟨#[]⟩) : runes s 0 = [] := by rw [h]; exact runes_empty
theorem outW_end (q : List Int) (d : Nat) (pth : List Int) (w : ByteArray) (l : List ByteArray) : outW q d pth w l = (if isEnd l = true ∧ far q pth = d then [w] else []) ++ outW q d pth w (restsOf l) := by
  cases l with
  | nil => simp [isEnd, restsOf, outW]
  | cons s t =>
    by_cases he : s = ⟨#[]⟩
    · have h1 : isEnd (s :: t) = true := by simp [isEnd, he]
      have h2 : restsOf (s :: t) = t := by unfold restsOf; rw [if_pos h1]; rfl
      rw [h1, h2]
      unfold outW
      rw [List.filter_cons, runes_empty' he, List.append_nil]
      by_cases hf : far q pth = d
      · simp [hf, he, append_empty']
      · simp [hf]
    · have h1 : isEnd (s :: t) = false := by simp [isEnd, he]
      have h2 : restsOf (s :: t) = s :: t := by unfold restsOf; rw [if_neg (by rw [h1]; simp)]
      rw [h1, h2]
      simp
theorem repE_len : ∀ (f : Nat) (ns : List S72) (es : List S91) (l : List ByteArray), RepE f ns es l → es.length ≤ l.length
  | 0, _, _, _, h => by simp [RepE] at h
  | f + 1, ns, es, l, h => by
    unfold RepE at h
    cases es with
    | nil => simp
    | cons e es => cases l with
      | nil => exact h.elim
      | cons s t =>
        have h1 := repE_len f ns es _ h.2.2
        have h2 : 1 ≤ (grp (hd s) (wd s) (s :: t)).length := by rw [grp_cons]; simp
        rw [List.length_drop] at h1
        simp only [List.length_cons] at h1 ⊢
        omega
section
variable {α : Type} (q : List Int) (d : Nat) (ns : List S72) (step : α → ByteArray → Option (α × Bool))
theorem each_spec (hd4 : d ≤ 4) (hq : q.length ≤ 16) (r : α) : ∀ f : Nat,
    (∀ (n : Int) (l : List ByteArray) (pth : List Int) (w : ByteArray), Rep f ns n l → GoodR (restsOf l) → w.size + 4 * bytesOf_ l < 900000 → ∀ (xs : List S96) (a : α) (y : α × Bool), xs.length + 1 + bytesOf_ l + l.length ≤ 1000000 → runs step a (outW q d pth w l) = some y → (y.2 = false → y.1 = r) →
      (y.2 = true → Ev2 (fun k kq => walk_each.l0 k q d ns step kq xs y.1) r) → Ev2 (fun k kq => walk_each.l0 k q d ns step kq (xs ++ [⟨n, St d q.length (dp q pth), w⟩]) a) r) ∧
    (∀ (es : List S91) (l : List ByteArray) (pth : List Int) (w : ByteArray), RepE f ns es l → GoodR l → w.size + 4 * bytesOf_ l < 900000 → ∀ (xs : List S96) (a : α) (y : α × Bool), xs.length + bytesOf_ l + l.length ≤ 1000000 → runs step a (outW q d pth w l) = some y → (y.2 = false → y.1 = r) →
      (y.2 = true → Ev2 (fun k kq => walk_each.l0 k q d ns step kq xs y.1) r) →
      (∃ a', a' = a ∧ Ev2 (fun k kq => walk_each.l0 k q d ns step kq (xs ++ (es.filterMap (kid q d pth w)).reverse) a) r)) := by
  intro f
  induction f with
  | zero => exact ⟨fun n l pth w h => by simp [Rep] at h, fun es l pth w h => by simp [RepE] at h⟩
  | succ f ih =>
    obtain ⟨ih1, ih2⟩ := ih
    refine ⟨fun n l pth w hR hl hw xs a y hx hy hno hyes => ?_, fun es l pth w hR hl hw xs a y hx hy hno hyes => ?_⟩
    · unfold Rep at hR
      obtain ⟨h0, x, hx1, hf, hE⟩ := hR
      have hna : nodeAt ns n = x := by unfold nodeAt rd_T72; rw [if_pos h0, List.getD_eq_getElem?_getD, hx1]; rfl
      have hel := repE_len f ns x.f1 (restsOf l) hE
      have hrl := restsOf_len l
      have hrb := restsOf_bytes l
      rw [outW_end, runs_append] at hy
      obtain ⟨K1, hD0⟩ := Dist_dp q pth d hd4 hq
      have hD : ∀ k, K1 ≤ k → auto_Dist.f k q d (St d q.length (dp q pth)) = some (if far q pth ≤ d then ((far q pth : Int), true) else (0, false)) := hD0
      -- what the word itself leaves
      obtain ⟨z, hz, hy2⟩ := Option.bind_eq_some_iff.1 hy
      have hstep : (if isEnd l = true ∧ far q pth = d then step a w else some (a, true)) = some z := by
        by_cases hc : isEnd l = true ∧ far q pth = d
        · rw [if_pos hc] at hz ⊢
          simp only [runs] at hz
          obtain ⟨z', hz', hz2⟩ := Option.bind_eq_some_iff.1 hz
          rw [hz']
          by_cases hb : z'.2 = true
          · rw [if_pos hb] at hz2
            rw [← hz2]
            congr 1
            exact Prod.ext rfl hb
          · rw [if_neg hb] at hz2
            exact hz2
        · rw [if_neg hc] at hz ⊢
          exact hz
      have hED : graph_Edges.f ns n = some x.f1 := by unfold graph_Edges.f api_Edge.f; rw [hna, if_pos (by omega)]
      have hcond : ∀ k, K1 ≤ k → ((auto_Dist.f k q d (St d q.length (dp q pth))).bind fun t => (if t.2 = true ∧ t.1 = (d : Int) ∧ (nodeAt ns n).f0 = true then step a w else some (a, true))) = some z := by
        intro k hk
        rw [hD k hk, Option.bind_some, ← hstep, hna, hf]
        by_cases hfar : far q pth ≤ d
        · rw [if_pos hfar]
          dsimp only
          by_cases hc : isEnd l = true ∧ far q pth = d
          · rw [if_pos hc, if_pos ⟨rfl, by omega, hc.1⟩]
          · rw [if_neg hc, if_neg (fun h => hc ⟨h.2.2, by have := h.2.1; omega⟩)]
        · rw [if_neg hfar]
          dsimp only
          rw [if_neg (fun h => by cases h.1), if_neg (fun h => hfar (by omega))]
      by_cases hzb : z.2 = true
      · rw [if_pos hzb] at hy2
        obtain ⟨K2, hk2⟩ := kids_ev q d hd4 hq pth w (by omega) x.f1 x.f1.length xs (Nat.le_refl _) (by omega)
        obtain ⟨_, _, K3, hk3⟩ := ih2 x.f1 (restsOf l) pth w hE hl (by omega) xs z.1 y (by omega) hy2 hno hyes
        refine ⟨max (max K1 K2) K3 + 1, fun k kq hk hkq => ?_⟩
        obtain ⟨kq', rfl⟩ : ∃ m, kq = m + 1 := ⟨kq - 1, by omega⟩
        simp only [walk_each.l0]
        rw [if_neg (by simp), rd_last]
        have h1 := hcond k (by omega)
        obtain ⟨t, ht1, ht2⟩ := Option.bind_eq_some_iff.1 h1
        simp only [ht1, Option.bind_some]
        rw [ht2, Option.bind_some, if_pos hzb, hED, Option.bind_some]
        rw [show (xs ++ [(⟨n, St d q.length (dp q pth), w⟩ : S96)]).take ((xs ++ [(⟨n, St d q.length (dp q pth), w⟩ : S96)]).length - 1) = xs by simp]
        have h2 : walk_each.kids k q d (St d q.length (dp q pth)) w x.f1 x.f1.length xs = some _ := hk2 k (by omega)
        rw [List.take_length] at h2
        rw [h2, Option.bind_some]
        exact hk3 k kq' (by omega) (by omega)
      · rw [if_neg hzb] at hy2
        obtain rfl := Option.some.inj hy2
        have hzf : z.2 = false := by simpa using hzb
        refine ⟨K1 + 1, fun k kq hk hkq => ?_⟩
        obtain ⟨kq', rfl⟩ : ∃ m, kq = m + 1 := ⟨kq - 1, by omega⟩
        simp only [walk_each.l0]
        rw [if_neg (by simp), rd_last]
        have h1 := hcond k (by omega)
        obtain ⟨t, ht1, ht2⟩ := Option.bind_eq_some_iff.1 h1
        simp only [ht1, Option.bind_some]
        rw [ht2, Option.bind_some, if_neg hzb, hno hzf]
    · unfold RepE at hR
      refine ⟨a, rfl, ?_⟩
      cases es with
      | nil => cases l with
        | cons _ _ => exact hR.elim
        | nil =>
          simp only [outW, List.filter_nil, List.map_nil, runs] at hy
          obtain rfl := Option.some.inj hy
          simpa using hyes rfl
      | cons e es => cases l with
        | nil => exact hR.elim
        | cons s t =>
          obtain ⟨he, hn, hE⟩ := hR
          have hs := hl.clean s List.mem_cons_self
          have hgb := grp_bytes hs.2 (s :: t)
          have hgl : 1 ≤ (grp (hd s) (wd s) (s :: t)).length := by rw [grp_cons]; simp
          have hgle := grp_le (hd s) (wd s) (s :: t)
          have hdl : ((s :: t).drop (grp (hd s) (wd s) (s :: t)).length).length = (s :: t).length - (grp (hd s) (wd s) (s :: t)).length := List.length_drop
          have hel := repE_len f ns es _ hE
          have hen : Utf8.encode e.f0 = hd s := by rw [he, hd_encode hs.1 hs.2]
          have hes : (hd s).size ≤ 4 := by rw [← hen]; exact enc_le _
          have hws : (w ++ hd s).size = w.size + (hd s).size := ByteArray.size_append
          rw [← List.take_append_drop (grp (hd s) (wd s) (s :: t)).length (s :: t), outW_append, outW_grp q d pth w hl, runs_append] at hy
          obtain ⟨z, hz, hy2⟩ := Option.bind_eq_some_iff.1 hy
          have hfm : (es.filterMap (kid q d pth w)).length ≤ es.length := List.length_filterMap_le _ _
          have hrest : ∀ (z' : α × Bool), z'.2 = true → runs step z'.1 (outW q d pth w ((s :: t).drop (grp (hd s) (wd s) (s :: t)).length)) = some y → Ev2 (fun k kq => walk_each.l0 k q d ns step kq (xs ++ (es.filterMap (kid q d pth w)).reverse) z'.1) r := fun z' _ h => by
            obtain ⟨_, _, h'⟩ := ih2 es _ pth w hE (drop_good hl _) (by omega) xs z'.1 y (by omega) h hno hyes
            exact h'
          by_cases hdead : St d q.length (dp q (pth ++ [e.f0])) = []
          · have hk : kid q d pth w e = none := by unfold kid; rw [if_pos hdead]
            rw [← he, outW_dead q d _ _ _ hdead] at hz
            simp only [runs] at hz
            obtain rfl := Option.some.inj hz
            rw [List.filterMap_cons, hk]
            exact hrest (a, true) rfl (by simpa using hy2)
          · have hk : kid q d pth w e = some ⟨e.f1, St d q.length (dp q (pth ++ [e.f0])), w ++ hd s⟩ := by unfold kid; rw [if_neg hdead, hen]
            rw [List.filterMap_cons, hk]
            simp only [List.reverse_cons]
            rw [← List.append_assoc]
            rw [← he] at hz
            refine ih1 e.f1 _ (pth ++ [e.f0]) (w ++ hd s) hn (restsOf_good (grp_good hl)) (by omega) _ a z (by rw [List.length_append, List.length_reverse]; omega) hz ?_ ?_
            · intro hzf
              rw [if_neg (by rw [hzf]; simp)] at hy2
              obtain rfl := Option.some.inj hy2
              exact hno hzf
            · intro hzt
              rw [if_pos hzt] at hy2
              exact hrest z hzt hy2
end
/-- The words at just distance d, in order. -/
def near (q : List Int) (d : Nat) (l : List ByteArray) : List ByteArray := l.filter fun x => decide (far q (runes x 0) = d)
theorem outW_root (q : List Int) (d : Nat) (l : List ByteArray) : outW q d [] ⟨#[]⟩ l = near q d l := by
  unfold outW near
  simp only [List.nil_append]
  rw [List.map_congr_left (g := id) (fun x _ => empty_append' x), List.map_id]
theorem each_ev {α : Type} (q : List Int) (d : Nat) (ns : List S72) (step : α → ByteArray → Option (α × Bool)) (hd4 : d ≤ 4) (hq : q.length ≤ 16) (f : Nat) (l : List ByteArray) (hR : Rep f ns 0 l) (hl : GoodR (restsOf l)) (hb : bytesOf_ l + l.length ≤ 100000) (a : α) (y : α × Bool)
    (hy : runs step a (near q d l) = some y) : Ev (fun K => walk_each.f K q d ns step a) y.1 := by
  rw [← outW_root] at hy
  obtain ⟨K, hK⟩ := (each_spec q d ns step hd4 hq y.1 f).1 0 l [] ⟨#[]⟩ hR hl (by show 0 + _ < _; omega) [] a y (by simp; omega) hy (fun _ => rfl) (fun _ => ⟨1, fun k kq _ hkq => by
    obtain ⟨m, rfl⟩ : ∃ m, kq = m + 1 := ⟨kq - 1, by omega⟩
    simp [walk_each.l0]⟩)
  refine ⟨K, fun k hk => ?_⟩
  show walk_each.f k q d ns step a = some y.1
  unfold walk_each.f
  rw [Start_St q d hd4, Option.bind_some]
  exact hK k k hk hk
end Go.Proofs.Ytklidannncajiaa.OW

namespace Go.Proofs.Ytklidannncajiaa.OW
open Go.RowKit Go.Proofs.YtklidannncajiaaW.PrintWords Go.Proofs.YtklidannncajiaaW.PrintLast Go.Proofs.YtklidannncajiaaW.PrintMore
set_option linter.unusedVariables false
set_option linter.unusedSimpArgs false

/-- What Build tells: the error's number; the nodes. -/
def graph_Build.f (k : Nat) (l : List ByteArray) : Option (Int × List S72) :=
  (list_Good.f k l).bind fun e => if e = 0 then (if l = [] then some (0, [z72]) else (node k l ⟨[], fun _ => none⟩).bind fun y => some (0, y.2.ns)) else some (e, [])
def buildWorld (w : World) : World := ((w.alloc (.cells #[.slice none 0 0] 66)).alloc (.map #[] 0)).alloc (.cells #[.pointer (some ⟨w.heap.size, 0, none⟩), .map (some (w.heap.size + 1))] 69)
theorem build_start (w : World) : BuilderAt (buildWorld w) w.heap.size (w.heap.size + 1 + 1) w.heap.size (w.heap.size + 1) (fun _ => True) ⟨[], fun _ => none⟩ ∧ Below w.heap.size w (buildWorld w) := by
  have e1 : (w.alloc (.cells #[.slice none 0 0] 66)).heap.size = w.heap.size + 1 := by simp
  have e2 : ((w.alloc (.cells #[.slice none 0 0] 66)).alloc (.map #[] 0)).heap.size = w.heap.size + 1 + 1 := by simp
  have h0 := heap_alloc_new w (.cells #[.slice none 0 0] 66)
  have h1 := MapAt.made (w.alloc (.cells #[.slice none 0 0] 66))
  have h2 := heap_alloc_new ((w.alloc (.cells #[.slice none 0 0] 66)).alloc (.map #[] 0)) (.cells #[.pointer (some ⟨w.heap.size, 0, none⟩), .map (some (w.heap.size + 1))] 69)
  rw [e1] at h1
  rw [e2] at h2
  unfold buildWorld
  refine ⟨⟨h2, Nat.le_refl _, Nat.le_succ _, by simp; omega, ⟨_, blk_alloc (blk_alloc h0 _) _, Kd.R_nil _ _ _ _ _⟩, h1.move (Below.heap_alloc _ _ _ h1.lt)⟩, ?_⟩
  exact (((Below.refl _ _).alloc (Nat.le_refl _) _).alloc (by simp) _).alloc (by simp; omega) _
set_option maxHeartbeats 2000000 in
set_option maxRecDepth 100000 in
theorem graph_Build.not (k : Nat) (A : Option Addr) (c : Nat) (l : List ByteArray) (e : Int) (ns : List S72) (w : World) (hr : Kd.C Kd.string w A l.length l) (hc : l.length ≤ c) (h : graph_Build.f k l = some (e, ns)) (he : e ≠ 0) :
    Calls Try.prog 14 #[.slice A l.length c] w fun en w' => en = .returned (.tuple #[.pointer none, .int .i64 e]) ∧ Below w.heap.size w w' := by
  obtain ⟨e', hg, h⟩ := Option.bind_eq_some_iff.1 h
  by_cases h0 : e' = 0
  · rw [if_pos h0] at h
    exfalso
    by_cases hl : l = []
    · rw [if_pos hl] at h
      exact he (Prod.mk.inj (Option.some.inj h)).1.symm
    · rw [if_neg hl] at h
      obtain ⟨y, _, hy⟩ := Option.bind_eq_some_iff.1 h
      exact he (Prod.mk.inj (Option.some.inj hy)).1.symm
  · rw [if_neg h0] at h
    obtain ⟨rfl, rfl⟩ := Prod.mk.inj (Option.some.inj h)
    clear h h0
    have HG := Aside0.mk hg
    have HR := Aside0.mk hr
    have HC := Aside0.mk hc
    have hne : (e' == 0) = false := by simpa using he
    have hne2 : (e' != 0) = true := by simpa using he
    clear hg hr hc he
    go_enter Try.func14, Try.ntmps14
    go_wp2_with ((with_reducible refine gate_callee (f := 28) rfl ?_); (try (refine gate_guard (by rfl) ?_; dsimp only)); refine goesL_ (some 7) rfl rfl Try.func28 (by kernel_rfl) rfl #[.slice A l.length c] rfl (by (try simp only [List.map_toArray, List.map_cons, List.map_nil]); first | done | rfl) ?_; (with_reducible refine (list_Good.calls k A c l e' w HR.out HC.out HG.out).mono ?_); rintro e w1 ⟨rfl, hb⟩; refine ⟨_, rfl, ?_⟩; have HB1 := Aside0.mk hb; clear hb)
    go_ret2
    exact ⟨rfl, HB1.out⟩
set_option maxHeartbeats 2000000 in
set_option maxRecDepth 100000 in
theorem graph_Build.calls (k : Nat) (A : Option Addr) (c : Nat) (l : List ByteArray) (ns : List S72) (w : World) (hr : Kd.C Kd.string w A l.length l) (hc : l.length ≤ c) (h : graph_Build.f k l = some (0, ns)) :
    Calls Try.prog 14 #[.slice A l.length c] w fun en w' => ∃ g, en = .returned (.tuple #[.pointer (some ⟨g, 0, none⟩), .int .i64 0]) ∧ w.heap.size ≤ g ∧ GraphAt w' g ns ∧ Below w.heap.size w w' := by
  obtain ⟨e', hg, h⟩ := Option.bind_eq_some_iff.1 h
  by_cases h0 : e' = 0
  case neg =>
    rw [if_neg h0] at h
    exact absurd (Prod.mk.inj (Option.some.inj h)).1 h0
  rw [if_pos h0] at h
  subst h0
  have HG := Aside0.mk hg
  have HR := Aside0.mk hr
  have HC := Aside0.mk hc
  clear hg hr hc
  by_cases hl : l = []
  · subst hl
    rw [if_pos rfl] at h
    obtain ⟨_, rfl⟩ := Prod.mk.inj (Option.some.inj h)
    clear h
    have hmm := @run_makeMap Try.prog
    go_enter Try.func14, Try.ntmps14
    go_upto_region 4 with ((with_reducible refine gate_callee (f := 28) rfl ?_); (try (refine gate_guard (by rfl) ?_; dsimp only)); refine goesL_ (some 7) rfl rfl Try.func28 (by kernel_rfl) rfl #[.slice A ([] : List ByteArray).length c] rfl (by (try simp only [List.map_toArray, List.map_cons, List.map_nil]); first | done | rfl) ?_; (with_reducible refine (list_Good.calls k A c [] 0 w HR.out HC.out HG.out).mono ?_); rintro e w1 ⟨rfl, hb⟩; refine ⟨_, rfl, ?_⟩; have HB1 := Aside0.mk hb; clear hb)
    go_upto_region 5 with fail
    have HS := Aside0.mk (build_start w1).1
    have HS2 := Aside0.mk (below_step HB1.out (build_start w1).2)
    have HX := Aside0.mk HB1.out.size
    show Code.wp _ _ _ _ (buildWorld w1)
    generalize buildWorld w1 = w2 at HS HS2 ⊢
    clear hmm HB1
    have hb0 : w2.cell? ⟨w1.heap.size + 1 + 1, 0, none⟩ = some (.pointer (some ⟨w1.heap.size, 0, none⟩)) := blk_cell HS.out.blk 0
    obtain ⟨v, hg, _⟩ := HS.out.graph
    have hg0 := block_cell hg
    have hf0 := blk_frozen hg 0
    have HGG := Aside0.mk hg
    clear hg
    go_wp2_with ((with_reducible refine gate_dst (N := 24) rfl ?_); refine Kd.R_lit (w0 := w2) k72 w1.heap.size 72 ?hg (N := 24) ?hd (xs := ([z72] : List S72)) (inner := [.bool false, .slice none 0 0]) (ok := fun _ => True) (okp := fun _ => True) ?hr ?hp (fun _ hk => hk) trivial (Below.refl _ _) HS.out.size (by simp) ?_; (case hd => rfl); (case hg => rfl); (case hr => first | (go_simp; done) | (go_simp; rfl)); (case hp => exact (Reps.c2 (show Kd.M k72 _ _ _ z72 [.bool false, .slice none 0 0] from (k72_mkM _ _ _ z72 (Kd.R_nil _ _ _ _ _))) (Reps.none _ _))); intro v3 w3 ho hb hg3 _; obtain ⟨A3, c3, e3⟩ := Kd.R_slice ho; subst e3; have HO3 := Aside0.mk ho; have HB3 := Aside0.mk (HS.out.blk |> fun h => blk_grown h hg3 (by simp)); have HG3 := Aside0.mk (blk_grown HGG.out hg3 (by simp)); have HW3 := Aside0.mk hb; have hb3 : w3.cell? ⟨w1.heap.size + 1 + 1, 0, none⟩ = some (.pointer (some ⟨w1.heap.size, 0, none⟩)) := blk_cell HB3.out 0; have hg30 := block_cell HG3.out; have hf30 := blk_frozen HG3.out 0; clear ho hb hg3 hb0 hg0 hf0)
    go_ret2
    exact ⟨w1.heap.size, rfl, HX.out, ⟨A3, c3, blk_cell (blk_set HG3.out 0 _) 0, (Kd.R_reads' HO3.out).2.1, (Kd.R_reads' (Kd.R_set HO3.out HG3.out (by decide) 0 _)).2.2⟩, HS2.out.trans ((HW3.out.setCell (p := ⟨w1.heap.size, 0, none⟩) (Nat.le_refl _) _).mono HX.out)⟩
  · rw [if_neg hl] at h
    obtain ⟨⟨r, st⟩, hn, h⟩ := Option.bind_eq_some_iff.1 h
    obtain ⟨_, rfl⟩ := Prod.mk.inj (Option.some.inj h)
    have HN := Aside0.mk hn
    have hpos : 0 < l.length := List.length_pos_iff.2 hl
    have hlz : ((l.length : Int) == 0) = false := by simp; omega
    clear h hn hl
    have hmm := @run_makeMap Try.prog
    go_enter Try.func14, Try.ntmps14
    go_upto_region 5 with ((with_reducible refine gate_callee (f := 28) rfl ?_); (try (refine gate_guard (by rfl) ?_; dsimp only)); refine goesL_ (some 7) rfl rfl Try.func28 (by kernel_rfl) rfl #[.slice A l.length c] rfl (by (try simp only [List.map_toArray, List.map_cons, List.map_nil]); first | done | rfl) ?_; (with_reducible refine (list_Good.calls k A c l 0 w HR.out HC.out HG.out).mono ?_); rintro e w1 ⟨rfl, hb⟩; refine ⟨_, rfl, ?_⟩; have HB1 := Aside0.mk hb; clear hb)
    have HS := Aside0.mk (build_start w1).1
    have HS2 := Aside0.mk (below_step HB1.out (build_start w1).2)
    have HX := Aside0.mk HB1.out.size
    show Code.wp _ _ _ _ (buildWorld w1)
    generalize buildWorld w1 = w2 at HS HS2 ⊢
    clear hmm
    have HCC := Aside0.mk (show ∀ W, NodeKept w1.heap.size (w1.heap.size + 1) w2 W → Kd.C Kd.string W A l.length l from fun W hk => Kd.C_below HR.out (HS2.out.trans ((hk.to_below (Nat.le_succ _) HS.out.size).mono HX.out)))
    go_wp2_with ((with_reducible refine gate_callee (f := 34) rfl ?_); (try (refine gate_guard (by rfl) ?_; dsimp only)); refine goesL_ (some 33) rfl rfl Try.func34 (by kernel_rfl) rfl #[.pointer (some ⟨w1.heap.size + 1 + 1, 0, none⟩), .slice A l.length c] rfl (by (try simp only [List.map_toArray, List.map_cons, List.map_nil]); first | done | rfl) ?_; (with_reducible refine (node_calls w1.heap.size (w1.heap.size + 1 + 1) w1.heap.size (w1.heap.size + 1) k l ⟨[], fun _ => none⟩ st r A c (fun _ => True) w2 HN.out HS.out HCC.out HC.out).mono ?_); rintro e w3 ⟨rfl, hb, hk⟩; refine ⟨_, rfl, ?_⟩; have HB3 := Aside0.mk hb; have HK3 := Aside0.mk hk; have hb3 : w3.cell? ⟨w1.heap.size + 1 + 1, 0, none⟩ = some (.pointer (some ⟨w1.heap.size, 0, none⟩)) := blk_cell HB3.out.blk 0; clear hb hk)
    go_ret2
    obtain ⟨v, hg, hr⟩ := HB3.out.graph
    obtain ⟨Av, cv, ev⟩ := Kd.R_slice hr
    subst ev
    exact ⟨w1.heap.size, rfl, HX.out, ⟨Av, cv, block_cell hg, (Kd.R_reads' hr).2.1, (Kd.R_reads' hr).2.2⟩, HS2.out.trans ((HK3.out.to_below (Nat.le_succ _) HS.out.size).mono HX.out)⟩
end Go.Proofs.Ytklidannncajiaa.OW

-- Laid by a program of this session (wip/ownprint.py, wip/hooks.py) over the seat's translation. Lean checks it.
namespace Go.Proofs.Ytklidannncajiaa.OW
open Go.RowKit Go.Proofs.YtklidannncajiaaW.PrintWords Go.Proofs.YtklidannncajiaaW.PrintLast Go.Proofs.YtklidannncajiaaW.PrintMore
attribute [local go_sem] max2_int min2_int max_two min_two max_three min_three max_four min_four   -- for this text's walks alone
set_option linter.unusedVariables false
set_option linter.unusedSimpArgs false

/-! ### band_Near: function 46 -/
/-! ### cmp_Or_int: function 82 -/
def cmp_Or_int.l0 : Nat → Int → List Int → Int → Int → Option (Int)
  | 0, _, _, _, _ => none
  | k + 1, x3, x6, x7, x8 => if x8 < x7 then (if 0 ≤ x8 then (if x8 < (x6.length : Int) then (if (rd x6 x8) = x3 then (cmp_Or_int.l0 k x3 x6 x7 (wrap64 (x8 + 1))) else (some (rd x6 x8))) else (none)) else (none)) else (some x3)
def cmp_Or_int.f (k : Nat) (l0 : List Int) : Option (Int) := cmp_Or_int.l0 k 0 l0 (l0.length : Int) 0
set_option maxHeartbeats 8000000 in
set_option maxRecDepth 100000 in
theorem cmp_Or_int.calls (k : Nat) (A0 : Option Addr) (c0 : Nat) (l0 : List Int) (r : Int) (w : World) (hr0 : Kd.C (Kd.int .i64) w A0 l0.length l0) (hc0 : l0.length ≤ c0) (h : cmp_Or_int.f k l0 = some r) :
    Calls Try.prog 82 #[.slice A0 l0.length c0] w fun e w' => e = .returned (.int .i64 r) ∧ Drawn0 w w' := by
  have HR0 := Aside0.mk hr0
  have HC0 := Aside0.mk hc0
  clear hr0 hc0
  have H : (cmp_Or_int.l0 k 0 l0 (l0.length : Int) 0) = some r := h
  clear h
  have H' := Aside0.mk H
  clear H
  go_enter Try.func82, Try.ntmps82
  go_wp2
  go_loopg [8] k (fun kq v8 w' => ∃ (x8_1 : Int), v8 = .int .i64 x8_1 ∧ Aside0 (cmp_Or_int.l0 kq 0 l0 (l0.length : Int) x8_1 = some r) ∧ Aside0 (kq ≤ k) ∧ Drawn0 w w')
  case atStart => exact ⟨(0), (by first | rfl | (simp; done) | (simp [*]; done)), H', ⟨Nat.le_refl _⟩, by repeat (first | exact Drawn0.refl _ | apply Drawn0.step)⟩
  case round =>
    clear H'
    obtain ⟨x8_1, rfl, HA, HK1, ⟨m1, rfl⟩⟩ := hrel
    cases gk with
    | zero => exact absurd HA.out (by simp [cmp_Or_int.l0])
    | succ k1 =>
      have H := HA.out
      clear HA
      simp only [cmp_Or_int.l0] at H
      by_cases c2 : x8_1 < (l0.length : Int)
      · rw [if_pos c2] at H
        have c2b0 : decide (x8_1 < (l0.length : Int)) = true := decide_eq_true c2
        clear c2
        by_cases c3 : 0 ≤ x8_1
        · rw [if_pos c3] at H
          have c3b0 : decide (0 ≤ x8_1) = true := decide_eq_true c3
          clear c3
          by_cases c4 : x8_1 < (l0.length : Int)
          · rw [if_pos c4] at H
            have c4b0 : decide (x8_1 < (l0.length : Int)) = true := decide_eq_true c4
            clear c4
            by_cases c5 : (rd l0 x8_1) = 0
            · rw [if_pos c5] at H
              have c5b0 : ((rd l0 x8_1) == 0) = true := beq_iff_eq.mpr c5
              have c5b1 : ((rd l0 x8_1) != 0) = false := bne_eq_false_iff_eq.mpr c5
              clear c5
              have H' := Aside0.mk H
              clear H
              have p340 : 0 ≤ (x8_1 : Int) := of_decide_eq_true (by first | (with_reducible assumption) | assumption)
              have q340 : x8_1 < (l0.length : Int) := of_decide_eq_true (by first | (with_reducible assumption) | assumption)
              obtain ⟨ad340, e340, hx340_0⟩ := Kd.at_int HR0.out x8_1 p340 q340
              cases e340
              replace p340 := eq_true p340
              replace q340 := eq_true q340
              go_wp2
              go_roundg k1
              case measure => have := HK1.out; omega
              case rel => exact ⟨(wrap64 (x8_1 + 1)), (by first | rfl | (simp; done) | (simp [*]; done)), H', ⟨by have := HK1.out; omega⟩, by repeat (first | exact Drawn0.refl _ | apply Drawn0.step)⟩
            · rw [if_neg c5] at H
              have c5b0 : ((rd l0 x8_1) == 0) = false := beq_eq_false_iff_ne.mpr c5
              have c5b1 : ((rd l0 x8_1) != 0) = true := bne_iff_ne.mpr c5
              obtain rfl := Option.some.inj H
              have p340 : 0 ≤ (x8_1 : Int) := of_decide_eq_true (by first | (with_reducible assumption) | assumption)
              have q340 : x8_1 < (l0.length : Int) := of_decide_eq_true (by first | (with_reducible assumption) | assumption)
              obtain ⟨ad340, e340, hx340_0⟩ := Kd.at_int HR0.out x8_1 p340 q340
              cases e340
              replace p340 := eq_true p340
              replace q340 := eq_true q340
              go_wp2
              go_ret
              exact ⟨by first | rfl | (simp; done) | (simp [*]; done), by repeat (first | exact Drawn0.refl _ | apply Drawn0.step)⟩
          · rw [if_neg c4] at H
            exact absurd H (by simp)
        · rw [if_neg c3] at H
          exact absurd H (by simp)
      · rw [if_neg c2] at H
        have c2b0 : decide (x8_1 < (l0.length : Int)) = false := decide_eq_false c2
        clear c2
        obtain rfl := Option.some.inj H
        go_wp2
        go_ret
        exact ⟨by first | rfl | (simp; done) | (simp [*]; done), by repeat (first | exact Drawn0.refl _ | apply Drawn0.step)⟩

/-! ### cmp_isNaN_int: function 100 -/
def cmp_isNaN_int.f (a0 : Int) : Option (Bool) := some (a0 != a0)
set_option maxHeartbeats 8000000 in
set_option maxRecDepth 100000 in
theorem cmp_isNaN_int.calls (a0 : Int) (r : Bool) (w : World) (h : cmp_isNaN_int.f a0 = some r) :
    Calls Try.prog 100 #[.int .i64 a0] w fun e w' => e = .returned (.bool r) ∧ Drawn0 w w' := by
  have H : (some (a0 != a0)) = some r := h
  clear h
  obtain rfl := Option.some.inj H
  go_enter Try.func100, Try.ntmps100
  go_wp2
  go_ret
  exact ⟨by first | rfl | (simp; done) | (simp [*]; done), by repeat (first | exact Drawn0.refl _ | apply Drawn0.step)⟩

/-! ### cmp_Compare_int: function 83 -/
def cmp_Compare_int.f (a0 : Int) (a1 : Int) : Option (Int) := (cmp_isNaN_int.f a0).bind fun t341 => ((cmp_isNaN_int.f a1).bind fun t342 => (if t341 = true then (if t342 = true then (some 0) else (some (-1))) else (if t342 = true then (some 1) else (if a0 < a1 then (some (-1)) else (if a0 > a1 then (some 1) else (some 0))))))
set_option maxHeartbeats 8000000 in
set_option maxRecDepth 100000 in
theorem cmp_Compare_int.calls (a0 : Int) (a1 : Int) (r : Int) (w : World) (h : cmp_Compare_int.f a0 a1 = some r) :
    Calls Try.prog 83 #[.int .i64 a0, .int .i64 a1] w fun e w' => e = .returned (.int .i64 r) ∧ Drawn0 w w' := by
  have H : ((cmp_isNaN_int.f a0).bind fun t341 => ((cmp_isNaN_int.f a1).bind fun t342 => (if t341 = true then (if t342 = true then (some 0) else (some (-1))) else (if t342 = true then (some 1) else (if a0 < a1 then (some (-1)) else (if a0 > a1 then (some 1) else (some 0))))))) = some r := h
  clear h
  replace H := Option.bind_eq_some_iff.mp H
  obtain ⟨t341, A30, H⟩ := H
  replace H : ((cmp_isNaN_int.f a1).bind fun t342 => (if t341 = true then (if t342 = true then (some 0) else (some (-1))) else (if t342 = true then (some 1) else (if a0 < a1 then (some (-1)) else (if a0 > a1 then (some 1) else (some 0)))))) = some r := H
  have A3 := Aside0.mk A30
  clear A30
  replace H := Option.bind_eq_some_iff.mp H
  obtain ⟨t342, A40, H⟩ := H
  replace H : (if t341 = true then (if t342 = true then (some 0) else (some (-1))) else (if t342 = true then (some 1) else (if a0 < a1 then (some (-1)) else (if a0 > a1 then (some 1) else (some 0))))) = some r := H
  have A4 := Aside0.mk A40
  clear A40
  by_cases c5 : t341 = true
  · subst c5
    have H1 : (if t342 = true then (some 0) else (some (-1))) = some r := by rw [if_pos rfl] at H; exact H
    clear H
    have H := H1
    clear H1
    by_cases c6 : t342 = true
    · subst c6
      have H1 : (some 0) = some r := by rw [if_pos rfl] at H; exact H
      clear H
      have H := H1
      clear H1
      obtain rfl := Option.some.inj H
      go_enter Try.func83, Try.ntmps83
      go_wp2_with (first | ((with_reducible refine gate_callee (f := 100) rfl ?_); refine goesL_ (some 8) rfl rfl Try.func100 (by kernel_rfl) rfl #[.int .i64 a0] rfl (by (try simp only [List.map_toArray, List.map_cons, List.map_nil]); first | done | rfl | (simp only [List.length_drop, List.length_take]; rfl)) ?_; (with_reducible refine (cmp_isNaN_int.calls a0 true _ A3.out).mono ?_); rintro e w' ⟨rfl, ⟨nd, rfl⟩⟩; refine ⟨_, rfl, ?_⟩) | ((with_reducible refine gate_callee (f := 100) rfl ?_); refine goesL_ (some 10) rfl rfl Try.func100 (by kernel_rfl) rfl #[.int .i64 a1] rfl (by (try simp only [List.map_toArray, List.map_cons, List.map_nil]); first | done | rfl | (simp only [List.length_drop, List.length_take]; rfl)) ?_; (with_reducible refine (cmp_isNaN_int.calls a1 true _ A4.out).mono ?_); rintro e w' ⟨rfl, ⟨nd, rfl⟩⟩; refine ⟨_, rfl, ?_⟩))
      go_ret
      exact ⟨by first | rfl | (simp; done) | (simp [*]; done), by repeat (first | exact Drawn0.refl _ | apply Drawn0.step)⟩
    · replace c6 := Bool.eq_false_iff.mpr c6
      subst c6
      have H1 : (some (-1)) = some r := by rw [if_neg (show ¬ (false = true) by decide)] at H; exact H
      clear H
      have H := H1
      clear H1
      obtain rfl := Option.some.inj H
      go_enter Try.func83, Try.ntmps83
      go_wp2_with (first | ((with_reducible refine gate_callee (f := 100) rfl ?_); refine goesL_ (some 8) rfl rfl Try.func100 (by kernel_rfl) rfl #[.int .i64 a0] rfl (by (try simp only [List.map_toArray, List.map_cons, List.map_nil]); first | done | rfl | (simp only [List.length_drop, List.length_take]; rfl)) ?_; (with_reducible refine (cmp_isNaN_int.calls a0 true _ A3.out).mono ?_); rintro e w' ⟨rfl, ⟨nd, rfl⟩⟩; refine ⟨_, rfl, ?_⟩) | ((with_reducible refine gate_callee (f := 100) rfl ?_); refine goesL_ (some 10) rfl rfl Try.func100 (by kernel_rfl) rfl #[.int .i64 a1] rfl (by (try simp only [List.map_toArray, List.map_cons, List.map_nil]); first | done | rfl | (simp only [List.length_drop, List.length_take]; rfl)) ?_; (with_reducible refine (cmp_isNaN_int.calls a1 false _ A4.out).mono ?_); rintro e w' ⟨rfl, ⟨nd, rfl⟩⟩; refine ⟨_, rfl, ?_⟩))
      go_ret
      exact ⟨by first | rfl | (simp; done) | (simp [*]; done), by repeat (first | exact Drawn0.refl _ | apply Drawn0.step)⟩
  · replace c5 := Bool.eq_false_iff.mpr c5
    subst c5
    have H1 : (if t342 = true then (some 1) else (if a0 < a1 then (some (-1)) else (if a0 > a1 then (some 1) else (some 0)))) = some r := by rw [if_neg (show ¬ (false = true) by decide)] at H; exact H
    clear H
    have H := H1
    clear H1
    by_cases c7 : t342 = true
    · subst c7
      have H1 : (some 1) = some r := by rw [if_pos rfl] at H; exact H
      clear H
      have H := H1
      clear H1
      obtain rfl := Option.some.inj H
      go_enter Try.func83, Try.ntmps83
      go_wp2_with (first | ((with_reducible refine gate_callee (f := 100) rfl ?_); refine goesL_ (some 8) rfl rfl Try.func100 (by kernel_rfl) rfl #[.int .i64 a0] rfl (by (try simp only [List.map_toArray, List.map_cons, List.map_nil]); first | done | rfl | (simp only [List.length_drop, List.length_take]; rfl)) ?_; (with_reducible refine (cmp_isNaN_int.calls a0 false _ A3.out).mono ?_); rintro e w' ⟨rfl, ⟨nd, rfl⟩⟩; refine ⟨_, rfl, ?_⟩) | ((with_reducible refine gate_callee (f := 100) rfl ?_); refine goesL_ (some 10) rfl rfl Try.func100 (by kernel_rfl) rfl #[.int .i64 a1] rfl (by (try simp only [List.map_toArray, List.map_cons, List.map_nil]); first | done | rfl | (simp only [List.length_drop, List.length_take]; rfl)) ?_; (with_reducible refine (cmp_isNaN_int.calls a1 true _ A4.out).mono ?_); rintro e w' ⟨rfl, ⟨nd, rfl⟩⟩; refine ⟨_, rfl, ?_⟩))
      go_ret
      exact ⟨by first | rfl | (simp; done) | (simp [*]; done), by repeat (first | exact Drawn0.refl _ | apply Drawn0.step)⟩
    · replace c7 := Bool.eq_false_iff.mpr c7
      subst c7
      have H1 : (if a0 < a1 then (some (-1)) else (if a0 > a1 then (some 1) else (some 0))) = some r := by rw [if_neg (show ¬ (false = true) by decide)] at H; exact H
      clear H
      have H := H1
      clear H1
      by_cases c8 : a0 < a1
      · rw [if_pos c8] at H
        have c8b0 : decide (a0 < a1) = true := decide_eq_true c8
        clear c8
        obtain rfl := Option.some.inj H
        go_enter Try.func83, Try.ntmps83
        go_wp2_with (first | ((with_reducible refine gate_callee (f := 100) rfl ?_); refine goesL_ (some 8) rfl rfl Try.func100 (by kernel_rfl) rfl #[.int .i64 a0] rfl (by (try simp only [List.map_toArray, List.map_cons, List.map_nil]); first | done | rfl | (simp only [List.length_drop, List.length_take]; rfl)) ?_; (with_reducible refine (cmp_isNaN_int.calls a0 false _ A3.out).mono ?_); rintro e w' ⟨rfl, ⟨nd, rfl⟩⟩; refine ⟨_, rfl, ?_⟩) | ((with_reducible refine gate_callee (f := 100) rfl ?_); refine goesL_ (some 10) rfl rfl Try.func100 (by kernel_rfl) rfl #[.int .i64 a1] rfl (by (try simp only [List.map_toArray, List.map_cons, List.map_nil]); first | done | rfl | (simp only [List.length_drop, List.length_take]; rfl)) ?_; (with_reducible refine (cmp_isNaN_int.calls a1 false _ A4.out).mono ?_); rintro e w' ⟨rfl, ⟨nd, rfl⟩⟩; refine ⟨_, rfl, ?_⟩))
        go_ret
        exact ⟨by first | rfl | (simp; done) | (simp [*]; done), by repeat (first | exact Drawn0.refl _ | apply Drawn0.step)⟩
      · rw [if_neg c8] at H
        have c8b0 : decide (a0 < a1) = false := decide_eq_false c8
        clear c8
        by_cases c9 : a0 > a1
        · rw [if_pos c9] at H
          have c9b0 : decide (a1 < a0) = true := decide_eq_true c9
          clear c9
          obtain rfl := Option.some.inj H
          go_enter Try.func83, Try.ntmps83
          go_wp2_with (first | ((with_reducible refine gate_callee (f := 100) rfl ?_); refine goesL_ (some 8) rfl rfl Try.func100 (by kernel_rfl) rfl #[.int .i64 a0] rfl (by (try simp only [List.map_toArray, List.map_cons, List.map_nil]); first | done | rfl | (simp only [List.length_drop, List.length_take]; rfl)) ?_; (with_reducible refine (cmp_isNaN_int.calls a0 false _ A3.out).mono ?_); rintro e w' ⟨rfl, ⟨nd, rfl⟩⟩; refine ⟨_, rfl, ?_⟩) | ((with_reducible refine gate_callee (f := 100) rfl ?_); refine goesL_ (some 10) rfl rfl Try.func100 (by kernel_rfl) rfl #[.int .i64 a1] rfl (by (try simp only [List.map_toArray, List.map_cons, List.map_nil]); first | done | rfl | (simp only [List.length_drop, List.length_take]; rfl)) ?_; (with_reducible refine (cmp_isNaN_int.calls a1 false _ A4.out).mono ?_); rintro e w' ⟨rfl, ⟨nd, rfl⟩⟩; refine ⟨_, rfl, ?_⟩))
          go_ret
          exact ⟨by first | rfl | (simp; done) | (simp [*]; done), by repeat (first | exact Drawn0.refl _ | apply Drawn0.step)⟩
        · rw [if_neg c9] at H
          have c9b0 : decide (a1 < a0) = false := decide_eq_false c9
          clear c9
          obtain rfl := Option.some.inj H
          go_enter Try.func83, Try.ntmps83
          go_wp2_with (first | ((with_reducible refine gate_callee (f := 100) rfl ?_); refine goesL_ (some 8) rfl rfl Try.func100 (by kernel_rfl) rfl #[.int .i64 a0] rfl (by (try simp only [List.map_toArray, List.map_cons, List.map_nil]); first | done | rfl | (simp only [List.length_drop, List.length_take]; rfl)) ?_; (with_reducible refine (cmp_isNaN_int.calls a0 false _ A3.out).mono ?_); rintro e w' ⟨rfl, ⟨nd, rfl⟩⟩; refine ⟨_, rfl, ?_⟩) | ((with_reducible refine gate_callee (f := 100) rfl ?_); refine goesL_ (some 10) rfl rfl Try.func100 (by kernel_rfl) rfl #[.int .i64 a1] rfl (by (try simp only [List.map_toArray, List.map_cons, List.map_nil]); first | done | rfl | (simp only [List.length_drop, List.length_take]; rfl)) ?_; (with_reducible refine (cmp_isNaN_int.calls a1 false _ A4.out).mono ?_); rintro e w' ⟨rfl, ⟨nd, rfl⟩⟩; refine ⟨_, rfl, ?_⟩))
          go_ret
          exact ⟨by first | rfl | (simp; done) | (simp [*]; done), by repeat (first | exact Drawn0.refl _ | apply Drawn0.step)⟩

/-! ### rank_compare: function 60 -/
def rank_compare.f (k : Nat) (a0_0 : Int) (a0_1 : ByteArray) (a1_0 : Int) (a1_1 : ByteArray) : Option (Int) := (cmp_Compare_int.f a0_0 a1_0).bind fun t345 => ((text_Compare.f a0_1 a1_1).bind fun t346 => ((cmp_Or_int.f k (([t345, t346] : List Int))).bind fun t350 => (some t350)))
def rank_compare.T1 : Bool × List (List Nat × List Nat) := (true, [([], []), ([0], [0]), ([], []), ([2], [2]), ([1, 3], [1, 3]), ([], []), ([5], [5]), ([], []), ([7], [7]), ([6, 8, 4], [6, 8]), ([4, 9], [4, 9]), ([10, 9], [10]), ([11, 11, 0, 1, 2, 3, 4, 5, 6, 7, 8, 9, 10, 11], [11])])
def rank_compare.B1 : List Nat := [0, 1, 0, 4, 15, 0, 32, 0, 128, 511, 1023, 2047, 4095]
theorem rank_compare.tab1 : rtab .any (opsOf Try.f60 1) = rank_compare.T1 := by kernel_rfl
theorem rank_compare.bits1 : waitsOk rank_compare.T1.2 rank_compare.B1 = true := by kernel_rfl
set_option maxHeartbeats 8000000 in
set_option maxRecDepth 100000 in
theorem rank_compare.calls (k : Nat) (a0_0 : Int) (a0_1 : ByteArray) (a1_0 : Int) (a1_1 : ByteArray) (r : Int) (w : World) (h : rank_compare.f k a0_0 a0_1 a1_0 a1_1 = some r) :
    Calls Try.prog 60 #[.agg #[.int .i64 a0_0, .string a0_1], .agg #[.int .i64 a1_0, .string a1_1]] w fun e w' => e = .returned (.int .i64 r) ∧ Below w.heap.size w w' := by
  have hu24 := Try.underlying24
  have HB := Aside0.mk (Below.refl w.heap.size w)
  have H : ((cmp_Compare_int.f a0_0 a1_0).bind fun t345 => ((text_Compare.f a0_1 a1_1).bind fun t346 => ((cmp_Or_int.f k (([t345, t346] : List Int))).bind fun t350 => (some t350)))) = some r := h
  clear h
  replace H := Option.bind_eq_some_iff.mp H
  obtain ⟨t345, A30, H⟩ := H
  replace H : ((text_Compare.f a0_1 a1_1).bind fun t346 => ((cmp_Or_int.f k (([t345, t346] : List Int))).bind fun t350 => (some t350))) = some r := H
  have A3 := Aside0.mk A30
  clear A30
  replace H := Option.bind_eq_some_iff.mp H
  obtain ⟨t346, A40, H⟩ := H
  replace H : ((cmp_Or_int.f k (([t345, t346] : List Int))).bind fun t350 => (some t350)) = some r := H
  have A4 := Aside0.mk A40
  clear A40
  obtain ⟨y347, hy347⟩ : ∃ y_ : List Int, y_ = (([t345, t346] : List Int)) := ⟨_, rfl⟩
  replace H : ((cmp_Or_int.f k y347).bind fun t350 => (some t350)) = some r := by first | (rw [hy347]; with_reducible exact H) | (have H2_ := (Option.bind_some _ _).symm.trans H; rw [hy347]; with_reducible exact H2_) | (have H2_ := (Option.bind_some _ _).symm.trans H; with_reducible exact H2_) | with_reducible exact H | (rw [hy347]; exact H) | exact H
  have Ny347 := Aside0.mk hy347
  clear hy347
  replace H := Option.bind_eq_some_iff.mp H
  obtain ⟨t350, A50, H⟩ := H
  replace H : (some t350) = some r := H
  have A5 := Aside0.mk A50
  clear A50
  obtain rfl := Option.some.inj H
  go_enter Try.func60, Try.ntmps60
  try go_wp2_with (first | ((with_reducible refine gate_dst (N := 2) rfl ?_); refine box_event ?hg (N := 2) ?hd (cs := #[.int .i64 a0_0, .string a0_1]) (t := 24) ?hr ?_; (case hd => rfl); (case hg => rfl); (case hr => first | (go_simp; done) | (go_simp; rfl)); intro gb343 hg w6 hbox hb; have n0_ := Aside0.mk (below_step (by repeat (first | (with_reducible first | exact HB.out | apply below_alloc | apply pw_below_drewN | apply below_drew1) | exact HB.out)) hb); have n1_ := Aside0.mk (hbox); have n2_ := Aside0.mk ((by rw [hg]; exact (below_size (by repeat (first | (with_reducible first | exact HB.out | apply below_alloc | apply pw_below_drewN | apply below_drew1) | exact HB.out))) : w.heap.size ≤ gb343)); have n3_ := Aside0.mk ((by rw [hg]; exact (below_size (by repeat (first | (with_reducible first | exact HB.out | apply below_alloc | apply pw_below_drewN | apply below_drew1) | exact HB.out))) : w.heap.size ≤ gb343)); clear HB; have HB := n0_; have BK343 := n1_; have GW343 := n2_; have GE343 := n3_; clear n0_ n1_ n2_ n3_; clear hb hbox hg) | ((with_reducible refine gate_dst (N := 3) rfl ?_); refine box_event ?hg (N := 3) ?hd (cs := #[.int .i64 a1_0, .string a1_1]) (t := 24) ?hr ?_; (case hd => rfl); (case hg => rfl); (case hr => first | (go_simp; done) | (go_simp; rfl)); intro gb344 hg w7 hbox hb; have n0_ := Aside0.mk (blk_below (g := gb343) (o := .cells #[.int .i64 a0_0, .string a0_1] 24 (0, 0)) (by (with_reducible repeat (first | refine blk_drewN ?_ _ | refine blk_drew ?_ | refine blk_alloc ?_ _)); exact BK343.out) hb); have n1_ := Aside0.mk (below_step (by repeat (first | (with_reducible first | exact HB.out | apply below_alloc | apply pw_below_drewN | apply below_drew1 | refine below_set ?_ GE343.out) | exact HB.out)) hb); have n2_ := Aside0.mk (hbox); have n3_ := Aside0.mk ((by rw [hg]; exact (below_size (by repeat (first | (with_reducible first | exact HB.out | apply below_alloc | apply pw_below_drewN | apply below_drew1 | refine below_set ?_ GE343.out) | exact HB.out))) : w.heap.size ≤ gb344)); have n4_ := Aside0.mk ((by rw [hg]; exact (below_size (by repeat (first | (with_reducible first | exact HB.out | apply below_alloc | apply pw_below_drewN | apply below_drew1 | refine below_set ?_ GE343.out) | exact HB.out))) : w.heap.size ≤ gb344)); have n5_ := Aside0.mk ((by rw [hg]; exact Nat.ne_of_lt (blk_lt (g := gb343) (o := .cells #[.int .i64 a0_0, .string a0_1] 24 (0, 0)) (by (with_reducible repeat (first | refine blk_drewN ?_ _ | refine blk_drew ?_ | refine blk_alloc ?_ _)); exact BK343.out)) : gb343 ≠ gb344)); have n6_ := Aside0.mk ((by rw [hg]; exact Nat.ne_of_gt (blk_lt (g := gb343) (o := .cells #[.int .i64 a0_0, .string a0_1] 24 (0, 0)) (by (with_reducible repeat (first | refine blk_drewN ?_ _ | refine blk_drew ?_ | refine blk_alloc ?_ _)); exact BK343.out)) : gb344 ≠ gb343)); clear BK343; clear HB; have BK343 := n0_; have HB := n1_; have BK344 := n2_; have GW344 := n3_; have GE344 := n4_; have NB343_344 := n5_; have NB344_343 := n6_; clear n0_ n1_ n2_ n3_ n4_ n5_ n6_; clear hb hbox hg))
  have n0_ := Aside0.mk (blk_drew BK343.out)
  have n1_ := Aside0.mk (blk_drew BK344.out)
  have n2_ := Aside0.mk (below_drew1 HB.out)
  clear BK343
  clear BK344
  clear HB
  have BK343 := n0_
  have BK344 := n1_
  have HB := n2_
  clear n0_ n1_ n2_
  refine start_ (n := 13) (S := fun w' => w'.cell? ⟨gb343, 0, none⟩ = some (.int .i64 a0_0) ∧ w'.cell? ⟨gb343, 1, none⟩ = some (.string a0_1) ∧ w'.cell? ⟨gb344, 0, none⟩ = some (.int .i64 a1_0) ∧ w'.cell? ⟨gb344, 1, none⟩ = some (.string a1_1)) (ds := []) #[false, false, false, false, false, false, false, false, false, false, false, false, false] (by kernel_rfl) rfl rfl ⟨(blk_cell BK343.out 0).trans rfl, (blk_cell BK343.out 1).trans rfl, (blk_cell BK344.out 0).trans rfl, (blk_cell BK344.out 1).trans rfl⟩ (fun hHeld => ?_); refine with_tabW rank_compare.tab1 rank_compare.bits1 (fun HT_ HW_ => ?_)
  generalize w7.drew = w8 at BK343 BK344 HB hHeld ⊢
  refine pure_ (i := 0) (N := some 5) (v := ?_) (a' := ?_) #[true, false, false, false, false, false, false, false, false, false, false, false, false] rfl rfl (any_of HT_.out (by kernel_rfl)) (fun _ _ _ h => h) (Or.inl ⟨by rfl, ?_⟩) ?_ ?_
  rotate_left
  · intro w'
    go_simp
    with_reducible rfl
  rotate_left
  · simp only [Act.put, List.setIfInBounds_toArray, List.set_cons_zero, List.set_cons_succ, i64_w, i32_w]
    rfl
  refine pure_ (i := 2) (N := some 7) (v := ?_) (a' := ?_) #[true, false, true, false, false, false, false, false, false, false, false, false, false] rfl rfl (any_of HT_.out (by kernel_rfl)) (fun _ _ _ h => h) (Or.inl ⟨by rfl, ?_⟩) ?_ ?_
  rotate_left
  · intro w'
    go_simp
    with_reducible rfl
  rotate_left
  · simp only [Act.put, List.setIfInBounds_toArray, List.set_cons_zero, List.set_cons_succ, i64_w, i32_w]
    rfl
  refine pure_ (i := 5) (N := some 10) (v := ?_) (a' := ?_) #[true, false, true, false, false, true, false, false, false, false, false, false, false] rfl rfl (any_of HT_.out (by kernel_rfl)) (fun _ _ _ h => h) (Or.inl ⟨by rfl, ?_⟩) ?_ ?_
  rotate_left
  · intro w'
    go_simp
    with_reducible rfl
  rotate_left
  · simp only [Act.put, List.setIfInBounds_toArray, List.set_cons_zero, List.set_cons_succ, i64_w, i32_w]
    rfl
  refine pure_ (i := 7) (N := some 12) (v := ?_) (a' := ?_) #[true, false, true, false, false, true, false, true, false, false, false, false, false] rfl rfl (any_of HT_.out (by kernel_rfl)) (fun _ _ _ h => h) (Or.inl ⟨by rfl, ?_⟩) ?_ ?_
  rotate_left
  · intro w'
    go_simp
    with_reducible rfl
  rotate_left
  · simp only [Act.put, List.setIfInBounds_toArray, List.set_cons_zero, List.set_cons_succ, i64_w, i32_w]
    rfl
  refine take_ (i := 1) (N := some 6) (v := ?_) (a' := ?_) #[true, true, true, false, false, true, false, true, false, false, false, false, false] rfl rfl (take_ofW HT_.out HW_.out (by kernel_rfl)) (fun _ _ _ h => h) (Or.inl ⟨by rfl, ?_⟩) hHeld ?_ ?_
  rotate_left
  · rintro w' ⟨s0, s1, s2, s3⟩
    go_simp
    with_reducible rfl
  rotate_left
  · simp only [Act.put, List.setIfInBounds_toArray, List.set_cons_zero, List.set_cons_succ, i64_w, i32_w]
    rfl
  refine take_ (i := 3) (N := some 8) (v := ?_) (a' := ?_) #[true, true, true, true, false, true, false, true, false, false, false, false, false] rfl rfl (take_ofW HT_.out HW_.out (by kernel_rfl)) (fun _ _ _ h => h) (Or.inl ⟨by rfl, ?_⟩) hHeld ?_ ?_
  rotate_left
  · rintro w' ⟨s0, s1, s2, s3⟩
    go_simp
    with_reducible rfl
  rotate_left
  · simp only [Act.put, List.setIfInBounds_toArray, List.set_cons_zero, List.set_cons_succ, i64_w, i32_w]
    rfl
  refine take_ (i := 6) (N := some 11) (v := ?_) (a' := ?_) #[true, true, true, true, false, true, true, true, false, false, false, false, false] rfl rfl (take_ofW HT_.out HW_.out (by kernel_rfl)) (fun _ _ _ h => h) (Or.inl ⟨by rfl, ?_⟩) hHeld ?_ ?_
  rotate_left
  · rintro w' ⟨s0, s1, s2, s3⟩
    go_simp
    with_reducible rfl
  rotate_left
  · simp only [Act.put, List.setIfInBounds_toArray, List.set_cons_zero, List.set_cons_succ, i64_w, i32_w]
    rfl
  refine take_ (i := 8) (N := some 13) (v := ?_) (a' := ?_) #[true, true, true, true, false, true, true, true, true, false, false, false, false] rfl rfl (take_ofW HT_.out HW_.out (by kernel_rfl)) (fun _ _ _ h => h) (Or.inl ⟨by rfl, ?_⟩) hHeld ?_ ?_
  rotate_left
  · rintro w' ⟨s0, s1, s2, s3⟩
    go_simp
    with_reducible rfl
  rotate_left
  · simp only [Act.put, List.setIfInBounds_toArray, List.set_cons_zero, List.set_cons_succ, i64_w, i32_w]
    rfl
  refine one_ (i := 4) (N := some 9) #[true, true, true, true, true, true, true, true, true, false, false, false, false] rfl rfl (one_of HT_.out (by kernel_rfl)) (by decide) (fun K hK => ?_)
  refine goes_ Try.func83 (by kernel_rfl) rfl #[.int .i64 a0_0, .int .i64 a1_0] (by rfl) rfl rfl (by (try simp only [List.map_toArray, List.map_cons, List.map_nil]); first | done | rfl | (simp only [List.length_drop, List.length_take]; rfl)) ?_
  with_reducible refine (cmp_Compare_int.calls a0_0 a1_0 t345 _ A3.out).mono ?_
  rintro e w' ⟨rfl, ⟨nd, rfl⟩⟩
  refine ⟨_, rfl, ?_⟩
  refine hK.out _ _ ⟨(blk_cell BK343.out 0).trans rfl, (blk_cell BK343.out 1).trans rfl, (blk_cell BK344.out 0).trans rfl, (blk_cell BK344.out 1).trans rfl⟩ (fun hHeld => ?_)
  clear hK K
  refine norm_ (a' := ?_) ?_ ?_
  rotate_left
  · show Act.put _ (some 9) _ = _
    simp only [Act.put, List.setIfInBounds_toArray, List.set_cons_zero, List.set_cons_succ, i64_w, i32_w]
    rfl
  refine one_ (i := 9) (N := some 14) #[true, true, true, true, true, true, true, true, true, true, false, false, false] rfl rfl (one_of HT_.out (by kernel_rfl)) (by decide) (fun K hK => ?_)
  refine goes_ Try.func44 (by kernel_rfl) rfl #[.string a0_1, .string a1_1] (by rfl) rfl rfl (by (try simp only [List.map_toArray, List.map_cons, List.map_nil]); first | done | rfl | (simp only [List.length_drop, List.length_take]; rfl)) ?_
  with_reducible refine (text_Compare.calls a0_1 a1_1 t346 _ A4.out).mono ?_
  rintro e w' ⟨rfl, ⟨nd, rfl⟩⟩
  refine ⟨_, rfl, ?_⟩
  refine hK.out _ _ ⟨(blk_cell BK343.out 0).trans rfl, (blk_cell BK343.out 1).trans rfl, (blk_cell BK344.out 0).trans rfl, (blk_cell BK344.out 1).trans rfl⟩ (fun hHeld => ?_)
  clear hK K
  refine norm_ (a' := ?_) ?_ ?_
  rotate_left
  · show Act.put _ (some 14) _ = _
    simp only [Act.put, List.setIfInBounds_toArray, List.set_cons_zero, List.set_cons_succ, i64_w, i32_w]
    rfl
  refine one_ (i := 10) (N := some 15) #[true, true, true, true, true, true, true, true, true, true, true, false, false] rfl rfl (one_of HT_.out (by kernel_rfl)) (by decide) (fun K hK => ?_)
  refine Kd.R_lit_step (Kd.int .i64) _ 3 ?hg (N := 15) ?hd (xs := ([t345, t346] : List Int)) (inner := [.int .i64 t345, .int .i64 t346]) (ok := fun _ => True) (okp := fun _ => True) ?hr ?hp (fun _ hk => hk) trivial (Below.refl _ _) (Nat.le_refl _) (by simp) ?_; (case hd => rfl); (case hg => rfl); (case hr => first | (go_simp; done) | (go_simp; rfl)); (case hp => exact (Reps.one (show Kd.M (Kd.int .i64) _ _ _ t345 [.int .i64 t345] from rfl) (Reps.one (show Kd.M (Kd.int .i64) _ _ _ t346 [.int .i64 t346] from rfl) (Reps.none _ _))))
  intro v348 w9 ho10 hb hg_ hnew_
  clear hg_ hnew_
  (first | rw [← Ny347.out] at ho10 | (simp only [Int.reduceToNat] at ho10; rw [← Ny347.out] at ho10))
  have n0_ := Aside0.mk (Kd.R_lower ho10 (below_size (by repeat (first | (with_reducible first | exact HB.out | apply below_alloc | apply pw_below_drewN | apply below_drew1 | refine below_set ?_ GE343.out | refine below_set ?_ GE344.out) | exact HB.out))))
  have n1_ := Aside0.mk (blk_below (g := gb343) (o := .cells #[.int .i64 a0_0, .string a0_1] 24 (0, 0)) (by (with_reducible repeat (first | refine blk_drewN ?_ _ | refine blk_drew ?_ | refine blk_alloc ?_ _)); exact BK343.out) hb)
  have n2_ := Aside0.mk (blk_below (g := gb344) (o := .cells #[.int .i64 a1_0, .string a1_1] 24 (0, 0)) (by (with_reducible repeat (first | refine blk_drewN ?_ _ | refine blk_drew ?_ | refine blk_alloc ?_ _)); exact BK344.out) hb)
  have n3_ := Aside0.mk (below_step (by repeat (first | (with_reducible first | exact HB.out | apply below_alloc | apply pw_below_drewN | apply below_drew1 | refine below_set ?_ GE343.out | refine below_set ?_ GE344.out) | exact HB.out)) hb)
  clear BK343
  clear BK344
  clear HB
  have HO349 := n0_
  have BK343 := n1_
  have BK344 := n2_
  have HB := n3_
  clear n0_ n1_ n2_ n3_
  clear hb ho10
  obtain ⟨Ao11, co11, eo11⟩ := Kd.R_slice HO349.out
  (first | subst eo11 | (injection eo11 with f1_ f2_ f3_; have f4_ := f1_.symm; have f5_ := f3_.symm; clear f1_ f2_ f3_; subst f4_; subst f5_))
  refine hK.out _ _ ⟨(blk_cell BK343.out 0).trans rfl, (blk_cell BK343.out 1).trans rfl, (blk_cell BK344.out 0).trans rfl, (blk_cell BK344.out 1).trans rfl⟩ (fun hHeld => ?_)
  clear hK K
  refine norm_ (a' := ?_) ?_ ?_
  rotate_left
  · show Act.put _ (some 15) _ = _
    simp only [Act.put, List.setIfInBounds_toArray, List.set_cons_zero, List.set_cons_succ, i64_w, i32_w]
    rfl
  refine one_ (i := 11) (N := some 16) #[true, true, true, true, true, true, true, true, true, true, true, true, false] rfl rfl (one_of HT_.out (by kernel_rfl)) (by decide) (fun K hK => ?_)
  refine goes_ Try.func82 (by kernel_rfl) rfl #[.slice Ao11 y347.length co11] (by rfl) rfl rfl (by (try simp only [List.map_toArray, List.map_cons, List.map_nil]); first | done | rfl | (simp only [List.length_drop, List.length_take]; rfl)) ?_
  with_reducible refine (cmp_Or_int.calls k _ _ y347 t350 _ ?side1 ?side2 A5.out).mono ?_
  (case side1 => repeat (first | exact (Kd.R_reads' HO349.out).2.2 | (with_reducible refine Kd.C_alloc ?_ _) | (with_reducible refine Kd.C_drewN ?_ _) | (with_reducible refine Kd.C_drew ?_)))
  (case side2 => exact (Kd.R_reads' HO349.out).2.1)
  rintro e w' ⟨rfl, ⟨nd, rfl⟩⟩
  refine ⟨_, rfl, ?_⟩
  refine hK.out _ _ ⟨(blk_cell BK343.out 0).trans rfl, (blk_cell BK343.out 1).trans rfl, (blk_cell BK344.out 0).trans rfl, (blk_cell BK344.out 1).trans rfl⟩ (fun hHeld => ?_)
  clear hK K
  refine norm_ (a' := ?_) ?_ ?_
  rotate_left
  · show Act.put _ (some 16) _ = _
    simp only [Act.put, List.setIfInBounds_toArray, List.set_cons_zero, List.set_cons_succ, i64_w, i32_w]
    rfl
  refine pure_ (i := 12) (N := some 4) (v := ?_) (a' := ?_) #[true, true, true, true, true, true, true, true, true, true, true, true, true] rfl rfl (any_of HT_.out (by kernel_rfl)) (fun _ _ _ h => h) (Or.inl ⟨by rfl, ?_⟩) ?_ ?_
  rotate_left
  · intro w'
    go_simp
    with_reducible rfl
  rotate_left
  · simp only [Act.put, List.setIfInBounds_toArray, List.set_cons_zero, List.set_cons_succ, i64_w, i32_w]
    rfl
  refine done_ (done_of HT_.out (by kernel_rfl)) ?_
  try go_wp2
  go_ret
  exact ⟨by first | rfl | (simp [errW_none, errW_some] <;> rfl) | (simp [*, errW_none, errW_some] <;> rfl), by repeat (first | (with_reducible first | exact HB.out | apply below_alloc | apply pw_below_drewN | apply below_drew1 | refine below_set ?_ GE343.out | refine below_set ?_ GE344.out) | exact HB.out)⟩

-- NOT PRINTED: function 68 (api_Item_68)

-- NOT PRINTED: function 105 (api_Item_105)

-- NOT PRINTED: function 117 (api_Item_117)

-- NOT PRINTED: function 115 (api_Item_115)

-- NOT PRINTED: function 106 (api_Item_106)

-- NOT PRINTED: function 87 (api_Item_87)

-- NOT PRINTED: function 69 (api_Item_69)

-- NOT PRINTED: function 47 (rank_Sort)

-- NOT PRINTED: function 30 (rank_All)

-- NOT PRINTED: function 8 (inkhornlaw11_WalkBatches)

-- NOT PRINTED: function 9 (inkhornlaw11_WalkEnds)

-- NOT PRINTED: function 88 (slices_insertionSortCmpFunc_string)

-- NOT PRINTED: function 107 (slices_siftDownCmpFunc_string)

-- NOT PRINTED: function 89 (slices_heapSortCmpFunc_string)

-- NOT PRINTED: function 96 (bits_Len32)

-- NOT PRINTED: function 97 (bits_Len64)

-- NOT PRINTED: function 71 (bits_Len)

-- NOT PRINTED: function 108 (slices_nextPowerOfTwo)

-- NOT PRINTED: function 109 (slices_xorshift_Next)

-- NOT PRINTED: function 90 (slices_breakPatternsCmpFunc_string)

-- NOT PRINTED: function 116 (slices_order2CmpFunc_string)

-- NOT PRINTED: function 111 (slices_medianCmpFunc_string)

-- NOT PRINTED: function 110 (slices_medianAdjacentCmpFunc_string)

-- NOT PRINTED: function 91 (slices_choosePivotCmpFunc_string)

-- NOT PRINTED: function 92 (slices_reverseRangeCmpFunc_string)

-- NOT PRINTED: function 93 (slices_partialInsertionSortCmpFunc_string)

-- NOT PRINTED: function 94 (slices_partitionEqualCmpFunc_string)

-- NOT PRINTED: function 95 (slices_partitionCmpFunc_string)

-- NOT PRINTED: function 70 (slices_pdqsortCmpFunc_string)

-- NOT PRINTED: function 48 (slices_SortFunc_string_string)

-- NOT PRINTED: function 49 (slices_Compact_string_string)

-- NOT PRINTED: function 31 (list_Sorted)

-- NOT PRINTED: function 10 (inkhornlaw11_WalkOwn)

-- NOT PRINTED: function 32 (inkhornlaw11_up)

-- NOT PRINTED: function 11 (inkhornlaw11_WalkRenamed)

end Go.Proofs.Ytklidannncajiaa.OW

namespace Go.Proofs.Ytklidannncajiaa.OW
open Go.RowKit Go.Proofs.YtklidannncajiaaW.PrintWords Go.Proofs.YtklidannncajiaaW.PrintLast Go.Proofs.YtklidannncajiaaW.PrintMore

def rank_Less.f (k : Nat) (a0 : Int) (a1 : ByteArray) (b0 : Int) (b1 : ByteArray) : Option Bool := (rank_compare.f k a0 a1 b0 b1).bind fun t => some (decide (t < 0))
set_option maxHeartbeats 2000000 in
set_option maxRecDepth 100000 in
theorem rank_Less.calls (k : Nat) (a0 : Int) (a1 : ByteArray) (b0 : Int) (b1 : ByteArray) (r : Bool) (w : World) (h : rank_Less.f k a0 a1 b0 b1 = some r) :
    Calls Try.prog 38 #[.agg #[.int .i64 a0, .string a1], .agg #[.int .i64 b0, .string b1]] w fun e w' => e = .returned (.bool r) ∧ Below w.heap.size w w' := by
  obtain ⟨t, ht, h⟩ := Option.bind_eq_some_iff.1 h
  obtain rfl := Option.some.inj h
  have HT := Aside0.mk ht
  clear ht h
  have hb2 := ((Below.refl w.heap.size w).alloc (Nat.le_refl _) (.cells #[.int .i64 a0, .string a1] 24)).alloc (by simp) (.cells #[.int .i64 b0, .string b1] 24)
  have HB := Aside0.mk hb2
  clear hb2
  go_enter Try.func38, Try.ntmps38
  go_wp2_with ((with_reducible refine gate_callee (f := 60) rfl ?_); (try (refine gate_guard (by rfl) ?_; dsimp only)); refine goesL_ (some 7) rfl rfl Try.func60 (by kernel_rfl) rfl #[.agg #[.int .i64 a0, .string a1], .agg #[.int .i64 b0, .string b1]] rfl (by (try simp only [List.map_toArray, List.map_cons, List.map_nil]); first | done | rfl) ?_; (with_reducible refine (rank_compare.calls k a0 a1 b0 b1 t _ HT.out).mono ?_); rintro e w3 ⟨rfl, hb⟩; refine ⟨_, rfl, ?_⟩; have HB3 := Aside0.mk (below_step HB.out hb); clear hb)
  go_ret
  exact ⟨rfl, HB3.out⟩
end Go.Proofs.Ytklidannncajiaa.OW

namespace Go.Proofs.Ytklidannncajiaa.OW
open Go.RowKit Go.Proofs.YtklidannncajiaaW.PrintWords Go.Proofs.YtklidannncajiaaW.PrintLast Go.Proofs.YtklidannncajiaaW.PrintMore

/-- Is a word passed over: it is not behind 'after'? -/
def nextSkip (k : Nat) (d : Int) (first : Bool) (af : S24) (s : ByteArray) : Option Bool := if first = true then some false else (rank_Less.f k af.f0 af.f1 d s).bind fun b => some (!b)
def nextStep (k : Nat) (d : Int) (first : Bool) (af : S24) (batch : Int) (a : List S24 × Bool) (s : ByteArray) : Option ((List S24 × Bool) × Bool) :=
  (nextSkip k d first af s).bind fun skip => if skip = true then some (a, !a.2) else if (a.1.length : Int) = batch then some ((a.1, true), false) else if a.1.length < 1000000 then some ((a.1 ++ [⟨d, s⟩], a.2), !a.2) else none
/-- The variables of walk.Next that its closure has: their blocks. -/
structure NextAt where
  B : Nat
  bf : Nat
  ba : Nat
  bl : Nat
  bb : Nat
  bm : Nat
def NextMay (N : NextAt) (k t : Nat) : Prop := N.B ≤ k ∧ (k = N.bl ∧ t = 31 ∨ k = N.bm ∧ t = 4 ∨ k ≠ N.ba ∧ t = 24)
structure NextInv (N : NextAt) (first : Bool) (af : S24) (batch : Int) (a : List S24 × Bool) (W : World) : Prop where
  bl : N.B ≤ N.bl
  bm : N.B ≤ N.bm
  ne : N.bf ≠ N.bm
  first : W.heap[N.bf]? = some (.cells #[.bool first] 4 (0, 0))
  after : W.heap[N.ba]? = some (.cells #[.int .i64 af.f0, .string af.f1] 24 (0, 0))
  batch : W.heap[N.bb]? = some (.cells #[.int .i64 batch] 3 (0, 0))
  more : W.heap[N.bm]? = some (.cells #[.bool a.2] 4 (0, 0))
  list : ∃ v, W.heap[N.bl]? = some (.cells #[v] 31 (0, 0)) ∧ Kd.R k24 24 W N.B (fun k => k ≠ N.ba) v a.1
theorem NextInv.below {N : NextAt} {first : Bool} {af : S24} {batch : Int} {a : List S24 × Bool} {W W' : World} (h : NextInv N first af batch a W) (hb : Below W.heap.size W W') : NextInv N first af batch a W' := by
  obtain ⟨v, h1, h2⟩ := h.list
  exact ⟨h.bl, h.bm, h.ne, blk_below h.first hb, blk_below h.after hb, blk_below h.batch hb, blk_below h.more hb, v, blk_below h1 hb, Kd.R_below h2 hb⟩
theorem NextInv.keep {N : NextAt} {first : Bool} {af : S24} {batch : Int} {a : List S24 × Bool} {W W' : World} (h : NextInv N first af batch a W) (hk : KeptBy (fun _ t => t = 96) W W') : NextInv N first af batch a W' := by
  obtain ⟨v, h1, h2⟩ := h.list
  exact ⟨h.bl, h.bm, h.ne, (hk.typed ⟨_, h.first⟩ (by decide)).trans h.first, (hk.typed ⟨_, h.after⟩ (by decide)).trans h.after, (hk.typed ⟨_, h.batch⟩ (by decide)).trans h.batch, (hk.typed ⟨_, h.more⟩ (by decide)).trans h.more, v, (hk.typed ⟨_, h1⟩ (by decide)).trans h1, hk.row h2 (fun k t ht _ hc => by
    have : t = 24 := by simpa [k24, Kd.iso, Kd.pair, Kd.int, Kd.string, Kd.scalar] using ht
    omega)⟩
theorem NextInv.full {N : NextAt} {first : Bool} {af : S24} {batch : Int} {a : List S24 × Bool} {W : World} (h : NextInv N first af batch a W) (b : Bool) : NextInv N first af batch (a.1, b) (W.setCell ⟨N.bm, 0, none⟩ (.bool b)) := by
  obtain ⟨v, h1, h2⟩ := h.list
  exact ⟨h.bl, h.bm, h.ne, blk_far (p := ⟨N.bm, 0, none⟩) h.first h.ne _, blk_far (p := ⟨N.bm, 0, none⟩) h.after (blk_ne h.after h.more (by decide)) _, blk_far (p := ⟨N.bm, 0, none⟩) h.batch (blk_ne h.batch h.more (by decide)) _, blk_set h.more 0 _, v, blk_far (p := ⟨N.bm, 0, none⟩) h1 (blk_ne h1 h.more (by decide)) _, Kd.R_set h2 h.more (by decide) 0 _⟩
theorem NextInv.longer {N : NextAt} {first : Bool} {af : S24} {batch : Int} {a : List S24 × Bool} {W W1 : World} (h : NextInv N first af batch a W) {v v1 : Value} {l1 : List S24} (hv : W.heap[N.bl]? = some (.cells #[v] 31 (0, 0))) (hr : Kd.R k24 24 W N.B (fun k => k ≠ N.ba) v a.1) (hg : W.grownBy W1 v.ownBlock) (hr1 : Kd.R k24 24 W1 N.B (fun k => k ≠ N.ba) v1 l1) :
    NextInv N first af batch (l1, a.2) (W1.setCell ⟨N.bl, 0, none⟩ v1) ∧ KeptBy (NextMay N) W (W1.setCell ⟨N.bl, 0, none⟩ v1) := by
  have hbl := blk_grown hv hg (Kd.R_ne hr hv (by decide))
  have ha := blk_grown h.after hg (fun e => hr.1 _ e.symm rfl)
  have hf := blk_grown h.first hg (Kd.R_ne hr h.first (by decide))
  have hb := blk_grown h.batch hg (Kd.R_ne hr h.batch (by decide))
  have hm := blk_grown h.more hg (Kd.R_ne hr h.more (by decide))
  refine ⟨⟨h.bl, h.bm, h.ne, blk_far (p := ⟨N.bl, 0, none⟩) hf (blk_ne hf hbl (by decide)) _, blk_far (p := ⟨N.bl, 0, none⟩) ha (blk_ne ha hbl (by decide)) _, blk_far (p := ⟨N.bl, 0, none⟩) hb (blk_ne hb hbl (by decide)) _, blk_far (p := ⟨N.bl, 0, none⟩) hm (blk_ne hm hbl (by decide)) _, v1, blk_set hbl 0 _, Kd.R_set hr1 hbl (by decide) 0 _⟩, ?_⟩
  refine (KeptBy.of_grown hg (fun k hk => ?_)).trans (KeptBy.setCell W1 ⟨_, hbl⟩ ⟨h.bl, .inl ⟨rfl, rfl⟩⟩ _)
  obtain ⟨inner, ho⟩ := Kd.R_own hr
  exact ⟨24, own_typed ho k hk, own_base ho k hk, .inr (.inr ⟨hr.1 k hk, rfl⟩)⟩
set_option maxHeartbeats 4000000 in
set_option maxRecDepth 100000 in
theorem next_calls (k : Nat) (N : NextAt) (bd : Nat) (d : Int) (first : Bool) (af : S24) (batch : Int) (a a' : List S24 × Bool) (s : ByteArray) (go : Bool) (W : World) (hs : nextStep k d first af batch a s = some (a', go)) (hI : NextInv N first af batch a W) (hd : W.heap[bd]? = some (.cells #[.int .i64 d] 3 (0, 0))) :
    Calls Try.prog 37 #[.string s, .pointer (some ⟨bd, 0, none⟩), .pointer (some ⟨N.bf, 0, none⟩), .pointer (some ⟨N.ba, 0, none⟩), .pointer (some ⟨N.bl, 0, none⟩), .pointer (some ⟨N.bb, 0, none⟩), .pointer (some ⟨N.bm, 0, none⟩)] W fun e W' => e = .returned (.bool go) ∧ NextInv N first af batch a' W' ∧ W'.heap[bd]? = some (.cells #[.int .i64 d] 3 (0, 0)) ∧ KeptBy (NextMay N) W W' := by
  obtain ⟨l, more⟩ := a
  obtain ⟨skip, hk, hs⟩ := Option.bind_eq_some_iff.1 hs
  have HS := Aside0.mk hs
  clear hs
  have HI := Aside0.mk hI
  have HD := Aside0.mk hd
  have hc1 := block_cell hd
  have hb1 := (Below.refl W.heap.size W).alloc (Nat.le_refl _) (.cells #[.int .i64 d, .string s] 24)
  have hx1 := heap_alloc_new W (.cells #[.int .i64 d, .string s] 24)
  have HI1 := Aside0.mk (hI.below hb1)
  have HD1 := Aside0.mk (blk_below hd hb1)
  have HX1 := Aside0.mk hx1
  have HB1 := Aside0.mk hb1
  clear hI hd hb1 hx1
  go_enter Try.func37, Try.ntmps37
  go_upto_region 3 with fail
  have HK1 := Aside0.mk (KeptBy.of_below (P := NextMay N) HB1.out)
  clear hc1 HI HD HB1
  generalize W.alloc (.cells #[.int .i64 d, .string s] 24) = W1 at HI1 HD1 HX1 HK1 ⊢
  generalize W.heap.size = bx at HX1 ⊢
  have hc0 := block_cell HI1.out.first
  go_cut [17] (fun v17 w2 => v17 = .bool skip ∧ Aside0 (NextInv N first af batch (l, more) w2) ∧ Aside0 (w2.heap[bd]? = some (.cells #[.int .i64 d] 3 (0, 0))) ∧ Aside0 (w2.heap[bx]? = some (.cells #[.int .i64 d, .string s] 24 (0, 0))) ∧ Aside0 (KeptBy (NextMay N) W w2))
  case first =>
    unfold nextSkip at hk
    cases first with
    | true =>
      obtain rfl := Option.some.inj ((if_pos rfl).symm.trans hk)
      clear hk
      go_wp2_with fail
      go_meet
      exact ⟨rfl, HI1, HD1, HX1, HK1⟩
    | false =>
      obtain ⟨b, hb, hk2⟩ := Option.bind_eq_some_iff.1 ((if_neg (by simp)).symm.trans hk)
      obtain rfl := Option.some.inj hk2
      have HL := Aside0.mk hb
      clear hk hb hk2
      have ha0 : W1.cell? ⟨N.ba, 0, none⟩ = some (.int .i64 af.f0) := blk_cell HI1.out.after 0
      have ha1 : W1.cell? ⟨N.ba, 1, none⟩ = some (.string af.f1) := blk_cell HI1.out.after 1
      have hx0 : W1.cell? ⟨bx, 0, none⟩ = some (.int .i64 d) := blk_cell HX1.out 0
      have hx1 : W1.cell? ⟨bx, 1, none⟩ = some (.string s) := blk_cell HX1.out 1
      go_wp2_with ((with_reducible refine gate_callee (f := 38) rfl ?_); (try (refine gate_guard (by rfl) ?_; dsimp only)); refine goesL_ (some 23) rfl rfl Try.func38 (by kernel_rfl) rfl #[.agg #[.int .i64 af.f0, .string af.f1], .agg #[.int .i64 d, .string s]] rfl (by (try simp only [List.map_toArray, List.map_cons, List.map_nil]); first | done | rfl) ?_; (with_reducible refine (rank_Less.calls k af.f0 af.f1 d s b _ HL.out).mono ?_); rintro e w3 ⟨rfl, hb⟩; refine ⟨_, rfl, ?_⟩; have HI3 := Aside0.mk (HI1.out.below hb); have HD3 := Aside0.mk (blk_below HD1.out hb); have HX3 := Aside0.mk (blk_below HX1.out hb); have HK3 := Aside0.mk (HK1.out.trans (KeptBy.of_below hb)); clear hb ha0 ha1 hx0 hx1 hc0)
      go_meet
      exact ⟨rfl, HI3, HD3, HX3, HK3⟩
  case rest =>
    obtain ⟨rfl, HI, HD, HX, HK⟩ := hcut
    clear hc0 hk
    have hm := block_cell HI.out.more
    have hb := block_cell HI.out.batch
    obtain ⟨v, hv, hr⟩ := HI.out.list
    obtain ⟨Av, cv, ev⟩ := Kd.R_slice hr
    subst ev
    have hl := block_cell hv
    have HV := Aside0.mk hv
    have HR := Aside0.mk hr
    clear hv hr
    cases skip with
    | true =>
      obtain ⟨rfl, rfl⟩ := Prod.mk.inj (Option.some.inj ((if_pos rfl).symm.trans HS.out))
      go_wp2_with fail
      go_ret
      exact ⟨rfl, HI.out, HD.out, HK.out⟩
    | false =>
      have hs2 := (if_neg (show ¬ (false = true) by simp)).symm.trans HS.out
      dsimp only at hs2
      by_cases hlb : (l.length : Int) = batch
      · obtain ⟨rfl, rfl⟩ := Prod.mk.inj (Option.some.inj ((if_pos hlb).symm.trans hs2))
        have hlb2 : ((l.length : Int) == batch) = true := by simpa using hlb
        have HLB := Aside0.mk hlb
        clear hlb hs2 HS
        have hf := blk_frozen HI.out.more 0
        go_wp2_with fail
        go_ret
        exact ⟨rfl, HI.out.full true, blk_far (p := ⟨N.bm, 0, none⟩) HD.out (blk_ne HD.out HI.out.more (by decide)) _, HK.out.trans (KeptBy.setCell wc ⟨_, HI.out.more⟩ ⟨HI.out.bm, .inr (.inl ⟨rfl, rfl⟩)⟩ _)⟩
      · have hlb2 : ((l.length : Int) == batch) = false := by simpa using hlb
        have hs3 := (if_neg hlb).symm.trans hs2
        by_cases hll : l.length < 1000000
        case neg => exact absurd ((if_neg hll).symm.trans hs3) (by simp)
        obtain ⟨rfl, rfl⟩ := Prod.mk.inj (Option.some.inj ((if_pos hll).symm.trans hs3))
        have HLL := Aside0.mk hll
        clear hlb hs2 hs3 hll HS
        have hf := blk_frozen HV.out 0
        have hx0 : wc.cell? ⟨bx, 0, none⟩ = some (.int .i64 d) := blk_cell HX.out 0
        have hx1 : wc.cell? ⟨bx, 1, none⟩ = some (.string s) := blk_cell HX.out 1
        have HZ := Aside0.mk (Nat.le_trans HI.out.bl (Nat.le_of_lt (blk_lt HV.out)))
        go_wp2_with ((with_reducible refine gate_builtin (b := .append) (xs := #[.tmp 13, .tmp 15]) rfl ?_); at_builtin; refine Kd.R_append k24 (w0 := wc) N.B rfl (.tmp 13) (.tmp 15) 31 24 (.agg #[(.int .i64 0), (.string ⟨#[]⟩)]) 24 rfl Try.underlying31 info24 rfl (by decide) (by omega) (.slice Av l.length cv) l (⟨d, s⟩ : S24) [.int .i64 d, .string s] (fun kk => kk ≠ N.ba) (fun _ => False) rfl rfl ?aP (fun _ hk => hk.elim) (fun kk hk => by have := blk_lt HI.out.after; omega) HR.out (Below.refl _ _) HZ.out (by have := HLL.out; omega) ?_; (case aP => exact k24_mkM _ _ _ (⟨d, s⟩ : S24)); intro v1 w1 ho hb1 hg hat; obtain ⟨A1, c1, e1⟩ := Kd.R_slice ho; subst e1; rw [List.length_append, List.length_singleton] at ho; have HN := Aside0.mk (HI.out.longer HV.out HR.out hg ho); have HM1 := Aside0.mk (blk_grown HI.out.more hg (Kd.R_ne HR.out HI.out.more (by decide))); have HV1 := Aside0.mk (blk_grown HV.out hg (Kd.R_ne HR.out HV.out (by decide))); have HD1 := Aside0.mk (blk_grown HD.out hg (Kd.R_ne HR.out HD.out (by decide))); clear ho hb1 hg hat hm hb hl hf hx0 hx1; have hl1 := block_cell HV1.out; have hf1 := blk_frozen HV1.out 0; have hm1 := block_cell HM1.out; have hne : N.bm ≠ N.bl := blk_ne HM1.out HV1.out (by decide))
        go_ret
        exact ⟨rfl, HN.out.1, blk_far (p := ⟨N.bl, 0, none⟩) HD1.out (blk_ne HD1.out HV1.out (by decide)) _, HK.out.trans HN.out.2⟩
theorem next_yields (k : Nat) (N : NextAt) (bd : Nat) (d : Int) (first : Bool) (af : S24) (batch : Int) :
    YieldsBy 37 #[.pointer (some ⟨bd, 0, none⟩), .pointer (some ⟨N.bf, 0, none⟩), .pointer (some ⟨N.ba, 0, none⟩), .pointer (some ⟨N.bl, 0, none⟩), .pointer (some ⟨N.bb, 0, none⟩), .pointer (some ⟨N.bm, 0, none⟩)] (NextMay N) (fun a W => NextInv N first af batch a W ∧ W.heap[bd]? = some (.cells #[.int .i64 d] 3 (0, 0))) (nextStep k d first af batch) where
  fn := ⟨_, Try.func37, by kernel_rfl, rfl⟩
  call := fun a s a' go W hs hI => (next_calls k N bd d first af batch a a' s go W hs hI.1 hI.2).mono fun e W' ⟨h1, h2, h3, h4⟩ => ⟨h1, ⟨h2, h3⟩, h4⟩
  keep := fun a W W' hI hk => ⟨hI.1.keep hk, (hk.typed ⟨_, hI.2⟩ (by decide)).trans hI.2⟩
  pc := fun k t h => by rcases h.2 with h | h | h <;> omega
def walk_Next.l0 (k : Nat) (q : List Int) (ns : List S72) (first : Bool) (af : S24) (batch top : Int) : Nat → Int → (List S24 × Bool) → Option (List S24 × Bool)
  | 0, _, _ => none
  | kq + 1, d, a => if d < top then (walk_each.f k q d ns (nextStep k d first af batch) a).bind fun a' => if a'.2 = true then some a' else walk_Next.l0 k q ns first af batch top kq (d + 1) a' else some a
/-- The next batch of near words, and whether there are no others. -/
def walk_Next.f (k : Nat) (ns : List S72) (s : ByteArray) (kk : Int) (first : Bool) (af : S24) (batch : Int) : Option (List S24 × Bool) :=
  (walk_asked.f s kk).bind fun t => if t.2 = true then (walk_Next.l0 k t.1 ns first af (if batch < 0 then 0 else batch) (kk + 1) k 0 ([], false)).bind fun a => some (a.1, !a.2) else some ([], true)
theorem asked_bound {s : ByteArray} {k : Int} {q : List Int} (h : walk_asked.f s k = some (q, true)) : 0 ≤ k ∧ k ≤ 4 := by
  unfold walk_asked.f at h
  by_cases c0 : k < 0
  · rw [if_pos c0] at h
    have := (Prod.mk.inj (Option.some.inj h)).2
    cases this
  · rw [if_neg c0] at h
    by_cases c1 : k > 4
    · rw [if_pos c1] at h
      have := (Prod.mk.inj (Option.some.inj h)).2
      cases this
    · omega
attribute [local go_sem] max2_int max_two
set_option maxHeartbeats 4000000 in
set_option maxRecDepth 100000 in
theorem walk_Next.calls (k : Nat) (g : Nat) (ns : List S72) (s : ByteArray) (kk : Int) (first : Bool) (af : S24) (batch : Int) (r1 : List S24) (r2 : Bool) (w : World) (hG : GraphAt w g ns) (h : walk_Next.f k ns s kk first af batch = some (r1, r2)) :
    Calls Try.prog 15 #[.pointer (some ⟨g, 0, none⟩), .string s, .int .i64 kk, .bool first, .agg #[.int .i64 af.f0, .string af.f1], .int .i64 batch] w fun e w' => ∃ v0_ : Value, e = .returned (.tuple #[v0_, .bool r2]) ∧ Kd.R k24 24 w' w.heap.size (fun _ => True) v0_ r1 ∧ Below w.heap.size w w' := by
  obtain ⟨⟨q, ok⟩, ha, h⟩ := Option.bind_eq_some_iff.1 h
  have HG := Aside0.mk hG
  have HA := Aside0.mk ha
  clear hG ha
  have hb0 := (Below.refl w.heap.size w).alloc (Nat.le_refl _) (.cells #[.bool first] 4)
  have hb1 := hb0.alloc (by simp) (.cells #[.int .i64 af.f0, .string af.f1] 24)
  have hb2 := hb1.alloc (by simp; omega) (.cells #[.int .i64 batch] 3)
  have h0 := blk_alloc (blk_alloc (heap_alloc_new w (.cells #[.bool first] 4)) (.cells #[.int .i64 af.f0, .string af.f1] 24)) (.cells #[.int .i64 batch] 3)
  have h1 := blk_alloc (heap_alloc_new (w.alloc (.cells #[.bool first] 4)) (.cells #[.int .i64 af.f0, .string af.f1] 24)) (.cells #[.int .i64 batch] 3)
  have h2 := heap_alloc_new ((w.alloc (.cells #[.bool first] 4)).alloc (.cells #[.int .i64 af.f0, .string af.f1] 24)) (.cells #[.int .i64 batch] 3)
  have e1 : (w.alloc (.cells #[.bool first] 4)).heap.size = w.heap.size + 1 := by simp
  have e2 : ((w.alloc (.cells #[.bool first] 4)).alloc (.cells #[.int .i64 af.f0, .string af.f1] 24)).heap.size = w.heap.size + 1 + 1 := by simp
  rw [e1] at h1
  rw [e2] at h2
  clear e1 e2
  have HB := Aside0.mk hb2
  have H0 := Aside0.mk h0
  have H1 := Aside0.mk h1
  have H2 := Aside0.mk h2
  clear hb0 hb1 hb2 h0 h1 h2
  go_enter Try.func15, Try.ntmps15
  go_upto_region 1 with fail
  generalize ((w.alloc (.cells #[.bool first] 4)).alloc (.cells #[.int .i64 af.f0, .string af.f1] 24)).alloc (.cells #[.int .i64 batch] 3) = w1 at HB H0 H1 H2 ⊢
  cases ok with
  | false =>
    obtain ⟨rfl, rfl⟩ := Prod.mk.inj (Option.some.inj ((if_neg (by simp)).symm.trans h))
    clear h
    go_wp2_with ((with_reducible refine gate_callee (f := 35) rfl ?_); (try (refine gate_guard (by rfl) ?_; dsimp only)); refine goesL_ (some 23) rfl rfl Try.func35 (by kernel_rfl) rfl #[.pointer (some ⟨g, 0, none⟩), .string s, .int .i64 kk] rfl (by (try simp only [List.map_toArray, List.map_cons, List.map_nil]); first | done | rfl) ?_; (with_reducible refine (walk_asked.calls g s kk q false _ HA.out).mono ?_); rintro e w2 ⟨v, rfl, ho, hb⟩; refine ⟨_, rfl, ?_⟩; obtain ⟨A1, c1, e1⟩ := Kd.R_slice ho; subst e1; have HB2 := Aside0.mk (below_step HB.out hb); clear ho hb)
    go_ret2
    exact ⟨_, rfl, Kd.R_nil _ _ _ _ _, HB2.out⟩
  | true =>
    obtain ⟨a, hE, h⟩ := Option.bind_eq_some_iff.1 ((if_pos rfl).symm.trans h)
    obtain ⟨rfl, rfl⟩ := Prod.mk.inj (Option.some.inj h)
    have HE := Aside0.mk hE
    clear h hE
    obtain ⟨hk0, hk4⟩ := asked_bound HA.out
    go_upto_region 4 with ((with_reducible refine gate_callee (f := 35) rfl ?_); (try (refine gate_guard (by rfl) ?_; dsimp only)); refine goesL_ (some 23) rfl rfl Try.func35 (by kernel_rfl) rfl #[.pointer (some ⟨g, 0, none⟩), .string s, .int .i64 kk] rfl (by (try simp only [List.map_toArray, List.map_cons, List.map_nil]); first | done | rfl) ?_; (with_reducible refine (walk_asked.calls g s kk q true _ HA.out).mono ?_); rintro e w2 ⟨v, rfl, ho, hb⟩; refine ⟨_, rfl, ?_⟩; obtain ⟨A1, c1, e1⟩ := Kd.R_slice ho; subst e1; have HO2 := Aside0.mk ho; have HS2 := Aside0.mk hb.size; have HB2 := Aside0.mk (below_step HB.out hb); have H02 := Aside0.mk (blk_below H0.out hb); have H12 := Aside0.mk (blk_below H1.out hb); have H22 := Aside0.mk (blk_below H2.out hb); clear ho hb HB H0 H1 H2)
    go_upto_region 5 with fail
    have hb3 := (Below.refl w2.heap.size w2).alloc (Nat.le_refl _) (.cells #[.slice none 0 0] 31)
    have HL3 := Aside0.mk (heap_alloc_new w2 (.cells #[.slice none 0 0] 31))
    have HLB := Aside0.mk HB2.out.size
    have HO3 := Aside0.mk (Kd.R_below HO2.out hb3)
    have HB3 := Aside0.mk (below_step HB2.out hb3)
    have H03 := Aside0.mk (blk_below H02.out hb3)
    have H13 := Aside0.mk (blk_below H12.out hb3)
    have H23 := Aside0.mk (blk_below H22.out hb3)
    clear hb3 HO2 HB2 H02 H12 H22
    generalize w2.alloc (.cells #[.slice none 0 0] 31) = w3 at HL3 HO3 HB3 H03 H13 H23 ⊢
    generalize w2.heap.size = bl at HL3 HLB HS2 ⊢
    have hc := block_cell H23.out
    have hf := blk_frozen H23.out 0
    go_upto_region 6 with fail
    generalize (if batch < 0 then 0 else batch) = nb at HE ⊢
    have HB4 := Aside0.mk (below_set HB3.out (show w.heap.size ≤ w.heap.size + 1 + 1 by omega) (j := 0) (v := .int .i64 nb))
    have H24 := Aside0.mk (blk_set H23.out 0 (.int .i64 nb))
    have H04 := Aside0.mk (blk_far (p := ⟨w.heap.size + 1 + 1, 0, none⟩) H03.out (by show w.heap.size ≠ w.heap.size + 1 + 1; omega) (.int .i64 nb))
    have H14 := Aside0.mk (blk_far (p := ⟨w.heap.size + 1 + 1, 0, none⟩) H13.out (by show w.heap.size + 1 ≠ w.heap.size + 1 + 1; omega) (.int .i64 nb))
    have HL4 := Aside0.mk (blk_far (p := ⟨w.heap.size + 1 + 1, 0, none⟩) HL3.out (blk_ne HL3.out H23.out (by decide)) (.int .i64 nb))
    have HO4 := Aside0.mk (Kd.R_set HO3.out H23.out (by decide) 0 (.int .i64 nb))
    have HX4 := Aside0.mk (show w.heap.size < (w3.setCell ⟨w.heap.size + 1 + 1, 0, none⟩ (.int .i64 nb)).heap.size from blk_lt H04.out)
    clear hc hf HO3 HB3 H03 H13 H23 HL3
    generalize w3.setCell ⟨w.heap.size + 1 + 1, 0, none⟩ (.int .i64 nb) = w4 at HB4 H04 H14 H24 HL4 HO4 HX4 ⊢
    go_upto_region 7 with fail
    have hb5 := (Below.refl w4.heap.size w4).alloc (Nat.le_refl _) (.cells #[.bool false] 4)
    have HI5 := Aside0.mk (show NextInv ⟨w.heap.size, w.heap.size, w.heap.size + 1, bl, w.heap.size + 1 + 1, w4.heap.size⟩ first af nb ([], false) (w4.alloc (.cells #[.bool false] 4)) from
      ⟨HLB.out, HB4.out.size, Nat.ne_of_lt HX4.out, blk_below H04.out hb5, blk_below H14.out hb5, blk_below H24.out hb5, heap_alloc_new w4 _, _, blk_below HL4.out hb5, Kd.R_nil _ _ _ _ _⟩)
    have HO5 := Aside0.mk (Kd.R_below HO4.out hb5)
    have HB5 := Aside0.mk (below_step HB4.out hb5)
    clear hb5 HO4 HB4 H04 H14 H24 HL4 HX4 HS2 HLB
    generalize w4.alloc (.cells #[.bool false] 4) = w5 at HI5 HO5 HB5 ⊢
    generalize w4.heap.size = bm at HI5 ⊢
    go_wp2_with fail
    go_loopg [32] k (fun kq v32 W => ∃ (d : Int) (b : List S24 × Bool), v32 = .int .i64 d ∧ (0 ≤ d ∧ d ≤ 5) ∧ Aside0 (walk_Next.l0 k q ns first af nb (kk + 1) kq d b = some a) ∧ Aside0 (NextInv ⟨w.heap.size, w.heap.size, w.heap.size + 1, bl, w.heap.size + 1 + 1, bm⟩ first af nb b W) ∧ Aside0 (Kd.R (Kd.int .i32) 21 W w1.heap.size (fun _ => True) (.slice A1 q.length c1) q) ∧ Aside0 (Below w.heap.size w W))
    case atStart => exact ⟨0, _, rfl, by omega, HE, HI5, HO5, HB5⟩
    case round =>
      clear HE HI5 HO5 HB5
      obtain ⟨d, b, rfl, ⟨hd0, hd5⟩, HA2, HI, HO, HB⟩ := hrel
      cases gk with
      | zero => exact absurd HA2.out (by simp [walk_Next.l0])
      | succ ko =>
        have H := HA2.out
        simp only [walk_Next.l0] at H
        clear HA2
        by_cases hlt : d < kk + 1
        · rw [if_pos hlt] at H
          obtain ⟨b', hE, hR⟩ := Option.bind_eq_some_iff.1 H
          have HE := Aside0.mk hE
          have HR := Aside0.mk hR
          clear H hE hR
          have hdt : decide (d < kk + 1) = true := decide_eq_true hlt
          go_upto_region 10 with fail
          have hb6 := (Below.refl wr.heap.size wr).alloc (Nat.le_refl _) (.cells #[.int .i64 d] 3)
          have HD6 := Aside0.mk (heap_alloc_new wr (.cells #[.int .i64 d] 3))
          have HI6 := Aside0.mk (HI.out.below hb6)
          have HO6 := Aside0.mk (Kd.R_below HO.out hb6)
          have HB6 := Aside0.mk (below_step HB.out hb6)
          clear hb6 HI HO HB
          generalize wr.alloc (.cells #[.int .i64 d] 3) = w6 at HD6 HI6 HO6 HB6 ⊢
          generalize wr.heap.size = bd at HD6 ⊢
          have HC := Aside0.mk (show ∀ W, KeptBy (EachMay (NextMay ⟨w.heap.size, w.heap.size, w.heap.size + 1, bl, w.heap.size + 1 + 1, bm⟩) w6.heap.size) w6 W → GraphAt W g ns ∧ Kd.C (Kd.int .i32) W A1 q.length q from fun W hk =>
            ⟨HG.out.below (HB6.out.trans (hk.to_below (fun kk t hp => by rcases hp with hp | hp; exact hp.1; exact Nat.le_trans HB6.out.size hp.1) HB6.out.size)),
             (Kd.R_reads' (hk.row HO6.out (fun kk t ht _ hp => by
              have : t = 21 := by simpa [Kd.int, Kd.scalar] using ht
              rcases hp with hp | hp
              · have := hp.2; omega
              · have := hp.2; omega))).2.2⟩)
          have HQ := Aside0.mk (Kd.R_reads' HO6.out).2.1
          have hd6 := block_cell HD6.out
          go_upto_region 11 with ((with_reducible refine gate_callee (f := 36) rfl ?_); (try (refine gate_guard (by rfl) ?_; dsimp only)); refine goesL_ (some 39) rfl rfl Try.func36 (by kernel_rfl) rfl #[.pointer (some ⟨g, 0, none⟩), .slice A1 q.length c1, .int .i64 d, .func (.func 37) #[] #[.pointer (some ⟨bd, 0, none⟩), .pointer (some ⟨w.heap.size, 0, none⟩), .pointer (some ⟨w.heap.size + 1, 0, none⟩), .pointer (some ⟨bl, 0, none⟩), .pointer (some ⟨w.heap.size + 1 + 1, 0, none⟩), .pointer (some ⟨bm, 0, none⟩)]] rfl (by (try simp only [List.map_toArray, List.map_cons, List.map_nil]); first | done | rfl) ?_; (with_reducible refine (walk_each.calls k g ns 37 _ (NextMay ⟨w.heap.size, w.heap.size, w.heap.size + 1, bl, w.heap.size + 1 + 1, bm⟩) (fun a W => NextInv ⟨w.heap.size, w.heap.size, w.heap.size + 1, bl, w.heap.size + 1 + 1, bm⟩ first af nb a W ∧ W.heap[bd]? = some (.cells #[.int .i64 d] 3 (0, 0))) (nextStep k d first af nb) (next_yields k ⟨w.heap.size, w.heap.size, w.heap.size + 1, bl, w.heap.size + 1 + 1, bm⟩ bd d first af nb) A1 c1 q d b b' w6 HC.out HQ.out ⟨HI6.out, HD6.out⟩ HE.out).mono ?_); rintro e w7 ⟨rfl, hi, hk⟩; refine ⟨_, rfl, ?_⟩; have HI7 := Aside0.mk hi.1; have HO7 := Aside0.mk (hk.row HO6.out (fun kk t ht _ hp => by have : t = 21 := (by simpa [Kd.int, Kd.scalar] using ht); have := hp.2; omega)); have HB7 := Aside0.mk (HB6.out.trans (hk.to_below (fun kk t hp => hp.1) HB6.out.size)); clear hi hk hd6 HC HQ HD6 HI6 HO6 HB6)
          have hc2 := block_cell HI7.out.more
          obtain ⟨v, hv, hr⟩ := HI7.out.list
          obtain ⟨Av, cv, ev⟩ := Kd.R_slice hr
          subst ev
          have hc1 := block_cell hv
          have HRL := Aside0.mk hr
          clear hv hr
          obtain ⟨bl', more'⟩ := b'
          cases more' with
          | true =>
            obtain rfl := Option.some.inj ((if_pos rfl).symm.trans HR.out)
            go_wp2_with fail
            go_quiet (fail)
            go_wp2_with fail
            go_ret2
            exact ⟨_, rfl, Kd.R_mono (Kd.R_drewN HRL.out _) (fun _ _ => trivial), pw_below_drewN HB7.out _⟩
          | false =>
            have HR2 := Aside0.mk ((if_neg (by simp)).symm.trans HR.out)
            clear HR
            go_wp2_with fail
            go_roundg ko
            case measure => omega
            case rel => exact ⟨d + 1, _, rfl, by omega, HR2, HI7, HO7, HB7⟩
        · rw [if_neg hlt] at H
          obtain rfl := Option.some.inj H
          have hdt : decide (d < kk + 1) = false := decide_eq_false hlt
          clear H
          obtain ⟨v, hv, hr⟩ := HI.out.list
          obtain ⟨Av, cv, ev⟩ := Kd.R_slice hr
          subst ev
          have hc1 := block_cell hv
          have hc2 := block_cell HI.out.more
          have HR := Aside0.mk hr
          clear hv hr
          go_wp2_with fail
          go_quiet (fail)
          go_wp2_with fail
          go_ret2
          exact ⟨_, rfl, Kd.R_mono (Kd.R_drewN HR.out _) (fun _ _ => trivial), pw_below_drewN HB.out _⟩
end Go.Proofs.Ytklidannncajiaa.OW

namespace Go.Proofs.Ytklidannncajiaa.OW
open Go.RowKit Go.Proofs.YtklidannncajiaaW.PrintWords Go.Proofs.YtklidannncajiaaW.PrintLast Go.Proofs.YtklidannncajiaaW.PrintMore Go.Proofs.Ytklidannncajiaa.Am

theorem rdOf_nat {α : Type} (z : α) (xs : List α) (i : Nat) (h : i < xs.length) : rdOf z xs (i : Int) = xs[i] := by
  unfold rdOf
  rw [Int.toNat_natCast, List.getD_eq_getElem?_getD, List.getElem?_eq_getElem h]; rfl
theorem wr64 (x : Int) (h1 : -9223372036854775808 ≤ x) (h2 : x ≤ 9223372036854775807) : wrap64 x = x := wr x h1 h2
/-! ### sizes -/
def Small (l : List ByteArray) : Prop := l.length ≤ 80 ∧ ∀ s ∈ l, s.size ≤ 100
instance (l : List ByteArray) : Decidable (Small l) := inferInstanceAs (Decidable (_ ∧ _))
theorem great_ev (l : List ByteArray) : Ev (fun K => inkhornlaw0_GreatTexts.f K l) (!decide (Small l)) := by
  by_cases hl : l.length ≤ 80
  · have key : ∀ (d i : Nat), i + d = l.length → (∀ j, (h : j < l.length) → j < i → l[j].size ≤ 100) → Ev (fun K => inkhornlaw0_GreatTexts.l0 K l (i : Int)) (!decide (Small l)) := by
      intro d
      induction d with
      | zero =>
        intro i hi hp
        have hs : Small l := ⟨hl, fun s hs => by obtain ⟨j, hj, rfl⟩ := List.mem_iff_getElem.1 hs; exact hp j hj (by omega)⟩
        refine Ev.step (f := fun K => inkhornlaw0_GreatTexts.j1 K l i false) (fun K => by simp only [inkhornlaw0_GreatTexts.l0]; rw [if_neg (by omega)]) ?_
        refine Ev.step (f := fun _ => some (!decide (Small l))) (fun K => ?_) (Ev.now _)
        simp only [inkhornlaw0_GreatTexts.j1, Bool.false_eq_true, if_false]
        rw [decide_eq_true hs]
        simp; omega
      | succ d ih =>
        intro i hi hp
        refine Ev.step (f := fun K => inkhornlaw0_GreatTexts.j1 K l i true) (fun K => by simp only [inkhornlaw0_GreatTexts.l0]; rw [if_pos (by omega), decide_eq_true (by omega)]) ?_
        by_cases hz : l[i].size ≤ 100
        · refine Ev.step (f := fun K => inkhornlaw0_GreatTexts.l0 K l ((i + 1 : Nat) : Int)) (fun K => ?_) (ih (i + 1) (by omega) (fun j hj h => by
            by_cases e : j = i
            · subst e; exact hz
            · exact hp j hj (by omega)))
          simp only [inkhornlaw0_GreatTexts.j1]
          rw [if_pos trivial, if_pos (by omega), if_pos (by omega), rdOf_nat _ _ _ (by omega), if_neg (by omega), wr64 _ (by omega) (by omega)]
          rfl
        · have hs : ¬ Small l := fun h => hz (h.2 _ (List.getElem_mem _))
          refine Ev.step (f := fun _ => some (!decide (Small l))) (fun K => ?_) (Ev.now _)
          simp only [inkhornlaw0_GreatTexts.j1]
          rw [if_pos trivial, if_pos (by omega), if_pos (by omega), rdOf_nat _ _ _ (by omega), if_pos (by omega), decide_eq_false hs]
          rfl
    exact key l.length 0 (by omega) (fun j _ h => by omega)
  · have hs : ¬ Small l := fun h => hl h.1
    refine Ev.step (f := fun K => inkhornlaw0_GreatTexts.j1 K l 0 false) (fun K => ?_) (Ev.step (f := fun _ => some (!decide (Small l))) (fun K => ?_) (Ev.now _))
    · show inkhornlaw0_GreatTexts.l0 (K + 1) l 0 = _
      simp only [inkhornlaw0_GreatTexts.l0]
      rw [if_pos (by omega), decide_eq_false (by omega)]
    · simp only [inkhornlaw0_GreatTexts.j1, Bool.false_eq_true, if_false]
      rw [decide_eq_false hs]
      simp; omega
theorem great_small (l : List ByteArray) (s : ByteArray) : Ev (fun K => inkhornlaw11_great.f K l s) (!decide (Small l ∧ s.size ≤ 100)) := by
  unfold inkhornlaw11_great.f
  refine Ev.bind (f := fun _ t => if t = true then some true else some (decide ((s.size : Int) > 100))) (great_ev l) ?_
  by_cases h : Small l
  · simp only [h, decide_true, Bool.not_true, Bool.false_eq_true, if_false, true_and]
    have : (decide ((s.size : Int) > 100)) = !decide (s.size ≤ 100) := by
      rw [Bool.eq_iff_iff]; simp; omega
    rw [this]
    exact Ev.now _
  · simp only [h, decide_false, Bool.not_false, if_true, false_and]
    exact Ev.now _
/-! ### texts -/
theorem len_eq {s : ByteArray} (h : s.size ≤ 1000000) : text_Len.f s = some (if Clean s then ((runes s 0).length : Int) else -1) := by
  unfold text_Len.f
  rw [if_pos (by omega)]
  by_cases hc : Clean s
  · rw [if_pos hc, if_neg hc]
  · rw [if_neg hc, if_pos (Classical.not_not.1 hc)]
def isWord (s : ByteArray) : Prop := Clean s ∧ 1 ≤ (runes s 0).length ∧ (runes s 0).length ≤ 12
instance (s : ByteArray) : Decidable (isWord s) := inferInstanceAs (Decidable (_ ∧ _))
def isAsked (s : ByteArray) : Prop := Clean s ∧ (runes s 0).length ≤ 16
instance (s : ByteArray) : Decidable (isAsked s) := inferInstanceAs (Decidable (_ ∧ _))
theorem word_eq {s : ByteArray} (h : s.size ≤ 1000000) : text_Word.f s = some (decide (isWord s)) := by
  unfold text_Word.f
  rw [len_eq h, Option.bind_some]
  unfold isWord
  by_cases hc : Clean s
  · simp only [hc, if_true, true_and]
    by_cases h1 : 1 ≤ (runes s 0).length
    · rw [if_pos (by omega)]
      congr 1
      rw [Bool.eq_iff_iff]; simp; omega
    · rw [if_neg (by omega)]; simp; omega
  · simp [hc]
theorem asked_eq {s : ByteArray} (h : s.size ≤ 1000000) : text_Asked.f s = some (decide (isAsked s)) := by
  unfold text_Asked.f
  rw [len_eq h, Option.bind_some]
  unfold isAsked
  by_cases hc : Clean s
  · simp only [hc, if_true, true_and]
    rw [if_pos (by omega)]
    congr 1
    rw [Bool.eq_iff_iff]; simp; omega
  · simp [hc]
theorem runes_eq {s : ByteArray} (h : s.size ≤ 1000000) : text_Runes.f s = some (if Clean s then (runes s 0, true) else ([], false)) := by
  unfold text_Runes.f
  rw [if_pos (by omega)]
  by_cases hc : Clean s
  · rw [if_pos hc, if_neg hc]
  · rw [if_neg hc, if_pos (Classical.not_not.1 hc)]
def mayAsk (s : ByteArray) (k : Int) : Prop := isAsked s ∧ 0 ≤ k ∧ k ≤ 4
instance (s : ByteArray) (k : Int) : Decidable (mayAsk s k) := inferInstanceAs (Decidable (_ ∧ _))
theorem walk_asked_eq {s : ByteArray} (h : s.size ≤ 1000000) (k : Int) : walk_asked.f s k = some (if mayAsk s k then (runes s 0, true) else ([], false)) := by
  unfold walk_asked.f
  by_cases h0 : k < 0
  · rw [if_pos h0, if_neg (fun hm => by have := hm.2.1; omega)]
  · rw [if_neg h0]
    by_cases h1 : k > 4
    · rw [if_pos h1, if_neg (fun hm => by have := hm.2.2; omega)]
    · rw [if_neg h1, asked_eq h, Option.bind_some]
      by_cases ha : isAsked s
      · rw [if_pos (by simpa using ha), if_pos ⟨ha, by omega, by omega⟩, runes_eq h, if_pos ha.1]
      · rw [if_neg (by simpa using ha), if_neg (fun hm => ha hm.1)]
theorem compare_eq (a b : ByteArray) : text_Compare.f a b = some (Lib.compareBytes a.data.toList b.data.toList) := rfl
/-! ### good lists -/
structure GoodW (l : List ByteArray) : Prop where
  len : l.length ≤ 60
  words : ∀ s ∈ l, isWord s
  sorted : l.Pairwise ltB
theorem good_cons {l : List ByteArray} (h : ∀ i, (hi : i + 1 < l.length) → ltB l[i] l[i + 1]) : l.Pairwise ltB := by
  rw [List.pairwise_iff_getElem]
  intro i j hi hj hij
  obtain ⟨d, rfl⟩ : ∃ d, j = i + 1 + d := ⟨j - i - 1, by omega⟩
  induction d with
  | zero => exact h i hj
  | succ d ih => exact (ih (by omega) (by omega)).trans (h (i + 1 + d) (by omega))
theorem good_ev {l : List ByteArray} (hs : Small l) : ∃ e, Ev (fun K => list_Good.f K l) e ∧ (e = 0 → GoodW l) := by
  by_cases hl : l.length ≤ 60
  case neg => exact ⟨3, Ev.congr (f := fun _ => some 3) (fun K => by unfold list_Good.f; rw [if_pos (by omega)]) (Ev.now _), fun h => by cases h⟩
  have k1 : (∀ s ∈ l, isWord s) → ∀ (d i : Nat), 1 ≤ i → i + d = max l.length 1 → (∀ j, (hj : j + 1 < l.length) → j + 1 < i → ltB l[j] l[j + 1]) → ∃ e, Ev (fun K => list_Good.l1 K l (i : Int)) e ∧ (e = 0 → GoodW l) := by
    intro hw d
    induction d with
    | zero =>
      intro i h1 hi hp
      refine ⟨0, Ev.step (f := fun _ => some 0) (fun K => by simp only [list_Good.l1]; rw [if_neg (by omega)]) (Ev.now _), fun _ => ⟨hl, hw, good_cons (fun j hj => hp j hj (by omega))⟩⟩
    | succ d ih =>
      intro i h1 hi hp
      have hil : i < l.length := by omega
      have hrd : ∀ K, list_Good.l1 (K + 1) l (i : Int) = if Lib.compareBytes l[i - 1].data.toList l[i].data.toList ≥ 0 then some 7 else list_Good.l1 K l ((i + 1 : Nat) : Int) := by
        intro K
        simp only [list_Good.l1]
        rw [if_pos (by omega), wr64 _ (by omega) (by omega), if_pos (by omega), if_pos (by omega), if_pos (by omega), show ((i : Int) - 1) = ((i - 1 : Nat) : Int) by omega, rdOf_nat _ _ _ (by omega), rdOf_nat _ _ _ hil, compare_eq, Option.bind_some, wr64 _ (by omega) (by omega)]
        rfl
      by_cases hc : Lib.compareBytes l[i - 1].data.toList l[i].data.toList ≥ 0
      · exact ⟨7, Ev.step (f := fun _ => some 7) (fun K => by rw [hrd, if_pos hc]) (Ev.now _), fun h => by cases h⟩
      · obtain ⟨e, he, h0⟩ := ih (i + 1) (by omega) (by omega) (fun j hj hji => by
          by_cases e : j + 1 = i
          · subst e
            simp only [Nat.add_sub_cancel] at hc
            unfold ltB
            omega
          · exact hp j hj (by omega))
        exact ⟨e, Ev.step (fun K => by rw [hrd, if_neg hc]) he, h0⟩
  have k0 : ∀ (d i : Nat), i + d = l.length → (∀ j, (hj : j < l.length) → j < i → isWord l[j]) → ∃ e, Ev (fun K => list_Good.l0 K l l (l.length : Int) (i : Int)) e ∧ (e = 0 → GoodW l) := by
    intro d
    induction d with
    | zero =>
      intro i hi hp
      obtain ⟨e, he, h0⟩ := k1 (fun s hs => by obtain ⟨j, hj, rfl⟩ := List.mem_iff_getElem.1 hs; exact hp j hj (by omega)) (max l.length 1 - 1) 1 (by omega) (by omega) (fun j _ h => by omega)
      exact ⟨e, Ev.step (f := fun K => list_Good.l1 K l 1) (fun K => by simp only [list_Good.l0]; rw [if_neg (by omega)]) he, h0⟩
    | succ d ih =>
      intro i hi hp
      have hil : i < l.length := by omega
      have hrd : ∀ K, list_Good.l0 (K + 1) l l (l.length : Int) (i : Int) = if decide (isWord l[i]) = true then list_Good.l0 K l l (l.length : Int) ((i + 1 : Nat) : Int) else some 6 := by
        intro K
        simp only [list_Good.l0]
        rw [if_pos (by omega), if_pos (by omega), if_pos (by omega), rdOf_nat _ _ _ hil, word_eq (by have := hs.2 l[i] (List.getElem_mem _); omega), Option.bind_some, wr64 _ (by omega) (by omega)]
        rfl
      by_cases hc : isWord l[i]
      · obtain ⟨e, he, h0⟩ := ih (i + 1) (by omega) (fun j hj hji => by
          by_cases e : j = i
          · subst e; exact hc
          · exact hp j hj (by omega))
        exact ⟨e, Ev.step (fun K => by rw [hrd, if_pos (by simpa using hc)]) he, h0⟩
      · exact ⟨6, Ev.step (f := fun _ => some 6) (fun K => by rw [hrd, if_neg (by simpa using hc)]) (Ev.now _), fun h => by cases h⟩
  obtain ⟨e, he, h0⟩ := k0 l.length 0 (by omega) (fun j _ h => by omega)
  exact ⟨e, Ev.congr (fun K => by unfold list_Good.f; rw [if_neg (by omega)]; rfl) he, h0⟩
end Go.Proofs.Ytklidannncajiaa.OW

namespace Go.Proofs.Ytklidannncajiaa.OW
open Go.RowKit Go.Proofs.YtklidannncajiaaW.PrintWords Go.Proofs.YtklidannncajiaaW.PrintLast Go.Proofs.YtklidannncajiaaW.PrintMore Go.Proofs.Ytklidannncajiaa.Am

/-- Is an item ahead of another one? -/
def lessP (a b : S24) : Bool := decide (a.f0 < b.f0 ∨ (a.f0 = b.f0 ∧ ltB a.f1 b.f1))
theorem or_eq (k : Nat) (a b : Int) : cmp_Or_int.f (k + 3) [a, b] = some (if a = 0 then b else a) := by
  unfold cmp_Or_int.f
  simp only [cmp_Or_int.l0, List.length_cons, List.length_nil, rd]
  by_cases ha : a = 0
  · by_cases hb : b = 0
    · simp [ha, hb, wrap64]
    · simp [ha, hb, wrap64]
  · simp [ha]
theorem cmpInt_eq (a b : Int) : cmp_Compare_int.f a b = some (if a < b then -1 else if a > b then 1 else 0) := by
  unfold cmp_Compare_int.f cmp_isNaN_int.f
  simp only [Option.bind_some, bne_self_eq_false, Bool.false_eq_true, if_false]
  by_cases h1 : a < b
  · rw [if_pos h1, if_pos h1]
  · rw [if_neg h1, if_neg h1]
    by_cases h2 : a > b
    · rw [if_pos h2, if_pos h2]
    · rw [if_neg h2, if_neg h2]
theorem compareP_eq (k : Nat) (hk : 3 ≤ k) (a b : S24) : rank_compare.f k a.f0 a.f1 b.f0 b.f1 = some (if a.f0 < b.f0 then -1 else if a.f0 > b.f0 then 1 else Lib.compareBytes a.f1.data.toList b.f1.data.toList) := by
  obtain ⟨m, rfl⟩ : ∃ m, k = m + 3 := ⟨k - 3, by omega⟩
  unfold rank_compare.f
  rw [cmpInt_eq, Option.bind_some, compare_eq, Option.bind_some, or_eq, Option.bind_some]
  congr 1
  by_cases h1 : a.f0 < b.f0
  · simp [h1]
  · by_cases h2 : a.f0 > b.f0
    · simp [h1, h2]
    · simp [h1, h2]
theorem less_eq (k : Nat) (hk : 3 ≤ k) (a b : S24) : rank_Less.f k a.f0 a.f1 b.f0 b.f1 = some (lessP a b) := by
  unfold rank_Less.f
  rw [compareP_eq k hk, Option.bind_some]
  congr 1
  unfold lessP ltB
  rw [Bool.eq_iff_iff]
  simp only [decide_eq_true_eq]
  by_cases h1 : a.f0 < b.f0
  · simp [h1]
  · by_cases h2 : a.f0 > b.f0
    · simp [h1, h2]; omega
    · have : a.f0 = b.f0 := by omega
      simp [this]
def keepP (first : Bool) (af x : S24) : Bool := first || lessP af x
theorem skip_eq (k : Nat) (hk : 3 ≤ k) (d : Int) (first : Bool) (af : S24) (s : ByteArray) : nextSkip k d first af s = some (!keepP first af ⟨d, s⟩) := by
  unfold nextSkip keepP
  cases first with
  | true => rfl
  | false =>
    rw [if_neg (by simp)]
    have := less_eq k hk af ⟨d, s⟩
    dsimp only at this
    rw [this]
    rfl
theorem nextStep_eq (k : Nat) (hk : 3 ≤ k) (d : Int) (first : Bool) (af : S24) (bt : Int) : nextStep k d first af bt = nextStep 3 d first af bt := by
  funext a s
  unfold nextStep
  rw [skip_eq k hk, skip_eq 3 (Nat.le_refl _)]
/-- Items are taken one by one; true: one more would have been taken. -/
def feed (first : Bool) (af : S24) (bt : Int) : List S24 → List S24 → List S24 × Bool
  | l, [] => (l, false)
  | l, x :: xs => if keepP first af x = true then (if (l.length : Int) = bt then (l, true) else feed first af bt (l ++ [x]) xs) else feed first af bt l xs
theorem feed_cons (first : Bool) (af : S24) (bt : Int) (l : List S24) (x : S24) (xs : List S24) : feed first af bt l (x :: xs) = if keepP first af x = true then (if (l.length : Int) = bt then (l, true) else feed first af bt (l ++ [x]) xs) else feed first af bt l xs := rfl
theorem feed_append (first : Bool) (af : S24) (bt : Int) : ∀ (u v l : List S24), feed first af bt l (u ++ v) = if (feed first af bt l u).2 = true then feed first af bt l u else feed first af bt (feed first af bt l u).1 v
  | [], v, l => by simp [feed]
  | x :: u, v, l => by
    rw [List.cons_append, feed_cons, feed_cons]
    by_cases h1 : keepP first af x = true
    · rw [if_pos h1, if_pos h1]
      by_cases h2 : (l.length : Int) = bt
      · rw [if_pos h2, if_pos h2, if_pos rfl]
      · rw [if_neg h2, if_neg h2]
        exact feed_append first af bt u v _
    · rw [if_neg h1, if_neg h1]
      exact feed_append first af bt u v l
theorem runs_next (d : Int) (first : Bool) (af : S24) (bt : Int) : ∀ (ws : List ByteArray) (l : List S24), l.length + ws.length ≤ 1000000 →
    runs (nextStep 3 d first af bt) (l, false) ws = some (feed first af bt l (ws.map fun w => ⟨d, w⟩), !(feed first af bt l (ws.map fun w => ⟨d, w⟩)).2)
  | [], l, _ => by simp [runs, feed]
  | w :: ws, l, h => by
    simp only [List.length_cons] at h
    show (nextStep 3 d first af bt (l, false) w).bind _ = _
    unfold nextStep
    rw [skip_eq 3 (Nat.le_refl _), Option.bind_some]
    simp only [List.map_cons]
    unfold feed
    by_cases hk : keepP first af ⟨d, w⟩ = true
    · rw [if_pos hk]
      simp only [hk, Bool.not_true, Bool.false_eq_true, if_false]
      by_cases hb : (l.length : Int) = bt
      · rw [if_pos hb, if_pos hb]; rfl
      · rw [if_neg hb, if_neg hb, if_pos (by omega)]
        simp only [Option.bind_some, Bool.not_false, if_true]
        exact runs_next d first af bt ws _ (by simp; omega)
    · rw [if_neg hk]
      have hk' : keepP first af ⟨d, w⟩ = false := by simpa using hk
      simp only [hk', Bool.not_false, if_true, Option.bind_some]
      exact runs_next d first af bt ws l (by omega)
theorem feed_eq (first : Bool) (af : S24) (bt : Nat) : ∀ (items l : List S24), l.length ≤ bt → feed first af bt l items = (l ++ (items.filter (keepP first af)).take (bt - l.length), decide (bt - l.length < (items.filter (keepP first af)).length))
  | [], l, _ => by simp [feed]
  | x :: xs, l, h => by
    unfold feed
    by_cases hk : keepP first af x = true
    · rw [if_pos hk, List.filter_cons, if_pos hk]
      by_cases hb : (l.length : Int) = bt
      · have : bt - l.length = 0 := by omega
        rw [if_pos hb, this]; simp
      · obtain ⟨m, hm⟩ : ∃ m, bt - l.length = m + 1 := ⟨bt - l.length - 1, by omega⟩
        rw [if_neg hb, feed_eq first af bt xs (l ++ [x]) (by simp; omega), hm]
        have : bt - (l ++ [x]).length = m := by simp; omega
        rw [this]
        simp
    · rw [if_neg hk, List.filter_cons, if_neg hk]
      exact feed_eq first af bt xs l h
/-- The items at distances from d on, n of them. -/
def level (q : List Int) (l : List ByteArray) (d : Nat) : List S24 := (near q d l).map fun w => ⟨(d : Int), w⟩
def levels (q : List Int) (l : List ByteArray) (d n : Nat) : List S24 := (List.range' d n).flatMap (level q l)
theorem levels_succ (q : List Int) (l : List ByteArray) (d n : Nat) : levels q l d (n + 1) = level q l d ++ levels q l (d + 1) n := by
  unfold levels
  rw [List.range'_succ, List.flatMap_cons]
theorem near_len (q : List Int) (d : Nat) (l : List ByteArray) : (near q d l).length ≤ l.length := List.length_filter_le _ _
theorem level_len (q : List Int) (l : List ByteArray) (d : Nat) : (level q l d).length ≤ l.length := by unfold level; rw [List.length_map]; exact near_len q d l
theorem feed_len (first : Bool) (af : S24) (bt : Int) : ∀ (items l : List S24), (feed first af bt l items).1.length ≤ l.length + items.length
  | [], l => by simp [feed]
  | x :: xs, l => by
    unfold feed
    split
    · split
      · simp
      · have := feed_len first af bt xs (l ++ [x])
        simp at this ⊢
        omega
    · have := feed_len first af bt xs l
      simp
      omega
/-- A graph of words: its first node stands for all of them. -/
structure Graph (ns : List S72) (l : List ByteArray) : Prop where
  rep : ∃ f, Rep f ns 0 l
  good : GoodR (restsOf l)
  size : bytesOf_ l + l.length ≤ 100000
theorem next_l0 (q : List Int) (hq : q.length ≤ 16) (ns : List S72) (l : List ByteArray) (hG : Graph ns l) (first : Bool) (af : S24) (bt : Int) (top : Nat) (ht : top ≤ 5) : ∀ (n d : Nat), d + n = top → ∀ (b : List S24), b.length + n * l.length ≤ 900000 →
    ∃ K0, ∀ k kq, K0 ≤ k → K0 ≤ kq → walk_Next.l0 k q ns first af bt top kq d (b, false) = some (feed first af bt b (levels q l d n)) := by
  intro n
  induction n with
  | zero =>
    intro d hd b _
    refine ⟨1, fun k kq _ hkq => ?_⟩
    obtain ⟨m, rfl⟩ : ∃ m, kq = m + 1 := ⟨kq - 1, by omega⟩
    simp only [walk_Next.l0]
    rw [if_neg (by omega)]
    simp [levels, feed]
  | succ n ih =>
    intro d hd b hb
    have hsz := hG.size
    have hnl := near_len q d l
    have hmul : (n + 1) * l.length = n * l.length + l.length := by rw [Nat.add_mul, Nat.one_mul]
    obtain ⟨f, hR⟩ := hG.rep
    have hrun := runs_next (d : Int) first af bt (near q d l) b (by omega)
    obtain ⟨K1, h1⟩ := each_ev q d ns (nextStep 3 (d : Int) first af bt) (by omega) hq f l hR hG.good hG.size (b, false) _ hrun
    have hlv : feed first af bt b ((near q d l).map fun w => ⟨(d : Int), w⟩) = feed first af bt b (level q l d) := rfl
    have hfl := feed_len first af bt (level q l d) b
    have hll := level_len q l d
    by_cases hm : (feed first af bt b (level q l d)).2 = true
    · refine ⟨max K1 3 + 1, fun k kq hk hkq => ?_⟩
      obtain ⟨m, rfl⟩ : ∃ m, kq = m + 1 := ⟨kq - 1, by omega⟩
      have h2 : walk_each.f k q d ns (nextStep 3 (d : Int) first af bt) (b, false) = some _ := h1 k (by omega)
      simp only [walk_Next.l0]
      rw [if_pos (by omega), nextStep_eq k (by omega), h2, Option.bind_some, hlv, if_pos hm, levels_succ, feed_append, if_pos hm]
    · obtain ⟨K2, h3⟩ := ih (d + 1) (by omega) (feed first af bt b (level q l d)).1 (by omega)
      refine ⟨max (max K1 3) K2 + 1, fun k kq hk hkq => ?_⟩
      obtain ⟨m, rfl⟩ : ∃ m, kq = m + 1 := ⟨kq - 1, by omega⟩
      have h2 : walk_each.f k q d ns (nextStep 3 (d : Int) first af bt) (b, false) = some _ := h1 k (by omega)
      simp only [walk_Next.l0]
      rw [if_pos (by omega), nextStep_eq k (by omega), h2, Option.bind_some, hlv, if_neg hm, levels_succ, feed_append, if_neg hm]
      have h4 := h3 k m (by omega) (by omega)
      have e : (feed first af bt b (level q l d)) = ((feed first af bt b (level q l d)).1, false) := Prod.ext rfl (by simpa using hm)
      rw [← h4]
      congr 1
/-- The next batch: the items of all distances up to k, behind 'after', as many as are wanted. -/
def allP (s : ByteArray) (k : Int) (l : List ByteArray) : List S24 := if mayAsk s k then levels (runes s 0) l 0 (k.toNat + 1) else []
def restP (s : ByteArray) (k : Int) (l : List ByteArray) (first : Bool) (af : S24) : List S24 := (allP s k l).filter (keepP first af)
def nextP (s : ByteArray) (k : Int) (l : List ByteArray) (first : Bool) (af : S24) (batch : Int) : List S24 × Bool := ((restP s k l first af).take batch.toNat, decide ((restP s k l first af).length ≤ batch.toNat))
theorem next_ev {ns : List S72} {l : List ByteArray} (hG : Graph ns l) (s : ByteArray) (hs : s.size ≤ 1000000) (k : Int) (first : Bool) (af : S24) (batch : Int) : Ev (fun K => walk_Next.f K ns s k first af batch) (nextP s k l first af batch) := by
  unfold nextP restP allP
  by_cases hm : mayAsk s k
  · obtain ⟨⟨hc, hl⟩, h0, h4⟩ := hm
    have hm : mayAsk s k := ⟨⟨hc, hl⟩, h0, h4⟩
    have hsz := hG.size
    obtain ⟨m, rfl⟩ := Int.eq_ofNat_of_zero_le h0
    obtain ⟨K0, hK⟩ := next_l0 (runes s 0) hl ns l hG first af (if batch < 0 then 0 else batch) (m + 1) (by omega) (m + 1) 0 (by omega) [] (by
      have : (m + 1) * l.length ≤ 5 * l.length := Nat.mul_le_mul_right _ (by omega)
      simp only [List.length_nil]
      omega)
    refine ⟨K0, fun k hk => ?_⟩
    have hK' := hK k k hk hk
    show walk_Next.f k ns s m first af batch = _
    unfold walk_Next.f
    rw [walk_asked_eq hs, if_pos hm, Option.bind_some, if_pos rfl]
    have hbt : (if batch < 0 then 0 else batch) = ((batch.toNat : Nat) : Int) := by split <;> omega
    rw [if_pos hm]
    rw [hbt] at hK' ⊢
    have e1 : ((m : Int) + 1) = ((m + 1 : Nat) : Int) := by omega
    rw [e1]
    show (walk_Next.l0 k (runes s 0) ns first af ((batch.toNat : Nat) : Int) ((m + 1 : Nat) : Int) k ((0 : Nat) : Int) ([], false)).bind _ = _
    rw [hK', Option.bind_some, feed_eq first af batch.toNat _ [] (by simp)]
    simp only [List.nil_append, List.length_nil, Nat.sub_zero, Int.toNat_natCast]
    congr 2
    rw [Bool.eq_iff_iff]
    simp
  · refine ⟨0, fun k' _ => ?_⟩
    show walk_Next.f k' ns s k first af batch = _
    unfold walk_Next.f
    rw [walk_asked_eq hs, if_neg hm, Option.bind_some, if_neg (by simp), if_neg hm]
    simp
theorem small_bytes {l : List ByteArray} (h : ∀ s ∈ l, s.size ≤ 100) : bytesOf_ l ≤ 100 * l.length := by
  induction l with
  | nil => simp [bytesOf_]
  | cons s t ih =>
    have h1 := h s List.mem_cons_self
    have h2 := ih (fun x hx => h x (List.mem_cons_of_mem _ hx))
    simp only [bytesOf_, List.map_cons, List.sum_cons, List.length_cons] at h2 ⊢
    omega
theorem edges_cons (f : Nat) (s : ByteArray) (t : List ByteArray) (es : List S91) (st : Bld) : edges (f + 1) (s :: t) es st = if s.size ≤ 1000000 ∧ 0 < s.size ∧ es.length ≤ 1000000 ∧ (s :: t).length ≤ 1000000 then
    (node f (grp (hd s) (wd s) (s :: t)) st).bind fun y => edges f ((s :: t).drop (grp (hd s) (wd s) (s :: t)).length) (es ++ [⟨((Utf8.decode s 0).1 : Int), y.1⟩]) y.2 else none := by
  simp only [edges]
  rfl
theorem node_mono : ∀ f : Nat, (∀ l st r, node f l st = some r → node (f + 1) l st = some r) ∧ (∀ l es st r, edges f l es st = some r → edges (f + 1) l es st = some r)
  | 0 => ⟨fun _ _ _ h => by simp [node] at h, fun _ _ _ _ h => by simp [edges] at h⟩
  | f + 1 => by
    obtain ⟨h1, h2⟩ := node_mono f
    refine ⟨fun l st r h => ?_, fun l es st r h => ?_⟩
    · rw [node] at h ⊢
      by_cases hc : l ≠ [] ∧ (Lib.join (l.map (·.data.toList)) [255]).length ≤ 1000000 ∧ st.ns.length ≤ 1000000 ∧ l.length ≤ 1000000
      · rw [if_pos hc] at h ⊢
        cases hF : st.F (restsKey l) with
        | some n => rw [hF] at h; exact h
        | none =>
          rw [hF] at h
          dsimp only at h ⊢
          obtain ⟨y, hy, hr⟩ := Option.bind_eq_some_iff.1 h
          rw [h2 _ _ _ _ hy]
          exact hr
      · rw [if_neg hc] at h; cases h
    · cases l with
      | nil => simp only [edges] at h ⊢; exact h
      | cons s t =>
        rw [edges_cons] at h
        split at h
        · rename_i hc
          rw [edges_cons, if_pos hc]
          obtain ⟨y, hy, hr⟩ := Option.bind_eq_some_iff.1 h
          rw [h1 _ _ _ hy, Option.bind_some]
          have h3 := h2 _ _ _ _ hr
          exact h3
        · cases h
theorem node_up {f f' : Nat} (hf : f ≤ f') {l : List ByteArray} {st : Bld} {r : Int × Bld} (h : node f l st = some r) : node f' l st = some r := by
  induction hf with
  | refl => exact h
  | step _ ih => exact (node_mono _).1 _ _ _ ih
theorem build_ev {l : List ByteArray} (hs : Small l) : ∃ e ns, Ev (fun K => graph_Build.f K l) (e, ns) ∧ (e = 0 → GoodW l ∧ Graph ns l) := by
  obtain ⟨e, he, hg⟩ := good_ev hs
  have hb := small_bytes hs.2
  have h80 := hs.1
  by_cases h0 : e = 0
  · subst h0
    have hw := hg rfl
    by_cases hl : l = []
    · subst hl
      refine ⟨0, [z72], ?_, fun _ => ⟨hw, ⟨2, ?_⟩, ⟨by simp [restsOf, isEnd], by simp [restsOf, isEnd]⟩, by simp [bytesOf_]⟩⟩
      · unfold graph_Build.f
        refine Ev.bind (f := fun K e => if e = 0 then (if ([] : List ByteArray) = [] then some (0, [z72]) else (node K [] ⟨[], fun _ => none⟩).bind fun y => some (0, y.2.ns)) else some (e, [])) he ?_
        simp only [if_true]
        exact Ev.now _
      · simp [Rep, RepE, z72, isEnd, restsOf]
    · have hgl : GoodL l := ⟨hl, fun s hs' => (hw.words s hs').1, hw.sorted⟩
      obtain ⟨r, st, h1, h2, ⟨f', h3⟩, h4, h5⟩ := (node_spec (2 * bytesOf_ l + l.length + 2)).1 l ⟨[], fun _ => none⟩ (bytesOf_ l + 1) hgl (fun _ _ h => by cases h) (Nat.lt_succ_self _) (Nat.le_refl _) (by omega) (by simp only [List.length_nil]; omega)
      have hr0 : r = 0 := by
        rw [node] at h1
        split at h1
        · dsimp only at h1
          obtain ⟨y, _, hy⟩ := Option.bind_eq_some_iff.1 h1
          split at hy
          · exact (Prod.mk.inj (Option.some.inj hy)).1.symm
          · cases hy
        · cases h1
      subst hr0
      refine ⟨0, st.ns, ?_, fun _ => ⟨hw, ⟨f', h3⟩, restsOf_good hgl, by omega⟩⟩
      unfold graph_Build.f
      refine Ev.bind (f := fun K e => if e = 0 then (if l = [] then some (0, [z72]) else (node K l ⟨[], fun _ => none⟩).bind fun y => some (0, y.2.ns)) else some (e, [])) he ?_
      simp only [hl, if_true, if_false]
      exact ⟨2 * bytesOf_ l + l.length + 2, fun k hk => by show (node k l ⟨[], fun _ => none⟩).bind _ = _; rw [node_up hk h1]; rfl⟩
  · refine ⟨e, [], ?_, fun h => absurd h h0⟩
    unfold graph_Build.f
    refine Ev.bind (f := fun K e => if e = 0 then (if l = [] then some (0, [z72]) else (node K l ⟨[], fun _ => none⟩).bind fun y => some (0, y.2.ns)) else some (e, [])) he ?_
    simp only [h0, if_false]
    exact Ev.now _
end Go.Proofs.Ytklidannncajiaa.OW

namespace Go.Proofs.Ytklidannncajiaa.OW
open Go.RowKit Go.Proofs.YtklidannncajiaaW.PrintWords Go.Proofs.YtklidannncajiaaW.PrintLast Go.Proofs.YtklidannncajiaaW.PrintMore Go.Proofs.Ytklidannncajiaa.Am

theorem lessP_iff {a b : S24} : lessP a b = true ↔ (a.f0 < b.f0 ∨ (a.f0 = b.f0 ∧ ltB a.f1 b.f1)) := by unfold lessP; exact decide_eq_true_iff
theorem lessP_trans {a b c : S24} (h : lessP a b = true) (h' : lessP b c = true) : lessP a c = true := by
  rw [lessP_iff] at *
  rcases h with h | ⟨h, h2⟩
  · rcases h' with h' | ⟨h', _⟩ <;> exact .inl (by omega)
  · rcases h' with h' | ⟨h', h3⟩
    · exact .inl (by omega)
    · exact .inr ⟨by omega, h2.trans h3⟩
theorem lessP_irrefl (a : S24) : ¬ lessP a a = true := by
  rw [lessP_iff]
  rintro (h | ⟨_, h⟩)
  · omega
  · exact ltB.irrefl _ h
theorem level_sorted (q : List Int) {l : List ByteArray} (h : l.Pairwise ltB) (d : Nat) : (level q l d).Pairwise (fun a b => lessP a b = true) := by
  unfold level near
  exact (h.filter _).map _ (fun a b hab => lessP_iff.2 (.inr ⟨rfl, hab⟩))
theorem level_f0 {q : List Int} {l : List ByteArray} {d : Nat} {x : S24} (h : x ∈ level q l d) : x.f0 = d := by
  unfold level at h
  obtain ⟨y, _, rfl⟩ := List.mem_map.1 h
  rfl
theorem levels_f0 {q : List Int} {l : List ByteArray} {x : S24} {d n : Nat} (h : x ∈ levels q l d n) : (d : Int) ≤ x.f0 := by
  unfold levels at h
  obtain ⟨e, he, hx⟩ := List.mem_flatMap.1 h
  have := (List.mem_range'_1.1 he).1
  rw [level_f0 hx]
  omega
theorem levels_sorted (q : List Int) {l : List ByteArray} (h : l.Pairwise ltB) : ∀ (n d : Nat), (levels q l d n).Pairwise (fun a b => lessP a b = true)
  | 0, d => by simp [levels]
  | n + 1, d => by
    rw [levels_succ]
    refine List.pairwise_append.2 ⟨level_sorted q h d, levels_sorted q h n (d + 1), fun a ha b hb => lessP_iff.2 (.inl ?_)⟩
    have := level_f0 ha
    have := levels_f0 hb
    omega
theorem all_sorted (s : ByteArray) (k : Int) {l : List ByteArray} (h : l.Pairwise ltB) : (allP s k l).Pairwise (fun a b => lessP a b = true) := by
  unfold allP
  split
  · exact levels_sorted _ h _ _
  · exact .nil
theorem keep_le {first : Bool} {af x y : S24} (h : keepP first af x = true) (h' : lessP x y = true) : keepP first af y = true := by
  unfold keepP at *
  rcases Bool.or_eq_true_iff.1 h with h | h
  · exact Bool.or_eq_true_iff.2 (.inl h)
  · exact Bool.or_eq_true_iff.2 (.inr (lessP_trans h h'))
theorem rest_split {L : List S24} (hs : L.Pairwise (fun a b => lessP a b = true)) (first : Bool) (af x : S24) (j : Nat) (hx : (L.filter (keepP first af))[j]? = some x) : L.filter (keepP false x) = (L.filter (keepP first af)).drop (j + 1) := by
  have hj : j < (L.filter (keepP first af)).length := (List.getElem?_eq_some_iff.1 hx).1
  have hxe : (L.filter (keepP first af))[j] = x := (List.getElem?_eq_some_iff.1 hx).2
  have hR : (L.filter (keepP first af)).Pairwise (fun a b => lessP a b = true) := hs.filter _
  have hkx : keepP first af x = true := (List.mem_filter.1 (hxe ▸ List.getElem_mem hj)).2
  have e1 : L.filter (keepP false x) = (L.filter (keepP first af)).filter (keepP false x) := by
    rw [List.filter_filter]
    refine List.filter_congr fun y _ => ?_
    cases h : keepP false x y with
    | false => simp
    | true =>
      have : lessP x y = true := by simpa [keepP] using h
      rw [keep_le hkx this]; rfl
  rw [e1]
  generalize L.filter (keepP first af) = R at *
  rw [List.pairwise_iff_getElem] at hR
  conv => lhs; rw [← List.take_append_drop (j + 1) R]
  rw [List.filter_append]
  have e2 : (R.take (j + 1)).filter (keepP false x) = [] := by
    rw [List.filter_eq_nil_iff]
    intro y hy hk
    have hk : lessP x y = true := by simpa [keepP] using hk
    obtain ⟨i, hi, rfl⟩ := List.getElem_of_mem hy
    rw [List.length_take] at hi
    rw [List.getElem_take] at hk
    rcases Nat.lt_or_ge i j with h | h
    · have := hR i j (by omega) hj h
      rw [hxe] at this
      exact lessP_irrefl _ (lessP_trans this hk)
    · have : i = j := by omega
      subst this
      rw [hxe] at hk
      exact lessP_irrefl _ hk
  have e3 : (R.drop (j + 1)).filter (keepP false x) = R.drop (j + 1) := by
    rw [List.filter_eq_self]
    intro y hy
    obtain ⟨i, hi, rfl⟩ := List.getElem_of_mem hy
    rw [List.length_drop] at hi
    rw [List.getElem_drop]
    have := hR j (j + 1 + i) hj (by omega) (by omega)
    rw [hxe] at this
    simpa [keepP] using this
  rw [e2, e3, List.nil_append]
theorem split_all (s : ByteArray) (k : Int) (l : List ByteArray) (first : Bool) (af : S24) (m n : Nat) (h : (nextP s k l first af (m : Int)).2 = true) : nextP s k l first af ((m : Int) + n) = ((nextP s k l first af (m : Int)).1, true) := by
  have h1 : (restP s k l first af).length ≤ m := by simpa [nextP] using h
  unfold nextP
  rw [show ((m : Int) + n).toNat = m + n by omega, show ((m : Int)).toNat = m by omega, List.take_of_length_le h1, List.take_of_length_le (by omega), decide_eq_true (by omega)]
theorem split_more (s : ByteArray) (k : Int) {l : List ByteArray} (hl : l.Pairwise ltB) (first : Bool) (af : S24) (m n : Nat) (hm : 0 < m) (h : (nextP s k l first af (m : Int)).2 = false) :
    (nextP s k l first af (m : Int)).1.length = m ∧ ∀ x, (nextP s k l first af (m : Int)).1[m - 1]? = some x →
      (nextP s k l first af (m : Int)).1 ++ (nextP s k l false x (n : Int)).1 = (nextP s k l first af ((m : Int) + n)).1 ∧ (nextP s k l false x (n : Int)).2 = (nextP s k l first af ((m : Int) + n)).2 := by
  have h1 : m < (restP s k l first af).length := by simpa [nextP] using h
  unfold nextP
  dsimp only
  rw [show ((m : Int) + n).toNat = m + n by omega, show ((m : Int)).toNat = m by omega, show ((n : Int)).toNat = n by omega]
  refine ⟨by rw [List.length_take]; omega, fun x hx => ?_⟩
  rw [List.getElem?_take, if_pos (by omega)] at hx
  have e : restP s k l false x = (restP s k l first af).drop m := by
    have := rest_split (all_sorted s k hl) first af x (m - 1) hx
    rw [show m - 1 + 1 = m by omega] at this
    exact this
  rw [e, List.take_add, List.length_drop]
  refine ⟨rfl, ?_⟩
  congr 1
  exact propext ⟨fun h => by omega, fun h => by omega⟩
/-! ### a text that parts in length from all words -/
end Go.Proofs.Ytklidannncajiaa.OW

-- Laid by a program of this session (wip/ownprint.py, wip/hooks.py) over the seat's translation. Lean checks it.
namespace Go.Proofs.Ytklidannncajiaa.OW
open Go.RowKit Go.Proofs.YtklidannncajiaaW.PrintWords Go.Proofs.YtklidannncajiaaW.PrintLast Go.Proofs.YtklidannncajiaaW.PrintMore
attribute [local go_sem] max2_int min2_int max_two min_two max_three min_three max_four min_four   -- for this text's walks alone
set_option linter.unusedVariables false
set_option linter.unusedSimpArgs false

/-! ### rank_May: function 19 -/
def rank_May.f (a0_0 : ByteArray) (a0_1 : Int) (a0_2 : Int) : Option (Bool) := (text_Asked.f a0_0).bind fun t283 => (if t283 = true then (if a0_1 ≥ 0 then (if a0_1 ≤ 4 then (if a0_2 ≥ 1 then (some (decide (a0_2 ≤ 10))) else (some false)) else (some false)) else (some false)) else (some false))
set_option maxHeartbeats 8000000 in
set_option maxRecDepth 100000 in
theorem rank_May.calls (a0_0 : ByteArray) (a0_1 : Int) (a0_2 : Int) (r : Bool) (w : World) (h : rank_May.f a0_0 a0_1 a0_2 = some r) :
    Calls Try.prog 19 #[.agg #[.string a0_0, .int .i64 a0_1, .int .i64 a0_2]] w fun e w' => e = .returned (.bool r) ∧ Below w.heap.size w w' := by
  have hu39 := Try.underlying39
  have HB := Aside0.mk (Below.refl w.heap.size w)
  have H : ((text_Asked.f a0_0).bind fun t283 => (if t283 = true then (if a0_1 ≥ 0 then (if a0_1 ≤ 4 then (if a0_2 ≥ 1 then (some (decide (a0_2 ≤ 10))) else (some false)) else (some false)) else (some false)) else (some false))) = some r := h
  clear h
  replace H := Option.bind_eq_some_iff.mp H
  obtain ⟨t283, A20, H⟩ := H
  replace H : (if t283 = true then (if a0_1 ≥ 0 then (if a0_1 ≤ 4 then (if a0_2 ≥ 1 then (some (decide (a0_2 ≤ 10))) else (some false)) else (some false)) else (some false)) else (some false)) = some r := H
  have A2 := Aside0.mk A20
  clear A20
  by_cases c3 : t283 = true
  · subst c3
    have H1 : (if a0_1 ≥ 0 then (if a0_1 ≤ 4 then (if a0_2 ≥ 1 then (some (decide (a0_2 ≤ 10))) else (some false)) else (some false)) else (some false)) = some r := by rw [if_pos rfl] at H; exact H
    clear H
    have H := H1
    clear H1
    by_cases c4 : a0_1 ≥ 0
    · rw [if_pos c4] at H
      have c4b0 : decide (0 ≤ a0_1) = true := decide_eq_true c4
      clear c4
      by_cases c5 : a0_1 ≤ 4
      · rw [if_pos c5] at H
        have c5b0 : decide (a0_1 ≤ 4) = true := decide_eq_true c5
        clear c5
        by_cases c6 : a0_2 ≥ 1
        · rw [if_pos c6] at H
          have c6b0 : decide (1 ≤ a0_2) = true := decide_eq_true c6
          clear c6
          obtain rfl := Option.some.inj H
          go_enter Try.func19, Try.ntmps19
          go_wp2_with (first | ((with_reducible refine gate_dst (N := 1) rfl ?_); refine box_event ?hg (N := 1) ?hd (cs := #[.string a0_0, .int .i64 a0_1, .int .i64 a0_2]) (t := 39) ?hr ?_; (case hd => rfl); (case hg => rfl); (case hr => first | (go_simp; done) | (go_simp; rfl)); intro gb282 hg w7 hbox hb; have n0_ := Aside0.mk (below_step (by repeat (first | (with_reducible first | exact HB.out | apply below_alloc | apply pw_below_drewN | apply below_drew1) | exact HB.out)) hb); have n1_ := Aside0.mk (hbox); have n2_ := Aside0.mk ((by rw [hg]; exact (below_size (by repeat (first | (with_reducible first | exact HB.out | apply below_alloc | apply pw_below_drewN | apply below_drew1) | exact HB.out))) : w.heap.size ≤ gb282)); have n3_ := Aside0.mk ((by rw [hg]; exact (below_size (by repeat (first | (with_reducible first | exact HB.out | apply below_alloc | apply pw_below_drewN | apply below_drew1) | exact HB.out))) : w.heap.size ≤ gb282)); clear HB; have HB := n0_; have BK282 := n1_; have GW282 := n2_; have GE282 := n3_; clear n0_ n1_ n2_ n3_; clear hb hbox hg; have hcz8_0 : w7.cell? ⟨gb282, 0, none⟩ = some (.string a0_0) := (blk_cell BK282.out 0).trans rfl; have hcz8_1 : w7.cell? ⟨gb282, 1, none⟩ = some (.int .i64 a0_1) := (blk_cell BK282.out 1).trans rfl; have hcz8_2 : w7.cell? ⟨gb282, 2, none⟩ = some (.int .i64 a0_2) := (blk_cell BK282.out 2).trans rfl; have hfz8_0 := blk_frozen BK282.out 0; have hfz8_1 := blk_frozen BK282.out 1; have hfz8_2 := blk_frozen BK282.out 2) | ((with_reducible refine gate_callee (f := 25) rfl ?_); refine goesL_ (some 5) rfl rfl Try.func25 (by kernel_rfl) rfl #[.string a0_0] rfl (by (try simp only [List.map_toArray, List.map_cons, List.map_nil]); first | done | rfl | (simp only [List.length_drop, List.length_take]; rfl)) ?_; (with_reducible refine (text_Asked.calls a0_0 true _ A2.out).mono ?_); rintro e w9 ⟨rfl, hb⟩; refine ⟨_, rfl, ?_⟩; have n0_ := Aside0.mk (blk_below (g := gb282) (o := .cells #[.string a0_0, .int .i64 a0_1, .int .i64 a0_2] 39 (0, 0)) (by (with_reducible repeat (first | refine blk_drewN ?_ _ | refine blk_drew ?_ | refine blk_alloc ?_ _)); exact BK282.out) hb); have n1_ := Aside0.mk (below_step (by repeat (first | (with_reducible first | exact HB.out | apply below_alloc | apply pw_below_drewN | apply below_drew1 | refine below_set ?_ GE282.out) | exact HB.out)) hb); clear BK282; clear HB; have BK282 := n0_; have HB := n1_; clear n0_ n1_; (try clear hb); (try clear hb2); (try clear hk); (try clear hi); have hcz10_0 : w9.cell? ⟨gb282, 0, none⟩ = some (.string a0_0) := (blk_cell BK282.out 0).trans rfl; have hcz10_1 : w9.cell? ⟨gb282, 1, none⟩ = some (.int .i64 a0_1) := (blk_cell BK282.out 1).trans rfl; have hcz10_2 : w9.cell? ⟨gb282, 2, none⟩ = some (.int .i64 a0_2) := (blk_cell BK282.out 2).trans rfl; have hfz10_0 := blk_frozen BK282.out 0; have hfz10_1 := blk_frozen BK282.out 1; have hfz10_2 := blk_frozen BK282.out 2))
          go_ret
          exact ⟨by first | rfl | (simp [errW_none, errW_some] <;> rfl) | (simp [*, errW_none, errW_some] <;> rfl), by repeat (first | (with_reducible first | exact HB.out | apply below_alloc | apply pw_below_drewN | apply below_drew1 | refine below_set ?_ GE282.out) | exact HB.out)⟩
        · rw [if_neg c6] at H
          have c6b0 : decide (1 ≤ a0_2) = false := decide_eq_false c6
          clear c6
          obtain rfl := Option.some.inj H
          go_enter Try.func19, Try.ntmps19
          go_wp2_with (first | ((with_reducible refine gate_dst (N := 1) rfl ?_); refine box_event ?hg (N := 1) ?hd (cs := #[.string a0_0, .int .i64 a0_1, .int .i64 a0_2]) (t := 39) ?hr ?_; (case hd => rfl); (case hg => rfl); (case hr => first | (go_simp; done) | (go_simp; rfl)); intro gb282 hg w11 hbox hb; have n0_ := Aside0.mk (below_step (by repeat (first | (with_reducible first | exact HB.out | apply below_alloc | apply pw_below_drewN | apply below_drew1) | exact HB.out)) hb); have n1_ := Aside0.mk (hbox); have n2_ := Aside0.mk ((by rw [hg]; exact (below_size (by repeat (first | (with_reducible first | exact HB.out | apply below_alloc | apply pw_below_drewN | apply below_drew1) | exact HB.out))) : w.heap.size ≤ gb282)); have n3_ := Aside0.mk ((by rw [hg]; exact (below_size (by repeat (first | (with_reducible first | exact HB.out | apply below_alloc | apply pw_below_drewN | apply below_drew1) | exact HB.out))) : w.heap.size ≤ gb282)); clear HB; have HB := n0_; have BK282 := n1_; have GW282 := n2_; have GE282 := n3_; clear n0_ n1_ n2_ n3_; clear hb hbox hg; have hcz12_0 : w11.cell? ⟨gb282, 0, none⟩ = some (.string a0_0) := (blk_cell BK282.out 0).trans rfl; have hcz12_1 : w11.cell? ⟨gb282, 1, none⟩ = some (.int .i64 a0_1) := (blk_cell BK282.out 1).trans rfl; have hcz12_2 : w11.cell? ⟨gb282, 2, none⟩ = some (.int .i64 a0_2) := (blk_cell BK282.out 2).trans rfl; have hfz12_0 := blk_frozen BK282.out 0; have hfz12_1 := blk_frozen BK282.out 1; have hfz12_2 := blk_frozen BK282.out 2) | ((with_reducible refine gate_callee (f := 25) rfl ?_); refine goesL_ (some 5) rfl rfl Try.func25 (by kernel_rfl) rfl #[.string a0_0] rfl (by (try simp only [List.map_toArray, List.map_cons, List.map_nil]); first | done | rfl | (simp only [List.length_drop, List.length_take]; rfl)) ?_; (with_reducible refine (text_Asked.calls a0_0 true _ A2.out).mono ?_); rintro e w13 ⟨rfl, hb⟩; refine ⟨_, rfl, ?_⟩; have n0_ := Aside0.mk (blk_below (g := gb282) (o := .cells #[.string a0_0, .int .i64 a0_1, .int .i64 a0_2] 39 (0, 0)) (by (with_reducible repeat (first | refine blk_drewN ?_ _ | refine blk_drew ?_ | refine blk_alloc ?_ _)); exact BK282.out) hb); have n1_ := Aside0.mk (below_step (by repeat (first | (with_reducible first | exact HB.out | apply below_alloc | apply pw_below_drewN | apply below_drew1 | refine below_set ?_ GE282.out) | exact HB.out)) hb); clear BK282; clear HB; have BK282 := n0_; have HB := n1_; clear n0_ n1_; (try clear hb); (try clear hb2); (try clear hk); (try clear hi); have hcz14_0 : w13.cell? ⟨gb282, 0, none⟩ = some (.string a0_0) := (blk_cell BK282.out 0).trans rfl; have hcz14_1 : w13.cell? ⟨gb282, 1, none⟩ = some (.int .i64 a0_1) := (blk_cell BK282.out 1).trans rfl; have hcz14_2 : w13.cell? ⟨gb282, 2, none⟩ = some (.int .i64 a0_2) := (blk_cell BK282.out 2).trans rfl; have hfz14_0 := blk_frozen BK282.out 0; have hfz14_1 := blk_frozen BK282.out 1; have hfz14_2 := blk_frozen BK282.out 2))
          go_ret
          exact ⟨by first | rfl | (simp [errW_none, errW_some] <;> rfl) | (simp [*, errW_none, errW_some] <;> rfl), by repeat (first | (with_reducible first | exact HB.out | apply below_alloc | apply pw_below_drewN | apply below_drew1 | refine below_set ?_ GE282.out) | exact HB.out)⟩
      · rw [if_neg c5] at H
        have c5b0 : decide (a0_1 ≤ 4) = false := decide_eq_false c5
        clear c5
        obtain rfl := Option.some.inj H
        go_enter Try.func19, Try.ntmps19
        go_wp2_with (first | ((with_reducible refine gate_dst (N := 1) rfl ?_); refine box_event ?hg (N := 1) ?hd (cs := #[.string a0_0, .int .i64 a0_1, .int .i64 a0_2]) (t := 39) ?hr ?_; (case hd => rfl); (case hg => rfl); (case hr => first | (go_simp; done) | (go_simp; rfl)); intro gb282 hg w15 hbox hb; have n0_ := Aside0.mk (below_step (by repeat (first | (with_reducible first | exact HB.out | apply below_alloc | apply pw_below_drewN | apply below_drew1) | exact HB.out)) hb); have n1_ := Aside0.mk (hbox); have n2_ := Aside0.mk ((by rw [hg]; exact (below_size (by repeat (first | (with_reducible first | exact HB.out | apply below_alloc | apply pw_below_drewN | apply below_drew1) | exact HB.out))) : w.heap.size ≤ gb282)); have n3_ := Aside0.mk ((by rw [hg]; exact (below_size (by repeat (first | (with_reducible first | exact HB.out | apply below_alloc | apply pw_below_drewN | apply below_drew1) | exact HB.out))) : w.heap.size ≤ gb282)); clear HB; have HB := n0_; have BK282 := n1_; have GW282 := n2_; have GE282 := n3_; clear n0_ n1_ n2_ n3_; clear hb hbox hg; have hcz16_0 : w15.cell? ⟨gb282, 0, none⟩ = some (.string a0_0) := (blk_cell BK282.out 0).trans rfl; have hcz16_1 : w15.cell? ⟨gb282, 1, none⟩ = some (.int .i64 a0_1) := (blk_cell BK282.out 1).trans rfl; have hcz16_2 : w15.cell? ⟨gb282, 2, none⟩ = some (.int .i64 a0_2) := (blk_cell BK282.out 2).trans rfl; have hfz16_0 := blk_frozen BK282.out 0; have hfz16_1 := blk_frozen BK282.out 1; have hfz16_2 := blk_frozen BK282.out 2) | ((with_reducible refine gate_callee (f := 25) rfl ?_); refine goesL_ (some 5) rfl rfl Try.func25 (by kernel_rfl) rfl #[.string a0_0] rfl (by (try simp only [List.map_toArray, List.map_cons, List.map_nil]); first | done | rfl | (simp only [List.length_drop, List.length_take]; rfl)) ?_; (with_reducible refine (text_Asked.calls a0_0 true _ A2.out).mono ?_); rintro e w17 ⟨rfl, hb⟩; refine ⟨_, rfl, ?_⟩; have n0_ := Aside0.mk (blk_below (g := gb282) (o := .cells #[.string a0_0, .int .i64 a0_1, .int .i64 a0_2] 39 (0, 0)) (by (with_reducible repeat (first | refine blk_drewN ?_ _ | refine blk_drew ?_ | refine blk_alloc ?_ _)); exact BK282.out) hb); have n1_ := Aside0.mk (below_step (by repeat (first | (with_reducible first | exact HB.out | apply below_alloc | apply pw_below_drewN | apply below_drew1 | refine below_set ?_ GE282.out) | exact HB.out)) hb); clear BK282; clear HB; have BK282 := n0_; have HB := n1_; clear n0_ n1_; (try clear hb); (try clear hb2); (try clear hk); (try clear hi); have hcz18_0 : w17.cell? ⟨gb282, 0, none⟩ = some (.string a0_0) := (blk_cell BK282.out 0).trans rfl; have hcz18_1 : w17.cell? ⟨gb282, 1, none⟩ = some (.int .i64 a0_1) := (blk_cell BK282.out 1).trans rfl; have hcz18_2 : w17.cell? ⟨gb282, 2, none⟩ = some (.int .i64 a0_2) := (blk_cell BK282.out 2).trans rfl; have hfz18_0 := blk_frozen BK282.out 0; have hfz18_1 := blk_frozen BK282.out 1; have hfz18_2 := blk_frozen BK282.out 2))
        go_ret
        exact ⟨by first | rfl | (simp [errW_none, errW_some] <;> rfl) | (simp [*, errW_none, errW_some] <;> rfl), by repeat (first | (with_reducible first | exact HB.out | apply below_alloc | apply pw_below_drewN | apply below_drew1 | refine below_set ?_ GE282.out) | exact HB.out)⟩
    · rw [if_neg c4] at H
      have c4b0 : decide (0 ≤ a0_1) = false := decide_eq_false c4
      clear c4
      obtain rfl := Option.some.inj H
      go_enter Try.func19, Try.ntmps19
      go_wp2_with (first | ((with_reducible refine gate_dst (N := 1) rfl ?_); refine box_event ?hg (N := 1) ?hd (cs := #[.string a0_0, .int .i64 a0_1, .int .i64 a0_2]) (t := 39) ?hr ?_; (case hd => rfl); (case hg => rfl); (case hr => first | (go_simp; done) | (go_simp; rfl)); intro gb282 hg w19 hbox hb; have n0_ := Aside0.mk (below_step (by repeat (first | (with_reducible first | exact HB.out | apply below_alloc | apply pw_below_drewN | apply below_drew1) | exact HB.out)) hb); have n1_ := Aside0.mk (hbox); have n2_ := Aside0.mk ((by rw [hg]; exact (below_size (by repeat (first | (with_reducible first | exact HB.out | apply below_alloc | apply pw_below_drewN | apply below_drew1) | exact HB.out))) : w.heap.size ≤ gb282)); have n3_ := Aside0.mk ((by rw [hg]; exact (below_size (by repeat (first | (with_reducible first | exact HB.out | apply below_alloc | apply pw_below_drewN | apply below_drew1) | exact HB.out))) : w.heap.size ≤ gb282)); clear HB; have HB := n0_; have BK282 := n1_; have GW282 := n2_; have GE282 := n3_; clear n0_ n1_ n2_ n3_; clear hb hbox hg; have hcz20_0 : w19.cell? ⟨gb282, 0, none⟩ = some (.string a0_0) := (blk_cell BK282.out 0).trans rfl; have hcz20_1 : w19.cell? ⟨gb282, 1, none⟩ = some (.int .i64 a0_1) := (blk_cell BK282.out 1).trans rfl; have hcz20_2 : w19.cell? ⟨gb282, 2, none⟩ = some (.int .i64 a0_2) := (blk_cell BK282.out 2).trans rfl; have hfz20_0 := blk_frozen BK282.out 0; have hfz20_1 := blk_frozen BK282.out 1; have hfz20_2 := blk_frozen BK282.out 2) | ((with_reducible refine gate_callee (f := 25) rfl ?_); refine goesL_ (some 5) rfl rfl Try.func25 (by kernel_rfl) rfl #[.string a0_0] rfl (by (try simp only [List.map_toArray, List.map_cons, List.map_nil]); first | done | rfl | (simp only [List.length_drop, List.length_take]; rfl)) ?_; (with_reducible refine (text_Asked.calls a0_0 true _ A2.out).mono ?_); rintro e w21 ⟨rfl, hb⟩; refine ⟨_, rfl, ?_⟩; have n0_ := Aside0.mk (blk_below (g := gb282) (o := .cells #[.string a0_0, .int .i64 a0_1, .int .i64 a0_2] 39 (0, 0)) (by (with_reducible repeat (first | refine blk_drewN ?_ _ | refine blk_drew ?_ | refine blk_alloc ?_ _)); exact BK282.out) hb); have n1_ := Aside0.mk (below_step (by repeat (first | (with_reducible first | exact HB.out | apply below_alloc | apply pw_below_drewN | apply below_drew1 | refine below_set ?_ GE282.out) | exact HB.out)) hb); clear BK282; clear HB; have BK282 := n0_; have HB := n1_; clear n0_ n1_; (try clear hb); (try clear hb2); (try clear hk); (try clear hi); have hcz22_0 : w21.cell? ⟨gb282, 0, none⟩ = some (.string a0_0) := (blk_cell BK282.out 0).trans rfl; have hcz22_1 : w21.cell? ⟨gb282, 1, none⟩ = some (.int .i64 a0_1) := (blk_cell BK282.out 1).trans rfl; have hcz22_2 : w21.cell? ⟨gb282, 2, none⟩ = some (.int .i64 a0_2) := (blk_cell BK282.out 2).trans rfl; have hfz22_0 := blk_frozen BK282.out 0; have hfz22_1 := blk_frozen BK282.out 1; have hfz22_2 := blk_frozen BK282.out 2))
      go_ret
      exact ⟨by first | rfl | (simp [errW_none, errW_some] <;> rfl) | (simp [*, errW_none, errW_some] <;> rfl), by repeat (first | (with_reducible first | exact HB.out | apply below_alloc | apply pw_below_drewN | apply below_drew1 | refine below_set ?_ GE282.out) | exact HB.out)⟩
  · replace c3 := Bool.eq_false_iff.mpr c3
    subst c3
    have H1 : (some false) = some r := by rw [if_neg (show ¬ (false = true) by decide)] at H; exact H
    clear H
    have H := H1
    clear H1
    obtain rfl := Option.some.inj H
    go_enter Try.func19, Try.ntmps19
    go_wp2_with (first | ((with_reducible refine gate_dst (N := 1) rfl ?_); refine box_event ?hg (N := 1) ?hd (cs := #[.string a0_0, .int .i64 a0_1, .int .i64 a0_2]) (t := 39) ?hr ?_; (case hd => rfl); (case hg => rfl); (case hr => first | (go_simp; done) | (go_simp; rfl)); intro gb282 hg w23 hbox hb; have n0_ := Aside0.mk (below_step (by repeat (first | (with_reducible first | exact HB.out | apply below_alloc | apply pw_below_drewN | apply below_drew1) | exact HB.out)) hb); have n1_ := Aside0.mk (hbox); have n2_ := Aside0.mk ((by rw [hg]; exact (below_size (by repeat (first | (with_reducible first | exact HB.out | apply below_alloc | apply pw_below_drewN | apply below_drew1) | exact HB.out))) : w.heap.size ≤ gb282)); have n3_ := Aside0.mk ((by rw [hg]; exact (below_size (by repeat (first | (with_reducible first | exact HB.out | apply below_alloc | apply pw_below_drewN | apply below_drew1) | exact HB.out))) : w.heap.size ≤ gb282)); clear HB; have HB := n0_; have BK282 := n1_; have GW282 := n2_; have GE282 := n3_; clear n0_ n1_ n2_ n3_; clear hb hbox hg; have hcz24_0 : w23.cell? ⟨gb282, 0, none⟩ = some (.string a0_0) := (blk_cell BK282.out 0).trans rfl; have hcz24_1 : w23.cell? ⟨gb282, 1, none⟩ = some (.int .i64 a0_1) := (blk_cell BK282.out 1).trans rfl; have hcz24_2 : w23.cell? ⟨gb282, 2, none⟩ = some (.int .i64 a0_2) := (blk_cell BK282.out 2).trans rfl; have hfz24_0 := blk_frozen BK282.out 0; have hfz24_1 := blk_frozen BK282.out 1; have hfz24_2 := blk_frozen BK282.out 2) | ((with_reducible refine gate_callee (f := 25) rfl ?_); refine goesL_ (some 5) rfl rfl Try.func25 (by kernel_rfl) rfl #[.string a0_0] rfl (by (try simp only [List.map_toArray, List.map_cons, List.map_nil]); first | done | rfl | (simp only [List.length_drop, List.length_take]; rfl)) ?_; (with_reducible refine (text_Asked.calls a0_0 false _ A2.out).mono ?_); rintro e w25 ⟨rfl, hb⟩; refine ⟨_, rfl, ?_⟩; have n0_ := Aside0.mk (blk_below (g := gb282) (o := .cells #[.string a0_0, .int .i64 a0_1, .int .i64 a0_2] 39 (0, 0)) (by (with_reducible repeat (first | refine blk_drewN ?_ _ | refine blk_drew ?_ | refine blk_alloc ?_ _)); exact BK282.out) hb); have n1_ := Aside0.mk (below_step (by repeat (first | (with_reducible first | exact HB.out | apply below_alloc | apply pw_below_drewN | apply below_drew1 | refine below_set ?_ GE282.out) | exact HB.out)) hb); clear BK282; clear HB; have BK282 := n0_; have HB := n1_; clear n0_ n1_; (try clear hb); (try clear hb2); (try clear hk); (try clear hi)))
    go_ret
    exact ⟨by first | rfl | (simp [errW_none, errW_some] <;> rfl) | (simp [*, errW_none, errW_some] <;> rfl), by repeat (first | (with_reducible first | exact HB.out | apply below_alloc | apply pw_below_drewN | apply below_drew1 | refine below_set ?_ GE282.out) | exact HB.out)⟩

/-! ### inkhornlaw0_Low: function 20 -/
def inkhornlaw0_Low.f (a0 : Int) (a1 : Int) : Option (Int) := if (IntKind.u64.wrap (a1)) = 0 then (none) else (some (wrap64 (Int.tmod (IntKind.u64.wrap (a0)) (IntKind.u64.wrap (a1)))))
set_option maxHeartbeats 8000000 in
set_option maxRecDepth 100000 in
theorem inkhornlaw0_Low.calls (a0 : Int) (a1 : Int) (r : Int) (w : World) (h : inkhornlaw0_Low.f a0 a1 = some r) :
    Calls Try.prog 20 #[.int .i64 a0, .int .i64 a1] w fun e w' => e = .returned (.int .i64 r) ∧ Drawn0 w w' := by
  have H : (if (IntKind.u64.wrap (a1)) = 0 then (none) else (some (wrap64 (Int.tmod (IntKind.u64.wrap (a0)) (IntKind.u64.wrap (a1)))))) = some r := h
  clear h
  by_cases c3 : (IntKind.u64.wrap (a1)) = 0
  · rw [if_pos c3] at H
    exact absurd H (by simp)
  · rw [if_neg c3] at H
    have c3b0 : ((IntKind.u64.wrap (a1)) == 0) = false := beq_eq_false_iff_ne.mpr c3
    have c3b1 : ((IntKind.u64.wrap (a1)) != 0) = true := bne_iff_ne.mpr c3
    obtain rfl := Option.some.inj H
    go_enter Try.func20, Try.ntmps20
    go_wp2
    go_ret
    exact ⟨by first | rfl | (simp; done) | (simp [*]; done), by repeat (first | exact Drawn0.refl _ | apply Drawn0.step)⟩

-- NOT PRINTED: function 4 (inkhornlaw11_WalkSplit)

-- NOT PRINTED: function 21 (walk_Dists)

/-! ### inkhornlaw0_SameTexts: function 22 -/
/-! ### inkhornref11_Dists: function 23 -/
/-! ### inkhornlaw0_OverTexts: function 24 -/
-- NOT PRINTED: function 5 (inkhornlaw11_WalkDists)

-- NOT PRINTED: function 6 (inkhornlaw11_WalkFar)

-- NOT PRINTED: function 66 (slices_BinarySearchFunc_string_string_string)

-- NOT PRINTED: function 45 (list_At)

-- NOT PRINTED: function 29 (list_Without)

-- NOT PRINTED: function 7 (inkhornlaw11_WalkLevels)

end Go.Proofs.Ytklidannncajiaa.OW

namespace Go.Proofs.Ytklidannncajiaa.OW
open Go.RowKit Go.Proofs.YtklidannncajiaaW.PrintWords Go.Proofs.YtklidannncajiaaW.PrintLast Go.Proofs.YtklidannncajiaaW.PrintMore Go.Proofs.Ytklidannncajiaa.Am
set_option linter.unusedVariables false
set_option linter.unusedSimpArgs false

theorem sameItems_ev (l : List S24) (hl : l.length ≤ 1000000) : Ev (fun K => inkhornlaw0_SameItems.f K l l) true := by
  have key : ∀ (d i : Nat), i + d = l.length → Ev (fun K => inkhornlaw0_SameItems.l0 K l l (i : Int)) true := by
    intro d
    induction d with
    | zero => intro i hi; exact Ev.step (f := fun _ => some true) (fun K => by simp only [inkhornlaw0_SameItems.l0]; rw [if_neg (by omega)]) (Ev.now _)
    | succ d ih =>
      intro i hi
      refine Ev.step (fun K => ?_) (ih (i + 1) (by omega))
      simp only [inkhornlaw0_SameItems.l0]
      rw [if_pos (by omega), if_pos (by omega), if_pos (by omega), if_neg (by simp), wr64 _ (by omega) (by omega)]
      rfl
  unfold inkhornlaw0_SameItems.f
  simp only [if_true]
  exact key l.length 0 (by omega)
def wordsA : List ByteArray := [⟨#[97, 98]⟩, ⟨#[97, 98, 99]⟩, ⟨#[98]⟩, ⟨#[122, 122]⟩]
theorem smallA : Small wordsA := by decide +kernel
theorem goodA : list_Good.f 50 wordsA = some 0 := by decide +kernel
theorem next1 : nextP ⟨#[97, 98]⟩ 1 wordsA true z24 2 = ([⟨0, ⟨#[97, 98]⟩⟩, ⟨1, ⟨#[97, 98, 99]⟩⟩], false) := by kernel_rfl
theorem next2 : nextP ⟨#[97, 98]⟩ 1 wordsA false ⟨1, ⟨#[97, 98, 99]⟩⟩ 2 = ([⟨1, ⟨#[98]⟩⟩], true) := by kernel_rfl
theorem awake_facts : ∃ K ns, graph_Build.f K wordsA = some (0, ns) ∧ walk_Next.f K ns ⟨#[97, 98]⟩ 1 true ⟨0, ⟨#[]⟩⟩ 2 = some ([⟨0, ⟨#[97, 98]⟩⟩, ⟨1, ⟨#[97, 98, 99]⟩⟩], false) ∧
    walk_Next.f K ns ⟨#[97, 98]⟩ 1 false ⟨1, ⟨#[97, 98, 99]⟩⟩ 2 = some ([⟨1, ⟨#[98]⟩⟩], true) ∧ inkhornlaw0_SameItems.f K [⟨0, ⟨#[97, 98]⟩⟩, ⟨1, ⟨#[97, 98, 99]⟩⟩] [⟨0, ⟨#[97, 98]⟩⟩, ⟨1, ⟨#[97, 98, 99]⟩⟩] = some true ∧ inkhornlaw0_SameItems.f K [⟨1, ⟨#[98]⟩⟩] [⟨1, ⟨#[98]⟩⟩] = some true := by
  obtain ⟨e, ns, ⟨K0, h0⟩, hg⟩ := build_ev smallA
  have hgood : Ev (fun K => list_Good.f K wordsA) 0 := Ev.of (g := fun K => list_Good.f K wordsA) (fun k => list_Good.mono _ k) goodA
  obtain ⟨K1, h1⟩ := hgood
  have e0 : e = 0 := by
    have h2 : graph_Build.f (max K0 K1) wordsA = some (e, ns) := h0 _ (by omega)
    have h3 : list_Good.f (max K0 K1) wordsA = some 0 := h1 _ (by omega)
    unfold graph_Build.f at h2
    rw [h3, Option.bind_some, if_pos rfl] at h2
    split at h2
    · exact (Prod.mk.inj (Option.some.inj h2)).1.symm
    · obtain ⟨y, _, hy⟩ := Option.bind_eq_some_iff.1 h2
      exact (Prod.mk.inj (Option.some.inj hy)).1.symm
  obtain ⟨hw, hG⟩ := hg e0
  subst e0
  have n1 := next_ev hG ⟨#[97, 98]⟩ (by decide) 1 true z24 2
  have n2 := next_ev hG ⟨#[97, 98]⟩ (by decide) 1 false ⟨1, ⟨#[97, 98, 99]⟩⟩ 2
  rw [next1] at n1
  rw [next2] at n2
  obtain ⟨K2, h2⟩ := n1
  obtain ⟨K3, h3⟩ := n2
  obtain ⟨K4, h4⟩ := sameItems_ev [⟨0, ⟨#[97, 98]⟩⟩, ⟨1, ⟨#[97, 98, 99]⟩⟩] (by simp)
  obtain ⟨K5, h5⟩ := sameItems_ev [⟨1, ⟨#[98]⟩⟩] (by simp)
  exact ⟨max K0 (max K2 (max K3 (max K4 K5))), ns, h0 _ (by omega), h2 _ (by omega), h3 _ (by omega), h4 _ (by omega), h5 _ (by omega)⟩
set_option maxHeartbeats 4000000 in
set_option maxRecDepth 100000 in
theorem awake_calls (w : World) : Calls Try.prog 13 #[] w fun e w' => e = .returned (.bool true) ∧ Below w.heap.size w w' := by
  obtain ⟨K, ns, hb, hn1, hn2, hs1, hs2⟩ := awake_facts
  have HB := Aside0.mk hb
  have HN1 := Aside0.mk hn1
  have HN2 := Aside0.mk hn2
  have HS1 := Aside0.mk hs1
  have HS2 := Aside0.mk hs2
  clear hb hn1 hn2 hs1 hs2
  go_enter Try.func13, Try.ntmps13
  go_wp2_with (first | ((with_reducible refine gate_dst (N := 8) rfl ?_); refine Kd.R_lit (w0 := w) Kd.string w.heap.size 9 ?hg (N := 8) ?hd (xs := wordsA) (inner := [.string ⟨#[97, 98]⟩, .string ⟨#[97, 98, 99]⟩, .string ⟨#[98]⟩, .string ⟨#[122, 122]⟩]) (ok := fun _ => True) (okp := fun _ => True) ?hr ?hp (fun _ hk => hk) trivial (Below.refl _ _) (Nat.le_refl _) (by decide) ?_; (case hd => rfl); (case hg => rfl); (case hr => first | (go_simp; done) | (go_simp; rfl)); (case hp => exact (Reps.one (show Kd.M Kd.string _ _ _ _ _ from rfl) (Reps.one (show Kd.M Kd.string _ _ _ _ _ from rfl) (Reps.one (show Kd.M Kd.string _ _ _ _ _ from rfl) (Reps.one (show Kd.M Kd.string _ _ _ _ _ from rfl) (Reps.none _ _)))))); intro v1 w1 ho hb1 _ _; obtain ⟨A1, c1, e1⟩ := Kd.R_slice ho; subst e1; have HO1 := Aside0.mk ho; have HB1 := Aside0.mk hb1; clear ho hb1) | ((with_reducible refine gate_callee (f := 14) rfl ?_); (try (refine gate_guard (by rfl) ?_; dsimp only)); refine goesL_ (some 9) rfl rfl Try.func14 (by kernel_rfl) rfl #[.slice A1 wordsA.length c1] rfl (by (try simp only [List.map_toArray, List.map_cons, List.map_nil]); first | done | rfl) ?_; (with_reducible refine (graph_Build.calls K A1 c1 wordsA ns w1 (Kd.R_reads' HO1.out).2.2 (Kd.R_reads' HO1.out).2.1 HB.out).mono ?_); rintro e w2 ⟨g, rfl, _, hg, hb2⟩; refine ⟨_, rfl, ?_⟩; have HG2 := Aside0.mk hg; have HB2 := Aside0.mk (below_step HB1.out hb2); clear hg hb2 HO1) | ((with_reducible refine gate_callee (f := 15) rfl ?_); (try (refine gate_guard (by rfl) ?_; dsimp only)); refine goesL_ (some 15) rfl rfl Try.func15 (by kernel_rfl) rfl #[.pointer (some ⟨g, 0, none⟩), .string ⟨#[97, 98]⟩, .int .i64 1, .bool true, .agg #[.int .i64 0, .string ⟨#[]⟩], .int .i64 2] rfl (by (try simp only [List.map_toArray, List.map_cons, List.map_nil]); first | done | rfl) ?_; (with_reducible refine (walk_Next.calls K g ns ⟨#[97, 98]⟩ 1 true ⟨0, ⟨#[]⟩⟩ 2 [⟨0, ⟨#[97, 98]⟩⟩, ⟨1, ⟨#[97, 98, 99]⟩⟩] false _ HG2.out HN1.out).mono ?_); rintro e w3 ⟨v3, rfl, ho, hb2⟩; refine ⟨_, rfl, ?_⟩; obtain ⟨A3, c3, e3⟩ := Kd.R_slice ho; subst e3; have HO3 := Aside0.mk ho; have HG3 := Aside0.mk (HG2.out.below hb2); have HB3 := Aside0.mk (below_step HB2.out hb2); clear ho hb2) | ((with_reducible refine gate_callee (f := 15) rfl ?_); (try (refine gate_guard (by rfl) ?_; dsimp only)); refine goesL_ (some 21) rfl rfl Try.func15 (by kernel_rfl) rfl #[.pointer (some ⟨g, 0, none⟩), .string ⟨#[97, 98]⟩, .int .i64 1, .bool false, .agg #[.int .i64 1, .string ⟨#[97, 98, 99]⟩], .int .i64 2] rfl (by (try simp only [List.map_toArray, List.map_cons, List.map_nil]); first | done | rfl) ?_; (with_reducible refine (walk_Next.calls K g ns ⟨#[97, 98]⟩ 1 false ⟨1, ⟨#[97, 98, 99]⟩⟩ 2 [⟨1, ⟨#[98]⟩⟩] true _ HG3.out HN2.out).mono ?_); rintro e w4 ⟨v4, rfl, ho, hb2⟩; refine ⟨_, rfl, ?_⟩; obtain ⟨A4, c4, e4⟩ := Kd.R_slice ho; subst e4; have HO4 := Aside0.mk ho; have HG4 := Aside0.mk (HG3.out.below hb2); have HB4 := Aside0.mk (below_step HB3.out hb2); have HO3' := Aside0.mk (Kd.R_below HO3.out hb2); clear ho hb2) | ((with_reducible refine gate_dst (N := 27) rfl ?_); (try (refine gate_guard (by rfl) ?_; dsimp only)); refine Kd.R_lit (w0 := w4) k24 w4.heap.size 24 ?hg (N := 27) ?hd (xs := ([⟨0, ⟨#[97, 98]⟩⟩, ⟨1, ⟨#[97, 98, 99]⟩⟩] : List S24)) (inner := [.int .i64 0, .string ⟨#[97, 98]⟩, .int .i64 1, .string ⟨#[97, 98, 99]⟩]) (ok := fun _ => True) (okp := fun _ => True) ?hr ?hp (fun _ hk => hk) trivial (Below.refl _ _) (Nat.le_refl _) (by decide) ?_; (case hd => rfl); (case hg => rfl); (case hr => first | (go_simp; done) | (go_simp; rfl)); (case hp => exact (Reps.c2 (show Kd.M k24 _ _ _ _ _ from k24_mkM _ _ _ (⟨0, ⟨#[97, 98]⟩⟩ : S24)) (Reps.c2 (show Kd.M k24 _ _ _ _ _ from k24_mkM _ _ _ (⟨1, ⟨#[97, 98, 99]⟩⟩ : S24)) (Reps.none _ _)))); intro v5 w5 ho hb2 _ _; obtain ⟨A5, c5, e5⟩ := Kd.R_slice ho; subst e5; have HO5 := Aside0.mk ho; have HO35 := Aside0.mk (Kd.R_below HO3'.out hb2); have HO45 := Aside0.mk (Kd.R_below HO4.out hb2); have HB5 := Aside0.mk (below_step HB4.out hb2); clear ho hb2) | ((with_reducible refine gate_callee (f := 17) rfl ?_); (try (refine gate_guard (by rfl) ?_; dsimp only)); refine goesL_ (some 28) rfl rfl Try.func17 (by kernel_rfl) rfl #[.slice A3 ([⟨0, ⟨#[97, 98]⟩⟩, ⟨1, ⟨#[97, 98, 99]⟩⟩] : List S24).length c3, .slice A5 ([⟨0, ⟨#[97, 98]⟩⟩, ⟨1, ⟨#[97, 98, 99]⟩⟩] : List S24).length c5] rfl (by (try simp only [List.map_toArray, List.map_cons, List.map_nil]); first | done | rfl) ?_; (with_reducible refine (inkhornlaw0_SameItems.calls K A3 c3 [⟨0, ⟨#[97, 98]⟩⟩, ⟨1, ⟨#[97, 98, 99]⟩⟩] A5 c5 [⟨0, ⟨#[97, 98]⟩⟩, ⟨1, ⟨#[97, 98, 99]⟩⟩] true _ (Kd.R_reads' HO35.out).2.2 (Kd.R_reads' HO35.out).2.1 (Kd.R_reads' HO5.out).2.2 (Kd.R_reads' HO5.out).2.1 HS1.out).mono ?_); rintro e w6 ⟨rfl, hd⟩; refine ⟨_, rfl, ?_⟩; have hb2 := hd.below; have HB6 := Aside0.mk (below_step HB5.out hb2); have HO46 := Aside0.mk (Kd.R_below HO45.out hb2); clear hd hb2) | ((with_reducible refine gate_dst (N := 36) rfl ?_); (try (refine gate_guard (by rfl) ?_; dsimp only)); refine Kd.R_lit (w0 := w6) k24 w6.heap.size 24 ?hg (N := 36) ?hd (xs := ([⟨1, ⟨#[98]⟩⟩] : List S24)) (inner := [.int .i64 1, .string ⟨#[98]⟩]) (ok := fun _ => True) (okp := fun _ => True) ?hr ?hp (fun _ hk => hk) trivial (Below.refl _ _) (Nat.le_refl _) (by decide) ?_; (case hd => rfl); (case hg => rfl); (case hr => first | (go_simp; done) | (go_simp; rfl)); (case hp => exact (Reps.c2 (show Kd.M k24 _ _ _ _ _ from k24_mkM _ _ _ (⟨1, ⟨#[98]⟩⟩ : S24)) (Reps.none _ _))); intro v7 w7 ho hb2 _ _; obtain ⟨A7, c7, e7⟩ := Kd.R_slice ho; subst e7; have HO7 := Aside0.mk ho; have HO47 := Aside0.mk (Kd.R_below HO46.out hb2); have HB7 := Aside0.mk (below_step HB6.out hb2); clear ho hb2) | ((with_reducible refine gate_callee (f := 17) rfl ?_); (try (refine gate_guard (by rfl) ?_; dsimp only)); refine goesL_ (some 37) rfl rfl Try.func17 (by kernel_rfl) rfl #[.slice A4 ([⟨1, ⟨#[98]⟩⟩] : List S24).length c4, .slice A7 ([⟨1, ⟨#[98]⟩⟩] : List S24).length c7] rfl (by (try simp only [List.map_toArray, List.map_cons, List.map_nil]); first | done | rfl) ?_; (with_reducible refine (inkhornlaw0_SameItems.calls K A4 c4 [⟨1, ⟨#[98]⟩⟩] A7 c7 [⟨1, ⟨#[98]⟩⟩] true _ (Kd.R_reads' HO47.out).2.2 (Kd.R_reads' HO47.out).2.1 (Kd.R_reads' HO7.out).2.2 (Kd.R_reads' HO7.out).2.1 HS2.out).mono ?_); rintro e w8 ⟨rfl, hd⟩; refine ⟨_, rfl, ?_⟩; have hb2 := hd.below; have HB8 := Aside0.mk (below_step HB7.out hb2); clear hd hb2))
  go_ret
  exact ⟨rfl, HB8.out⟩
end Go.Proofs.Ytklidannncajiaa.OW
