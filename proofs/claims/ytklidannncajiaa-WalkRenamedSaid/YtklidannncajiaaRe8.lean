/- What the row of the law WalkRenamed leans on: contracts of functions and plain laws, each for all inputs that its own theorem names. -/
import Derived.Test.YtklidannncajiaaRe1
import Derived.Test.YtklidannncajiaaRe7
import Derived.Test.YtklidannncajiaaRe2
import Derived.Test.YtklidannncajiaaRe3
import Derived.Test.YtklidannncajiaaRe4
import Derived.Test.YtklidannncajiaaRe5
import Derived.Test.YtklidannncajiaaRe0
import Derived.WalkKit
namespace Go.Proofs.Ytklidannncajiaa.OW
open Go.RowKit

def bytesOf_ (l : List ByteArray) : Nat := (l.map ByteArray.size).sum
/-- Rests of a node: clean texts, in order, at least one. -/
structure GoodL (l : List ByteArray) : Prop where
  ne : l ≠ []
  clean : ∀ s ∈ l, Clean s
  sorted : l.Pairwise ltB
/-- Rests that begin with runes. -/
structure GoodR (l : List ByteArray) : Prop where
  clean : ∀ s ∈ l, Clean s ∧ 0 < s.size
  sorted : l.Pairwise ltB
theorem restsOf_good {l : List ByteArray} (h : GoodL l) : GoodR (restsOf l) := by
  cases l with
  | nil => exact absurd rfl h.ne
  | cons s t =>
    have hs := List.pairwise_cons.1 h.sorted
    unfold restsOf isEnd
    by_cases he : s = ⟨#[]⟩
    · simp only [he, decide_true, if_true, List.drop_one, List.tail_cons]
      exact ⟨fun x hx => ⟨h.clean x (List.mem_cons_of_mem _ hx), (hs.1 x hx).ne_empty⟩, hs.2⟩
    · simp only [he, decide_false, Bool.false_eq_true, if_false]
      refine ⟨fun x hx => ⟨h.clean x hx, ?_⟩, h.sorted⟩
      rcases List.mem_cons.1 hx with rfl | hx
      · rcases Nat.eq_zero_or_pos x.size with h0 | h0
        · exfalso
          apply he
          apply bytes_ext
          rw [size_list] at h0
          rw [List.length_eq_zero_iff.1 h0]
        · exact h0
      · exact (hs.1 x hx).ne_empty
theorem restsOf_bytes (l : List ByteArray) : bytesOf_ (restsOf l) = bytesOf_ l := by
  cases l with
  | nil => rfl
  | cons s t =>
    unfold restsOf isEnd
    by_cases he : s = ⟨#[]⟩
    · simp only [he, decide_true, if_true, List.drop_one, List.tail_cons]
      simp [bytesOf_, ByteArray.size]
    · simp only [he, decide_false, Bool.false_eq_true, if_false]
theorem restsOf_len (l : List ByteArray) : (restsOf l).length ≤ l.length := by
  unfold restsOf
  split
  · rw [List.length_drop]; omega
  · exact Nat.le_refl _
/-- The first rune's bytes of a text. -/
def hd (s : ByteArray) : ByteArray := s.extract 0 (Utf8.decode s 0).2
def wd (s : ByteArray) : Nat := (Utf8.decode s 0).2
theorem prefix_self (s : ByteArray) : Lib.hasPrefix s.data.toList (hd s).data.toList = true := by
  unfold hd Lib.hasPrefix
  rw [head_data]
  exact List.isPrefixOf_iff_prefix.2 (List.take_prefix _ _)
/-- Behind its first rune a text that begins with s's goes on as its cut. -/
theorem prefix_cut {s x : ByteArray} (h0 : 0 < s.size) (h : Lib.hasPrefix x.data.toList (hd s).data.toList = true) : x.data.toList = (hd s).data.toList ++ (cut x (wd s)).data.toList ∧ wd s ≤ x.size := by
  obtain ⟨t, ht⟩ := List.isPrefixOf_iff_prefix.1 h
  have hl : (hd s).data.toList.length = wd s := by
    unfold hd
    rw [head_data, List.length_take, ← size_list]
    have := decode_le_size s 0 h0
    unfold wd
    omega
  rw [cut_data, ← ht, ← hl, List.drop_left]
  refine ⟨rfl, ?_⟩
  rw [size_list, ← ht, List.length_append]
  omega
theorem grp_cons (s : ByteArray) (t : List ByteArray) : grp (hd s) (wd s) (s :: t) = cut s (wd s) :: grp (hd s) (wd s) t := by
  conv => lhs; unfold grp
  rw [if_pos (prefix_self s)]
theorem grp_mem {p : ByteArray} {n : Nat} : ∀ {l : List ByteArray} {c : ByteArray}, c ∈ grp p n l → ∃ x ∈ l, Lib.hasPrefix x.data.toList p.data.toList = true ∧ c = cut x n
  | [], _, h => by simp [grp] at h
  | s :: t, c, h => by
    unfold grp at h
    by_cases hp : Lib.hasPrefix s.data.toList p.data.toList = true
    · rw [if_pos hp] at h
      rcases List.mem_cons.1 h with rfl | h
      · exact ⟨s, List.mem_cons_self, hp, rfl⟩
      · obtain ⟨x, hx, h1, h2⟩ := grp_mem h
        exact ⟨x, List.mem_cons_of_mem _ hx, h1, h2⟩
    · rw [if_neg hp] at h; cases h
theorem grp_sorted {s : ByteArray} (h0 : 0 < s.size) : ∀ {l : List ByteArray}, l.Pairwise ltB → (grp (hd s) (wd s) l).Pairwise ltB
  | [], _ => List.Pairwise.nil
  | x :: t, h => by
    unfold grp
    by_cases hp : Lib.hasPrefix x.data.toList (hd s).data.toList = true
    · rw [if_pos hp]
      have hs := List.pairwise_cons.1 h
      refine List.pairwise_cons.2 ⟨fun c hc => ?_, grp_sorted h0 hs.2⟩
      obtain ⟨y, hy, h1, rfl⟩ := grp_mem hc
      have := hs.1 y hy
      unfold ltB at this ⊢
      rw [(prefix_cut h0 hp).1, (prefix_cut h0 h1).1, cmp_app] at this
      exact this
    · rw [if_neg hp]; exact List.Pairwise.nil
theorem grp_bytes {s : ByteArray} (h0 : 0 < s.size) : ∀ l : List ByteArray, bytesOf_ (grp (hd s) (wd s) l) + (grp (hd s) (wd s) l).length + bytesOf_ (l.drop (grp (hd s) (wd s) l).length) ≤ bytesOf_ l
  | [] => by simp [grp, bytesOf_]
  | x :: t => by
    unfold grp
    by_cases hp : Lib.hasPrefix x.data.toList (hd s).data.toList = true
    · rw [if_pos hp]
      have ih := grp_bytes h0 t
      have h1 := (prefix_cut h0 hp).2
      have h2 : 1 ≤ wd s := decode_pos s 0 h0
      simp only [bytesOf_, List.map_cons, List.sum_cons, List.length_cons, List.drop_succ_cons, cut_size] at ih ⊢
      omega
    · rw [if_neg hp]; simp [bytesOf_]
theorem grp_good {s : ByteArray} {t : List ByteArray} (h : GoodR (s :: t)) : GoodL (grp (hd s) (wd s) (s :: t)) := by
  have hs := h.clean s List.mem_cons_self
  refine ⟨by rw [grp_cons]; simp, fun c hc => ?_, grp_sorted hs.2 h.sorted⟩
  obtain ⟨x, hx, h1, rfl⟩ := grp_mem hc
  have hc' := h.clean x hx
  have hd' := decode_prefix s x hs.2 (hs.1.first_ hs.2) h1
  have := hc'.1.cut_ hc'.2
  rw [hd'] at this
  exact this
theorem drop_good {l : List ByteArray} (h : GoodR l) (n : Nat) : GoodR (l.drop n) := ⟨fun s hs => h.clean s (List.mem_of_mem_drop hs), h.sorted.sublist (List.drop_sublist _ _)⟩
/-- The texts of a group are its cuts behind the rune. -/
theorem grp_take {s : ByteArray} (h0 : 0 < s.size) : ∀ l : List ByteArray, l.take (grp (hd s) (wd s) l).length = (grp (hd s) (wd s) l).map (fun c => hd s ++ c)
  | [] => by simp [grp]
  | x :: t => by
    unfold grp
    by_cases hp : Lib.hasPrefix x.data.toList (hd s).data.toList = true
    · rw [if_pos hp]
      simp only [List.length_cons, List.take_succ_cons, List.map_cons]
      rw [grp_take h0 t]
      congr 1
      apply bytes_ext
      have := (prefix_cut h0 hp).1
      simpa using this
    · rw [if_neg hp]; simp
theorem hd_encode {s : ByteArray} (h : Clean s) (h0 : 0 < s.size) : hd s = Utf8.encode ((Utf8.decode s 0).1 : Int) := by
  have h1 := encode_first s h0 (h.first_ h0)
  have h2 := encode_size s h0 (h.first_ h0)
  apply bytes_ext
  unfold hd
  rw [head_data]
  have h3 := congrArg (fun s : ByteArray => s.data.toList) h1
  have h4 : (Utf8.encode ((Utf8.decode s 0).1 : Int)).data.toList ++ (cut s (Utf8.decode s 0).2).data.toList = s.data.toList := by simpa using h3
  rw [← h4, List.take_append_of_le_length (by rw [← size_list, h2]; exact Nat.le_refl _), List.take_of_length_le (by rw [← size_list, h2]; exact Nat.le_refl _)]
/-! ### what a node stands for -/
mutual
def Rep : Nat → List S72 → Int → List ByteArray → Prop
  | 0, _, _, _ => False
  | f + 1, ns, n, l => 0 ≤ n ∧ ∃ x, ns[n.toNat]? = some x ∧ x.f0 = isEnd l ∧ RepE f ns x.f1 (restsOf l)
def RepE : Nat → List S72 → List S91 → List ByteArray → Prop
  | 0, _, _, _ => False
  | f + 1, ns, es, l => match es, l with
    | [], [] => True
    | e :: es, s :: t => e.f0 = ((Utf8.decode s 0).1 : Int) ∧ Rep f ns e.f1 (grp (hd s) (wd s) (s :: t)) ∧ RepE f ns es ((s :: t).drop (grp (hd s) (wd s) (s :: t)).length)
    | _, _ => False
end
theorem rep_mono : ∀ f, (∀ ns n l, Rep f ns n l → Rep (f + 1) ns n l) ∧ (∀ ns es l, RepE f ns es l → RepE (f + 1) ns es l)
  | 0 => ⟨fun _ _ _ h => by simp [Rep] at h, fun _ _ _ h => by simp [RepE] at h⟩
  | f + 1 => by
    obtain ⟨h1, h2⟩ := rep_mono f
    refine ⟨fun ns n l h => ?_, fun ns es l h => ?_⟩
    · unfold Rep at h ⊢
      obtain ⟨h0, x, hx, hf, he⟩ := h
      exact ⟨h0, x, hx, hf, h2 _ _ _ he⟩
    · unfold RepE at h ⊢
      cases es with
      | nil => cases l with
        | nil => trivial
        | cons _ _ => exact h
      | cons e es => cases l with
        | nil => exact h
        | cons s t => exact ⟨h.1, h1 _ _ _ h.2.1, h2 _ _ _ h.2.2⟩
theorem rep_up {f f' : Nat} (hf : f ≤ f') {ns : List S72} : (∀ {n l}, Rep f ns n l → Rep f' ns n l) ∧ (∀ {es l}, RepE f ns es l → RepE f' ns es l) := by
  induction hf with
  | refl => exact ⟨fun h => h, fun h => h⟩
  | step _ ih => exact ⟨fun h => (rep_mono _).1 _ _ _ (ih.1 h), fun h => (rep_mono _).2 _ _ _ (ih.2 h)⟩
/-- Nodes that were whole stay as they are. -/
def Ext (ns ns' : List S72) : Prop := ∀ (i : Nat) x, ns[i]? = some x → ∃ x', ns'[i]? = some x' ∧ (x' = x ∨ x = z72)
theorem Ext.refl (ns : List S72) : Ext ns ns := fun _ x h => ⟨x, h, .inl rfl⟩
theorem Ext.trans {a b c : List S72} (h : Ext a b) (k : Ext b c) : Ext a c := fun i x hx => by
  obtain ⟨y, hy, e⟩ := h i x hx
  obtain ⟨z, hz, e'⟩ := k i y hy
  refine ⟨z, hz, ?_⟩
  rcases e with rfl | e
  · exact e'
  · exact .inr e
theorem Ext.len {a b : List S72} (h : Ext a b) : a.length ≤ b.length := by
  rcases Nat.lt_or_ge b.length a.length with hl | hl
  · obtain ⟨y, hy, _⟩ := h b.length a[b.length] (List.getElem?_eq_getElem hl)
    have := (List.getElem?_eq_some_iff.1 hy).1
    omega
  · exact hl
theorem rep_ext : ∀ f, (∀ ns ns' n l, l ≠ [] → Rep f ns n l → Ext ns ns' → Rep f ns' n l) ∧ (∀ ns ns' es l, RepE f ns es l → Ext ns ns' → RepE f ns' es l)
  | 0 => ⟨fun _ _ _ _ _ h => by simp [Rep] at h, fun _ _ _ _ h => by simp [RepE] at h⟩
  | f + 1 => by
    obtain ⟨h1, h2⟩ := rep_ext f
    refine ⟨fun ns ns' n l hl h he => ?_, fun ns ns' es l h he => ?_⟩
    · unfold Rep at h ⊢
      obtain ⟨h0, x, hx, hf, hE⟩ := h
      obtain ⟨x', hx', e⟩ := he _ x hx
      have hne : x ≠ z72 := by
        rintro rfl
        have hf' : isEnd l = false := hf.symm
        have : restsOf l = l := by unfold restsOf; rw [if_neg (by rw [hf']; simp)]
        rw [this] at hE
        cases l with
        | nil => exact hl rfl
        | cons s t =>
          cases f with
          | zero => simp [RepE] at hE
          | succ f => simp [RepE, z72] at hE
      rcases e with rfl | e
      · exact ⟨h0, x', hx', hf, h2 _ _ _ _ hE he⟩
      · exact absurd e hne
    · unfold RepE at h ⊢
      cases es with
      | nil => cases l with
        | nil => trivial
        | cons _ _ => exact h
      | cons e es => cases l with
        | nil => exact h
        | cons s t => exact ⟨h.1, h1 _ _ _ _ (by rw [grp_cons]; simp) h.2.1 he, h2 _ _ _ _ h.2.2 he⟩
/-- Each text's key that is found tells a node that is whole, or one that is not yet (of B bytes or more). -/
def Inv (B : Nat) (st : Bld) : Prop := ∀ key n, st.F key = some n → ∃ l, GoodL l ∧ restsKey l = key ∧ ((∃ f, Rep f st.ns n l) ∨ B ≤ bytesOf_ l)
def Pre (ns ns' : List S72) : Prop := ∀ (i : Nat) x, ns[i]? = some x → ns'[i]? = some x
theorem Pre.ext {ns ns' : List S72} (h : Pre ns ns') : Ext ns ns' := fun i x hx => ⟨x, h i x hx, .inl rfl⟩
theorem Pre.trans {a b c : List S72} (h : Pre a b) (k : Pre b c) : Pre a c := fun i x hx => k i x (h i x hx)
def More (st st' : Bld) : Prop := ∀ key n, st'.F key = some n → st.F key = some n ∨ ∃ l, GoodL l ∧ restsKey l = key ∧ ∃ f, Rep f st'.ns n l
theorem More.trans {a b c : Bld} (h : More a b) (k : More b c) (he : Ext b.ns c.ns) : More a c := fun key n hn => by
  rcases k key n hn with h1 | h1
  · rcases h key n h1 with h2 | ⟨l, h2, h3, f, h4⟩
    · exact .inl h2
    · exact .inr ⟨l, h2, h3, f, (rep_ext f).1 _ _ _ _ h2.ne h4 he⟩
  · exact .inr h1
theorem Inv.more {B : Nat} {st st' : Bld} (h : Inv B st) (hm : More st st') (he : Ext st.ns st'.ns) : Inv B st' := fun key n hn => by
  rcases hm key n hn with h1 | ⟨l, h2, h3, h4⟩
  · obtain ⟨l, h2, h3, h4⟩ := h key n h1
    refine ⟨l, h2, h3, ?_⟩
    rcases h4 with ⟨f, h4⟩ | h4
    · exact .inl ⟨f, (rep_ext f).1 _ _ _ _ h2.ne h4 he⟩
    · exact .inr h4
  · exact ⟨l, h2, h3, .inl h4⟩
theorem join_len (l : List ByteArray) : (Lib.join (l.map (·.data.toList)) [255]).length ≤ bytesOf_ l + l.length := by
  rw [join_eq]
  have h := joinR_len (l.map (·.data.toList))
  have e : ((l.map (·.data.toList)).map List.length).sum = bytesOf_ l := by
    unfold bytesOf_
    rw [List.map_map]
    congr 1
  rw [e, List.length_map] at h
  exact h
theorem size_le_bytes {s : ByteArray} : ∀ {l : List ByteArray}, s ∈ l → s.size ≤ bytesOf_ l
  | x :: t, h => by
    unfold bytesOf_
    simp only [List.map_cons, List.sum_cons]
    rcases List.mem_cons.1 h with rfl | h
    · omega
    · have := size_le_bytes h
      unfold bytesOf_ at this
      omega
theorem node_spec : ∀ f : Nat,
    (∀ (l : List ByteArray) (st : Bld) (B : Nat), GoodL l → Inv B st → bytesOf_ l < B → 2 * bytesOf_ l + l.length + 2 ≤ f → bytesOf_ l + l.length ≤ 500000 → st.ns.length + bytesOf_ l ≤ 900000 →
      ∃ r st', node f l st = some (r, st') ∧ Pre st.ns st'.ns ∧ (∃ f', Rep f' st'.ns r l) ∧ More st st' ∧ st'.ns.length ≤ st.ns.length + bytesOf_ l + 1) ∧
    (∀ (l : List ByteArray) (es : List S91) (st : Bld) (B : Nat), GoodR l → Inv B st → bytesOf_ l ≤ B → 2 * bytesOf_ l + l.length + 1 ≤ f → bytesOf_ l + l.length ≤ 500000 → es.length + l.length ≤ 900000 → st.ns.length + bytesOf_ l ≤ 900001 →
      ∃ es2 st', edges f l es st = some (es ++ es2, st') ∧ Pre st.ns st'.ns ∧ (∃ f', RepE f' st'.ns es2 l) ∧ More st st' ∧ st'.ns.length ≤ st.ns.length + bytesOf_ l) := by
  intro f
  induction f with
  | zero => exact ⟨fun l st B _ _ _ h => by omega, fun l es st B _ _ _ h => by omega⟩
  | succ f ih =>
    obtain ⟨ih1, ih2⟩ := ih
    refine ⟨fun l st B hl hi hb hf hz hn => ?_, fun l es st B hl hi hb hf hz he hn => ?_⟩
    · have hj := join_len l
      have hcond : l ≠ [] ∧ (Lib.join (l.map (·.data.toList)) [255]).length ≤ 1000000 ∧ st.ns.length ≤ 1000000 ∧ l.length ≤ 1000000 := ⟨hl.ne, by omega, by omega, by omega⟩
      simp only [node]
      rw [if_pos hcond]
      cases hF : st.F (restsKey l) with
      | some n =>
        refine ⟨n, st, rfl, fun _ _ h => h, ?_, fun _ _ h => .inl h, by omega⟩
        obtain ⟨l', h1, h2, h3⟩ := hi _ _ hF
        have := key_inj h1.ne hl.ne h1.clean hl.clean h2
        subst this
        rcases h3 with h3 | h3
        · exact h3
        · omega
      | none =>
        have hr := restsOf_good hl
        have hrb := restsOf_bytes l
        have hrl := restsOf_len l
        have hP0 : Pre st.ns (st.open_ (restsKey l)).ns := fun i x hx => by
          unfold Bld.open_
          dsimp only
          rw [List.getElem?_append_left (List.getElem?_eq_some_iff.1 hx).1]
          exact hx
        have hI0 : Inv (bytesOf_ l) (st.open_ (restsKey l)) := fun key n hk => by
          unfold Bld.open_ at hk
          dsimp only at hk
          by_cases e : key = restsKey l
          · exact ⟨l, hl, e.symm, .inr (Nat.le_refl _)⟩
          · rw [if_neg e] at hk
            obtain ⟨l', h1, h2, h3⟩ := hi key n hk
            refine ⟨l', h1, h2, ?_⟩
            rcases h3 with ⟨f', h3⟩ | h3
            · exact .inl ⟨f', (rep_ext f').1 _ _ _ _ h1.ne h3 hP0.ext⟩
            · exact .inr (by omega)
        have hlen0 : (st.open_ (restsKey l)).ns.length = st.ns.length + 1 := by simp [Bld.open_]
        obtain ⟨es2, st1, h1, h2, ⟨f1, h3⟩, h4, h5⟩ := ih2 (restsOf l) [] (st.open_ (restsKey l)) (bytesOf_ l) hr hI0 (by omega) (by omega) (by omega) (by simp; omega) (by omega)
        rw [List.nil_append] at h1
        have hlt : st.ns.length < st1.ns.length := by have := h2.ext.len; omega
        have hz1 : st1.ns[st.ns.length]? = some z72 := h2 _ _ (by unfold Bld.open_; dsimp only; rw [List.getElem?_append_right (Nat.le_refl _)]; simp)
        have hE : Ext st1.ns (st1.shut st.ns.length ⟨isEnd l, es2⟩).ns := fun i x hx => by
          unfold Bld.shut
          dsimp only
          by_cases e : i = st.ns.length
          · subst e
            rw [hz1] at hx
            exact ⟨⟨isEnd l, es2⟩, by rw [List.getElem?_set_self hlt], .inr (Option.some.inj hx).symm⟩
          · exact ⟨x, by rw [List.getElem?_set_ne (Ne.symm e)]; exact hx, .inl rfl⟩
        have hR : Rep (f1 + 1) (st1.shut st.ns.length ⟨isEnd l, es2⟩).ns (st.ns.length : Int) l := by
          unfold Rep
          refine ⟨by omega, ⟨isEnd l, es2⟩, ?_, rfl, (rep_ext f1).2 _ _ _ _ h3 hE⟩
          unfold Bld.shut
          dsimp only
          rw [Int.toNat_natCast, List.getElem?_set_self hlt]
        simp only [h1, Option.bind_some]
        rw [if_pos hlt]
        refine ⟨_, _, rfl, ?_, ⟨_, hR⟩, ?_, ?_⟩
        · intro i x hx
          have hi' := (List.getElem?_eq_some_iff.1 hx).1
          unfold Bld.shut
          dsimp only
          rw [List.getElem?_set_ne (by omega)]
          exact h2 i x (hP0 i x hx)
        · intro key n hk
          rcases h4 key n hk with h6 | ⟨l', h6, h7, f', h8⟩
          · unfold Bld.open_ at h6
            dsimp only at h6
            by_cases e : key = restsKey l
            · rw [if_pos e] at h6
              refine .inr ⟨l, hl, e.symm, f1 + 1, ?_⟩
              rw [← Option.some.inj h6]
              exact hR
            · rw [if_neg e] at h6
              exact .inl h6
          · exact .inr ⟨l', h6, h7, f', (rep_ext f').1 _ _ _ _ h6.ne h8 hE⟩
        · have : (st1.shut st.ns.length ⟨isEnd l, es2⟩).ns.length = st1.ns.length := by simp [Bld.shut]
          omega
    · cases l with
      | nil =>
        simp only [edges]
        exact ⟨[], st, by rw [List.append_nil], fun _ _ h => h, ⟨1, by simp [RepE]⟩, fun _ _ h => .inl h, by omega⟩
      | cons s t =>
        have hs := hl.clean s List.mem_cons_self
        have hsz := size_le_bytes (l := s :: t) (s := s) List.mem_cons_self
        have hgb := grp_bytes hs.2 (s :: t)
        have hgl : 1 ≤ (grp (hd s) (wd s) (s :: t)).length := by rw [grp_cons]; simp
        have hgle := grp_le (hd s) (wd s) (s :: t)
        have hdl : ((s :: t).drop (grp (hd s) (wd s) (s :: t)).length).length = (s :: t).length - (grp (hd s) (wd s) (s :: t)).length := List.length_drop
        simp only [List.length_cons] at hf hz he hgle hdl
        obtain ⟨r, st1, a1, a2, ⟨f1, a3⟩, a4, a5⟩ := ih1 (grp (hd s) (wd s) (s :: t)) st B (grp_good hl) hi (by omega) (by omega) (by omega) (by omega)
        obtain ⟨es2, st2, b1, b2, ⟨f2, b3⟩, b4, b5⟩ := ih2 ((s :: t).drop (grp (hd s) (wd s) (s :: t)).length) (es ++ [⟨((Utf8.decode s 0).1 : Int), r⟩]) st1 B (drop_good hl _) (hi.more a4 a2.ext) (by omega) (by rw [hdl]; omega) (by rw [hdl]; omega) (by rw [hdl]; simp; omega) (by omega)
        refine ⟨⟨((Utf8.decode s 0).1 : Int), r⟩ :: es2, st2, ?_, a2.trans b2, ⟨max f1 f2 + 1, ?_⟩, a4.trans b4 b2.ext, by omega⟩
        · simp only [edges]
          rw [if_pos ⟨by omega, hs.2, by omega, by simp; omega⟩]
          show (node f (grp (hd s) (wd s) (s :: t)) st).bind _ = _
          rw [a1, Option.bind_some]
          show edges f ((s :: t).drop (grp (hd s) (wd s) (s :: t)).length) _ _ = _
          rw [b1, List.append_assoc]
          rfl
        · unfold RepE
          exact ⟨rfl, (rep_ext _).1 _ _ _ _ (by rw [grp_cons]; simp) ((rep_up (Nat.le_max_left _ _)).1 a3) b2.ext, (rep_up (Nat.le_max_right _ _)).2 b3⟩
end Go.Proofs.Ytklidannncajiaa.OW

namespace Go.Proofs.Ytklidannncajiaa.Am

/-- The next row of distances, when one more rune r has been read. -/
def stepRow (q : List Int) (r : Int) (f : Nat → Nat) : Nat → Nat
  | 0 => f 0 + 1
  | i + 1 => min (min (f (i + 1) + 1) (stepRow q r f i + 1)) (f i + if q.getD i 0 = r then 0 else 1)
/-- The distances of p to the beginnings of q; p's runes are read one by one. -/
def dp (q : List Int) (p : List Int) : Nat → Nat := p.foldl (fun f r => stepRow q r f) (fun i => i)
theorem dp_nil (q : List Int) (i : Nat) : dp q [] i = i := rfl
theorem dp_snoc (q p : List Int) (r : Int) : dp q (p ++ [r]) = stepRow q r (dp q p) := by simp [dp]

theorem step_le_old (q : List Int) (r : Int) (f : Nat → Nat) (i : Nat) : stepRow q r f i ≤ f i + 1 := by
  cases i with
  | zero => simp [stepRow]
  | succ i => simp only [stepRow]; omega
theorem step_le_left (q : List Int) (r : Int) (f : Nat → Nat) (i : Nat) : stepRow q r f (i + 1) ≤ stepRow q r f i + 1 := by
  simp only [stepRow]; omega
/-- A row of distances rises and falls by at most one. -/
structure Lip (f : Nat → Nat) : Prop where
  up : ∀ i, f (i + 1) ≤ f i + 1
  down : ∀ i, f i ≤ f (i + 1) + 1
theorem lip_step {q : List Int} {r : Int} {f : Nat → Nat} (h : Lip f) : Lip (stepRow q r f) := by
  refine ⟨step_le_left q r f, fun i => ?_⟩
  have h1 := step_le_old q r f i
  have h2 := h.down i
  have h3 : stepRow q r f (i + 1) = min (min (f (i + 1) + 1) (stepRow q r f i + 1)) (f i + if q.getD i 0 = r then 0 else 1) := rfl
  rw [h3]
  omega
theorem snoc_induction {P : List Int → Prop} (h0 : P []) (h1 : ∀ p r, P p → P (p ++ [r])) : ∀ p, P p := by
  intro p
  rw [← List.reverse_reverse p]
  generalize p.reverse = q
  induction q with
  | nil => exact h0
  | cons x q ih => rw [List.reverse_cons]; exact h1 _ _ ih
theorem lip_dp (q p : List Int) : Lip (dp q p) := by
  induction p using snoc_induction with
  | h0 => exact ⟨fun i => by simp [dp_nil], fun i => by simp [dp_nil]; omega⟩
  | h1 p r ih => rw [dp_snoc]; exact lip_step ih
theorem Lip.far {f : Nat → Nat} (h : Lip f) (i d : Nat) : f (i + d) ≤ f i + d ∧ f i ≤ f (i + d) + d := by
  induction d with
  | zero => simp
  | succ d ih =>
    have h1 := h.up (i + d)
    have h2 := h.down (i + d)
    have e : i + (d + 1) = i + d + 1 := by omega
    rw [e]
    omega
theorem Lip.any {f : Nat → Nat} (h : Lip f) (i j : Nat) : f i ≤ f j + ((i - j) + (j - i)) := by
  rcases Nat.le_total i j with h1 | h1
  · obtain ⟨d, rfl⟩ : ∃ d, j = i + d := ⟨j - i, by omega⟩
    have := (h.far i d).2
    omega
  · obtain ⟨d, rfl⟩ : ∃ d, i = j + d := ⟨i - j, by omega⟩
    have := (h.far j d).1
    omega
/-- No row is everywhere further off than a later one. -/
theorem dead_step (q : List Int) (r : Int) (f : Nat → Nat) (k n : Nat) (h : ∀ i, i ≤ n → k < f i) : ∀ i, i ≤ n → k < stepRow q r f i := by
  intro i
  induction i with
  | zero => intro hi; have := h 0 hi; simp only [stepRow]; omega
  | succ i ih =>
    intro hi
    have h1 := h (i + 1) hi
    have h2 := h i (by omega)
    have h3 := ih (by omega)
    simp only [stepRow]
    omega
/-- The row looks at the beginnings alone. -/
theorem dp_take (a c p : List Int) : ∀ i, i ≤ a.length → dp (a ++ c) p i = dp a p i := by
  induction p using snoc_induction with
  | h0 => intro i _; simp [dp_nil]
  | h1 p r ih =>
    intro i
    rw [dp_snoc, dp_snoc]
    induction i with
    | zero => intro hi; simp only [stepRow]; rw [ih 0 hi]
    | succ i ih2 =>
      intro hi
      simp only [stepRow]
      rw [ih (i + 1) hi, ih i (by omega), ih2 (by omega)]
      have e : (a ++ c).getD i 0 = a.getD i 0 := by
        simp [List.getD_eq_getElem?_getD, List.getElem?_append_left (show i < a.length by omega)]
      rw [e]

/-! ### Alignments -/
inductive Al : List Int → List Int → Nat → Prop
  | nil : Al [] [] 0
  | del {a b n} (x : Int) : Al a b n → Al (a ++ [x]) b (n + 1)
  | ins {a b n} (y : Int) : Al a b n → Al a (b ++ [y]) (n + 1)
  | sub {a b n} (x y : Int) : Al a b n → Al (a ++ [x]) (b ++ [y]) (n + 1)
  | keep {a b n} (x : Int) : Al a b n → Al (a ++ [x]) (b ++ [x]) n
theorem Al.append {a b c d : List Int} {n m : Nat} (h : Al a b n) (k : Al c d m) : Al (a ++ c) (b ++ d) (n + m) := by
  induction k with
  | nil => simpa using h
  | del x _ ih => rw [← List.append_assoc]; exact .del x ih
  | ins y _ ih => rw [← List.append_assoc]; exact .ins y ih
  | sub x y _ ih => rw [← List.append_assoc, ← List.append_assoc]; exact .sub x y ih
  | keep x _ ih => rw [← List.append_assoc, ← List.append_assoc]; exact .keep x ih
theorem Al.reverse {a b : List Int} {n : Nat} (h : Al a b n) : Al a.reverse b.reverse n := by
  induction h with
  | nil => exact .nil
  | del x _ ih => rw [List.reverse_append, Nat.add_comm]; exact Al.append (.del x .nil) ih
  | ins y _ ih => rw [List.reverse_append, Nat.add_comm]; exact Al.append (.ins y .nil) ih
  | sub x y _ ih => rw [List.reverse_append, List.reverse_append, Nat.add_comm]; exact Al.append (.sub x y .nil) ih
  | keep x _ ih =>
    rw [List.reverse_append, List.reverse_append]
    have := Al.append (.keep x .nil) ih
    simpa using this
theorem getD_snoc (a : List Int) (x : Int) : (a ++ [x]).getD a.length 0 = x := by simp [List.getD_eq_getElem?_getD]
theorem Al.least {a b : List Int} {n : Nat} (h : Al a b n) : dp a b a.length ≤ n := by
  induction h with
  | nil => simp [dp_nil]
  | @del a b n x _ ih =>
    rw [List.length_append, List.length_singleton]
    have h1 := (lip_dp (a ++ [x]) b).up a.length
    rw [dp_take a [x] b a.length (Nat.le_refl _)] at h1
    omega
  | @ins a b n y _ ih =>
    rw [dp_snoc]
    have := step_le_old a y (dp a b) a.length
    omega
  | @sub a b n x y _ ih =>
    rw [dp_snoc, List.length_append, List.length_singleton]
    simp only [stepRow]
    rw [dp_take a [x] b a.length (Nat.le_refl _)]
    split <;> omega
  | @keep a b n x _ ih =>
    rw [dp_snoc, List.length_append, List.length_singleton]
    simp only [stepRow]
    rw [dp_take a [x] b a.length (Nat.le_refl _), getD_snoc, if_pos rfl]
    omega
theorem take_snoc (q : List Int) (i : Nat) (h : i < q.length) : q.take (i + 1) = q.take i ++ [q.getD i 0] := by
  rw [List.take_succ_eq_append_getElem h]
  simp [List.getD_eq_getElem?_getD, List.getElem?_eq_getElem h]
theorem al_dp (q p : List Int) : ∀ i, i ≤ q.length → Al (q.take i) p (dp q p i) := by
  induction p using snoc_induction with
  | h0 =>
    intro i
    induction i with
    | zero => intro _; simpa [dp_nil] using Al.nil
    | succ i ih => intro hi; rw [take_snoc q i (by omega)]; exact .del _ (ih (by omega))
  | h1 p r ih =>
    intro i
    rw [dp_snoc]
    induction i with
    | zero => intro hi; simp only [stepRow]; exact .ins _ (ih 0 hi)
    | succ i ih2 =>
      intro hi
      have h1 := Al.ins r (ih (i + 1) hi)
      have h2 := Al.del (q.getD i 0) (ih2 (by omega))
      rw [← take_snoc q i (by omega)] at h2
      have h3 : Al (q.take (i + 1)) (p ++ [r]) (dp q p i + if q.getD i 0 = r then 0 else 1) := by
        rw [take_snoc q i (by omega)]
        by_cases e : q.getD i 0 = r
        · rw [if_pos e, e]; exact .keep r (ih i (by omega))
        · rw [if_neg e]; exact .sub _ r (ih i (by omega))
      simp only [stepRow]
      rcases Nat.le_total (dp q p (i + 1) + 1) (stepRow q r (dp q p) i + 1) with l1 | l1
      · rw [Nat.min_eq_left l1]
        rcases Nat.le_total (dp q p (i + 1) + 1) (dp q p i + if q.getD i 0 = r then 0 else 1) with l2 | l2
        · rw [Nat.min_eq_left l2]; exact h1
        · rw [Nat.min_eq_right l2]; exact h3
      · rw [Nat.min_eq_right l1]
        rcases Nat.le_total (stepRow q r (dp q p) i + 1) (dp q p i + if q.getD i 0 = r then 0 else 1) with l2 | l2
        · rw [Nat.min_eq_left l2]; exact h2
        · rw [Nat.min_eq_right l2]; exact h3
/-- The distance of two lists. -/
def far (a b : List Int) : Nat := dp a b a.length
theorem al_far (a b : List Int) : Al a b (far a b) := by have := al_dp a b a.length (Nat.le_refl _); rwa [List.take_length] at this
end Go.Proofs.Ytklidannncajiaa.Am

namespace Go.Proofs.Ytklidannncajiaa.Am
open Go.RowKit Go.Proofs.Ytklidannncajiaa.OW Go.Proofs.YtklidannncajiaaW.PrintWords Go.Proofs.YtklidannncajiaaW.PrintLast Go.Proofs.YtklidannncajiaaW.PrintMore

theorem wr (x : Int) (h1 : -9223372036854775808 ≤ x) (h2 : x ≤ 9223372036854775807) : wrap64 x = x := by
  unfold wrap64; omega
theorem bind_self {α : Type} (o : Option α) : (o.bind fun t => some t) = o := by cases o <;> rfl
theorem mx_eq (a b : Int) : mx a b = max a b := by unfold mx; split <;> omega
theorem mn_eq (a b : Int) : mn a b = min a b := by unfold mn; split <;> omega

/-! ### Rows -/
structure IsRow (xs : List Int) (n : Nat) (g : Nat → Int) : Prop where
  len : xs.length = n + 1
  at_ : ∀ i, i ≤ n → xs.getD i 0 = g i
def mkRow (n : Nat) (g : Nat → Int) : List Int := (List.range (n + 1)).map g
theorem isRow_mk (n : Nat) (g : Nat → Int) : IsRow (mkRow n g) n g :=
  ⟨by simp [mkRow], fun i hi => by simp [mkRow, List.getD_eq_getElem?_getD, List.getElem?_range (show i < n + 1 by omega)]⟩
theorem IsRow.eq {xs : List Int} {n : Nat} {g : Nat → Int} (h : IsRow xs n g) : xs = mkRow n g := by
  apply List.ext_getElem
  · rw [h.len, (isRow_mk n g).len]
  · intro i h1 h2
    have hi : i ≤ n := by have := h.len; omega
    have e1 := h.at_ i hi
    have e2 := (isRow_mk n g).at_ i hi
    simp only [List.getD_eq_getElem?_getD, List.getElem?_eq_getElem h1, List.getElem?_eq_getElem h2, Option.getD_some] at e1 e2
    rw [e1, e2]
theorem IsRow.rd_ {xs : List Int} {n : Nat} {g : Nat → Int} (h : IsRow xs n g) (i : Nat) (hi : i ≤ n) : rd xs (i : Int) = g i := by
  unfold rd; rw [Int.toNat_natCast]; exact h.at_ i hi
theorem IsRow.congr {xs : List Int} {n : Nat} {g g' : Nat → Int} (h : IsRow xs n g) (e : ∀ i, i ≤ n → g i = g' i) : IsRow xs n g' :=
  ⟨h.len, fun i hi => (h.at_ i hi).trans (e i hi)⟩
theorem getD_set (xs : List Int) (i j : Nat) (v : Int) (h : i < xs.length) : (xs.set i v).getD j 0 = if i = j then v else xs.getD j 0 := by
  simp only [List.getD_eq_getElem?_getD, List.getElem?_set, h]
  split <;> simp
theorem IsRow.set_ {xs : List Int} {n : Nat} {g : Nat → Int} (h : IsRow xs n g) (i : Nat) (hi : i ≤ n) (v : Int) : IsRow (xs.set i v) n (fun j => if i = j then v else g j) :=
  ⟨by rw [List.length_set, h.len], fun j hj => by rw [getD_set _ _ _ _ (by rw [h.len]; omega), h.at_ j hj]⟩

/-! ### spread: a state's whole row -/
/-- What one position does to the row. -/
def one (k : Nat) (p : S121) (g : Nat → Int) : Nat → Int := fun i => if (i : Int) - p.f0 ≤ k ∧ p.f0 - (i : Int) ≤ k then min (g i) (p.f1 + max ((i : Int) - p.f0) (p.f0 - (i : Int))) else g i
def mrow (k : Nat) : List S121 → (Nat → Int) → Nat → Int
  | [], g => g
  | p :: s, g => mrow k s (one k p g)
theorem mrow_le (k : Nat) : ∀ (s : List S121) (g : Nat → Int) (i : Nat), mrow k s g i ≤ g i
  | [], _, _ => Int.le_refl _
  | p :: s, g, i => by
    have h := mrow_le k s (one k p g) i
    have h2 : one k p g i ≤ g i := by unfold one; split <;> omega
    show mrow k s (one k p g) i ≤ g i
    omega
theorem mrow_le_mem (k : Nat) : ∀ (s : List S121) (g : Nat → Int) (i : Nat) (p : S121), p ∈ s → (i : Int) - p.f0 ≤ k → p.f0 - (i : Int) ≤ k → mrow k s g i ≤ p.f1 + max ((i : Int) - p.f0) (p.f0 - (i : Int))
  | p' :: s, g, i, p, hp, h1, h2 => by
    show mrow k s (one k p' g) i ≤ _
    rcases List.mem_cons.1 hp with rfl | hp
    · have h := mrow_le k s (one k p g) i
      have h3 : one k p g i ≤ p.f1 + max ((i : Int) - p.f0) (p.f0 - (i : Int)) := by unfold one; rw [if_pos ⟨h1, h2⟩]; omega
      omega
    · exact mrow_le_mem k s _ i p hp h1 h2
theorem mrow_ge (k : Nat) (c : Int) (i : Nat) : ∀ (s : List S121) (g : Nat → Int), c ≤ g i → (∀ p ∈ s, c ≤ p.f1 + max ((i : Int) - p.f0) (p.f0 - (i : Int))) → c ≤ mrow k s g i
  | [], _, h, _ => h
  | p :: s, g, h, hs => by
    show c ≤ mrow k s (one k p g) i
    refine mrow_ge k c i s _ ?_ (fun q hq => hs q (List.mem_cons_of_mem _ hq))
    have := hs p (List.mem_cons_self ..)
    unfold one
    split <;> omega

theorem spread_l2 (q : List Int) (k : Nat) (hk : k ≤ 4) (hq : q.length ≤ 16) (s : List S121) (p : S121) (t : Int) (h0 : 0 ≤ p.f0) (h1 : p.f0 ≤ q.length) (h2 : 0 ≤ p.f1) (h3 : p.f1 ≤ k) (R : List Int) :
    ∀ (d x : Nat) (xs : List Int) (g : Nat → Int), IsRow xs q.length g → (x : Int) + d = max (min (p.f0 + k) q.length + 1) (x : Int) →
      (∀ xs', IsRow xs' q.length (fun i => if x ≤ i ∧ (i : Int) ≤ min (p.f0 + k) q.length then min (g i) (p.f1 + max ((i : Int) - p.f0) (p.f0 - (i : Int))) else g i) → Ev (fun K => auto_spread.l1 K q k xs' s s.length (wrap64 (t + 1))) R) →
      Ev (fun K => auto_spread.l2 K q k xs (x : Int) s s.length t p.f0 p.f1) R := by
  intro d
  induction d with
  | zero =>
    intro x xs g hr hd hc
    refine Ev.step (fun K => ?_) (hc xs (hr.congr fun i hi => ?_))
    · simp only [auto_spread.l2]
      rw [if_neg (by rw [mn_eq, wr _ (by omega) (by omega)]; omega)]
    · rw [if_neg (by omega)]
  | succ d ih =>
    intro x xs g hr hd hc
    have hx : (x : Int) ≤ min (p.f0 + k) q.length := by omega
    have hxn : x ≤ q.length := by omega
    refine Ev.step (fun K => ?_) (ih (x + 1) (xs.set x (min (g x) (p.f1 + max ((x : Int) - p.f0) (p.f0 - (x : Int))))) _ (hr.set_ x hxn _) (by omega) fun xs' hr' => hc xs' (hr'.congr fun i hi => ?_))
    · simp only [auto_spread.l2]
      rw [if_pos (by rw [mn_eq, wr _ (by omega) (by omega)]; omega), if_pos (by omega), if_pos (by rw [hr.len]; omega)]
      rw [hr.rd_ x hxn, mn_eq, mx_eq, wr ((x : Int) - p.f0) (by omega) (by omega), wr (p.f0 - (x : Int)) (by omega) (by omega), wr (p.f1 + _) (by omega) (by omega), wr ((x : Int) + 1) (by omega) (by omega), Int.toNat_natCast]
      rfl
    · by_cases e : x = i
      · subst e
        rw [if_neg (by omega), if_pos rfl, if_pos (by omega)]
      · rw [if_neg e]
        by_cases c : x ≤ i ∧ (i : Int) ≤ min (p.f0 + k) q.length
        · rw [if_pos c, if_pos (by omega)]
        · rw [if_neg c, if_neg (by omega)]

theorem rd_T121_mid (pre suf : List S121) (p : S121) : rd_T121 (pre ++ p :: suf) (pre.length : Int) = p := by
  simp [rd_T121, List.getD_eq_getElem?_getD]
theorem spread_l1 (q : List Int) (k : Nat) (hk : k ≤ 4) (hq : q.length ≤ 16) (s : List S121) (hs : s.length ≤ 100) :
    ∀ (suf pre : List S121) (xs : List Int) (g : Nat → Int), s = pre ++ suf → IsRow xs q.length g → (∀ p ∈ suf, 0 ≤ p.f0 ∧ p.f0 ≤ q.length ∧ 0 ≤ p.f1 ∧ p.f1 ≤ k) →
      Ev (fun K => auto_spread.l1 K q k xs s s.length (pre.length : Int)) (mkRow q.length (mrow k suf g)) := by
  intro suf
  induction suf with
  | nil =>
    intro pre xs g he hr _
    refine Ev.step (fun K => ?_) (Ev.now _)
    simp only [auto_spread.l1]
    rw [if_neg (by rw [he]; simp), hr.eq]
    rfl
  | cons p suf ih =>
    intro pre xs g he hr hv
    obtain ⟨h0, h1, h2, h3⟩ := hv p (List.mem_cons_self ..)
    have hl : s.length = pre.length + (suf.length + 1) := by rw [he]; simp
    have hp : rd_T121 s (pre.length : Int) = p := by rw [he]; exact rd_T121_mid _ _ _
    refine Ev.step (fun K => ?_) (Ev.step (f := fun K => auto_spread.l2 K q k xs (mx (wrap64 (p.f0 - k)) 0) s s.length pre.length p.f0 p.f1) (g := fun K => auto_spread.j2 K q k xs s s.length pre.length false p.f0 p.f1) (fun K => ?_) ?_)
    · simp only [auto_spread.l1]
      rw [if_pos (by omega), if_pos (by omega), if_pos (by omega), hp, if_neg (by omega), if_neg (by omega), if_neg (by omega)]
      rw [show decide (p.f1 > (k : Int)) = false by simp; omega]
    · simp only [auto_spread.j2]
      rfl
    · obtain ⟨x, hx⟩ : ∃ x : Nat, (x : Int) = mx (wrap64 (p.f0 - k)) 0 := ⟨(mx (wrap64 (p.f0 - k)) 0).toNat, by rw [mx_eq]; omega⟩
      rw [← hx]
      have hx' : (x : Int) = max (p.f0 - k) 0 := by rw [hx, mx_eq, wr _ (by omega) (by omega)]
      refine spread_l2 q k hk hq s p pre.length h0 h1 h2 h3 _ (max (min (p.f0 + k) q.length + 1) (x : Int) - x).toNat x xs g hr (by omega) fun xs' hr' => ?_
      rw [wr _ (by omega) (by omega)]
      have := ih (pre ++ [p]) xs' (one k p g) (by rw [he]; simp) (hr'.congr fun i hi => ?_) (fun p' hp' => hv p' (List.mem_cons_of_mem _ hp'))
      · rw [List.length_append, List.length_singleton, Int.natCast_add] at this
        exact this
      · unfold one
        by_cases c : (i : Int) - p.f0 ≤ k ∧ p.f0 - (i : Int) ≤ k
        · rw [if_pos c, if_pos (by omega)]
        · rw [if_neg c, if_neg (by omega)]
theorem spread_l0 (q : List Int) (k : Nat) (hk : k ≤ 4) (hq : q.length ≤ 16) (s : List S121) (R : List Int)
    (hc : Ev (fun K => auto_spread.l1 K q k (mkRow q.length (fun _ => (k : Int) + 1)) s s.length 0) R) :
    ∀ (d x : Nat) (xs : List Int), xs.length = q.length + 1 → x + d = q.length + 1 → (∀ i, i < x → xs.getD i 0 = (k : Int) + 1) →
      Ev (fun K => auto_spread.l0 K q k s xs ((q.length : Int) + 1) (x : Int)) R := by
  intro d
  induction d with
  | zero =>
    intro x xs hl hd hx
    have hr : IsRow xs q.length (fun _ => (k : Int) + 1) := ⟨hl, fun i hi => hx i (by omega)⟩
    refine Ev.step (fun K => ?_) hc
    simp only [auto_spread.l0]
    rw [if_neg (by omega), hr.eq]
  | succ d ih =>
    intro x xs hl hd hx
    refine Ev.step (fun K => ?_) (ih (x + 1) (xs.set x ((k : Int) + 1)) (by rw [List.length_set, hl]) (by omega) (fun i hi => ?_))
    · simp only [auto_spread.l0]
      rw [if_pos (by omega), if_pos (by omega), if_pos (by rw [hl]; omega), wr ((k : Int) + 1) (by omega) (by omega), wr ((x : Int) + 1) (by omega) (by omega), Int.toNat_natCast]
      rfl
    · rw [getD_set _ _ _ _ (by omega)]
      by_cases e : x = i
      · rw [if_pos e]
      · rw [if_neg e]; exact hx i (by omega)
theorem spread_any (q : List Int) (k : Nat) (hk : k ≤ 4) (hq : q.length ≤ 16) (s : List S121) (hs : s.length ≤ 100) (hv : ∀ p ∈ s, 0 ≤ p.f0 ∧ p.f0 ≤ q.length ∧ 0 ≤ p.f1 ∧ p.f1 ≤ k) :
    Ev (fun K => auto_spread.f K q k s) (mkRow q.length (mrow k s (fun _ => (k : Int) + 1))) := by
  have h1 := spread_l1 q k hk hq s hs s [] (mkRow q.length (fun _ => (k : Int) + 1)) _ rfl (isRow_mk _ _) hv
  have h0 := spread_l0 q k hk hq s _ h1 (q.length + 1) 0 (List.replicate (q.length + 1) 0) (by simp) (by omega) (fun i hi => by omega)
  refine Ev.congr (fun K => ?_) h0
  unfold auto_spread.f
  have e : (wrap64 ((q.length : Int) + 1)).toNat = q.length + 1 := by rw [wr _ (by omega) (by omega)]; omega
  rw [if_pos (by rw [wr _ (by omega) (by omega)]; omega), if_pos (by omega), e, Option.bind_some, List.length_replicate]
  rfl

/-! ### The state of a row -/
def keep (k n : Nat) (f : Nat → Nat) (j : Nat) : Bool := decide (f j ≤ k) && !(List.range (n + 1)).any (fun i => decide (f i < f j) && decide ((i - j) + (j - i) ≤ f j - f i))
theorem keep_iff (k n : Nat) (f : Nat → Nat) (j : Nat) : keep k n f j = true ↔ f j ≤ k ∧ ∀ i, i ≤ n → f i < f j → ¬ ((i - j) + (j - i) ≤ f j - f i) := by
  unfold keep
  simp only [Bool.and_eq_true, decide_eq_true_eq, Bool.not_eq_true', List.any_eq_false, List.mem_range, Nat.lt_succ_iff, not_and]
/-- The state of a row of distances. -/
def St (k n : Nat) (f : Nat → Nat) : List S121 := ((List.range (n + 1)).filter (keep k n f)).map (fun j : Nat => (⟨(j : Int), (f j : Int)⟩ : S121))
theorem St_len (k n : Nat) (f : Nat → Nat) : (St k n f).length ≤ n + 1 := by
  unfold St
  rw [List.length_map]
  exact Nat.le_trans (List.length_filter_le _ _) (by simp)
theorem St_mem {k n : Nat} {f : Nat → Nat} {p : S121} : p ∈ St k n f ↔ ∃ j, j ≤ n ∧ keep k n f j = true ∧ p = ⟨(j : Int), (f j : Int)⟩ := by
  unfold St
  simp only [List.mem_map, List.mem_filter, List.mem_range, Nat.lt_succ_iff]
  constructor
  · rintro ⟨j, ⟨h1, h2⟩, rfl⟩; exact ⟨j, h1, h2, rfl⟩
  · rintro ⟨j, h1, h2, rfl⟩; exact ⟨j, ⟨h1, h2⟩, rfl⟩
theorem St_valid {k n : Nat} {f : Nat → Nat} : ∀ p ∈ St k n f, 0 ≤ p.f0 ∧ p.f0 ≤ n ∧ 0 ≤ p.f1 ∧ p.f1 ≤ k := by
  intro p hp
  obtain ⟨j, h1, h2, rfl⟩ := St_mem.1 hp
  have := (keep_iff k n f j).1 h2
  refine ⟨?_, ?_, ?_, ?_⟩ <;> simp <;> omega
/-- Each distance that is not above k is told by a position that stays. -/
theorem kept_below (k n : Nat) (f : Nat → Nat) : ∀ (m j : Nat), f j ≤ m → j ≤ n → f j ≤ k → ∃ i, i ≤ n ∧ keep k n f i = true ∧ f i + ((i - j) + (j - i)) ≤ f j := by
  intro m
  induction m with
  | zero =>
    intro j h0 hj hk
    exact ⟨j, hj, (keep_iff _ _ _ _).2 ⟨hk, fun i _ hi => by omega⟩, by omega⟩
  | succ m ih =>
    intro j hm hj hk
    by_cases hkeep : keep k n f j = true
    · exact ⟨j, hj, hkeep, by omega⟩
    · rw [keep_iff] at hkeep
      have : ∃ i, i ≤ n ∧ f i < f j ∧ (i - j) + (j - i) ≤ f j - f i := by
        apply Classical.byContradiction
        intro hno
        exact hkeep ⟨hk, fun i hi h1 h2 => hno ⟨i, hi, h1, h2⟩⟩
      obtain ⟨i, hi, h1, h2⟩ := this
      obtain ⟨i', hi', h3, h4⟩ := ih i (by omega) hi (by omega)
      exact ⟨i', hi', h3, by omega⟩
theorem mrow_St (k n : Nat) (f : Nat → Nat) (hf : Lip f) (i : Nat) (hi : i ≤ n) : mrow k (St k n f) (fun _ => (k : Int) + 1) i = ((min (f i) (k + 1) : Nat) : Int) := by
  have h1 := mrow_le k (St k n f) (fun _ => (k : Int) + 1) i
  have h2 : ((min (f i) (k + 1) : Nat) : Int) ≤ mrow k (St k n f) (fun _ => (k : Int) + 1) i := by
    refine mrow_ge k _ i _ _ (by omega) fun p hp => ?_
    obtain ⟨j, hj, hkeep, rfl⟩ := St_mem.1 hp
    have := hf.any i j
    simp only
    omega
  by_cases hk : f i ≤ k
  · obtain ⟨j, hj, hkeep, hle⟩ := kept_below k n f (f i) i (Nat.le_refl _) hi hk
    have h3 := mrow_le_mem k (St k n f) (fun _ => (k : Int) + 1) i ⟨(j : Int), (f j : Int)⟩ (St_mem.2 ⟨j, hj, hkeep, rfl⟩) (by simp only; omega) (by simp only; omega)
    simp only at h3
    omega
  · omega
/-- A row of distances, none told above k and 1. -/
def cap (k n : Nat) (f : Nat → Nat) : List Int := mkRow n (fun i => ((min (f i) (k + 1) : Nat) : Int))
theorem cap_row (k n : Nat) (f : Nat → Nat) : IsRow (cap k n f) n (fun i => ((min (f i) (k + 1) : Nat) : Int)) := isRow_mk _ _
theorem spread_St (q : List Int) (k : Nat) (hk : k ≤ 4) (hq : q.length ≤ 16) (f : Nat → Nat) (hf : Lip f) :
    Ev (fun K => auto_spread.f K q k (St k q.length f)) (cap k q.length f) := by
  have h := spread_any q k hk hq (St k q.length f) (by have := St_len k q.length f; omega) St_valid
  have e : mkRow q.length (mrow k (St k q.length f) (fun _ => (k : Int) + 1)) = cap k q.length f :=
    ((isRow_mk q.length (mrow k (St k q.length f) (fun _ => (k : Int) + 1))).congr fun i hi => mrow_St k q.length f hf i hi).eq
  rwa [e] at h

theorem state_l1 (k n : Nat) (hk : k ≤ 4) (hn : n ≤ 16) (f : Nat → Nat) (xs : List Int) (hr : IsRow xs n (fun i => ((min (f i) (k + 1) : Nat) : Int))) (j : Nat) (hj : j ≤ n) (hfj : f j ≤ k) (acc : List S121) (R : List S121) :
    ∀ (d x : Nat) (b : Bool), (x : Int) + d = max ((min ((j : Int) + k) n) + 1) x →
      (∀ b', (b' = true ↔ (b = true ∨ ∃ i : Nat, x ≤ i ∧ i ≤ j + k ∧ i ≤ n ∧ f i < f j ∧ (i - j) + (j - i) ≤ f j - f i)) →
        Ev (fun K => if b' = true then (auto_state.l0 K xs k acc xs xs.length ((j : Int) + 1)) else (if acc.length < 8796093022208 then (auto_state.l0 K xs k (acc ++ [(⟨(j : Int), (f j : Int)⟩ : S121)]) xs xs.length ((j : Int) + 1)) else none)) R) →
      Ev (fun K => auto_state.l1 K xs k acc j (f j) b x xs xs.length j) R := by
  intro d
  have hl := hr.len
  induction d with
  | zero =>
    intro x b hd hc
    refine Ev.step (fun K => ?_) (hc b ⟨fun h => .inl h, fun h => ?_⟩)
    · simp only [auto_state.l1]
      rw [if_neg (by rw [mn_eq, wr _ (by omega) (by omega), wr _ (by omega) (by omega)]; omega), wr ((j : Int) + 1) (by omega) (by omega)]
    · rcases h with h | ⟨i, h1, h2, h3, _⟩
      · exact h
      · omega
  | succ d ih =>
    intro x b hd hc
    have hx : x ≤ j + k ∧ x ≤ n := by omega
    have hg : (x : Int) ≤ mn (wrap64 ((j : Int) + k)) (wrap64 ((xs.length : Int) - 1)) := by rw [mn_eq, wr _ (by omega) (by omega), wr _ (by omega) (by omega)]; omega
    have hw : wrap64 ((x : Int) + 1) = ((x + 1 : Nat) : Int) := by rw [wr _ (by omega) (by omega)]; rfl
    have hrd := hr.rd_ x hx.2
    by_cases hb : b = true
    · subst hb
      refine Ev.step (fun K => ?_) (ih (x + 1) true (by omega) fun b' hb' => hc b' (hb'.trans ⟨fun _ => .inl rfl, fun _ => .inl rfl⟩))
      simp only [auto_state.l1]
      rw [if_pos hg, if_pos trivial, hw]
    · have hbf : b = false := by simpa using hb
      subst hbf
      by_cases hlt : f x < f j
      · refine Ev.step (fun K => ?_) (ih (x + 1) (decide ((x - j) + (j - x) ≤ f j - f x)) (by omega) fun b' hb' => hc b' (hb'.trans ?_))
        · simp only [auto_state.l1]
          rw [if_pos hg, if_neg (by simp), if_pos (by omega), if_pos (by omega), hrd, if_pos (by omega), hw, mx_eq, wr ((x : Int) - j) (by omega) (by omega), wr ((j : Int) - x) (by omega) (by omega), wr _ (by omega) (by omega)]
          have e : decide (max ((x : Int) - j) ((j : Int) - x) ≤ (f j : Int) - ((min (f x) (k + 1) : Nat) : Int)) = decide ((x - j) + (j - x) ≤ f j - f x) := by
            rw [decide_eq_decide]; omega
          rw [e]
        · constructor
          · rintro (h | ⟨i, h1, h2⟩)
            · exact .inr ⟨x, Nat.le_refl _, hx.1, hx.2, hlt, by simpa using h⟩
            · exact .inr ⟨i, by omega, h2⟩
          · rintro (h | ⟨i, h1, h2, h3, h4, h5⟩)
            · exact absurd h (by simp)
            · by_cases e : i = x
              · subst e; exact .inl (by simpa using h5)
              · exact .inr ⟨i, by omega, h2, h3, h4, h5⟩
      · refine Ev.step (fun K => ?_) (ih (x + 1) false (by omega) fun b' hb' => hc b' (hb'.trans ?_))
        · simp only [auto_state.l1]
          rw [if_pos hg, if_neg (by simp), if_pos (by omega), if_pos (by omega), hrd, if_neg (by omega), hw]
        · constructor
          · rintro (h | ⟨i, h1, h2⟩)
            · exact .inl h
            · exact .inr ⟨i, by omega, h2⟩
          · rintro (h | ⟨i, h1, h2, h3, h4, h5⟩)
            · exact .inl h
            · by_cases e : i = x
              · subst e; exact absurd h4 hlt
              · exact .inr ⟨i, by omega, h2, h3, h4, h5⟩
theorem state_l0 (k n : Nat) (hk : k ≤ 4) (hn : n ≤ 16) (f : Nat → Nat) (xs : List Int) (hr : IsRow xs n (fun i => ((min (f i) (k + 1) : Nat) : Int))) :
    ∀ (d j : Nat) (acc : List S121), j + d = n + 1 → acc.length ≤ j →
      Ev (fun K => auto_state.l0 K xs k acc xs xs.length (j : Int)) (acc ++ ((List.range' j d).filter (keep k n f)).map (fun j : Nat => (⟨(j : Int), (f j : Int)⟩ : S121))) := by
  intro d
  have hl := hr.len
  induction d with
  | zero =>
    intro j acc hd _
    refine Ev.step (fun K => ?_) (Ev.now _)
    simp only [auto_state.l0]
    rw [if_neg (by omega)]
    simp
  | succ d ih =>
    intro j acc hd hacc
    have hjn : j ≤ n := by omega
    have hrd := hr.rd_ j hjn
    have hw : wrap64 ((j : Int) + 1) = ((j + 1 : Nat) : Int) := by rw [wr _ (by omega) (by omega)]; rfl
    rw [List.range'_succ, List.filter_cons]
    by_cases hf : f j ≤ k
    · refine Ev.step (f := fun K => auto_state.l1 K xs k acc j (f j) false (max ((j : Int) - k) 0) xs xs.length j) (fun K => ?_) ?_
      · simp only [auto_state.l0]
        rw [if_pos (by omega), if_pos (by omega), if_pos (by omega), hrd, if_neg (by omega), mx_eq, wr _ (by omega) (by omega), show ((min (f j) (k + 1) : Nat) : Int) = (f j : Int) by omega]
      · obtain ⟨x, hx⟩ : ∃ x : Nat, (x : Int) = max ((j : Int) - k) 0 := ⟨(max ((j : Int) - k) 0).toNat, by omega⟩
        rw [← hx]
        refine state_l1 k n hk hn f xs hr j hjn hf acc _ (max ((min ((j : Int) + k) n) + 1) x - x).toNat x false (by omega) fun b' hb' => ?_
        have hkb : keep k n f j = !b' := by
          rw [Bool.eq_iff_iff, keep_iff]
          constructor
          · intro h
            cases b' with
            | false => rfl
            | true =>
              rcases hb'.1 rfl with h' | ⟨i, _, _, h3, h4, h5⟩
              · exact absurd h' (by simp)
              · exact absurd h5 (h.2 i h3 h4)
          · intro h
            refine ⟨hf, fun i hi h4 h5 => ?_⟩
            have : b' = true := hb'.2 (.inr ⟨i, by omega, by omega, hi, h4, h5⟩)
            rw [this] at h
            exact absurd h (by simp)
        rw [hkb]
        cases b' with
        | true =>
          simp only [if_true, Bool.not_true, Bool.false_eq_true, if_false]
          exact ih (j + 1) acc (by omega) (by omega)
        | false =>
          simp only [Bool.false_eq_true, if_false, Bool.not_false, if_true, List.map_cons, show acc.length < 8796093022208 from by omega]
          have := ih (j + 1) (acc ++ [⟨(j : Int), (f j : Int)⟩]) (by omega) (by simp; omega)
          simpa [List.append_assoc] using this
    · have hkf : keep k n f j = false := by
        apply Bool.eq_false_iff.2
        intro h
        exact hf ((keep_iff _ _ _ _).1 h).1
      rw [hkf]
      refine Ev.step (fun K => ?_) (ih (j + 1) acc (by omega) (by omega))
      simp only [auto_state.l0]
      rw [if_pos (by omega), if_pos (by omega), if_pos (by omega), hrd, if_pos (by omega), hw]
theorem state_cap (k n : Nat) (hk : k ≤ 4) (hn : n ≤ 16) (f : Nat → Nat) : Ev (fun K => auto_state.f K (cap k n f) k) (St k n f) := by
  have := state_l0 k n hk hn f _ (cap_row k n f) (n + 1) 0 [] (by omega) (by simp)
  rw [← List.range_eq_range'] at this
  exact this

/-! ### One rune more -/
theorem step_l0 (q : List Int) (r : Int) (k : Nat) (hk : k ≤ 4) (hq : q.length ≤ 16) (f : Nat → Nat) :
    ∀ (d i : Nat) (ys : List Int), i + d = q.length → ys.length = q.length + 1 → (∀ j, j ≤ i → ys.getD j 0 = ((min (stepRow q r f j) (k + 1) : Nat) : Int)) →
      Ev (fun K => auto_Step.l0 K k r (cap k q.length f) ys q q.length (i : Int)) (St k q.length (stepRow q r f)) := by
  intro d
  have hr := cap_row k q.length f
  have hl := hr.len
  induction d with
  | zero =>
    intro i ys hd hy hv
    have e : ys = cap k q.length (stepRow q r f) := (IsRow.eq ⟨hy, fun j hj => hv j (by omega)⟩)
    subst e
    refine Ev.step (fun K => ?_) (state_cap k q.length hk hq (stepRow q r f))
    simp only [auto_Step.l0]
    rw [if_neg (by omega)]
    exact bind_self _
  | succ d ih =>
    intro i ys hd hy hv
    have hw : wrap64 ((i : Int) + 1) = ((i + 1 : Nat) : Int) := by rw [wr _ (by omega) (by omega)]; rfl
    have h1 := hr.rd_ i (by omega)
    have h2 := hr.rd_ (i + 1) (by omega)
    have h3 : rd ys (i : Int) = ((min (stepRow q r f i) (k + 1) : Nat) : Int) := by unfold rd; rw [Int.toNat_natCast]; exact hv i (Nat.le_refl _)
    have hgd : rd q (i : Int) = q.getD i 0 := by unfold rd; rw [Int.toNat_natCast]
    refine Ev.step (fun K => ?_) (ih (i + 1) (ys.set (i + 1) ((min (stepRow q r f (i + 1)) (k + 1) : Nat) : Int)) (by omega) (by rw [List.length_set, hy]) fun j hj => ?_)
    · simp only [auto_Step.l0]
      rw [if_pos (by omega), if_pos (by omega), if_pos (by omega), if_pos (by omega), hw, h1, h2, h3, hgd]
      by_cases e : q.getD i 0 = r
      · rw [if_pos e, if_pos (by omega), if_pos (by omega), if_pos (by omega), if_pos (by omega), mn_eq, mn_eq, mn_eq, wr (((min (f (i + 1)) (k + 1) : Nat) : Int) + 1) (by omega) (by omega), wr (((min (stepRow q r f i) (k + 1) : Nat) : Int) + 1) (by omega) (by omega), wr ((k : Int) + 1) (by omega) (by omega), Int.toNat_natCast]
        simp only [stepRow]
        rw [if_pos e]
        congr 2
        omega
      · rw [if_neg e, if_pos (by omega), if_pos (by omega), if_pos (by omega), if_pos (by omega), mn_eq, mn_eq, mn_eq, wr (((min (f (i + 1)) (k + 1) : Nat) : Int) + 1) (by omega) (by omega), wr (((min (stepRow q r f i) (k + 1) : Nat) : Int) + 1) (by omega) (by omega), wr (((min (f i) (k + 1) : Nat) : Int) + 1) (by omega) (by omega), wr ((k : Int) + 1) (by omega) (by omega), Int.toNat_natCast]
        simp only [stepRow]
        rw [if_neg e]
        congr 2
        omega
    · rw [getD_set _ _ _ _ (by omega)]
      by_cases e : i + 1 = j
      · rw [if_pos e, e]
      · rw [if_neg e]; exact hv j (by omega)
theorem may_yes (k : Nat) (hk : k ≤ 4) : auto_may.f k = some true := by
  unfold auto_may.f
  rw [if_pos (by omega)]
  simp
  omega
theorem Step_St (q : List Int) (r : Int) (k : Nat) (hk : k ≤ 4) (hq : q.length ≤ 16) (f : Nat → Nat) (hf : Lip f) :
    Ev (fun K => auto_Step.f K q k (St k q.length f) r) (St k q.length (stepRow q r f)) := by
  have hr := cap_row k q.length f
  have hl := hr.len
  have h0 := hr.rd_ 0 (by omega)
  have h := step_l0 q r k hk hq f q.length 0 ((cap k q.length f).set 0 ((min (stepRow q r f 0) (k + 1) : Nat) : Int)) (by omega) (by rw [List.length_set, hl]) (fun j hj => by
    obtain rfl : j = 0 := by omega
    rw [getD_set _ _ _ _ (by omega), if_pos rfl])
  refine Ev.congr (f := fun K => (auto_spread.f K q k (St k q.length f)).bind fun t122 => ((slices_Clone_int_int.f t122).bind fun t125 => (if 0 < (t122.length : Int) then (if 0 < (t125.length : Int) then (auto_Step.l0 K k r t122 (t125.set (0 : Int).toNat (mn (wrap64 ((rd t122 0) + 1)) (wrap64 ((k : Int) + 1)))) q (q.length : Int) 0) else (none)) else (none)))) (fun K => ?_) (Ev.bind (spread_St q k hk hq f hf) (Ev.congr (fun K => ?_) h))
  · unfold auto_Step.f
    rw [may_yes k hk, Option.bind_some, if_pos rfl]
  · unfold slices_Clone_int_int.f
    rw [if_pos (by omega), Option.bind_some, if_pos (by omega), if_pos (by omega), show ((0 : Nat) : Int) = 0 from rfl] at *
    rw [h0, mn_eq, wr _ (by omega) (by omega), wr _ (by omega) (by omega)]
    have e : min (((min (f 0) (k + 1) : Nat) : Int) + 1) ((k : Int) + 1) = ((min (stepRow q r f 0) (k + 1) : Nat) : Int) := by simp only [stepRow]; omega
    rw [e]
    rfl
end Go.Proofs.Ytklidannncajiaa.Am

namespace Go.Proofs.Ytklidannncajiaa.Am
open Go.RowKit Go.Proofs.Ytklidannncajiaa.OW Go.Proofs.YtklidannncajiaaW.PrintWords Go.Proofs.YtklidannncajiaaW.PrintLast Go.Proofs.YtklidannncajiaaW.PrintMore

theorem St_start (k : Nat) (n : Nat) : St k n (fun i => i) = [⟨0, 0⟩] := by
  unfold St
  rw [List.range_eq_range', List.range'_succ, List.filter_cons]
  have h0 : keep k n (fun i => i) 0 = true := (keep_iff _ _ _ _).2 ⟨Nat.zero_le _, fun i _ h => by omega⟩
  rw [h0, if_pos rfl]
  have h1 : (List.range' (0 + 1) n).filter (keep k n (fun i => i)) = [] := by
    rw [List.filter_eq_nil_iff]
    intro j hj
    rw [List.mem_range'] at hj
    obtain ⟨m, hm, rfl⟩ := hj
    rw [keep_iff]
    intro h
    have := h.2 0 (Nat.zero_le _) (by omega)
    omega
  rw [h1]
  rfl
theorem Start_St (q : List Int) (k : Nat) (hk : k ≤ 4) : auto_Start.f q k = some (St k q.length (dp q [])) := by
  unfold auto_Start.f
  rw [may_yes k hk, Option.bind_some, if_pos rfl]
  rw [show dp q [] = fun i => i from rfl, St_start]
theorem Step_dp (q p : List Int) (r : Int) (k : Nat) (hk : k ≤ 4) (hq : q.length ≤ 16) :
    Ev (fun K => auto_Step.f K q k (St k q.length (dp q p)) r) (St k q.length (dp q (p ++ [r]))) := by
  rw [dp_snoc]
  exact Step_St q r k hk hq _ (lip_dp q p)
theorem Dist_dp (q p : List Int) (k : Nat) (hk : k ≤ 4) (hq : q.length ≤ 16) :
    Ev (fun K => auto_Dist.f K q k (St k q.length (dp q p))) (if far q p ≤ k then ((far q p : Int), true) else (0, false)) := by
  have hr := cap_row k q.length (dp q p)
  have h1 := hr.rd_ q.length (Nat.le_refl _)
  refine Ev.congr (f := fun K => (auto_spread.f K q k (St k q.length (dp q p))).bind fun t268 => (if 0 ≤ (q.length : Int) then (if (q.length : Int) < (t268.length : Int) then (if (rd t268 (q.length : Int)) > k then (some (0, false)) else (some (rd t268 (q.length : Int), true))) else (none)) else (none))) (fun K => ?_) (Ev.bind (spread_St q k hk hq _ (lip_dp q p)) (Ev.congr (fun K => ?_) (Ev.now _)))
  · unfold auto_Dist.f
    rw [may_yes k hk, Option.bind_some, if_pos rfl]
  · rw [if_pos (by omega), if_pos (by rw [hr.len]; omega), h1]
    unfold far
    by_cases c : dp q p q.length ≤ k
    · rw [if_pos c, if_neg (by omega), show min (dp q p q.length) (k + 1) = dp q p q.length by omega]
    · rw [if_neg c, if_pos (by omega)]
end Go.Proofs.Ytklidannncajiaa.Am

-- Laid by a program of this session (wip/ownprint.py, wip/hooks.py) over the seat's translation. Lean checks it.
namespace Go.Proofs.Ytklidannncajiaa.OW
open Go.RowKit Go.Proofs.YtklidannncajiaaW.PrintWords Go.Proofs.YtklidannncajiaaW.PrintLast Go.Proofs.YtklidannncajiaaW.PrintMore
attribute [local go_sem] max2_int min2_int max_two min_two max_three min_three max_four min_four   -- for this text's walks alone
set_option linter.unusedVariables false
set_option linter.unusedSimpArgs false

theorem eqA24 (d : Nat) (w : World) (x0 y0 : Int) (x1 y1 : ByteArray) :
    (Op.equalIn (d + 2) 24 (.agg #[.int .i64 x0, .string x1]) (.agg #[.int .i64 y0, .string y1])).run Try.prog w = .ok (x0 == y0 && (x1.toList == y1.toList)) w := by
  refine eqA_of Try.underlying24 (by kernel_rfl) ?_
  refine eqf_cons (by rfl) (by go_simp; rfl) (by go_simp; rfl) (by go_simp) ?_
  exact eqf_last (by rfl) (by go_simp; rfl) (by go_simp; rfl) (by go_simp)
end Go.Proofs.Ytklidannncajiaa.OW
