/- What the row of the law WalkDists leans on: contracts of functions and plain laws, each for all inputs that its own theorem names. -/
import Derived.Test.YtklidannncajiaaDi15
import Derived.Test.YtklidannncajiaaDi17
import Derived.Test.YtklidannncajiaaDi16
import Derived.Outline
namespace Go.Proofs.Ytklidannncajiaa.OW
open Go.RowKit Go.Proofs.YtklidannncajiaaW.PrintWords Go.Proofs.YtklidannncajiaaW.PrintLast Go.Proofs.YtklidannncajiaaW.PrintMore Go.Proofs.Ytklidannncajiaa.Am
set_option linter.unusedVariables false
set_option linter.unusedSimpArgs false

theorem refless_ev {a b : S24} (ha : a.f1.size ≤ 1000000) (hb : b.f1.size ≤ 1000000) : Ev (fun K => inkhornref10_Less.f K a.f0 a.f1 b.f0 b.f1) (lessP a b) := by
  unfold inkhornref10_Less.f lessP
  by_cases h1 : a.f0 < b.f0
  · exact Ev.congr (f := fun _ => some _) (fun K => by rw [if_pos h1, decide_eq_true (.inl h1)]) (Ev.now _)
  · by_cases h2 : a.f0 = b.f0
    · refine Ev.congr (fun K => by rw [if_neg h1, if_pos h2]) (Ev.bind (refcompare_ev ha hb) ?_)
      have e : decide (Lib.compareBytes a.f1.data.toList b.f1.data.toList < 0) = decide (a.f0 < b.f0 ∨ (a.f0 = b.f0 ∧ ltB a.f1 b.f1)) := by
        rw [decide_eq_decide]
        exact ⟨fun h => .inr ⟨h2, h⟩, fun h => by rcases h with h | h; exact absurd h h1; exact h.2⟩
      rw [← e]
      exact Ev.now _
    · exact Ev.congr (f := fun _ => some _) (fun K => by rw [if_neg h1, if_neg h2, decide_eq_false (fun h => by rcases h with h | h; exact h1 h; exact h2 h.1)]) (Ev.now _)
/-! ### Put -/
def putP : List S24 → S24 → List S24
  | [], x => [x]
  | y :: ys, x => if lessP x y = true then x :: y :: ys else y :: putP ys x
theorem rd24 (l : List S24) (i : Nat) (h : i < l.length) : rd_T24 l (i : Int) = l[i] := by
  unfold rd_T24
  rw [Int.toNat_natCast, List.getD_eq_getElem?_getD, List.getElem?_eq_getElem h]; rfl
theorem put_in (l : List S24) (x : S24) (hl : l.length ≤ 1000) : ∀ (d i : Nat) (out : List S24), i + d = l.length → out.length ≤ i + 1 → Ev (fun K => inkhornref10_Put.l0 K l out true (i : Int) x.f0 x.f1) (out ++ l.drop i) := by
  intro d
  induction d with
  | zero =>
    intro i out hi ho
    rw [List.drop_eq_nil_of_le (by omega), List.append_nil]
    exact Ev.step (f := fun _ => some out) (fun K => by simp only [inkhornref10_Put.l0]; rw [if_neg (by omega), if_pos trivial]) (Ev.now _)
  | succ d ih =>
    intro i out hi ho
    have hil : i < l.length := by omega
    rw [List.drop_eq_getElem_cons hil]
    have := ih (i + 1) (out ++ [l[i]]) (by omega) (by rw [List.length_append, List.length_singleton]; omega)
    rw [List.append_assoc, List.singleton_append] at this
    refine Ev.step (fun K => ?_) this
    simp only [inkhornref10_Put.l0]
    rw [if_pos (by omega), if_pos trivial, if_pos (by omega), if_pos (by omega), rd24 l i hil, wr64 _ (by omega) (by omega)]
    rfl
theorem put_l0 (l : List S24) (x : S24) (hl : l.length ≤ 1000) (hx : x.f1.size ≤ 1000000) (hs : ∀ y ∈ l, y.f1.size ≤ 1000000) : ∀ (d i : Nat) (out : List S24), i + d = l.length → out.length ≤ i → Ev (fun K => inkhornref10_Put.l0 K l out false (i : Int) x.f0 x.f1) (out ++ putP (l.drop i) x) := by
  intro d
  induction d with
  | zero =>
    intro i out hi ho
    rw [List.drop_eq_nil_of_le (by omega)]
    exact Ev.step (f := fun _ => some _) (fun K => by simp only [inkhornref10_Put.l0]; rw [if_neg (by omega), if_neg (by simp), if_pos (by omega)]; rfl) (Ev.now _)
  | succ d ih =>
    intro i out hi ho
    have hil : i < l.length := by omega
    rw [List.drop_eq_getElem_cons hil]
    refine Ev.step (fun K => by simp only [inkhornref10_Put.l0]; rw [if_pos (by omega), if_neg (by simp), if_pos (by omega), rd24 l i hil]) (Ev.bind (refless_ev hx (hs _ (List.getElem_mem hil))) ?_)
    unfold putP
    cases hb : lessP x l[i] with
    | true =>
      simp only [if_true]
      have := put_in l x hl d (i + 1) (out ++ [x] ++ [l[i]]) (by omega) (by simp; omega)
      rw [List.append_assoc, List.append_assoc] at this
      refine Ev.congr (fun K => ?_) this
      rw [if_pos (by omega), Option.bind_some, if_pos (by rw [List.length_append, List.length_singleton]; omega), wr64 _ (by omega) (by omega)]
      simp
    | false =>
      simp only [Bool.false_eq_true, if_false]
      have := ih (i + 1) (out ++ [l[i]]) (by omega) (by rw [List.length_append, List.length_singleton]; omega)
      rw [List.append_assoc, List.singleton_append] at this
      refine Ev.congr (fun K => ?_) this
      rw [if_pos (by omega), wr64 _ (by omega) (by omega)]
      rfl
theorem put_ev (l : List S24) (x : S24) (hl : l.length ≤ 1000) (hx : x.f1.size ≤ 1000000) (hs : ∀ y ∈ l, y.f1.size ≤ 1000000) : Ev (fun K => inkhornref10_Put.f K l x.f0 x.f1) (putP l x) := by
  have := put_l0 l x hl hx hs l.length 0 [] (by omega) (by simp)
  rw [List.drop_zero, List.nil_append] at this
  exact this
theorem lessP_total {a b : S24} (h : ¬ lessP a b = true) (hne : a ≠ b) : lessP b a = true := by
  rw [lessP_iff] at h ⊢
  by_cases h1 : b.f0 < a.f0
  · exact .inl h1
  · have e : a.f0 = b.f0 := by
      by_cases h2 : a.f0 < b.f0
      · exact absurd (.inl h2) h
      · omega
    refine .inr ⟨e.symm, ltB.total (fun h3 => h (.inr ⟨e, h3⟩)) (fun h3 => hne ?_)⟩
    cases a; cases b
    simp only at e h3
    rw [e, h3]
theorem mem_put {x z : S24} : ∀ {l : List S24}, z ∈ putP l x ↔ z = x ∨ z ∈ l
  | [] => by simp [putP]
  | y :: ys => by
    unfold putP
    split
    · simp
    · rw [List.mem_cons, mem_put (l := ys), List.mem_cons]
      constructor
      · rintro (h | h | h)
        · exact .inr (.inl h)
        · exact .inl h
        · exact .inr (.inr h)
      · rintro (h | h | h)
        · exact .inr (.inl h)
        · exact .inl h
        · exact .inr (.inr h)
theorem put_sorted {x : S24} : ∀ {l : List S24}, l.Pairwise (fun a b => lessP a b = true) → x ∉ l → (putP l x).Pairwise (fun a b => lessP a b = true)
  | [], _, _ => by simp [putP]
  | y :: ys, h, hn => by
    obtain ⟨h1, h2⟩ := List.pairwise_cons.1 h
    have hxy : x ≠ y := fun e => hn (e ▸ List.mem_cons_self)
    unfold putP
    by_cases hl : lessP x y = true
    · rw [if_pos hl]
      refine List.pairwise_cons.2 ⟨fun z hz => ?_, h⟩
      rcases List.mem_cons.1 hz with rfl | hz
      · exact hl
      · exact lessP_trans hl (h1 z hz)
    · rw [if_neg hl]
      refine List.pairwise_cons.2 ⟨fun z hz => ?_, put_sorted h2 (fun hm => hn (List.mem_cons_of_mem _ hm))⟩
      rcases mem_put.1 hz with rfl | hz
      · exact lessP_total hl hxy
      · exact h1 z hz
theorem sorted_eq : ∀ {a b : List S24}, a.Pairwise (fun a b => lessP a b = true) → b.Pairwise (fun a b => lessP a b = true) → (∀ x, x ∈ a ↔ x ∈ b) → a = b
  | [], [], _, _, _ => rfl
  | [], y :: b, _, _, h => absurd ((h y).2 List.mem_cons_self) (by simp)
  | x :: a, [], _, _, h => absurd ((h x).1 List.mem_cons_self) (by simp)
  | x :: a, y :: b, ha, hb, h => by
    obtain ⟨a1, a2⟩ := List.pairwise_cons.1 ha
    obtain ⟨b1, b2⟩ := List.pairwise_cons.1 hb
    have e : x = y := by
      rcases List.mem_cons.1 ((h x).1 List.mem_cons_self) with h1 | h1
      · exact h1
      · rcases List.mem_cons.1 ((h y).2 List.mem_cons_self) with h2 | h2
        · exact h2.symm
        · exact absurd (lessP_trans (a1 y h2) (b1 x h1)) (lessP_irrefl x)
    subst e
    rw [sorted_eq a2 b2 (fun z => ?_)]
    constructor
    · intro hz
      rcases List.mem_cons.1 ((h z).1 (List.mem_cons_of_mem _ hz)) with rfl | h1
      · exact absurd (a1 z hz) (lessP_irrefl z)
      · exact h1
    · intro hz
      rcases List.mem_cons.1 ((h z).2 (List.mem_cons_of_mem _ hz)) with rfl | h1
      · exact absurd (b1 z hz) (lessP_irrefl z)
      · exact h1
theorem mem_levels {q : List Int} {l : List ByteArray} {n : Nat} {x : S24} : x ∈ levels q l 0 n ↔ ∃ w ∈ l, far q (runes w 0) < n ∧ x = ⟨(far q (runes w 0) : Int), w⟩ := by
  unfold levels
  rw [List.mem_flatMap]
  constructor
  · rintro ⟨d, hd, hx⟩
    unfold level near at hx
    obtain ⟨w, hw, rfl⟩ := List.mem_map.1 hx
    obtain ⟨hw1, hw2⟩ := List.mem_filter.1 hw
    have hw2 : far q (runes w 0) = d := by simpa using hw2
    have := (List.mem_range'_1.1 hd).2
    exact ⟨w, hw1, by omega, by rw [hw2]⟩
  · rintro ⟨w, hw, hlt, rfl⟩
    refine ⟨far q (runes w 0), List.mem_range'_1.2 ⟨Nat.zero_le _, by omega⟩, ?_⟩
    unfold level near
    exact List.mem_map.2 ⟨w, List.mem_filter.2 ⟨hw, by simp⟩, rfl⟩
theorem levels_len (q : List Int) (l : List ByteArray) : ∀ (n d : Nat), (levels q l d n).length ≤ n * l.length
  | 0, d => by simp [levels]
  | n + 1, d => by
    rw [levels_succ, List.length_append, Nat.succ_mul]
    have := level_len q l d
    have := levels_len q l n (d + 1)
    omega
theorem levels_put {q : List Int} {pre : List ByteArray} {w : ByteArray} (h : (pre ++ [w]).Pairwise ltB) (n : Nat) :
    levels q (pre ++ [w]) 0 n = if far q (runes w 0) < n then putP (levels q pre 0 n) ⟨(far q (runes w 0) : Int), w⟩ else levels q pre 0 n := by
  obtain ⟨h1, _, h3⟩ := List.pairwise_append.1 h
  have hnm : ∀ d : Int, (⟨d, w⟩ : S24) ∉ levels q pre 0 n := by
    intro d hm
    obtain ⟨v, hv, _, e⟩ := mem_levels.1 hm
    have : w = v := congrArg S24.f1 e
    subst this
    exact ltB.irrefl _ (h3 w hv w (List.mem_singleton.2 rfl))
  by_cases hlt : far q (runes w 0) < n
  · rw [if_pos hlt]
    refine sorted_eq (levels_sorted q h n 0) (put_sorted (levels_sorted q h1 n 0) (hnm _)) (fun x => ?_)
    rw [mem_put, mem_levels, mem_levels]
    constructor
    · rintro ⟨v, hv, h4, rfl⟩
      rcases List.mem_append.1 hv with hv | hv
      · exact .inr ⟨v, hv, h4, rfl⟩
      · rw [List.mem_singleton.1 hv]; exact .inl rfl
    · rintro (rfl | ⟨v, hv, h4, rfl⟩)
      · exact ⟨w, by simp, hlt, rfl⟩
      · exact ⟨v, List.mem_append_left _ hv, h4, rfl⟩
  · rw [if_neg hlt]
    refine sorted_eq (levels_sorted q h n 0) (levels_sorted q h1 n 0) (fun x => ?_)
    rw [mem_levels, mem_levels]
    constructor
    · rintro ⟨v, hv, h4, rfl⟩
      rcases List.mem_append.1 hv with hv | hv
      · exact ⟨v, hv, h4, rfl⟩
      · rw [List.mem_singleton.1 hv] at h4; exact absurd h4 hlt
    · rintro ⟨v, hv, h4, rfl⟩
      exact ⟨v, List.mem_append_left _ hv, h4, rfl⟩
theorem refall_ev {l : List ByteArray} (hg : GoodW l) (hb : ∀ w ∈ l, w.size ≤ 1000000) {s : ByteArray} (hs : s.size ≤ 1000000) (ha : isAsked s) (k : Nat) (hk : k ≤ 4) : Ev (fun K => inkhornref10_All.f K l s (k : Int)) (levels (runes s 0) l 0 (k + 1)) := by
  have hlen := hg.len
  have key : ∀ (d i : Nat), i + d = l.length → Ev (fun K => inkhornref10_All.l0 K l s (k : Int) (levels (runes s 0) (l.take i) 0 (k + 1)) (i : Int)) (levels (runes s 0) l 0 (k + 1)) := by
    intro d
    induction d with
    | zero =>
      intro i hi
      rw [List.take_of_length_le (by omega)]
      exact Ev.step (f := fun _ => some _) (fun K => by simp only [inkhornref10_All.l0]; rw [if_neg (by omega)]) (Ev.now _)
    | succ d ih =>
      intro i hi
      have hil : i < l.length := by omega
      have hm : l[i] ∈ l := List.getElem_mem hil
      have hw := hg.words _ hm
      have hd := refdist_ev (hb _ hm) hs hw.1 ha.1 (Nat.le_trans hw.2.2 (by omega)) ha.2
      rw [far_swap] at hd
      refine Ev.step (fun K => by simp only [inkhornref10_All.l0]; rw [if_pos (by omega), if_pos (by omega), rdOf_nat _ _ _ hil, wr64 _ (by omega) (by omega)]) (Ev.bind hd ?_)
      have e : l.take (i + 1) = l.take i ++ [l[i]] := by rw [List.take_add_one, List.getElem?_eq_getElem hil]; rfl
      have hp : (l.take i ++ [l[i]]).Pairwise ltB := by rw [← e]; exact hg.sorted.sublist (List.take_sublist _ _)
      have hput := levels_put (q := runes s 0) hp (k + 1)
      have := ih (i + 1) (by omega)
      rw [e, hput] at this
      by_cases hlt : far (runes s 0) (runes l[i] 0) < k + 1
      · rw [if_pos hlt] at this
        refine Ev.congr (fun K => by rw [if_pos (by omega), if_pos (by omega)]) (Ev.bind (put_ev (levels (runes s 0) (l.take i) 0 (k + 1)) ⟨(far (runes s 0) (runes l[i] 0) : Int), l[i]⟩ ?_ (hb _ hm) ?_) this)
        · have h1 := levels_len (runes s 0) (l.take i) (k + 1) 0
          have h2 : (l.take i).length ≤ 60 := by rw [List.length_take]; omega
          have h3 : (k + 1) * (l.take i).length ≤ 5 * 60 := Nat.mul_le_mul (by omega) h2
          omega
        · intro y hy
          obtain ⟨v, hv, _, rfl⟩ := mem_levels.1 hy
          exact hb v (List.mem_of_mem_take hv)
      · rw [if_neg hlt] at this
        exact Ev.congr (fun K => by rw [if_pos (by omega), if_neg (by omega)]; rfl) this
  have := key l.length 0 (by omega)
  have e0 : levels (runes s 0) (l.take 0) 0 (k + 1) = [] := by
    have h1 := levels_len (runes s 0) (l.take 0) (k + 1) 0
    rw [List.take_zero, List.length_nil, Nat.mul_zero] at h1
    rw [List.take_zero]
    exact List.length_eq_zero_iff.1 (by omega)
  rw [e0] at this
  exact this
end Go.Proofs.Ytklidannncajiaa.OW

namespace Go.Proofs.Ytklidannncajiaa.OW
open Go.RowKit Go.Proofs.YtklidannncajiaaW.PrintWords Go.Proofs.YtklidannncajiaaW.PrintLast Go.Proofs.YtklidannncajiaaW.PrintMore Go.Proofs.Ytklidannncajiaa.Am
set_option linter.unusedVariables false
set_option linter.unusedSimpArgs false

theorem overTexts_ev (l : List ByteArray) (hl : l.length ≤ 1000000) : Ev (fun K => inkhornlaw0_OverTexts.f K l) () := by
  have key : ∀ (d i : Nat) (l : List ByteArray), l.length ≤ 1000000 → i + d = l.length → Ev (fun K => inkhornlaw0_OverTexts.l0 K l (i : Int)) () := by
    intro d
    induction d with
    | zero => intro i l hl hi; exact Ev.step (f := fun _ => some ()) (fun K => by simp only [inkhornlaw0_OverTexts.l0]; rw [if_neg (by omega), if_pos (by omega)]) (Ev.now _)
    | succ d ih =>
      intro i l hl hi
      refine Ev.step (fun K => ?_) (ih (i + 1) (l.set i ⟨#[111, 118, 101, 114]⟩) (by rw [List.length_set]; exact hl) (by rw [List.length_set]; omega))
      simp only [inkhornlaw0_OverTexts.l0]
      rw [if_pos (by omega), if_pos (by omega), wr64 _ (by omega) (by omega), Int.toNat_natCast]
      rfl
  unfold inkhornlaw0_OverTexts.f
  exact key l.length 0 l hl (by omega)
theorem levels_snoc (q : List Int) (l : List ByteArray) (n : Nat) : levels q l 0 (n + 1) = levels q l 0 n ++ level q l n := by
  unfold levels
  rw [List.range'_1_concat, List.flatMap_append, Nat.zero_add]
  simp
theorem levels_just (q : List Int) (l : List ByteArray) (n : Nat) : ((levels q l 0 (n + 1)).filter (fun x => decide (x.f0 = (n : Int)))).map S24.f1 = near q n l := by
  rw [levels_snoc, List.filter_append]
  have e1 : (levels q l 0 n).filter (fun x => decide (x.f0 = (n : Int))) = [] := by
    rw [List.filter_eq_nil_iff]
    intro x hx he
    obtain ⟨w, _, h, rfl⟩ := mem_levels.1 hx
    have he : ((far q (runes w 0) : Nat) : Int) = (n : Int) := of_decide_eq_true he
    omega
  have e2 : (level q l n).filter (fun x => decide (x.f0 = (n : Int))) = level q l n := by
    rw [List.filter_eq_self]
    intro x hx
    exact decide_eq_true (level_f0 hx)
  rw [e1, e2, List.nil_append]
  unfold level
  rw [List.map_map]
  show (near q n l).map (fun w => w) = _
  simp
theorem refdists_l0 (d : Int) (all : List S24) (ha : all.length ≤ 1000) : ∀ (m i : Nat) (acc : List ByteArray), i + m = all.length → acc.length ≤ i → Ev (fun K => inkhornref11_Dists.l0 K d acc all (i : Int)) (acc ++ ((all.drop i).filter (fun x => decide (x.f0 = d))).map S24.f1) := by
  intro m
  induction m with
  | zero =>
    intro i acc hi hl
    rw [List.drop_eq_nil_of_le (by omega)]
    simp only [List.filter_nil, List.map_nil, List.append_nil]
    exact Ev.step (f := fun _ => some acc) (fun K => by simp only [inkhornref11_Dists.l0]; rw [if_neg (by omega)]) (Ev.now _)
  | succ m ih =>
    intro i acc hi hl
    have hil : i < all.length := by omega
    rw [List.drop_eq_getElem_cons hil]
    by_cases h : (all[i]).f0 = d
    · rw [List.filter_cons_of_pos (p := fun x : S24 => decide (x.f0 = d)) (by simpa using h), List.map_cons]
      have := ih (i + 1) (acc ++ [(all[i]).f1]) (by omega) (by rw [List.length_append, List.length_singleton]; omega)
      rw [List.append_assoc, List.singleton_append] at this
      refine Ev.step (fun K => ?_) this
      simp only [inkhornref11_Dists.l0]
      rw [if_pos (by omega), if_pos (by omega), rd24 all i hil, if_pos h, if_pos (by omega), wr64 _ (by omega) (by omega)]
      rfl
    · rw [List.filter_cons_of_neg (by simpa using h)]
      have := ih (i + 1) acc (by omega) (by omega)
      refine Ev.step (fun K => ?_) this
      simp only [inkhornref11_Dists.l0]
      rw [if_pos (by omega), if_pos (by omega), rd24 all i hil, if_neg h, wr64 _ (by omega) (by omega)]
      rfl
theorem refdists_ev {l : List ByteArray} (hg : GoodW l) (hb : ∀ w ∈ l, w.size ≤ 1000000) {s : ByteArray} (hs : s.size ≤ 1000000) (d : Int) : Ev (fun K => inkhornref11_Dists.f K l s d) (distsP s d l) := by
  have none_ : Ev (fun K => inkhornref11_Dists.j0 K l s d [] true) [] := Ev.step (f := fun _ => some []) (fun K => by simp only [inkhornref11_Dists.j0, if_true]) (Ev.now _)
  unfold inkhornref11_Dists.f distsP
  refine Ev.bind (refasked_ev hs) ?_
  by_cases ha : isAsked s
  case neg =>
    rw [if_neg (fun h => ha h.1), decide_eq_false ha]
    simp only [Bool.false_eq_true, if_false]
    exact none_
  rw [decide_eq_true ha]
  simp only [if_true]
  by_cases h0 : d < 0
  · rw [if_neg (fun h => by have := h.2.1; omega)]
    exact Ev.congr (fun K => if_pos h0) none_
  · refine Ev.congr (fun K => if_neg h0) ?_
    by_cases h4 : d > 4
    · rw [if_neg (fun h => by have := h.2.2; omega), decide_eq_true h4]
      exact none_
    · rw [if_pos ⟨ha, by omega, by omega⟩, decide_eq_false h4]
      obtain ⟨n, rfl⟩ : ∃ n : Nat, d = (n : Int) := ⟨d.toNat, by omega⟩
      refine Ev.step (fun K => by simp only [inkhornref11_Dists.j0]; rw [if_neg (by simp)]) (Ev.bind (refall_ev hg hb hs ha n (by omega)) ?_)
      have hlen := levels_len (runes s 0) l (n + 1) 0
      have h5 : (n + 1) * l.length ≤ 5 * 60 := Nat.mul_le_mul (by omega) hg.len
      have := refdists_l0 (n : Int) (levels (runes s 0) l 0 (n + 1)) (by omega) (levels (runes s 0) l 0 (n + 1)).length 0 [] (by omega) (by simp)
      rw [List.drop_zero, List.nil_append, levels_just] at this
      rw [show ((n : Int)).toNat = n by omega]
      exact this
theorem dists_facts {l : List ByteArray} (hl : Small l) (s : ByteArray) (hs : s.size ≤ 100) (d : Int) :
    ∃ K e ns, graph_Build.f K l = some (e, ns) ∧ (e = 0 → ∃ x, walk_Dists.f K ns s d = some x ∧ inkhornref11_Dists.f K l s d = some x ∧ inkhornlaw0_SameTexts.f K x x = some true ∧ inkhornlaw0_OverTexts.f K x = some ()) := by
  obtain ⟨e, ns, ⟨K0, h0⟩, hg⟩ := build_ev hl
  by_cases he : e = 0
  case neg => exact ⟨K0, e, ns, h0 _ (Nat.le_refl _), fun h => absurd h he⟩
  obtain ⟨hw, hG⟩ := hg he
  have hlen : (distsP s d l).length ≤ 1000 := by
    unfold distsP
    split
    · have := near_len (runes s 0) d.toNat l
      have := hw.len
      omega
    · simp
  obtain ⟨K1, h1⟩ := dists_ev hG s (by omega) d
  obtain ⟨K2, h2⟩ := refdists_ev hw (fun w hm => Nat.le_trans (hl.2 w hm) (by omega)) (show s.size ≤ 1000000 by omega) d
  obtain ⟨K3, h3⟩ := sameTexts_ev (distsP s d l) (by omega)
  obtain ⟨K4, h4⟩ := overTexts_ev (distsP s d l) (by omega)
  exact ⟨max K0 (max K1 (max K2 (max K3 K4))), e, ns, h0 _ (by omega), fun _ => ⟨_, h1 _ (by omega), h2 _ (by omega), h3 _ (by omega), h4 _ (by omega)⟩⟩
/-! ### of no graph there are none -/
theorem asked_nil (s : ByteArray) (k : Int) (w : World) : Calls Try.prog 35 #[.pointer none, .string s, .int .i64 k] w fun e w' => e = .returned (.tuple #[.slice none 0 0, .bool false]) ∧ Below w.heap.size w w' := by
  go_enter Try.func35, Try.ntmps35
  go_wp2
  go_ret2
  exact ⟨rfl, Below.refl _ _⟩
set_option maxHeartbeats 4000000 in
set_option maxRecDepth 100000 in
theorem dists_nil (s : ByteArray) (k : Int) (w : World) : Calls Try.prog 21 #[.pointer none, .string s, .int .i64 k] w fun e w' => e = .returned (.slice none 0 0) ∧ Below w.heap.size w w' := by
  go_enter Try.func21, Try.ntmps21
  go_wp2_with ((with_reducible refine gate_callee (f := 35) rfl ?_); (try (refine gate_guard (by rfl) ?_; dsimp only)); refine goesL_ (some 14) rfl rfl Try.func35 (by kernel_rfl) rfl #[.pointer none, .string s, .int .i64 k] rfl (by (try simp only [List.map_toArray, List.map_cons, List.map_nil]); first | done | rfl) ?_; (with_reducible refine (asked_nil s k _).mono ?_); rintro e w1 ⟨rfl, hb⟩; refine ⟨_, rfl, ?_⟩; have HB1 := Aside0.mk hb; clear hb)
  go_ret
  exact ⟨rfl, HB1.out⟩
set_option maxHeartbeats 4000000 in
set_option maxRecDepth 100000 in
theorem next_nil (s : ByteArray) (kk : Int) (first : Bool) (a0 : Int) (a1 : ByteArray) (batch : Int) (w : World) : Calls Try.prog 15 #[.pointer none, .string s, .int .i64 kk, .bool first, .agg #[.int .i64 a0, .string a1], .int .i64 batch] w fun e w' => e = .returned (.tuple #[.slice none 0 0, .bool true]) ∧ Below w.heap.size w w' := by
  have hb0 := (Below.refl w.heap.size w).alloc (Nat.le_refl _) (.cells #[.bool first] 4)
  have hb1 := hb0.alloc (by simp) (.cells #[.int .i64 a0, .string a1] 24)
  have HB := Aside0.mk (hb1.alloc (by simp; omega) (.cells #[.int .i64 batch] 3))
  clear hb0 hb1
  go_enter Try.func15, Try.ntmps15
  go_upto_region 1 with fail
  generalize ((w.alloc (.cells #[.bool first] 4)).alloc (.cells #[.int .i64 a0, .string a1] 24)).alloc (.cells #[.int .i64 batch] 3) = w1 at HB ⊢
  go_wp2_with ((with_reducible refine gate_callee (f := 35) rfl ?_); (try (refine gate_guard (by rfl) ?_; dsimp only)); refine goesL_ (some 23) rfl rfl Try.func35 (by kernel_rfl) rfl #[.pointer none, .string s, .int .i64 kk] rfl (by (try simp only [List.map_toArray, List.map_cons, List.map_nil]); first | done | rfl) ?_; (with_reducible refine (asked_nil s kk _).mono ?_); rintro e w2 ⟨rfl, hb⟩; refine ⟨_, rfl, ?_⟩; have HB2 := Aside0.mk (below_step HB.out hb); clear hb)
  go_ret2
  exact ⟨rfl, HB2.out⟩
set_option maxHeartbeats 8000000 in
set_option maxRecDepth 100000 in
theorem walkDists_calls (A : Option Addr) (c : Nat) (l : List ByteArray) (s : ByteArray) (d : Int) (w : World) (hr : Kd.C Kd.string w A l.length l) (hc : l.length ≤ c) :
    Calls Try.prog 5 #[.slice A l.length c, .string s, .int .i64 d] w fun e w' => e = .returned (.bool true) ∧ Below w.heap.size w w' := by
  have HW := Aside0.mk (Below.refl w.heap.size w)
  have HR := Aside0.mk hr
  have HC := Aside0.mk hc
  clear hr hc
  obtain ⟨G, hG⟩ : ∃ G, G = !decide (Small l ∧ s.size ≤ 100) := ⟨_, rfl⟩
  obtain ⟨KG, hK⟩ := great_small l s
  have hKG : inkhornlaw11_great.f KG l s = some G := by rw [hG]; exact hK KG (Nat.le_refl _)
  have HG := Aside0.mk hKG
  clear hK hKG
  go_enter Try.func5, Try.ntmps5
  cases G with
  | true =>
    clear hG
    go_wp2_with (first | ((with_reducible refine gate_callee (f := 12) rfl ?_); (try (refine gate_guard (by rfl) ?_; dsimp only)); refine goesL_ (some 15) rfl rfl Try.func12 (by kernel_rfl) rfl #[.slice A l.length c, .string s] rfl (by (try simp only [List.map_toArray, List.map_cons, List.map_nil]); first | done | rfl) ?_; (with_reducible refine (inkhornlaw11_great.calls KG A c l s true _ HR.out HC.out HG.out).mono ?_); rintro e w2 ⟨rfl, hd⟩; refine ⟨_, rfl, ?_⟩; have hb := hd.below; have q_HW := Aside0.mk (below_step HW.out hb); clear HW; have HW := q_HW; clear q_HW; have q_HR := Aside0.mk (Kd.C_below HR.out hb); clear HR; have HR := q_HR; clear q_HR; clear hb hd) | ((with_reducible refine gate_callee (f := 13) rfl ?_); (try (refine gate_guard (by rfl) ?_; dsimp only)); refine goesL_ (some 16) rfl rfl Try.func13 (by kernel_rfl) rfl #[] rfl (by (try simp only [List.map_toArray, List.map_cons, List.map_nil]); first | done | rfl) ?_; (with_reducible refine (awake_calls _).mono ?_); rintro e w3 ⟨rfl, hb⟩; refine ⟨_, rfl, ?_⟩; have q_HW := Aside0.mk (below_step HW.out hb); clear HW; have HW := q_HW; clear q_HW; have q_HR := Aside0.mk (Kd.C_below HR.out hb); clear HR; have HR := q_HR; clear q_HR; clear hb))
    go_ret
    exact ⟨rfl, HW.out⟩
  | false =>
    obtain ⟨hsm, hss⟩ : Small l ∧ s.size ≤ 100 := by simpa using hG.symm
    clear hG
    obtain ⟨K, e, ns, hB, hN⟩ := dists_facts hsm s hss d
    have HB := Aside0.mk hB
    clear hB hsm hss
    by_cases he : e = 0
    case neg =>
      have he2 : (e != 0) = true := by simpa using he
      have HE := Aside0.mk he
      clear he hN
      go_wp2_with (first | ((with_reducible refine gate_callee (f := 12) rfl ?_); (try (refine gate_guard (by rfl) ?_; dsimp only)); refine goesL_ (some 15) rfl rfl Try.func12 (by kernel_rfl) rfl #[.slice A l.length c, .string s] rfl (by (try simp only [List.map_toArray, List.map_cons, List.map_nil]); first | done | rfl) ?_; (with_reducible refine (inkhornlaw11_great.calls KG A c l s false _ HR.out HC.out HG.out).mono ?_); rintro e w2 ⟨rfl, hd⟩; refine ⟨_, rfl, ?_⟩; have hb := hd.below; have q_HW := Aside0.mk (below_step HW.out hb); clear HW; have HW := q_HW; clear q_HW; have q_HR := Aside0.mk (Kd.C_below HR.out hb); clear HR; have HR := q_HR; clear q_HR; clear hb hd) | ((with_reducible refine gate_callee (f := 14) rfl ?_); (try (refine gate_guard (by rfl) ?_; dsimp only)); refine goesL_ (some 19) rfl rfl Try.func14 (by kernel_rfl) rfl #[.slice A l.length c] rfl (by (try simp only [List.map_toArray, List.map_cons, List.map_nil]); first | done | rfl) ?_; (with_reducible refine (graph_Build.not K A c l e ns _ HR.out HC.out HB.out HE.out).mono ?_); rintro e w3 ⟨rfl, hb⟩; refine ⟨_, rfl, ?_⟩; have q_HW := Aside0.mk (below_step HW.out hb); clear HW; have HW := q_HW; clear q_HW; have q_HR := Aside0.mk (Kd.C_below HR.out hb); clear HR; have HR := q_HR; clear q_HR; clear hb) | ((with_reducible refine gate_callee (f := 13) rfl ?_); (try (refine gate_guard (by rfl) ?_; dsimp only)); refine goesL_ (some 27) rfl rfl Try.func13 (by kernel_rfl) rfl #[] rfl (by (try simp only [List.map_toArray, List.map_cons, List.map_nil]); first | done | rfl) ?_; (with_reducible refine (awake_calls _).mono ?_); rintro e w4 ⟨rfl, hb⟩; refine ⟨_, rfl, ?_⟩; have q_HW := Aside0.mk (below_step HW.out hb); clear HW; have HW := q_HW; clear q_HW; have q_HR := Aside0.mk (Kd.C_below HR.out hb); clear HR; have HR := q_HR; clear q_HR; clear hb))
      go_ret
      exact ⟨rfl, HW.out⟩
    subst he
    obtain ⟨x, hx, hrn, hs, ho⟩ := hN rfl
    have HX := Aside0.mk hx
    have HRN := Aside0.mk hrn
    have HS := Aside0.mk hs
    have HOV := Aside0.mk ho
    clear hN hx hrn hs ho
    go_wp2_with (first | ((with_reducible refine gate_callee (f := 12) rfl ?_); (try (refine gate_guard (by rfl) ?_; dsimp only)); refine goesL_ (some 15) rfl rfl Try.func12 (by kernel_rfl) rfl #[.slice A l.length c, .string s] rfl (by (try simp only [List.map_toArray, List.map_cons, List.map_nil]); first | done | rfl) ?_; (with_reducible refine (inkhornlaw11_great.calls KG A c l s false _ HR.out HC.out HG.out).mono ?_); rintro e w2 ⟨rfl, hd⟩; refine ⟨_, rfl, ?_⟩; have hb := hd.below; have q_HW := Aside0.mk (below_step HW.out hb); clear HW; have HW := q_HW; clear q_HW; have q_HR := Aside0.mk (Kd.C_below HR.out hb); clear HR; have HR := q_HR; clear q_HR; clear hb hd) | ((with_reducible refine gate_callee (f := 14) rfl ?_); (try (refine gate_guard (by rfl) ?_; dsimp only)); refine goesL_ (some 19) rfl rfl Try.func14 (by kernel_rfl) rfl #[.slice A l.length c] rfl (by (try simp only [List.map_toArray, List.map_cons, List.map_nil]); first | done | rfl) ?_; (with_reducible refine (graph_Build.calls K A c l ns _ HR.out HC.out HB.out).mono ?_); rintro e w4 ⟨g, rfl, _, hgr, hb⟩; refine ⟨_, rfl, ?_⟩; have q_HW := Aside0.mk (below_step HW.out hb); clear HW; have HW := q_HW; clear q_HW; have q_HR := Aside0.mk (Kd.C_below HR.out hb); clear HR; have HR := q_HR; clear q_HR; have HGR := Aside0.mk (hgr); clear hgr; clear hb) | ((with_reducible refine gate_callee (f := 21) rfl ?_); (try (refine gate_guard (by rfl) ?_; dsimp only)); refine goesL_ (some 32) rfl rfl Try.func21 (by kernel_rfl) rfl #[.pointer (some ⟨g, 0, none⟩), .string s, .int .i64 d] rfl (by (try simp only [List.map_toArray, List.map_cons, List.map_nil]); first | done | rfl) ?_; (with_reducible refine (walk_Dists.calls K g ns s d x _ HGR.out HX.out).mono ?_); rintro e w6 ⟨v6, rfl, ho, hb⟩; refine ⟨_, rfl, ?_⟩; have HG4 := Aside0.mk HGR.out; have HB4 := Aside0.mk HW.out; have HR4 := Aside0.mk HR.out; have q_HW := Aside0.mk (below_step HW.out hb); clear HW; have HW := q_HW; clear q_HW; have q_HR := Aside0.mk (Kd.C_below HR.out hb); clear HR; have HR := q_HR; clear q_HR; have q_HGR := Aside0.mk (HGR.out.below hb); clear HGR; have HGR := q_HGR; clear q_HGR; have HO := Aside0.mk (Kd.R_mono (ok' := fun k => w4.heap.size ≤ k ∧ k < w6.heap.size) (Kd.R_bound ho) (fun k hk => ⟨hk.2.1, hk.2.2.1⟩)); have HZ4 := Aside0.mk (hb); obtain ⟨A6, c6, e6⟩ := Kd.R_slice ho; subst e6; clear ho; clear hb) | ((with_reducible refine gate_callee (f := 23) rfl ?_); (try (refine gate_guard (by rfl) ?_; dsimp only)); refine goesL_ (some 37) rfl rfl Try.func23 (by kernel_rfl) rfl #[.slice A l.length c, .string s, .int .i64 d] rfl (by (try simp only [List.map_toArray, List.map_cons, List.map_nil]); first | done | rfl) ?_; (with_reducible refine (inkhornref11_Dists.calls K A c l s d x _ HR.out HC.out HRN.out).mono ?_); rintro e w7 ⟨v7, rfl, ho, hb⟩; refine ⟨_, rfl, ?_⟩; have q_HW := Aside0.mk (below_step HW.out hb); clear HW; have HW := q_HW; clear q_HW; have q_HR := Aside0.mk (Kd.C_below HR.out hb); clear HR; have HR := q_HR; clear q_HR; have q_HGR := Aside0.mk (HGR.out.below hb); clear HGR; have HGR := q_HGR; clear q_HGR; have q_HO := Aside0.mk (Kd.R_below HO.out hb); clear HO; have HO := q_HO; clear q_HO; have q_HZ4 := Aside0.mk (below_step HZ4.out hb); clear HZ4; have HZ4 := q_HZ4; clear q_HZ4; have HP := Aside0.mk (ho); obtain ⟨A7, c7, e7⟩ := Kd.R_slice ho; subst e7; clear ho; clear hb) | ((with_reducible refine gate_callee (f := 22) rfl ?_); (try (refine gate_guard (by rfl) ?_; dsimp only)); refine goesL_ (some 38) rfl rfl Try.func22 (by kernel_rfl) rfl #[.slice A6 x.length c6, .slice A7 x.length c7] rfl (by (try simp only [List.map_toArray, List.map_cons, List.map_nil]); first | done | rfl) ?_; (with_reducible refine (inkhornlaw0_SameTexts.calls K A6 c6 x A7 c7 x true _ (Kd.R_reads' HO.out).2.2 (Kd.R_reads' HO.out).2.1 (Kd.R_reads' HP.out).2.2 (Kd.R_reads' HP.out).2.1 HS.out).mono ?_); rintro e w8 ⟨rfl, hd⟩; refine ⟨_, rfl, ?_⟩; have hb := hd.below; have q_HW := Aside0.mk (below_step HW.out hb); clear HW; have HW := q_HW; clear q_HW; have q_HR := Aside0.mk (Kd.C_below HR.out hb); clear HR; have HR := q_HR; clear q_HR; have q_HGR := Aside0.mk (HGR.out.below hb); clear HGR; have HGR := q_HGR; clear q_HGR; have q_HO := Aside0.mk (Kd.R_below HO.out hb); clear HO; have HO := q_HO; clear q_HO; have q_HZ4 := Aside0.mk (below_step HZ4.out hb); clear HZ4; have HZ4 := q_HZ4; clear q_HZ4; clear HP; clear hb hd) | ((with_reducible refine gate_callee (f := 24) rfl ?_); (try (refine gate_guard (by rfl) ?_; dsimp only)); refine goesL_ (some 40) rfl rfl Try.func24 (by kernel_rfl) rfl #[.slice A6 x.length c6] rfl (by (try simp only [List.map_toArray, List.map_cons, List.map_nil]); first | done | rfl) ?_; (with_reducible refine (inkhornlaw0_OverTexts.calls K (fun k => w4.heap.size ≤ k ∧ k < w6.heap.size) (.slice A6 x.length c6) x w4 _ HZ4.out HO.out HOV.out).mono ?_); rintro e w9 ⟨rfl, hb4, hkp⟩; refine ⟨_, rfl, ?_⟩; have HW9 := Aside0.mk (below_step HB4.out hb4); have HR9 := Aside0.mk (Kd.C_below HR4.out hb4); have HG9 := Aside0.mk (HG4.out.below hb4); clear hb4 hkp HO HW HR HGR HZ4) | ((with_reducible refine gate_callee (f := 15) rfl ?_); (try (refine gate_guard (by rfl) ?_; dsimp only)); refine goesL_ (some 44) rfl rfl Try.func15 (by kernel_rfl) rfl #[.pointer none, .string s, .int .i64 1, .bool true, .agg #[.int .i64 0, .string ⟨#[]⟩], .int .i64 3] rfl (by (try simp only [List.map_toArray, List.map_cons, List.map_nil]); first | done | rfl) ?_; (with_reducible refine (next_nil s 1 true 0 ⟨#[]⟩ 3 _).mono ?_); rintro e w10 ⟨rfl, hb⟩; refine ⟨_, rfl, ?_⟩; have q_HW9 := Aside0.mk (below_step HW9.out hb); clear HW9; have HW9 := q_HW9; clear q_HW9; have q_HR9 := Aside0.mk (Kd.C_below HR9.out hb); clear HR9; have HR9 := q_HR9; clear q_HR9; have q_HG9 := Aside0.mk (HG9.out.below hb); clear HG9; have HG9 := q_HG9; clear q_HG9; clear hb) | ((with_reducible refine gate_callee (f := 21) rfl ?_); (try (refine gate_guard (by rfl) ?_; dsimp only)); refine goesL_ (some 52) rfl rfl Try.func21 (by kernel_rfl) rfl #[.pointer (some ⟨g, 0, none⟩), .string s, .int .i64 d] rfl (by (try simp only [List.map_toArray, List.map_cons, List.map_nil]); first | done | rfl) ?_; (with_reducible refine (walk_Dists.calls K g ns s d x _ HG9.out HX.out).mono ?_); rintro e w11 ⟨v11, rfl, ho, hb⟩; refine ⟨_, rfl, ?_⟩; have q_HW9 := Aside0.mk (below_step HW9.out hb); clear HW9; have HW9 := q_HW9; clear q_HW9; have q_HR9 := Aside0.mk (Kd.C_below HR9.out hb); clear HR9; have HR9 := q_HR9; clear q_HR9; have q_HG9 := Aside0.mk (HG9.out.below hb); clear HG9; have HG9 := q_HG9; clear q_HG9; have HO11 := Aside0.mk (ho); obtain ⟨A11, c11, e11⟩ := Kd.R_slice ho; subst e11; clear ho; clear hb) | ((with_reducible refine gate_callee (f := 23) rfl ?_); (try (refine gate_guard (by rfl) ?_; dsimp only)); refine goesL_ (some 56) rfl rfl Try.func23 (by kernel_rfl) rfl #[.slice A l.length c, .string s, .int .i64 d] rfl (by (try simp only [List.map_toArray, List.map_cons, List.map_nil]); first | done | rfl) ?_; (with_reducible refine (inkhornref11_Dists.calls K A c l s d x _ HR9.out HC.out HRN.out).mono ?_); rintro e w12 ⟨v12, rfl, ho, hb⟩; refine ⟨_, rfl, ?_⟩; have q_HW9 := Aside0.mk (below_step HW9.out hb); clear HW9; have HW9 := q_HW9; clear q_HW9; have q_HR9 := Aside0.mk (Kd.C_below HR9.out hb); clear HR9; have HR9 := q_HR9; clear q_HR9; have q_HG9 := Aside0.mk (HG9.out.below hb); clear HG9; have HG9 := q_HG9; clear q_HG9; have q_HO11 := Aside0.mk (Kd.R_below HO11.out hb); clear HO11; have HO11 := q_HO11; clear q_HO11; have HP12 := Aside0.mk (ho); obtain ⟨A12, c12, e12⟩ := Kd.R_slice ho; subst e12; clear ho; clear hb) | ((with_reducible refine gate_callee (f := 22) rfl ?_); (try (refine gate_guard (by rfl) ?_; dsimp only)); refine goesL_ (some 57) rfl rfl Try.func22 (by kernel_rfl) rfl #[.slice A11 x.length c11, .slice A12 x.length c12] rfl (by (try simp only [List.map_toArray, List.map_cons, List.map_nil]); first | done | rfl) ?_; (with_reducible refine (inkhornlaw0_SameTexts.calls K A11 c11 x A12 c12 x true _ (Kd.R_reads' HO11.out).2.2 (Kd.R_reads' HO11.out).2.1 (Kd.R_reads' HP12.out).2.2 (Kd.R_reads' HP12.out).2.1 HS.out).mono ?_); rintro e w13 ⟨rfl, hd⟩; refine ⟨_, rfl, ?_⟩; have hb := hd.below; have q_HW9 := Aside0.mk (below_step HW9.out hb); clear HW9; have HW9 := q_HW9; clear q_HW9; have q_HR9 := Aside0.mk (Kd.C_below HR9.out hb); clear HR9; have HR9 := q_HR9; clear q_HR9; have q_HG9 := Aside0.mk (HG9.out.below hb); clear HG9; have HG9 := q_HG9; clear q_HG9; clear HP12; clear HO11; clear hb hd) | ((with_reducible refine gate_callee (f := 21) rfl ?_); (try (refine gate_guard (by rfl) ?_; dsimp only)); refine goesL_ (some 62) rfl rfl Try.func21 (by kernel_rfl) rfl #[.pointer none, .string s, .int .i64 d] rfl (by (try simp only [List.map_toArray, List.map_cons, List.map_nil]); first | done | rfl) ?_; (with_reducible refine (dists_nil s d _).mono ?_); rintro e w14 ⟨rfl, hb⟩; refine ⟨_, rfl, ?_⟩; have q_HW9 := Aside0.mk (below_step HW9.out hb); clear HW9; have HW9 := q_HW9; clear q_HW9; have q_HR9 := Aside0.mk (Kd.C_below HR9.out hb); clear HR9; have HR9 := q_HR9; clear q_HR9; have q_HG9 := Aside0.mk (HG9.out.below hb); clear HG9; have HG9 := q_HG9; clear q_HG9; clear hb) | ((with_reducible refine gate_callee (f := 13) rfl ?_); (try (refine gate_guard (by rfl) ?_; dsimp only)); refine goesL_ (some 75) rfl rfl Try.func13 (by kernel_rfl) rfl #[] rfl (by (try simp only [List.map_toArray, List.map_cons, List.map_nil]); first | done | rfl) ?_; (with_reducible refine (awake_calls _).mono ?_); rintro e w15 ⟨rfl, hb⟩; refine ⟨_, rfl, ?_⟩; have q_HW9 := Aside0.mk (below_step HW9.out hb); clear HW9; have HW9 := q_HW9; clear q_HW9; have q_HR9 := Aside0.mk (Kd.C_below HR9.out hb); clear HR9; have HR9 := q_HR9; clear q_HR9; have q_HG9 := Aside0.mk (HG9.out.below hb); clear HG9; have HG9 := q_HG9; clear q_HG9; clear hb))
    go_ret
    exact ⟨rfl, HW9.out⟩
end Go.Proofs.Ytklidannncajiaa.OW
