/- What the row of the law WalkRenamed leans on: contracts of functions and plain laws, each for all inputs that its own theorem names. -/
import Derived.Test.YtklidannncajiaaRe0
import Derived.Test.YtklidannncajiaaRe1
import Derived.Test.YtklidannncajiaaRe8
import Derived.Test.YtklidannncajiaaRe6
import Derived.Test.YtklidannncajiaaRe7
-- Laid by a program of this session (wip/ownprint.py, wip/hooks.py) over the seat's translation. Lean checks it.
namespace Go.Proofs.Ytklidannncajiaa.OW
open Go.RowKit Go.Proofs.YtklidannncajiaaW.PrintWords Go.Proofs.YtklidannncajiaaW.PrintLast Go.Proofs.YtklidannncajiaaW.PrintMore
attribute [local go_sem] max2_int min2_int max_two min_two max_three min_three max_four min_four   -- for this text's walks alone
set_option linter.unusedVariables false
set_option linter.unusedSimpArgs false

attribute [local go_sem high] eqA24
/-! ### inkhornlaw0_SameItems: function 17 -/
def inkhornlaw0_SameItems.l0 : Nat → List (S24) → List (S24) → Int → Option (Bool)
  | 0, _, _, _ => none
  | k + 1, x0, x1, x5 => if x5 < (x0.length : Int) then (if 0 ≤ x5 then (if x5 < (x1.length : Int) then (if (!(((rd_T24 x0 x5).f0) == ((rd_T24 x1 x5).f0)) || (!((((rd_T24 x0 x5).f1).toList) == (((rd_T24 x1 x5).f1).toList)))) = true then (some false) else (inkhornlaw0_SameItems.l0 k x0 x1 (wrap64 (x5 + 1)))) else (none)) else (none)) else (some true)
def inkhornlaw0_SameItems.f (k : Nat) (l0 : List (S24)) (l1 : List (S24)) : Option (Bool) := if (l0.length : Int) = (l1.length : Int) then (inkhornlaw0_SameItems.l0 k l0 l1 0) else (some false)
set_option maxHeartbeats 8000000 in
set_option maxRecDepth 100000 in
theorem inkhornlaw0_SameItems.calls (k : Nat) (A0 : Option Addr) (c0 : Nat) (l0 : List (S24)) (A1 : Option Addr) (c1 : Nat) (l1 : List (S24)) (r : Bool) (w : World) (hr0 : Kd.C k24 w A0 l0.length l0) (hc0 : l0.length ≤ c0) (hr1 : Kd.C k24 w A1 l1.length l1) (hc1 : l1.length ≤ c1) (h : inkhornlaw0_SameItems.f k l0 l1 = some r) :
    Calls Try.prog 17 #[.slice A0 l0.length c0, .slice A1 l1.length c1] w fun e w' => e = .returned (.bool r) ∧ Drawn0 w w' := by
  have hu24 := Try.underlying24
  have HR0 := Aside0.mk hr0
  have HC0 := Aside0.mk hc0
  clear hr0 hc0
  have HR1 := Aside0.mk hr1
  have HC1 := Aside0.mk hc1
  clear hr1 hc1
  have H : (if (l0.length : Int) = (l1.length : Int) then (inkhornlaw0_SameItems.l0 k l0 l1 0) else (some false)) = some r := h
  clear h
  by_cases c3 : (l0.length : Int) = (l1.length : Int)
  · rw [if_pos c3] at H
    have c3b0 : ((l0.length : Int) == (l1.length : Int)) = true := beq_iff_eq.mpr c3
    have c3b1 : ((l0.length : Int) != (l1.length : Int)) = false := bne_eq_false_iff_eq.mpr c3
    have c3b2 : (l0.length == l1.length) = true := by first | simpa using c3 | (simp at c3 ⊢; omega)
    clear c3
    have H' := Aside0.mk H
    clear H
    go_enter Try.func17, Try.ntmps17
    go_wp2
    repeat (go_quiet (fail); try go_wp2)
    go_loopg [5] k (fun kq v5 w' => ∃ (x5_1 : Int), v5 = .int .i64 x5_1 ∧ Aside0 (inkhornlaw0_SameItems.l0 kq l0 l1 x5_1 = some r) ∧ Aside0 (kq ≤ k) ∧ Drawn0 w w')
    case atStart => exact ⟨(0), (by first | rfl | (simp; done) | (simp [*]; done)), H', ⟨Nat.le_refl _⟩, by repeat (first | exact Drawn0.refl _ | apply Drawn0.step)⟩
    case round =>
      clear H'
      try clear c1
      try clear p2
      try clear c3
      try clear c3b0
      try clear c3b1
      try clear c3b2
      obtain ⟨x5_1, rfl, HA, HK1, ⟨m1, rfl⟩⟩ := hrel
      cases gk with
      | zero => exact absurd HA.out (by simp [inkhornlaw0_SameItems.l0])
      | succ k1 =>
        have H := HA.out
        clear HA
        simp only [inkhornlaw0_SameItems.l0] at H
        by_cases c4 : x5_1 < (l0.length : Int)
        · rw [if_pos c4] at H
          have c4b0 : decide (x5_1 < (l0.length : Int)) = true := decide_eq_true c4
          clear c4
          by_cases c5 : 0 ≤ x5_1
          · rw [if_pos c5] at H
            have c5b0 : decide (0 ≤ x5_1) = true := decide_eq_true c5
            clear c5
            by_cases c6 : x5_1 < (l1.length : Int)
            · rw [if_pos c6] at H
              have c6b0 : decide (x5_1 < (l1.length : Int)) = true := decide_eq_true c6
              clear c6
              by_cases c7 : (!(((rd_T24 l0 x5_1).f0) == ((rd_T24 l1 x5_1).f0)) || (!((((rd_T24 l0 x5_1).f1).toList) == (((rd_T24 l1 x5_1).f1).toList)))) = true
              · rw [if_pos c7] at H
                have c7b0 : (!(((rd_T24 l0 x5_1).f0) == ((rd_T24 l1 x5_1).f0)) || (!((((rd_T24 l0 x5_1).f1).toList) == (((rd_T24 l1 x5_1).f1).toList)))) = true := c7
                clear c7
                obtain rfl := Option.some.inj H
                have p157 : 0 ≤ (x5_1 : Int) := of_decide_eq_true (by first | (with_reducible assumption) | assumption)
                have q157 : x5_1 < (l0.length : Int) := of_decide_eq_true (by first | (with_reducible assumption) | assumption)
                obtain ⟨ad157, e157, hx157_0, hx157_1⟩ := at_T24 HR0.out x5_1 p157 q157
                cases e157
                replace p157 := eq_true p157
                replace q157 := eq_true q157
                have p158 : 0 ≤ (x5_1 : Int) := of_decide_eq_true (by first | (with_reducible assumption) | assumption)
                have q158 : x5_1 < (l1.length : Int) := of_decide_eq_true (by first | (with_reducible assumption) | assumption)
                obtain ⟨ad158, e158, hx158_0, hx158_1⟩ := at_T24 HR1.out x5_1 p158 q158
                cases e158
                replace p158 := eq_true p158
                replace q158 := eq_true q158
                go_wp2
                repeat (go_quiet (fail); try go_wp2)
                go_ret
                exact ⟨by first | rfl | (simp; done) | (simp [*]; done), by repeat (first | exact Drawn0.refl _ | apply Drawn0.step)⟩
              · rw [if_neg c7] at H
                have c7b0 : (!(((rd_T24 l0 x5_1).f0) == ((rd_T24 l1 x5_1).f0)) || (!((((rd_T24 l0 x5_1).f1).toList) == (((rd_T24 l1 x5_1).f1).toList)))) = false := by simpa using c7
                clear c7
                have H' := Aside0.mk H
                clear H
                have p157 : 0 ≤ (x5_1 : Int) := of_decide_eq_true (by first | (with_reducible assumption) | assumption)
                have q157 : x5_1 < (l0.length : Int) := of_decide_eq_true (by first | (with_reducible assumption) | assumption)
                obtain ⟨ad157, e157, hx157_0, hx157_1⟩ := at_T24 HR0.out x5_1 p157 q157
                cases e157
                replace p157 := eq_true p157
                replace q157 := eq_true q157
                have p158 : 0 ≤ (x5_1 : Int) := of_decide_eq_true (by first | (with_reducible assumption) | assumption)
                have q158 : x5_1 < (l1.length : Int) := of_decide_eq_true (by first | (with_reducible assumption) | assumption)
                obtain ⟨ad158, e158, hx158_0, hx158_1⟩ := at_T24 HR1.out x5_1 p158 q158
                cases e158
                replace p158 := eq_true p158
                replace q158 := eq_true q158
                go_wp2
                repeat (go_quiet (fail); try go_wp2)
                go_roundg k1
                case measure => have := HK1.out; omega
                case rel => exact ⟨(wrap64 (x5_1 + 1)), (by first | rfl | (simp; done) | (simp [*]; done)), H', ⟨by have := HK1.out; omega⟩, by repeat (first | exact Drawn0.refl _ | apply Drawn0.step)⟩
            · rw [if_neg c6] at H
              exact absurd H (by simp)
          · rw [if_neg c5] at H
            exact absurd H (by simp)
        · rw [if_neg c4] at H
          have c4b0 : decide (x5_1 < (l0.length : Int)) = false := decide_eq_false c4
          clear c4
          obtain rfl := Option.some.inj H
          go_wp2
          repeat (go_quiet (fail); try go_wp2)
          go_ret
          exact ⟨by first | rfl | (simp; done) | (simp [*]; done), by repeat (first | exact Drawn0.refl _ | apply Drawn0.step)⟩
  · rw [if_neg c3] at H
    have c3b0 : ((l0.length : Int) == (l1.length : Int)) = false := beq_eq_false_iff_ne.mpr c3
    have c3b1 : ((l0.length : Int) != (l1.length : Int)) = true := bne_iff_ne.mpr c3
    have c3b2 : (l0.length == l1.length) = false := by first | simpa using c3 | (simp at c3 ⊢; omega)
    obtain rfl := Option.some.inj H
    go_enter Try.func17, Try.ntmps17
    go_wp2
    repeat (go_quiet (fail); try go_wp2)
    go_ret
    exact ⟨by first | rfl | (simp; done) | (simp [*]; done), by repeat (first | exact Drawn0.refl _ | apply Drawn0.step)⟩

-- NOT PRINTED: function 13 (inkhornlaw11_awake)

/-! ### inkhornref1_more: function 114 -/
/-! ### inkhornref1_one: function 101 -/
/-! ### inkhornref1_Good: function 102 -/
end Go.Proofs.Ytklidannncajiaa.OW

namespace Go.Proofs.Ytklidannncajiaa.Am
open Go.RowKit Go.Proofs.Ytklidannncajiaa.OW Go.Proofs.YtklidannncajiaaW.PrintWords Go.Proofs.YtklidannncajiaaW.PrintLast Go.Proofs.YtklidannncajiaaW.PrintMore

theorem St_nil (k n : Nat) (f : Nat → Nat) : St k n f = [] ↔ ∀ i, i ≤ n → k < f i := by
  constructor
  · intro h i hi
    apply Classical.byContradiction
    intro hk
    obtain ⟨j, hj, hkeep, _⟩ := kept_below k n f (f i) i (Nat.le_refl _) hi (by omega)
    have : (⟨(j : Int), (f j : Int)⟩ : S121) ∈ St k n f := St_mem.2 ⟨j, hj, hkeep, rfl⟩
    rw [h] at this
    cases this
  · intro h
    rw [List.eq_nil_iff_forall_not_mem]
    intro x hx
    obtain ⟨j, hj, hkeep, _⟩ := St_mem.1 hx
    have := h j hj
    have := ((keep_iff _ _ _ _).1 hkeep).1
    omega
theorem dead_on (q p : List Int) (r : Int) (k : Nat) (h : St k q.length (dp q p) = []) : St k q.length (dp q (p ++ [r])) = [] := by
  rw [St_nil] at h ⊢
  rw [dp_snoc]
  exact dead_step q r _ k q.length h
end Go.Proofs.Ytklidannncajiaa.Am

namespace Go.Proofs.Ytklidannncajiaa.OW
open Go.RowKit Go.Proofs.YtklidannncajiaaW.PrintWords Go.Proofs.YtklidannncajiaaW.PrintLast Go.Proofs.YtklidannncajiaaW.PrintMore Go.Proofs.Ytklidannncajiaa.Am

/-- Words are handed on one by one, as long as it is said to go on. -/
def runs {α : Type} (step : α → ByteArray → Option (α × Bool)) : α → List ByteArray → Option (α × Bool)
  | a, [] => some (a, true)
  | a, w :: ws => (step a w).bind fun y => if y.2 = true then runs step y.1 ws else some y
theorem runs_append {α : Type} (step : α → ByteArray → Option (α × Bool)) : ∀ (u v : List ByteArray) (a : α), runs step a (u ++ v) = (runs step a u).bind fun y => if y.2 = true then runs step y.1 v else some y
  | [], v, a => by simp [runs]
  | w :: u, v, a => by
    show (step a w).bind _ = ((step a w).bind _).bind _
    cases h : step a w with
    | none => rfl
    | some y =>
      simp only [Option.bind_some]
      by_cases hy : y.2 = true
      · rw [if_pos hy, if_pos hy]; exact runs_append step u v y.1
      · rw [if_neg hy, if_neg hy, Option.bind_some, if_neg hy]
def Ev2 {α : Type} (g : Nat → Nat → Option α) (r : α) : Prop := ∃ K, ∀ k kq, K ≤ k → K ≤ kq → g k kq = some r
/-- The words at just distance d among rests behind the runes pth, the bytes w. -/
def outW (q : List Int) (d : Nat) (pth : List Int) (w : ByteArray) (l : List ByteArray) : List ByteArray := (l.filter fun x => decide (far q (pth ++ runes x 0) = d)).map (w ++ ·)
theorem outW_append (q : List Int) (d : Nat) (pth : List Int) (w : ByteArray) (u v : List ByteArray) : outW q d pth w (u ++ v) = outW q d pth w u ++ outW q d pth w v := by simp [outW]
theorem append_assoc' (a b c : ByteArray) : a ++ b ++ c = a ++ (b ++ c) := bytes_ext (by simp)
theorem append_empty' (a : ByteArray) : a ++ ⟨#[]⟩ = a := bytes_ext (by simp)
theorem empty_append' (a : ByteArray) : (⟨#[]⟩ : ByteArray) ++ a = a := bytes_ext (by simp)
theorem outW_grp (q : List Int) (d : Nat) (pth : List Int) (w : ByteArray) {s : ByteArray} {t : List ByteArray} (h : GoodR (s :: t)) :
    outW q d pth w ((s :: t).take (grp (hd s) (wd s) (s :: t)).length) = outW q d (pth ++ [((Utf8.decode s 0).1 : Int)]) (w ++ hd s) (grp (hd s) (wd s) (s :: t)) := by
  have hs := h.clean s List.mem_cons_self
  rw [grp_take hs.2]
  unfold outW
  rw [List.filter_map, List.map_map]
  have hr : ∀ c ∈ grp (hd s) (wd s) (s :: t), runes (hd s ++ c) 0 = ((Utf8.decode s 0).1 : Int) :: runes c 0 := by
    intro c hc
    obtain ⟨x, hx, h1, rfl⟩ := grp_mem hc
    have hc' := h.clean x hx
    have hd' := decode_prefix s x hs.2 (hs.1.first_ hs.2) h1
    have hx' : hd s ++ cut x (wd s) = x := bytes_ext (by have := (prefix_cut hs.2 h1).1; simpa using this.symm)
    rw [hx', runes_first x hc'.2, hd']
    rfl
  have hf : (grp (hd s) (wd s) (s :: t)).filter ((fun x => decide (far q (pth ++ runes x 0) = d)) ∘ fun c => hd s ++ c) = (grp (hd s) (wd s) (s :: t)).filter (fun x => decide (far q ((pth ++ [((Utf8.decode s 0).1 : Int)]) ++ runes x 0) = d)) := by
    apply List.filter_congr
    intro c hc
    simp only [Function.comp]
    rw [hr c hc, List.append_assoc]
    rfl
  rw [hf]
  apply List.map_congr_left
  intro c _
  exact (append_assoc' w (hd s) c).symm
theorem dead_all (q : List Int) (k : Nat) : ∀ (r p : List Int), St k q.length (dp q p) = [] → St k q.length (dp q (p ++ r)) = []
  | [], p, h => by rw [List.append_nil]; exact h
  | x :: r, p, h => by
    have := dead_all q k r (p ++ [x]) (dead_on q p x k h)
    rwa [List.append_assoc] at this
theorem outW_dead (q : List Int) (d : Nat) (pth : List Int) (w : ByteArray) (l : List ByteArray) (h : St d q.length (dp q pth) = []) : outW q d pth w l = [] := by
  unfold outW
  rw [List.map_eq_nil_iff, List.filter_eq_nil_iff]
  intro x _ hx
  have h1 := dead_all q d (runes x 0) pth h
  rw [St_nil] at h1
  have h2 := h1 q.length (Nat.le_refl _)
  have h3 : far q (pth ++ runes x 0) = d := by simpa using hx
  unfold far at h3
  omega
def kid (q : List Int) (d : Nat) (pth : List Int) (w : ByteArray) (e : S91) : Option S96 := if St d q.length (dp q (pth ++ [e.f0])) = [] then none else some ⟨e.f1, St d q.length (dp q (pth ++ [e.f0])), w ++ Utf8.encode e.f0⟩
theorem kids_ev (q : List Int) (d : Nat) (hd4 : d ≤ 4) (hq : q.length ≤ 16) (pth : List Int) (w : ByteArray) (hw : w.size < 1000000) (es : List S91) : ∀ (i : Nat) (xs : List S96), i ≤ es.length → xs.length + i ≤ 1000000 →
    Ev (fun K => walk_each.kids K q d (St d q.length (dp q pth)) w es i xs) (xs ++ ((es.take i).filterMap (kid q d pth w)).reverse) := by
  intro i
  induction i with
  | zero => intro xs _ _; simp only [walk_each.kids, List.take_zero, List.filterMap_nil, List.reverse_nil, List.append_nil]; exact Ev.now _
  | succ i ih =>
    intro xs hi hx
    have he : es.take (i + 1) = es.take i ++ [rd_T91 es (i : Int)] := by
      unfold rd_T91
      rw [Int.toNat_natCast, List.take_succ_eq_append_getElem (by omega), List.getD_eq_getElem?_getD, List.getElem?_eq_getElem (by omega)]
      rfl
    simp only [walk_each.kids]
    refine Ev.bind (f := fun K s => if s.length = 0 then walk_each.kids K q d (St d q.length (dp q pth)) w es i xs else if xs.length < 1000000 ∧ w.size < 1000000 then walk_each.kids K q d (St d q.length (dp q pth)) w es i (xs ++ [⟨(rd_T91 es i).f1, s, w ++ Utf8.encode (rd_T91 es i).f0⟩]) else none) (Step_dp q pth (rd_T91 es i).f0 d hd4 hq) ?_
    rw [he, List.filterMap_append]
    by_cases hdead : St d q.length (dp q (pth ++ [(rd_T91 es (i : Int)).f0])) = []
    · have hk : kid q d pth w (rd_T91 es (i : Int)) = none := by unfold kid; rw [if_pos hdead]
      simp only [hdead, List.length_nil, if_true, List.filterMap_cons, hk, List.filterMap_nil, List.append_nil]
      exact ih xs (by omega) (by omega)
    · have hk : kid q d pth w (rd_T91 es (i : Int)) = some ⟨(rd_T91 es (i : Int)).f1, St d q.length (dp q (pth ++ [(rd_T91 es (i : Int)).f0])), w ++ Utf8.encode (rd_T91 es (i : Int)).f0⟩ := by unfold kid; rw [if_neg hdead]
      have hlen : ¬ (St d q.length (dp q (pth ++ [(rd_T91 es (i : Int)).f0]))).length = 0 := fun e => hdead (List.length_eq_zero_iff.1 e)
      simp only [hlen, if_false, show xs.length < 1000000 ∧ w.size < 1000000 from ⟨by omega, hw⟩, and_self, if_true, List.filterMap_cons, hk, List.filterMap_nil, List.reverse_append, List.reverse_cons, List.reverse_nil, List.nil_append]
      have := ih (xs ++ [⟨(rd_T91 es (i : Int)).f1, St d q.length (dp q (pth ++ [(rd_T91 es (i : Int)).f0])), w ++ Utf8.encode (rd_T91 es (i : Int)).f0⟩]) (by omega) (by simp; omega)
      rw [List.append_assoc] at this
      exact this
theorem rd_last (xs : List S96) (p : S96) : rd_T96 (xs ++ [p]) (((xs ++ [p]).length : Int) - 1) = p := by
  unfold rd_T96
  rw [List.length_append, List.length_singleton, show ((((xs.length + 1 : Nat) : Int)) - 1).toNat = xs.length by omega, List.getD_eq_getElem?_getD, List.getElem?_append_right (Nat.le_refl _)]
  simp
theorem runes_empty' {s : ByteArray} (h : s = ⟨#[]⟩) : runes s 0 = [] := by rw [h]; exact runes_empty
theorem outW_end (q : List Int) (d : Nat) (pth : List Int) (w : ByteArray) (l : List ByteArray) : outW q d pth w l = (if isEnd l = true ∧ far q pth = d then [w] else []) ++ outW q d pth w (restsOf l) := by
  cases l with
  | nil => simp [isEnd, restsOf, outW]
  | cons s t =>
    by_cases he : s = ⟨#[]⟩
    · have h1 : isEnd (s :: t) = true := by simp [isEnd, he]
      have h2 : restsOf (s :: t) = t := by unfold restsOf; rw [if_pos h1]; rfl
      rw [h1, h2]
      unfold outW
      rw [List.filter_cons, runes_empty' he, List.append_nil]
      by_cases hf : far q pth = d
      · simp [hf, he, append_empty']
      · simp [hf]
    · have h1 : isEnd (s :: t) = false := by simp [isEnd, he]
      have h2 : restsOf (s :: t) = s :: t := by unfold restsOf; rw [if_neg (by rw [h1]; simp)]
      rw [h1, h2]
      simp
theorem repE_len : ∀ (f : Nat) (ns : List S72) (es : List S91) (l : List ByteArray), RepE f ns es l → es.length ≤ l.length
  | 0, _, _, _, h => by simp [RepE] at h
  | f + 1, ns, es, l, h => by
    unfold RepE at h
    cases es with
    | nil => simp
    | cons e es => cases l with
      | nil => exact h.elim
      | cons s t =>
        have h1 := repE_len f ns es _ h.2.2
        have h2 : 1 ≤ (grp (hd s) (wd s) (s :: t)).length := by rw [grp_cons]; simp
        rw [List.length_drop] at h1
        simp only [List.length_cons] at h1 ⊢
        omega
section
variable {α : Type} (q : List Int) (d : Nat) (ns : List S72) (step : α → ByteArray → Option (α × Bool))
theorem each_spec (hd4 : d ≤ 4) (hq : q.length ≤ 16) (r : α) : ∀ f : Nat,
    (∀ (n : Int) (l : List ByteArray) (pth : List Int) (w : ByteArray), Rep f ns n l → GoodR (restsOf l) → w.size + 4 * bytesOf_ l < 900000 → ∀ (xs : List S96) (a : α) (y : α × Bool), xs.length + 1 + bytesOf_ l + l.length ≤ 1000000 → runs step a (outW q d pth w l) = some y → (y.2 = false → y.1 = r) →
      (y.2 = true → Ev2 (fun k kq => walk_each.l0 k q d ns step kq xs y.1) r) → Ev2 (fun k kq => walk_each.l0 k q d ns step kq (xs ++ [⟨n, St d q.length (dp q pth), w⟩]) a) r) ∧
    (∀ (es : List S91) (l : List ByteArray) (pth : List Int) (w : ByteArray), RepE f ns es l → GoodR l → w.size + 4 * bytesOf_ l < 900000 → ∀ (xs : List S96) (a : α) (y : α × Bool), xs.length + bytesOf_ l + l.length ≤ 1000000 → runs step a (outW q d pth w l) = some y → (y.2 = false → y.1 = r) →
      (y.2 = true → Ev2 (fun k kq => walk_each.l0 k q d ns step kq xs y.1) r) →
      (∃ a', a' = a ∧ Ev2 (fun k kq => walk_each.l0 k q d ns step kq (xs ++ (es.filterMap (kid q d pth w)).reverse) a) r)) := by
  intro f
  induction f with
  | zero => exact ⟨fun n l pth w h => by simp [Rep] at h, fun es l pth w h => by simp [RepE] at h⟩
  | succ f ih =>
    obtain ⟨ih1, ih2⟩ := ih
    refine ⟨fun n l pth w hR hl hw xs a y hx hy hno hyes => ?_, fun es l pth w hR hl hw xs a y hx hy hno hyes => ?_⟩
    · unfold Rep at hR
      obtain ⟨h0, x, hx1, hf, hE⟩ := hR
      have hna : nodeAt ns n = x := by unfold nodeAt rd_T72; rw [if_pos h0, List.getD_eq_getElem?_getD, hx1]; rfl
      have hel := repE_len f ns x.f1 (restsOf l) hE
      have hrl := restsOf_len l
      have hrb := restsOf_bytes l
      rw [outW_end, runs_append] at hy
      obtain ⟨K1, hD0⟩ := Dist_dp q pth d hd4 hq
      have hD : ∀ k, K1 ≤ k → auto_Dist.f k q d (St d q.length (dp q pth)) = some (if far q pth ≤ d then ((far q pth : Int), true) else (0, false)) := hD0
      -- what the word itself leaves
      obtain ⟨z, hz, hy2⟩ := Option.bind_eq_some_iff.1 hy
      have hstep : (if isEnd l = true ∧ far q pth = d then step a w else some (a, true)) = some z := by
        by_cases hc : isEnd l = true ∧ far q pth = d
        · rw [if_pos hc] at hz ⊢
          simp only [runs] at hz
          obtain ⟨z', hz', hz2⟩ := Option.bind_eq_some_iff.1 hz
          rw [hz']
          by_cases hb : z'.2 = true
          · rw [if_pos hb] at hz2
            rw [← hz2]
            congr 1
            exact Prod.ext rfl hb
          · rw [if_neg hb] at hz2
            exact hz2
        · rw [if_neg hc] at hz ⊢
          exact hz
      have hED : graph_Edges.f ns n = some x.f1 := by unfold graph_Edges.f api_Edge.f; rw [hna, if_pos (by omega)]
      have hcond : ∀ k, K1 ≤ k → ((auto_Dist.f k q d (St d q.length (dp q pth))).bind fun t => (if t.2 = true ∧ t.1 = (d : Int) ∧ (nodeAt ns n).f0 = true then step a w else some (a, true))) = some z := by
        intro k hk
        rw [hD k hk, Option.bind_some, ← hstep, hna, hf]
        by_cases hfar : far q pth ≤ d
        · rw [if_pos hfar]
          dsimp only
          by_cases hc : isEnd l = true ∧ far q pth = d
          · rw [if_pos hc, if_pos ⟨rfl, by omega, hc.1⟩]
          · rw [if_neg hc, if_neg (fun h => hc ⟨h.2.2, by have := h.2.1; omega⟩)]
        · rw [if_neg hfar]
          dsimp only
          rw [if_neg (fun h => by cases h.1), if_neg (fun h => hfar (by omega))]
      by_cases hzb : z.2 = true
      · rw [if_pos hzb] at hy2
        obtain ⟨K2, hk2⟩ := kids_ev q d hd4 hq pth w (by omega) x.f1 x.f1.length xs (Nat.le_refl _) (by omega)
        obtain ⟨_, _, K3, hk3⟩ := ih2 x.f1 (restsOf l) pth w hE hl (by omega) xs z.1 y (by omega) hy2 hno hyes
        refine ⟨max (max K1 K2) K3 + 1, fun k kq hk hkq => ?_⟩
        obtain ⟨kq', rfl⟩ : ∃ m, kq = m + 1 := ⟨kq - 1, by omega⟩
        simp only [walk_each.l0]
        rw [if_neg (by simp), rd_last]
        have h1 := hcond k (by omega)
        obtain ⟨t, ht1, ht2⟩ := Option.bind_eq_some_iff.1 h1
        simp only [ht1, Option.bind_some]
        rw [ht2, Option.bind_some, if_pos hzb, hED, Option.bind_some]
        rw [show (xs ++ [(⟨n, St d q.length (dp q pth), w⟩ : S96)]).take ((xs ++ [(⟨n, St d q.length (dp q pth), w⟩ : S96)]).length - 1) = xs by simp]
        have h2 : walk_each.kids k q d (St d q.length (dp q pth)) w x.f1 x.f1.length xs = some _ := hk2 k (by omega)
        rw [List.take_length] at h2
        rw [h2, Option.bind_some]
        exact hk3 k kq' (by omega) (by omega)
      · rw [if_neg hzb] at hy2
        obtain rfl := Option.some.inj hy2
        have hzf : z.2 = false := by simpa using hzb
        refine ⟨K1 + 1, fun k kq hk hkq => ?_⟩
        obtain ⟨kq', rfl⟩ : ∃ m, kq = m + 1 := ⟨kq - 1, by omega⟩
        simp only [walk_each.l0]
        rw [if_neg (by simp), rd_last]
        have h1 := hcond k (by omega)
        obtain ⟨t, ht1, ht2⟩ := Option.bind_eq_some_iff.1 h1
        simp only [ht1, Option.bind_some]
        rw [ht2, Option.bind_some, if_neg hzb, hno hzf]
    · unfold RepE at hR
      refine ⟨a, rfl, ?_⟩
      cases es with
      | nil => cases l with
        | cons _ _ => exact hR.elim
        | nil =>
          simp only [outW, List.filter_nil, List.map_nil, runs] at hy
          obtain rfl := Option.some.inj hy
          simpa using hyes rfl
      | cons e es => cases l with
        | nil => exact hR.elim
        | cons s t =>
          obtain ⟨he, hn, hE⟩ := hR
          have hs := hl.clean s List.mem_cons_self
          have hgb := grp_bytes hs.2 (s :: t)
          have hgl : 1 ≤ (grp (hd s) (wd s) (s :: t)).length := by rw [grp_cons]; simp
          have hgle := grp_le (hd s) (wd s) (s :: t)
          have hdl : ((s :: t).drop (grp (hd s) (wd s) (s :: t)).length).length = (s :: t).length - (grp (hd s) (wd s) (s :: t)).length := List.length_drop
          have hel := repE_len f ns es _ hE
          have hen : Utf8.encode e.f0 = hd s := by rw [he, hd_encode hs.1 hs.2]
          have hes : (hd s).size ≤ 4 := by rw [← hen]; exact enc_le _
          have hws : (w ++ hd s).size = w.size + (hd s).size := ByteArray.size_append
          rw [← List.take_append_drop (grp (hd s) (wd s) (s :: t)).length (s :: t), outW_append, outW_grp q d pth w hl, runs_append] at hy
          obtain ⟨z, hz, hy2⟩ := Option.bind_eq_some_iff.1 hy
          have hfm : (es.filterMap (kid q d pth w)).length ≤ es.length := List.length_filterMap_le _ _
          have hrest : ∀ (z' : α × Bool), z'.2 = true → runs step z'.1 (outW q d pth w ((s :: t).drop (grp (hd s) (wd s) (s :: t)).length)) = some y → Ev2 (fun k kq => walk_each.l0 k q d ns step kq (xs ++ (es.filterMap (kid q d pth w)).reverse) z'.1) r := fun z' _ h => by
            obtain ⟨_, _, h'⟩ := ih2 es _ pth w hE (drop_good hl _) (by omega) xs z'.1 y (by omega) h hno hyes
            exact h'
          by_cases hdead : St d q.length (dp q (pth ++ [e.f0])) = []
          · have hk : kid q d pth w e = none := by unfold kid; rw [if_pos hdead]
            rw [← he, outW_dead q d _ _ _ hdead] at hz
            simp only [runs] at hz
            obtain rfl := Option.some.inj hz
            rw [List.filterMap_cons, hk]
            exact hrest (a, true) rfl (by simpa using hy2)
          · have hk : kid q d pth w e = some ⟨e.f1, St d q.length (dp q (pth ++ [e.f0])), w ++ hd s⟩ := by unfold kid; rw [if_neg hdead, hen]
            rw [List.filterMap_cons, hk]
            simp only [List.reverse_cons]
            rw [← List.append_assoc]
            rw [← he] at hz
            refine ih1 e.f1 _ (pth ++ [e.f0]) (w ++ hd s) hn (restsOf_good (grp_good hl)) (by omega) _ a z (by rw [List.length_append, List.length_reverse]; omega) hz ?_ ?_
            · intro hzf
              rw [if_neg (by rw [hzf]; simp)] at hy2
              obtain rfl := Option.some.inj hy2
              exact hno hzf
            · intro hzt
              rw [if_pos hzt] at hy2
              exact hrest z hzt hy2
end
/-- The words at just distance d, in order. -/
def near (q : List Int) (d : Nat) (l : List ByteArray) : List ByteArray := l.filter fun x => decide (far q (runes x 0) = d)
theorem outW_root (q : List Int) (d : Nat) (l : List ByteArray) : outW q d [] ⟨#[]⟩ l = near q d l := by
  unfold outW near
  simp only [List.nil_append]
  rw [List.map_congr_left (g := id) (fun x _ => empty_append' x), List.map_id]
theorem each_ev {α : Type} (q : List Int) (d : Nat) (ns : List S72) (step : α → ByteArray → Option (α × Bool)) (hd4 : d ≤ 4) (hq : q.length ≤ 16) (f : Nat) (l : List ByteArray) (hR : Rep f ns 0 l) (hl : GoodR (restsOf l)) (hb : bytesOf_ l + l.length ≤ 100000) (a : α) (y : α × Bool)
    (hy : runs step a (near q d l) = some y) : Ev (fun K => walk_each.f K q d ns step a) y.1 := by
  rw [← outW_root] at hy
  obtain ⟨K, hK⟩ := (each_spec q d ns step hd4 hq y.1 f).1 0 l [] ⟨#[]⟩ hR hl (by show 0 + _ < _; omega) [] a y (by simp; omega) hy (fun _ => rfl) (fun _ => ⟨1, fun k kq _ hkq => by
    obtain ⟨m, rfl⟩ : ∃ m, kq = m + 1 := ⟨kq - 1, by omega⟩
    simp [walk_each.l0]⟩)
  refine ⟨K, fun k hk => ?_⟩
  show walk_each.f k q d ns step a = some y.1
  unfold walk_each.f
  rw [Start_St q d hd4, Option.bind_some]
  exact hK k k hk hk
end Go.Proofs.Ytklidannncajiaa.OW

namespace Go.Proofs.Ytklidannncajiaa.OW
open Go.RowKit Go.Proofs.YtklidannncajiaaW.PrintWords Go.Proofs.YtklidannncajiaaW.PrintLast Go.Proofs.YtklidannncajiaaW.PrintMore
set_option linter.unusedVariables false
set_option linter.unusedSimpArgs false

/-- What Build tells: the error's number; the nodes. -/
def graph_Build.f (k : Nat) (l : List ByteArray) : Option (Int × List S72) :=
  (list_Good.f k l).bind fun e => if e = 0 then (if l = [] then some (0, [z72]) else (node k l ⟨[], fun _ => none⟩).bind fun y => some (0, y.2.ns)) else some (e, [])
def buildWorld (w : World) : World := ((w.alloc (.cells #[.slice none 0 0] 66)).alloc (.map #[] 0)).alloc (.cells #[.pointer (some ⟨w.heap.size, 0, none⟩), .map (some (w.heap.size + 1))] 69)
theorem build_start (w : World) : BuilderAt (buildWorld w) w.heap.size (w.heap.size + 1 + 1) w.heap.size (w.heap.size + 1) (fun _ => True) ⟨[], fun _ => none⟩ ∧ Below w.heap.size w (buildWorld w) := by
  have e1 : (w.alloc (.cells #[.slice none 0 0] 66)).heap.size = w.heap.size + 1 := by simp
  have e2 : ((w.alloc (.cells #[.slice none 0 0] 66)).alloc (.map #[] 0)).heap.size = w.heap.size + 1 + 1 := by simp
  have h0 := heap_alloc_new w (.cells #[.slice none 0 0] 66)
  have h1 := MapAt.made (w.alloc (.cells #[.slice none 0 0] 66))
  have h2 := heap_alloc_new ((w.alloc (.cells #[.slice none 0 0] 66)).alloc (.map #[] 0)) (.cells #[.pointer (some ⟨w.heap.size, 0, none⟩), .map (some (w.heap.size + 1))] 69)
  rw [e1] at h1
  rw [e2] at h2
  unfold buildWorld
  refine ⟨⟨h2, Nat.le_refl _, Nat.le_succ _, by simp; omega, ⟨_, blk_alloc (blk_alloc h0 _) _, Kd.R_nil _ _ _ _ _⟩, h1.move (Below.heap_alloc _ _ _ h1.lt)⟩, ?_⟩
  exact (((Below.refl _ _).alloc (Nat.le_refl _) _).alloc (by simp) _).alloc (by simp; omega) _
set_option maxHeartbeats 2000000 in
set_option maxRecDepth 100000 in
theorem graph_Build.calls (k : Nat) (A : Option Addr) (c : Nat) (l : List ByteArray) (ns : List S72) (w : World) (hr : Kd.C Kd.string w A l.length l) (hc : l.length ≤ c) (h : graph_Build.f k l = some (0, ns)) :
    Calls Try.prog 14 #[.slice A l.length c] w fun en w' => ∃ g, en = .returned (.tuple #[.pointer (some ⟨g, 0, none⟩), .int .i64 0]) ∧ w.heap.size ≤ g ∧ GraphAt w' g ns ∧ Below w.heap.size w w' := by
  obtain ⟨e', hg, h⟩ := Option.bind_eq_some_iff.1 h
  by_cases h0 : e' = 0
  case neg =>
    rw [if_neg h0] at h
    exact absurd (Prod.mk.inj (Option.some.inj h)).1 h0
  rw [if_pos h0] at h
  subst h0
  have HG := Aside0.mk hg
  have HR := Aside0.mk hr
  have HC := Aside0.mk hc
  clear hg hr hc
  by_cases hl : l = []
  · subst hl
    rw [if_pos rfl] at h
    obtain ⟨_, rfl⟩ := Prod.mk.inj (Option.some.inj h)
    clear h
    have hmm := @run_makeMap Try.prog
    go_enter Try.func14, Try.ntmps14
    go_upto_region 4 with ((with_reducible refine gate_callee (f := 28) rfl ?_); (try (refine gate_guard (by rfl) ?_; dsimp only)); refine goesL_ (some 7) rfl rfl Try.func28 (by kernel_rfl) rfl #[.slice A ([] : List ByteArray).length c] rfl (by (try simp only [List.map_toArray, List.map_cons, List.map_nil]); first | done | rfl) ?_; (with_reducible refine (list_Good.calls k A c [] 0 w HR.out HC.out HG.out).mono ?_); rintro e w1 ⟨rfl, hb⟩; refine ⟨_, rfl, ?_⟩; have HB1 := Aside0.mk hb; clear hb)
    go_upto_region 5 with fail
    have HS := Aside0.mk (build_start w1).1
    have HS2 := Aside0.mk (below_step HB1.out (build_start w1).2)
    have HX := Aside0.mk HB1.out.size
    show Code.wp _ _ _ _ (buildWorld w1)
    generalize buildWorld w1 = w2 at HS HS2 ⊢
    clear hmm HB1
    have hb0 : w2.cell? ⟨w1.heap.size + 1 + 1, 0, none⟩ = some (.pointer (some ⟨w1.heap.size, 0, none⟩)) := blk_cell HS.out.blk 0
    obtain ⟨v, hg, _⟩ := HS.out.graph
    have hg0 := block_cell hg
    have hf0 := blk_frozen hg 0
    have HGG := Aside0.mk hg
    clear hg
    go_wp2_with ((with_reducible refine gate_dst (N := 24) rfl ?_); refine Kd.R_lit (w0 := w2) k72 w1.heap.size 72 ?hg (N := 24) ?hd (xs := ([z72] : List S72)) (inner := [.bool false, .slice none 0 0]) (ok := fun _ => True) (okp := fun _ => True) ?hr ?hp (fun _ hk => hk) trivial (Below.refl _ _) HS.out.size (by simp) ?_; (case hd => rfl); (case hg => rfl); (case hr => first | (go_simp; done) | (go_simp; rfl)); (case hp => exact (Reps.c2 (show Kd.M k72 _ _ _ z72 [.bool false, .slice none 0 0] from (k72_mkM _ _ _ z72 (Kd.R_nil _ _ _ _ _))) (Reps.none _ _))); intro v3 w3 ho hb hg3 _; obtain ⟨A3, c3, e3⟩ := Kd.R_slice ho; subst e3; have HO3 := Aside0.mk ho; have HB3 := Aside0.mk (HS.out.blk |> fun h => blk_grown h hg3 (by simp)); have HG3 := Aside0.mk (blk_grown HGG.out hg3 (by simp)); have HW3 := Aside0.mk hb; have hb3 : w3.cell? ⟨w1.heap.size + 1 + 1, 0, none⟩ = some (.pointer (some ⟨w1.heap.size, 0, none⟩)) := blk_cell HB3.out 0; have hg30 := block_cell HG3.out; have hf30 := blk_frozen HG3.out 0; clear ho hb hg3 hb0 hg0 hf0)
    go_ret2
    exact ⟨w1.heap.size, rfl, HX.out, ⟨A3, c3, blk_cell (blk_set HG3.out 0 _) 0, (Kd.R_reads' HO3.out).2.1, (Kd.R_reads' (Kd.R_set HO3.out HG3.out (by decide) 0 _)).2.2⟩, HS2.out.trans ((HW3.out.setCell (p := ⟨w1.heap.size, 0, none⟩) (Nat.le_refl _) _).mono HX.out)⟩
  · rw [if_neg hl] at h
    obtain ⟨⟨r, st⟩, hn, h⟩ := Option.bind_eq_some_iff.1 h
    obtain ⟨_, rfl⟩ := Prod.mk.inj (Option.some.inj h)
    have HN := Aside0.mk hn
    have hpos : 0 < l.length := List.length_pos_iff.2 hl
    have hlz : ((l.length : Int) == 0) = false := by simp; omega
    clear h hn hl
    have hmm := @run_makeMap Try.prog
    go_enter Try.func14, Try.ntmps14
    go_upto_region 5 with ((with_reducible refine gate_callee (f := 28) rfl ?_); (try (refine gate_guard (by rfl) ?_; dsimp only)); refine goesL_ (some 7) rfl rfl Try.func28 (by kernel_rfl) rfl #[.slice A l.length c] rfl (by (try simp only [List.map_toArray, List.map_cons, List.map_nil]); first | done | rfl) ?_; (with_reducible refine (list_Good.calls k A c l 0 w HR.out HC.out HG.out).mono ?_); rintro e w1 ⟨rfl, hb⟩; refine ⟨_, rfl, ?_⟩; have HB1 := Aside0.mk hb; clear hb)
    have HS := Aside0.mk (build_start w1).1
    have HS2 := Aside0.mk (below_step HB1.out (build_start w1).2)
    have HX := Aside0.mk HB1.out.size
    show Code.wp _ _ _ _ (buildWorld w1)
    generalize buildWorld w1 = w2 at HS HS2 ⊢
    clear hmm
    have HCC := Aside0.mk (show ∀ W, NodeKept w1.heap.size (w1.heap.size + 1) w2 W → Kd.C Kd.string W A l.length l from fun W hk => Kd.C_below HR.out (HS2.out.trans ((hk.to_below (Nat.le_succ _) HS.out.size).mono HX.out)))
    go_wp2_with ((with_reducible refine gate_callee (f := 34) rfl ?_); (try (refine gate_guard (by rfl) ?_; dsimp only)); refine goesL_ (some 33) rfl rfl Try.func34 (by kernel_rfl) rfl #[.pointer (some ⟨w1.heap.size + 1 + 1, 0, none⟩), .slice A l.length c] rfl (by (try simp only [List.map_toArray, List.map_cons, List.map_nil]); first | done | rfl) ?_; (with_reducible refine (node_calls w1.heap.size (w1.heap.size + 1 + 1) w1.heap.size (w1.heap.size + 1) k l ⟨[], fun _ => none⟩ st r A c (fun _ => True) w2 HN.out HS.out HCC.out HC.out).mono ?_); rintro e w3 ⟨rfl, hb, hk⟩; refine ⟨_, rfl, ?_⟩; have HB3 := Aside0.mk hb; have HK3 := Aside0.mk hk; have hb3 : w3.cell? ⟨w1.heap.size + 1 + 1, 0, none⟩ = some (.pointer (some ⟨w1.heap.size, 0, none⟩)) := blk_cell HB3.out.blk 0; clear hb hk)
    go_ret2
    obtain ⟨v, hg, hr⟩ := HB3.out.graph
    obtain ⟨Av, cv, ev⟩ := Kd.R_slice hr
    subst ev
    exact ⟨w1.heap.size, rfl, HX.out, ⟨Av, cv, block_cell hg, (Kd.R_reads' hr).2.1, (Kd.R_reads' hr).2.2⟩, HS2.out.trans ((HK3.out.to_below (Nat.le_succ _) HS.out.size).mono HX.out)⟩
end Go.Proofs.Ytklidannncajiaa.OW
