/- What the row of the law WalkBatches leans on: contracts of functions and plain laws, each for all inputs that its own theorem names. -/
import Derived.Test.YtklidannncajiaaBa8
import Derived.Test.YtklidannncajiaaBa12
import Derived.Test.YtklidannncajiaaBa10
import Derived.Test.YtklidannncajiaaBa0
import Derived.Sort.Lot0
import Derived.Sort.LotA
import Derived.Shelf.SlSortCmp.KitK
import Derived.Outline
namespace Go.Proofs.Ytklidannncajiaa.OW
open Go.RowKit Go.Proofs.YtklidannncajiaaW.PrintWords Go.Proofs.YtklidannncajiaaW.PrintLast Go.Proofs.YtklidannncajiaaW.PrintMore Go.Proofs.Ytklidannncajiaa.Am
set_option linter.unusedVariables false
set_option linter.unusedSimpArgs false

theorem mn_nat (x y : Nat) : mn (x : Int) (y : Int) = ((min x y : Nat) : Int) := by
  unfold mn
  split
  · rw [Nat.min_eq_right (by omega)]
  · rw [Nat.min_eq_left (by omega)]
theorem mn4 (x y z w : Nat) : mn (mn (mn ((x : Int) + 1) ((y : Int) + 1)) (z : Int)) (w : Int) = ((min (min (min (x + 1) (y + 1)) z) w : Nat) : Int) := by
  rw [show ((x : Int) + 1) = ((x + 1 : Nat) : Int) from rfl, show ((y : Int) + 1) = ((y + 1 : Nat) : Int) from rfl, mn_nat, mn_nat, mn_nat]
theorem cap_add (x k c : Nat) : min (min x k + c) k = min (x + c) k := by omega
theorem cap_min (x y k : Nat) : min (min x y) k = min (min x k) (min y k) := by omega
theorem cap4 (x y z k c : Nat) : min (min (min (min x k + 1) (min y k + 1)) (min z k + c)) k = min (min (min (x + 1) (y + 1)) (z + c)) k := by
  rw [cap_min (min (min x k + 1) (min y k + 1)), cap_min (min x k + 1), cap_add, cap_add, cap_add, ← cap_min, ← cap_min]
theorem cap_same (x y z k : Nat) : min (min (min (min x k + 1) (min y k + 1)) (min z k)) k = min (min (min (x + 1) (y + 1)) z) k := by
  have h := cap4 x y z k 0
  rw [Nat.add_zero, Nat.add_zero] at h
  exact h
theorem wrn (n : Nat) (h : n ≤ 1000000) : wrap64 (n : Int) = n := wr64 _ (by omega) (by omega)
def rowOf (f : Nat → Nat) (n : Nat) : List Int := (List.range (n + 1)).map fun j => ((f j : Nat) : Int)
theorem rowOf_len (f : Nat → Nat) (n : Nat) : (rowOf f n).length = n + 1 := by simp [rowOf]
theorem rowOf_rd (f : Nat → Nat) (n j : Nat) (h : j ≤ n) : rd (rowOf f n) (j : Int) = (f j : Int) := by
  unfold rd rowOf
  rw [Int.toNat_natCast, List.getD_eq_getElem?_getD, List.getElem?_map, List.getElem?_range (by omega)]
  rfl
theorem rowOf_set (f : Nat → Nat) (n j v : Nat) (h : j ≤ n) : (rowOf f n).set j (v : Int) = rowOf (fun t => if t = j then v else f t) n := by
  unfold rowOf
  apply List.ext_getElem?
  intro i
  rw [List.getElem?_set, List.getElem?_map, List.getElem?_map, List.length_map, List.length_range]
  by_cases e : j = i
  · subst e
    rw [if_pos rfl, if_pos (by omega), List.getElem?_range (by omega)]
    simp
  · rw [if_neg e]
    by_cases hi : i < n + 1
    · rw [List.getElem?_range hi]
      simp only [Option.map_some]
      rw [if_neg (fun h => e h.symm)]
    · rw [List.getElem?_eq_none (by simp; omega)]
      rfl
theorem dp_zero (q p : List Int) : dp q p 0 = p.length := by
  induction p using snoc_induction with
  | h0 => rfl
  | h1 p r ih => rw [dp_snoc, List.length_append, List.length_singleton, ← ih]; rfl
theorem dp_le (q p : List Int) : ∀ i, dp q p i ≤ i + p.length := by
  induction p using snoc_induction with
  | h0 => intro i; simp [dp_nil]
  | h1 p r ih =>
    intro i
    rw [dp_snoc, List.length_append, List.length_singleton]
    have := step_le_old q r (dp q p) i
    have := ih i
    omega
/-- What the band's rows are: the distances of beginnings. -/
def DD (a b : List Int) (i j : Nat) : Nat := dp b (a.take i) j
theorem DD_succ (a b : List Int) (i : Nat) (hi : i < a.length) (j : Nat) : DD a b (i + 1) (j + 1) = min (min (DD a b i (j + 1) + 1) (DD a b (i + 1) j + 1)) (DD a b i j + if b.getD j 0 = a[i] then 0 else 1) := by
  unfold DD
  rw [show a.take (i + 1) = a.take i ++ [a[i]] by rw [List.take_add_one, List.getElem?_eq_getElem hi]; rfl, dp_snoc]
  rfl
theorem DD_far (a b : List Int) (i : Nat) (hi : i ≤ a.length) (j : Nat) : i ≤ DD a b i j + j ∧ j ≤ DD a b i j + i := by
  have := dp_len b (a.take i) j
  rw [List.length_take, Nat.min_eq_left hi] at this
  unfold DD
  omega
theorem DD_zero (a b : List Int) (i : Nat) (hi : i ≤ a.length) : DD a b i 0 = i := by
  unfold DD
  rw [dp_zero, List.length_take, Nat.min_eq_left hi]
def BInv (a b : List Int) (k i : Nat) (f : Nat → Nat) : Prop := ∀ j, j ≤ b.length → i ≤ j + k → j ≤ i + k + 1 → f j = min (DD a b i j) (k + 1)
theorem rd_at (l : List Int) (i : Nat) (h : i < l.length) : rd l (i : Int) = l[i] := by
  unfold rd
  rw [Int.toNat_natCast, List.getD_eq_getElem?_getD, List.getElem?_eq_getElem h]; rfl
theorem band_l2 (a b : List Int) (k i : Nat) (ha : a.length ≤ 100) (hb : b.length ≤ 100) (hk : k ≤ 1000) (hi : i < a.length) (fr to_ : Nat) (hf1 : 1 ≤ fr) (hf2 : i + 1 ≤ fr + k) (hf3 : fr = 1 ∨ fr + k = i + 1) (ht : to_ ≤ b.length) (ht2 : to_ = i + 1 + k ∨ to_ = b.length) (ht3 : to_ ≤ i + 1 + k) (R : Int × Bool)
    (H : ∀ f, BInv a b k (i + 1) f → (∀ j, f j ≤ 100000) → Ev (fun K => band_Within.l1 K a b (k : Int) ((k + 1 : Nat) : Int) (rowOf f b.length) (a.length : Int) ((i + 1 : Nat) : Int)) R) :
    ∀ (d t : Nat) (f : Nat → Nat) (was : Nat), fr + t + d = to_ + 1 → (∀ j, j < fr + t → fr ≤ j + 1 → f j = min (DD a b (i + 1) j) (k + 1)) → (∀ j, j ≤ b.length → fr + t ≤ j → j ≤ i + k + 1 → f j = min (DD a b i j) (k + 1)) → was = min (DD a b i (fr + t - 1)) (k + 1) → (∀ j, f j ≤ 100000) →
      Ev (fun K => band_Within.l2 K a b (k : Int) ((k + 1 : Nat) : Int) (rowOf f b.length) (i : Int) (fr : Int) (to_ : Int) (was : Int) (a.length : Int) (i : Int) ((to_ : Int) - (fr : Int) + 1) (t : Int)) R := by
  intro d
  induction d with
  | zero =>
    intro t f was hd hlow hhigh hwas hsm
    have hinv : ∀ f' : Nat → Nat, (∀ j, j ≤ to_ → f' j = f j) → (to_ < b.length → f' (to_ + 1) = k + 1) → BInv a b k (i + 1) f' := by
      intro f' h1 h2 j hj1 hj2 hj3
      by_cases hjt : j ≤ to_
      · rw [h1 j hjt]; exact hlow j (by omega) (by omega)
      · have hjt2 : j = to_ + 1 := by omega
        rw [hjt2, h2 (by omega)]
        have := (DD_far a b (i + 1) (by omega) (to_ + 1)).2
        omega
    by_cases hlt : to_ < b.length
    · refine Ev.step (f := fun K => band_Within.l1 K a b (k : Int) ((k + 1 : Nat) : Int) (rowOf (fun t => if t = to_ + 1 then k + 1 else f t) b.length) (a.length : Int) ((i + 1 : Nat) : Int)) (fun K => ?_) (H _ (hinv _ (fun j hj => if_neg (by omega)) (fun _ => if_pos rfl)) (fun j => by split; omega; exact hsm j))
      simp only [band_Within.l2]
      rw [if_neg (by omega), if_pos (by omega), wr64 ((to_ : Int) + 1) (by omega) (by omega), if_pos (by omega), if_pos (by rw [rowOf_len]; omega), wr64 ((i : Int) + 1) (by omega) (by omega)]
      rw [show ((to_ : Int) + 1).toNat = to_ + 1 by omega, rowOf_set f b.length (to_ + 1) (k + 1) (by omega)]
      rfl
    · refine Ev.step (f := fun K => band_Within.l1 K a b (k : Int) ((k + 1 : Nat) : Int) (rowOf f b.length) (a.length : Int) ((i + 1 : Nat) : Int)) (fun K => ?_) (H _ (hinv _ (fun j hj => rfl) (fun h => absurd h hlt)) hsm)
      simp only [band_Within.l2]
      rw [if_neg (by omega), if_neg (by omega), wr64 ((i : Int) + 1) (by omega) (by omega)]
      rfl
  | succ d ih =>
    intro t f was hd hlow hhigh hwas hsm
    obtain ⟨u, hu⟩ : ∃ u, fr + t = u + 1 := ⟨fr + t - 1, by omega⟩
    have hul : u < b.length := by omega
    have s1 := hsm (u + 1)
    have s2 := hsm u
    have s3 : was ≤ 100000 := by rw [hwas]; exact Nat.le_trans (Nat.min_le_right _ _) (by omega)
    have HFJ := Aside0.mk (hhigh (u + 1) (by omega) (by omega) (by omega))
    have HFU := Aside0.mk (hlow u (by omega) (by omega))
    have hdd := DD_succ a b i hi u
    rw [hu, Nat.add_sub_cancel] at hwas
    have HWAS := Aside0.mk hwas
    clear hwas
    have hbu : b.getD u 0 = b[u] := by rw [List.getD_eq_getElem?_getD, List.getElem?_eq_getElem hul]; rfl
    rw [hbu] at hdd
    have HDD := Aside0.mk hdd
    clear hdd hbu
    have b1 : u + 1 ≤ 1000000 := by omega
    have a1 : (t : Int) + (fr : Int) = ((u + 1 : Nat) : Int) := by omega
    have a2 : ((u + 1 : Nat) : Int) - 1 = (u : Int) := by omega
    have b2 : u ≤ 1000000 := by omega
    have b5 : f (u + 1) + 1 ≤ 1000000 := by omega
    have b6 : f u + 1 ≤ 1000000 := by omega
    have b7 : was + 1 ≤ 1000000 := by omega
    have b8 : t + 1 ≤ 1000000 := by omega
    have b9 : u + 1 ≤ b.length := by omega
    have b10 : u ≤ b.length := by omega
    have k1 : (t : Int) < (to_ : Int) - (fr : Int) + 1 := by omega
    have k2 : (0 : Int) ≤ (i : Int) := by omega
    have k3 : (i : Int) < (a.length : Int) := by omega
    have k4 : (0 : Int) ≤ (u : Int) := by omega
    have k5 : (u : Int) < (b.length : Int) := by omega
    have k6 : (0 : Int) ≤ ((u + 1 : Nat) : Int) := by omega
    have k7 : ((u + 1 : Nat) : Int) < ((b.length + 1 : Nat) : Int) := by omega
    have k8 : (u : Int) < ((b.length + 1 : Nat) : Int) := by omega
    have go_on : ∀ v : Nat, v = min (DD a b (i + 1) (u + 1)) (k + 1) → Ev (fun K => band_Within.l2 K a b (k : Int) ((k + 1 : Nat) : Int) (rowOf (fun t => if t = u + 1 then v else f t) b.length) (i : Int) (fr : Int) (to_ : Int) ((f (u + 1) : Nat) : Int) (a.length : Int) (i : Int) ((to_ : Int) - (fr : Int) + 1) ((t + 1 : Nat) : Int)) R := by
      intro v hv
      refine ih (t + 1) _ (f (u + 1)) (by omega) (fun j h1 h2 => ?_) (fun j h1 h2 h3 => ?_) (by rw [HFJ.out, show fr + (t + 1) - 1 = u + 1 by omega]) (fun j => ?_)
      · by_cases e : j = u + 1
        · rw [if_pos e, e]; exact hv
        · rw [if_neg e]; exact hlow j (by omega) h2
      · rw [if_neg (by omega)]; exact hhigh j h1 (by omega) h3
      · split
        · omega
        · exact hsm j
    have e1 : wrap64 ((t : Int) + (fr : Int)) = ((u + 1 : Nat) : Int) := by rw [a1]; exact wrn _ b1
    have e2 : wrap64 (((u + 1 : Nat) : Int) - 1) = (u : Int) := by rw [a2]; exact wrn _ b2
    have e3 : rd (rowOf f b.length) ((u + 1 : Nat) : Int) = (f (u + 1) : Int) := rowOf_rd f _ _ b9
    have e4 : rd (rowOf f b.length) (u : Int) = (f u : Int) := rowOf_rd f _ _ b10
    have e5 : wrap64 ((f (u + 1) : Int) + 1) = (f (u + 1) : Int) + 1 := wrn (f (u + 1) + 1) b5
    have e6 : wrap64 ((f u : Int) + 1) = (f u : Int) + 1 := wrn (f u + 1) b6
    have e7 : wrap64 ((was : Int) + 1) = (was : Int) + 1 := wrn (was + 1) b7
    have e8 : wrap64 ((t : Int) + 1) = ((t + 1 : Nat) : Int) := wrn (t + 1) b8
    have ea : rd a (i : Int) = a[i] := rd_at a i hi
    have eb : rd b (u : Int) = b[u] := rd_at b u hul
    by_cases hc : a[i] = b[u]
    · have hv : min (min (min (f (u + 1) + 1) (f u + 1)) was) (k + 1) = min (DD a b (i + 1) (u + 1)) (k + 1) := by
        have hdd := HDD.out
        rw [if_pos hc.symm, Nat.add_zero] at hdd
        rw [HFJ.out, HFU.out, HWAS.out, hdd]
        exact cap_same _ _ _ _
      have hgo := go_on _ hv
      clear go_on hv HFJ HFU HDD HWAS ih hlow hhigh H
      refine Ev.step (fun K => ?_) hgo
      clear hgo
      simp only [band_Within.l2, e1, e2, e3, e4, e5, e6, e7, e8, ea, eb, rowOf_len]
      rw [if_pos k1, if_pos k2, if_pos k3, if_pos k4, if_pos k5, if_pos hc, if_pos k6, if_pos k7, if_pos k8]
      rw [mn4 (f (u + 1)) (f u) was (k + 1), Int.toNat_natCast, rowOf_set f b.length (u + 1) _ b9]
    · have hv : min (min (min (f (u + 1) + 1) (f u + 1)) (was + 1)) (k + 1) = min (DD a b (i + 1) (u + 1)) (k + 1) := by
        have hdd := HDD.out
        rw [if_neg (fun h => hc h.symm)] at hdd
        rw [HFJ.out, HFU.out, HWAS.out, hdd]
        exact cap4 _ _ _ _ 1
      have hgo := go_on _ hv
      clear go_on hv HFJ HFU HDD HWAS ih hlow hhigh H
      refine Ev.step (fun K => ?_) hgo
      clear hgo
      simp only [band_Within.l2, e1, e2, e3, e4, e5, e6, e7, e8, ea, eb, rowOf_len]
      rw [if_pos k1, if_pos k2, if_pos k3, if_pos k4, if_pos k5, if_neg hc, if_pos k6, if_pos k7, if_pos k8]
      rw [show ((was : Int) + 1) = ((was + 1 : Nat) : Int) from rfl, mn4 (f (u + 1)) (f u) (was + 1) (k + 1), Int.toNat_natCast, rowOf_set f b.length (u + 1) _ b9]
/-- The outer loop, from row i on. -/
theorem band_l1 (a b : List Int) (k : Nat) (ha : a.length ≤ 100) (hb : b.length ≤ 100) (hk : k ≤ 1000) (hab : a.length ≤ b.length + k) (hba : b.length ≤ a.length + k) :
    ∀ (d i : Nat) (f : Nat → Nat), i + d = a.length → BInv a b k i f → (∀ j, f j ≤ 100000) →
      Ev (fun K => band_Within.l1 K a b (k : Int) ((k + 1 : Nat) : Int) (rowOf f b.length) (a.length : Int) (i : Int)) (if DD a b a.length b.length ≤ k then ((DD a b a.length b.length : Int), true) else (0, false)) := by
  intro d
  induction d with
  | zero =>
    intro i f hd hI hsm
    obtain rfl : i = a.length := by omega
    have hf := hI b.length (Nat.le_refl _) hab (by omega)
    have hrd : rd (rowOf f b.length) (b.length : Int) = (f b.length : Int) := rowOf_rd f _ _ (Nat.le_refl _)
    have k1 : ¬ ((a.length : Int) < (a.length : Int)) := by omega
    have k2 : (0 : Int) ≤ (b.length : Int) := by omega
    have k3 : (b.length : Int) < ((b.length + 1 : Nat) : Int) := by omega
    refine Ev.step (f := fun _ => some (if DD a b a.length b.length ≤ k then ((DD a b a.length b.length : Int), true) else (0, false))) (fun K => ?_) (Ev.now _)
    simp only [band_Within.l1, rowOf_len, hrd]
    rw [if_neg k1, if_pos k2, if_pos k3]
    by_cases hle : DD a b a.length b.length ≤ k
    · have e : f b.length = DD a b a.length b.length := by rw [hf]; exact Nat.min_eq_left (by omega)
      rw [if_pos hle, e, if_neg (by omega)]
    · have e : f b.length = k + 1 := by rw [hf]; exact Nat.min_eq_right (by omega)
      rw [if_neg hle, e, if_pos (by omega)]
  | succ d ih =>
    intro i f hd hI hsm
    have hi : i < a.length := by omega
    obtain ⟨fr, hfr⟩ : ∃ fr, fr = max (i + 1 - k) 1 := ⟨_, rfl⟩
    obtain ⟨to_, hto⟩ : ∃ t, t = min (i + 1 + k) b.length := ⟨_, rfl⟩
    have f1 : 1 ≤ fr := by rw [hfr]; exact Nat.le_max_right _ _
    have f2 : i + 1 ≤ fr + k := by rw [hfr]; have := Nat.le_max_left (i + 1 - k) 1; omega
    have f3 : fr = 1 ∨ fr + k = i + 1 := by rw [hfr]; rcases Nat.le_total (i + 1 - k) 1 with h | h; exact .inl (Nat.max_eq_right h); rw [Nat.max_eq_left h]; omega
    have t1 : to_ ≤ b.length := by rw [hto]; exact Nat.min_le_right _ _
    have t3 : to_ ≤ i + 1 + k := by rw [hto]; exact Nat.min_le_left _ _
    have t2 : to_ = i + 1 + k ∨ to_ = b.length := by rw [hto]; rcases Nat.le_total (i + 1 + k) b.length with h | h; exact .inl (Nat.min_eq_left h); exact .inr (Nat.min_eq_right h)
    have ht : fr ≤ to_ + 1 := by omega
    have hfb : fr ≤ b.length + 1 := by omega
    -- the new row's beginning
    obtain ⟨g, hg⟩ : ∃ g : Nat → Nat, g = fun t => if t = fr - 1 then (if fr = 1 then min (i + 1) (k + 1) else k + 1) else f t := ⟨_, rfl⟩
    have hlow : ∀ j, j < fr + 0 → fr ≤ j + 1 → g j = min (DD a b (i + 1) j) (k + 1) := by
      intro j h1 h2
      obtain rfl : j = fr - 1 := by omega
      rw [hg]
      show (if fr - 1 = fr - 1 then _ else _) = _
      rw [if_pos rfl]
      by_cases e : fr = 1
      · rw [if_pos e, e, DD_zero a b (i + 1) (by omega)]
      · rw [if_neg e]
        have := (DD_far a b (i + 1) (by omega) (fr - 1)).1
        exact (Nat.min_eq_right (by omega)).symm
    have hhigh : ∀ j, j ≤ b.length → fr + 0 ≤ j → j ≤ i + k + 1 → g j = min (DD a b i j) (k + 1) := by
      intro j h1 h2 h3
      rw [hg]
      show (if j = fr - 1 then _ else _) = _
      rw [if_neg (by omega)]
      exact hI j h1 (by omega) h3
    have hwas : f (fr - 1) = min (DD a b i (fr + 0 - 1)) (k + 1) := hI (fr - 1) (by omega) (by omega) (by omega)
    have hgs : ∀ j, g j ≤ 100000 := by
      intro j
      rw [hg]
      show (if j = fr - 1 then _ else _) ≤ _
      split
      · split
        · exact Nat.le_trans (Nat.min_le_right _ _) (by omega)
        · omega
      · exact hsm j
    have hl2 := band_l2 a b k i ha hb hk hi fr to_ f1 f2 f3 t1 t2 t3 _ (fun f' h1 h2 => ih (i + 1) f' (by omega) h1 h2) (to_ + 1 - fr) 0 g (f (fr - 1)) (by omega) hlow hhigh hwas hgs
    have HG := Aside0.mk hg
    clear hlow hhigh hwas hgs hg hI ih t2 f3
    have b1 : i + 1 ≤ 1000000 := by omega
    have b2 : i + 1 + k ≤ 1000000 := by omega
    have b3 : fr - 1 ≤ 1000000 := by omega
    have b4 : to_ + 1 - fr ≤ 1000000 := by omega
    have b5 : fr - 1 ≤ b.length := by omega
    have c1 : (i : Int) < (a.length : Int) := by omega
    have c2 : (0 : Int) ≤ ((fr - 1 : Nat) : Int) := by omega
    have c3 : ((fr - 1 : Nat) : Int) < ((b.length + 1 : Nat) : Int) := by omega
    have c4 : (0 : Int) < ((b.length + 1 : Nat) : Int) := by omega
    have a1 : (i : Int) + 1 = ((i + 1 : Nat) : Int) := by omega
    have a2 : mx (((i + 1 : Nat) : Int) - (k : Int)) 1 = (fr : Int) := by
      unfold mx
      split <;> rename_i h
      · rcases Nat.le_total (i + 1 - k) 1 with h5 | h5
        · rw [hfr, Nat.max_eq_right h5]; rfl
        · omega
      · rcases Nat.le_total (i + 1 - k) 1 with h5 | h5
        · rw [hfr, Nat.max_eq_right h5]; omega
        · rw [hfr, Nat.max_eq_left h5]; omega
    have a3 : mn (((i + 1 + k : Nat)) : Int) (b.length : Int) = (to_ : Int) := by rw [mn_nat, hto]
    have a4 : ((i + 1 : Nat) : Int) + (k : Int) = ((i + 1 + k : Nat) : Int) := by omega
    have a5 : (fr : Int) - 1 = ((fr - 1 : Nat) : Int) := by omega
    have a6 : (-9223372036854775808 : Int) ≤ ((i + 1 : Nat) : Int) - (k : Int) ∧ ((i + 1 : Nat) : Int) - (k : Int) ≤ 9223372036854775807 := by omega
    have a7 : (-9223372036854775808 : Int) ≤ (to_ : Int) - (fr : Int) ∧ (to_ : Int) - (fr : Int) ≤ 9223372036854775807 := by omega
    have a8 : (-9223372036854775808 : Int) ≤ (to_ : Int) - (fr : Int) + 1 ∧ (to_ : Int) - (fr : Int) + 1 ≤ 9223372036854775807 := by omega
    have e1 : wrap64 ((i : Int) + 1) = ((i + 1 : Nat) : Int) := by rw [a1]; exact wrn _ b1
    have e2 : wrap64 (((i + 1 : Nat) : Int) - (k : Int)) = ((i + 1 : Nat) : Int) - (k : Int) := wr64 _ a6.1 a6.2
    have e3 : wrap64 (((i + 1 : Nat) : Int) + (k : Int)) = ((i + 1 + k : Nat) : Int) := by rw [a4]; exact wrn _ b2
    have e4 : wrap64 ((fr : Int) - 1) = ((fr - 1 : Nat) : Int) := by rw [a5]; exact wrn _ b3
    have e5 : wrap64 ((to_ : Int) - (fr : Int)) = (to_ : Int) - (fr : Int) := wr64 _ a7.1 a7.2
    have e6 : wrap64 ((to_ : Int) - (fr : Int) + 1) = (to_ : Int) - (fr : Int) + 1 := wr64 _ a8.1 a8.2
    have e7 : rd (rowOf f b.length) ((fr - 1 : Nat) : Int) = (f (fr - 1) : Int) := rowOf_rd f _ _ b5
    have e8 : (rowOf f b.length).set (fr - 1) ((k + 1 : Nat) : Int) = rowOf (fun t => if t = fr - 1 then k + 1 else f t) b.length := rowOf_set f _ _ _ b5
    by_cases hone : fr = 1
    · refine Ev.step (f := fun K => band_Within.j3 K a b (k : Int) ((k + 1 : Nat) : Int) (rowOf g b.length) (i : Int) (fr : Int) (to_ : Int) (f (fr - 1) : Int) (a.length : Int) (i : Int)) (fun K => ?_) ?_
      · simp only [band_Within.l1, e1, e2, e3, a2, a3, e4, e7, rowOf_len, Option.bind_some, Int.toNat_natCast, e8]
        rw [if_pos c1, if_pos c2, if_pos c3, if_pos (by rw [hone]; rfl), if_pos c4]
        rw [mn_nat, show ((0 : Int)).toNat = 0 from rfl, rowOf_set _ _ _ _ (Nat.zero_le _)]
        congr 2
        rw [HG.out]
        funext t
        by_cases ht0 : t = 0
        · rw [if_pos ht0, if_pos (by omega), if_pos hone]
        · rw [if_neg ht0, if_neg (by omega), if_neg (by omega)]
      · refine Ev.step (fun K => ?_) hl2
        simp only [band_Within.j3, e5, e6]
        rfl
    · refine Ev.step (f := fun K => band_Within.j3 K a b (k : Int) ((k + 1 : Nat) : Int) (rowOf g b.length) (i : Int) (fr : Int) (to_ : Int) (f (fr - 1) : Int) (a.length : Int) (i : Int)) (fun K => ?_) ?_
      · simp only [band_Within.l1, e1, e2, e3, a2, a3, e4, e7, rowOf_len, Option.bind_some, Int.toNat_natCast, e8]
        rw [if_pos c1, if_pos c2, if_pos c3, if_neg (fun h => hone (by omega))]
        congr 2
        rw [HG.out]
        funext t
        by_cases ht0 : t = fr - 1
        · rw [if_pos ht0, if_pos ht0, if_neg hone]
        · rw [if_neg ht0, if_neg ht0]
      · refine Ev.step (fun K => ?_) hl2
        simp only [band_Within.j3, e5, e6]
        rfl
/-- The first row. -/
theorem band_l0 (a b : List Int) (k : Nat) (hb : b.length ≤ 100) (R : Int × Bool) (H : Ev (fun K => band_Within.l1 K a b (k : Int) ((k + 1 : Nat) : Int) (rowOf (fun j => min j (k + 1)) b.length) (a.length : Int) 0) R) :
    ∀ (d j : Nat), j + d = b.length + 1 → Ev (fun K => band_Within.l0 K a b (k : Int) ((k + 1 : Nat) : Int) (rowOf (fun t => if t < j then min t (k + 1) else 0) b.length) ((b.length + 1 : Nat) : Int) (j : Int)) R := by
  intro d
  induction d with
  | zero =>
    intro j hd
    refine Ev.step (fun K => ?_) H
    simp only [band_Within.l0]
    rw [if_neg (by omega)]
    congr 1
    unfold rowOf
    apply List.map_congr_left
    intro t ht
    show ((if t < j then min t (k + 1) else 0 : Nat) : Int) = ((min t (k + 1) : Nat) : Int)
    rw [if_pos (by have := List.mem_range.1 ht; omega)]
  | succ d ih =>
    intro j hd
    have b1 : j + 1 ≤ 1000000 := by omega
    have b2 : j ≤ b.length := by omega
    have c1 : (j : Int) < ((b.length + 1 : Nat) : Int) := by omega
    have c2 : (0 : Int) ≤ (j : Int) := by omega
    refine Ev.step (fun K => ?_) (ih (j + 1) (by omega))
    simp only [band_Within.l0, rowOf_len]
    rw [if_pos c1, if_pos c2, if_pos c1, mn_nat, Int.toNat_natCast, rowOf_set _ _ _ _ b2, show wrap64 ((j : Int) + 1) = ((j + 1 : Nat) : Int) from wrn (j + 1) b1]
    congr 1
    unfold rowOf
    apply List.map_congr_left
    intro t ht
    show ((if t = j then min j (k + 1) else if t < j then min t (k + 1) else 0 : Nat) : Int) = ((if t < j + 1 then min t (k + 1) else 0 : Nat) : Int)
    by_cases e : t = j
    · rw [if_pos e, if_pos (by omega), e]
    · rw [if_neg e]
      by_cases h : t < j
      · rw [if_pos h, if_pos (by omega)]
      · rw [if_neg h, if_neg (by omega)]
theorem rowOf_zero (n : Nat) : (List.replicate (n + 1) 0 : List Int) = rowOf (fun _ => 0) n := by
  unfold rowOf
  apply List.ext_getElem?
  intro i
  rw [List.getElem?_replicate, List.getElem?_map]
  by_cases h : i < n + 1
  · rw [if_pos h, List.getElem?_range h]; rfl
  · rw [if_neg h, List.getElem?_eq_none (by simp; omega)]; rfl
theorem far_le_sum (a b : List Int) : far b a ≤ a.length + b.length := by
  have := dp_le b a b.length
  unfold far
  omega
theorem far_part (a b : List Int) : a.length ≤ b.length + far b a ∧ b.length ≤ a.length + far b a := by
  have := dp_len b a b.length
  unfold far
  omega
/-- band.Within: the distance, if it is not above k. -/
theorem within_ev (a b : List Int) (k : Nat) (ha : a.length ≤ 100) (hb : b.length ≤ 100) (hk : k ≤ 1000) : Ev (fun K => band_Within.f K a b (k : Int)) (if far b a ≤ k then ((far b a : Int), true) else (0, false)) := by
  have hp := far_part a b
  have hs := far_le_sum a b
  have hDD : DD a b a.length b.length = far b a := by unfold DD far; rw [List.take_length]
  have out : ∀ R : Int × Bool, R = (0, false) → Ev (fun K => band_Within.j0 K a b (k : Int) true) R := fun R h => by
    subst h
    exact Ev.step (f := fun _ => some (0, false)) (fun K => by simp only [band_Within.j0]; rw [if_pos trivial]) (Ev.now _)
  have w1 : wrap64 ((a.length : Int) - (b.length : Int)) = (a.length : Int) - (b.length : Int) := wr64 _ (by omega) (by omega)
  have w2 : wrap64 ((b.length : Int) - (a.length : Int)) = (b.length : Int) - (a.length : Int) := wr64 _ (by omega) (by omega)
  unfold band_Within.f
  rw [w1, w2]
  clear w1 w2
  by_cases h1 : (a.length : Int) - (b.length : Int) > (k : Int)
  · refine Ev.congr (f := fun K => band_Within.j0 K a b (k : Int) true) (fun K => by rw [if_neg (by omega), if_pos h1]) (out _ (if_neg (by omega)))
  · by_cases h2 : (b.length : Int) - (a.length : Int) > (k : Int)
    · refine Ev.congr (f := fun K => band_Within.j0 K a b (k : Int) true) (fun K => by rw [if_neg (by omega), if_neg h1, decide_eq_true h2]) (out _ (if_neg (by omega)))
    · obtain ⟨k', hk'⟩ : ∃ k', k' = min k (a.length + b.length) := ⟨_, rfl⟩
      have m1 : k' ≤ k := by rw [hk']; exact Nat.min_le_left _ _
      have m2 : k' ≤ a.length + b.length := by rw [hk']; exact Nat.min_le_right _ _
      have m3 : k' = k ∨ k' = a.length + b.length := by rw [hk']; rcases Nat.le_total k (a.length + b.length) with h | h; exact .inl (Nat.min_eq_left h); exact .inr (Nat.min_eq_right h)
      have hl1 := band_l1 a b k' ha hb (by omega) (by omega) (by omega) a.length 0 (fun j => min j (k' + 1)) (by omega) (fun j h3 h4 h5 => rfl) (fun j => Nat.le_trans (Nat.min_le_right _ _) (by omega))
      rw [hDD] at hl1
      have hR : (if far b a ≤ k' then ((far b a : Int), true) else (0, false)) = (if far b a ≤ k then ((far b a : Int), true) else ((0 : Int), false)) := by
        by_cases h : far b a ≤ k
        · rw [if_pos h, if_pos (by omega)]
        · rw [if_neg h, if_neg (by omega)]
      rw [hR] at hl1
      have hl0 := band_l0 a b k' hb _ hl1 (b.length + 1) 0 (by omega)
      have b1 : b.length + 1 ≤ 1000000 := by omega
      have b2 : a.length + b.length ≤ 1000000 := by omega
      have b3 : k' + 1 ≤ 1000000 := by omega
      have c1 : (0 : Int) ≤ ((b.length + 1 : Nat) : Int) := by omega
      have c2 : ((b.length + 1 : Nat) : Int).toNat ≤ 35184372088832 := by omega
      have hmn : mn (k : Int) ((a.length + b.length : Nat) : Int) = (k' : Int) := by rw [mn_nat, hk']
      refine Ev.congr (f := fun K => band_Within.j0 K a b (k : Int) false) (fun K => by rw [if_neg (by omega), if_neg h1, decide_eq_false h2]) ?_
      refine Ev.step (fun K => ?_) hl0
      have e1 : wrap64 ((b.length : Int) + 1) = ((b.length + 1 : Nat) : Int) := wrn (b.length + 1) b1
      have e2 : wrap64 ((a.length : Int) + (b.length : Int)) = ((a.length + b.length : Nat) : Int) := wrn (a.length + b.length) b2
      have e3 : wrap64 ((k' : Int) + 1) = ((k' + 1 : Nat) : Int) := wrn (k' + 1) b3
      simp only [band_Within.j0, e1, e2, hmn, e3]
      rw [if_neg (by simp), if_pos c1, if_pos c2, Option.bind_some, Int.toNat_natCast, rowOf_zero, rowOf_len]
      rfl
end Go.Proofs.Ytklidannncajiaa.OW

namespace Go.Proofs.Ytklidannncajiaa.OW
open Go.Sort
set_option linter.unusedVariables false
set_option linter.unusedSimpArgs false

section
variable {α : Type}
def rot (f : Nat → α) (a m b t : Nat) : α := if t < a ∨ b ≤ t then f t else if t < a + (b - m) then f (m + (t - a)) else f (t - (b - m))
def swr (f : Nat → α) (a b n t : Nat) : α := if a ≤ t ∧ t < a + n then f (b + (t - a)) else if b ≤ t ∧ t < b + n then f (a + (t - b)) else f t
theorem rot_left (f : Nat → α) (m i j : Nat) (hi : i ≤ m) (hij : j < i) (t : Nat) : rot (swr f (m - i) m j) (m - (i - j)) m (m + j) t = rot f (m - i) m (m + j) t := by
  unfold rot swr
  by_cases h1 : t < m - i ∨ m + j ≤ t
  · rw [if_pos (show t < m - (i - j) ∨ m + j ≤ t by omega), if_pos h1, if_neg (by omega), if_neg (by omega)]
  · rw [if_neg h1]
    by_cases h2 : t < m - i + j
    · rw [if_pos (show t < m - (i - j) ∨ m + j ≤ t by omega), if_pos (by omega), if_pos (by omega)]
    · rw [if_neg (show ¬ (t < m - (i - j) ∨ m + j ≤ t) by omega), if_neg (show ¬ t < m - i + (m + j - m) by omega)]
      by_cases h3 : t < m - (i - j) + (m + j - m)
      · rw [if_pos h3, if_neg (by omega), if_pos (by omega)]; congr 1; omega
      · rw [if_neg h3, if_neg (by omega), if_neg (by omega)]
theorem rot_right (f : Nat → α) (m i j : Nat) (hi : i ≤ m) (hij : i < j) (t : Nat) : rot (swr f (m - i) (m + j - i) i) (m - i) m (m + (j - i)) t = rot f (m - i) m (m + j) t := by
  unfold rot swr
  by_cases h1 : t < m - i ∨ m + j ≤ t
  · rw [if_pos (show t < m - i ∨ m + (j - i) ≤ t by omega), if_pos h1, if_neg (by omega), if_neg (by omega)]
  · rw [if_neg h1]
    by_cases h2 : m + (j - i) ≤ t
    · rw [if_pos (show t < m - i ∨ m + (j - i) ≤ t by omega), if_neg (by omega), if_pos (by omega), if_neg (by omega)]; congr 1; omega
    · rw [if_neg (show ¬ (t < m - i ∨ m + (j - i) ≤ t) by omega)]
      by_cases h3 : t < m - i + (m + (j - i) - m)
      · rw [if_pos h3, if_pos (show t < m - i + (m + j - m) by omega)]
        by_cases h4 : m + (t - (m - i)) < m
        · omega
        · by_cases h5 : m + (t - (m - i)) < m + j - i
          · rw [if_neg (by omega), if_neg (by omega)]
          · omega
      · rw [if_neg h3]
        by_cases h4 : t < m - i + (m + j - m)
        · rw [if_pos h4, if_pos (by omega)]; congr 1; omega
        · omega
theorem rot_even (f : Nat → α) (m i : Nat) (hi : i ≤ m) (t : Nat) : swr f (m - i) m i t = rot f (m - i) m (m + i) t := by
  unfold rot swr
  by_cases h1 : t < m - i ∨ m + i ≤ t
  · rw [if_pos h1, if_neg (by omega), if_neg (by omega)]
  · rw [if_neg h1]
    by_cases h2 : t < m - i + i
    · rw [if_pos (by omega), if_pos (by omega)]
    · rw [if_neg (by omega), if_pos (by omega), if_neg (by omega)]; congr 1; omega
theorem rot_congr {f g : Nat → α} (h : ∀ t, f t = g t) (a m b t : Nat) : rot f a m b t = rot g a m b t := by
  unfold rot; rw [h, h, h]
def upTo (f : Nat → α) (a k t : Nat) : α := if a ≤ t ∧ t < k then f (t + 1) else if t = k then f a else f t
def downTo (f : Nat → α) (m k t : Nat) : α := if k < t ∧ t ≤ m then f (t - 1) else if t = k then f m else f t
theorem upTo_zero (f : Nat → α) (a t : Nat) : upTo f a a t = f t := by
  unfold upTo; rw [if_neg (by omega)]; by_cases e : t = a
  · rw [if_pos e, e]
  · rw [if_neg e]
theorem downTo_zero (f : Nat → α) (m t : Nat) : downTo f m m t = f t := by
  unfold downTo; rw [if_neg (by omega)]; by_cases e : t = m
  · rw [if_pos e, e]
  · rw [if_neg e]
end
section
variable {α : Type} [Inhabited α]
theorem swp_at (xs : Array α) (i j t : Nat) (hi : i < xs.size) (hj : j < xs.size) : (swp xs i j)[t]! = if t = j then xs[i]! else if t = i then xs[j]! else xs[t]! := by
  by_cases e : t = j
  · rw [if_pos e, e]; exact swp_right xs i j hj
  · rw [if_neg e]
    by_cases e2 : t = i
    · rw [if_pos e2, e2]; exact swp_left xs i j hi (fun h => e (e2.trans h))
    · rw [if_neg e2]; exact swp_other xs i j t e2 e
variable (le : α → α → Prop)
/-- From place a on, below b, they rise. -/
def Seg (xs : Array α) (a b : Nat) : Prop := ∀ i j, a ≤ i → i < j → j < b → le xs[i]! xs[j]!
variable {le}
theorem Seg.part {xs : Array α} {a b a' b' : Nat} (h : Seg le xs a b) (ha : a ≤ a') (hb : b' ≤ b) : Seg le xs a' b' := fun i j h1 h2 h3 => h i j (by omega) h2 (by omega)
theorem Seg.same {xs ys : Array α} {a b : Nat} (h : Seg le xs a b) (he : ∀ t, a ≤ t → t < b → ys[t]! = xs[t]!) : Seg le ys a b := fun i j h1 h2 h3 => by
  rw [he i h1 (by omega), he j (by omega) h3]; exact h i j h1 h2 h3
theorem Seg.single {xs : Array α} {a b : Nat} (h : b ≤ a + 1) : Seg le xs a b := fun i j h1 h2 h3 => by omega

/-! the turn of two neighbours: places a to m, and m to b -/
theorem swr_swp (xs ys : Array α) (a b n : Nat) (hab : a + n < b) (hb : b + n < xs.size) (hl : ys.size = xs.size) (h : ∀ t, ys[t]! = swr (fun t => xs[t]!) a b n t) (t : Nat) : (swp ys (a + n) (b + n))[t]! = swr (fun t => xs[t]!) a b (n + 1) t := by
  rw [swp_at ys _ _ t (by omega) (by omega), h, h, h]
  unfold swr
  by_cases e1 : t = b + n
  · rw [if_pos e1, if_neg (by omega), if_neg (by omega), if_neg (by omega), if_pos (by omega)]; congr 1; omega
  · rw [if_neg e1]
    by_cases e2 : t = a + n
    · rw [if_pos e2, if_neg (by omega), if_neg (by omega), if_pos (by omega)]; congr 1; omega
    · rw [if_neg e2]
      by_cases e3 : a ≤ t ∧ t < a + n
      · rw [if_pos e3, if_pos (by omega)]
      · by_cases e4 : b ≤ t ∧ t < b + n
        · rw [if_neg e3, if_pos e4, if_neg (by omega), if_pos (by omega)]
        · rw [if_neg e3, if_neg e4, if_neg (by omega), if_neg (by omega)]

/-! the merge -/
theorem Seg.join {xs : Array α} {a m b : Nat} (h1 : Seg le xs a m) (h2 : Seg le xs m b) (hx : ∀ i j, a ≤ i → i < m → m ≤ j → j < b → le xs[i]! xs[j]!) : Seg le xs a b := fun i j h3 h4 h5 => by
  by_cases hj : j < m
  · exact h1 i j h3 h4 hj
  · by_cases hi : i < m
    · exact hx i j h3 hi (by omega) h5
    · exact h2 i j (by omega) h4 h5
/-- What the turned list is: both halves are of two rising parts, and all of the left are not above all of the right. -/
theorem merge_turned (tr : ∀ x y w : α, le x y → le y w → le x w) {xs zs : Array α} {a m b mid s : Nat} (hm1 : a < m) (hm2 : m < b) (hmid : mid = (a + b) / 2) (hs1 : a ≤ s) (hs2 : s ≤ m) (hs3 : s ≤ mid) (hs4 : mid + m ≤ s + b)
    (h1 : Seg le xs a m) (h2 : Seg le xs m b) (hz : ∀ t, zs[t]! = rot (fun t => xs[t]!) s m (mid + m - s) t)
    (hL : s = a ∨ s + b = mid + m ∨ le xs[s - 1]! xs[mid + m - s]!) (hR : s = m ∨ s = mid ∨ le xs[mid + m - s - 1]! xs[s]!) :
    Seg le zs a s ∧ Seg le zs s mid ∧ Seg le zs mid (mid + m - s) ∧ Seg le zs (mid + m - s) b ∧ ∀ i j, a ≤ i → i < mid → mid ≤ j → j < b → le zs[i]! zs[j]! := by
  have q1 : ∀ t, t < s → zs[t]! = xs[t]! := fun t ht => by rw [hz]; unfold rot; rw [if_pos (by omega)]
  have q2 : ∀ t, s ≤ t → t < mid → zs[t]! = xs[m + (t - s)]! := fun t h3 h4 => by rw [hz]; unfold rot; rw [if_neg (by omega), if_pos (by omega)]
  have q3 : ∀ t, mid ≤ t → t < mid + m - s → zs[t]! = xs[s + (t - mid)]! := fun t h3 h4 => by rw [hz]; unfold rot; rw [if_neg (by omega), if_neg (by omega)]; congr 1; omega
  have q4 : ∀ t, mid + m - s ≤ t → zs[t]! = xs[t]! := fun t ht => by rw [hz]; unfold rot; rw [if_pos (by omega)]
  refine ⟨fun i j h3 h4 h5 => ?_, fun i j h3 h4 h5 => ?_, fun i j h3 h4 h5 => ?_, fun i j h3 h4 h5 => ?_, fun i j h3 h4 h5 h6 => ?_⟩
  · rw [q1 i (by omega), q1 j (by omega)]; exact h1 i j h3 h4 (by omega)
  · rw [q2 i h3 (by omega), q2 j (by omega) h5]; exact h2 _ _ (by omega) (by omega) (by omega)
  · rw [q3 i h3 (by omega), q3 j (by omega) h5]; exact h1 _ _ (by omega) (by omega) (by omega)
  · rw [q4 i h3, q4 j (by omega)]; exact h2 i j (by omega) h4 h5
  · by_cases hi : i < s
    · rw [q1 i hi]
      by_cases hj : j < mid + m - s
      · rw [q3 j h5 hj]; exact h1 _ _ h3 (by omega) (by omega)
      · rw [q4 j (by omega)]
        rcases hL with h | h | h
        · omega
        · omega
        · have a1 : le xs[i]! xs[mid + m - s]! := by
            by_cases e : i = s - 1
            · rw [e]; exact h
            · exact tr _ _ _ (h1 i (s - 1) h3 (by omega) (by omega)) h
          by_cases e : j = mid + m - s
          · rw [e]; exact a1
          · exact tr _ _ _ a1 (h2 _ _ (by omega) (by omega) h6)
    · rw [q2 i (by omega) h4]
      by_cases hj : j < mid + m - s
      · rw [q3 j h5 hj]
        rcases hR with h | h | h
        · omega
        · omega
        · have a1 : le xs[m + (i - s)]! xs[s]! := by
            by_cases e : m + (i - s) = mid + m - s - 1
            · rw [e]; exact h
            · exact tr _ _ _ (h2 _ _ (by omega) (by omega) (by omega)) h
          by_cases e : s + (j - mid) = s
          · rw [e]; exact a1
          · exact tr _ _ _ a1 (h1 _ _ (by omega) (by omega) (by omega))
      · rw [q4 j (by omega)]; exact h2 _ _ (by omega) (by omega) h6
/-- The end: both halves merged. -/
theorem merge_done {zs y1 y2 : Array α} {a mid b : Nat} (ha : a ≤ mid) (hb : mid ≤ b) (hs : b ≤ zs.size) (hx : ∀ i j, a ≤ i → i < mid → mid ≤ j → j < b → le zs[i]! zs[j]!)
    (i1 : PermIn a mid zs y1) (s1 : Seg le y1 a mid) (i2 : PermIn mid b y1 y2) (s2 : Seg le y2 mid b) : Seg le y2 a b := by
  refine Seg.join (m := mid) (s1.same fun t h1 h2 => i2.2.1 t (.inl h2)) s2 fun i j h1 h2 h3 h4 => ?_
  rw [i2.2.1 i (.inl h2)]
  refine permIn_all y1 y2 mid b (fun v => le y1[i]! v) (by rw [i1.1]; exact hs) i2 (fun v hv1 hv2 => ?_) j h3 h4
  rw [i1.2.1 v (.inr hv1)]
  exact permIn_all zs y1 a mid (fun u => le u zs[v]!) (by omega) i1 (fun u hu1 hu2 => hx u v hu1 hu2 hv1 hv2) i h1 h2

/-! one put in among many -/
theorem upTo_swp (xs ys : Array α) (a k : Nat) (hak : a ≤ k) (hk : k + 1 < xs.size) (hl : ys.size = xs.size) (h : ∀ t, ys[t]! = upTo (fun t => xs[t]!) a k t) (t : Nat) : (swp ys k (k + 1))[t]! = upTo (fun t => xs[t]!) a (k + 1) t := by
  rw [swp_at ys _ _ t (by omega) (by omega), h, h, h]
  unfold upTo
  by_cases e1 : t = k + 1
  · rw [if_pos e1, if_neg (by omega), if_pos rfl, if_neg (by omega), if_pos e1]
  · rw [if_neg e1]
    by_cases e2 : t = k
    · rw [if_pos e2, if_neg (by omega), if_neg (by omega), if_pos (by omega), e2]
    · rw [if_neg e2, if_neg e2, if_neg e1]
      by_cases e3 : a ≤ t ∧ t < k
      · rw [if_pos e3, if_pos (by omega)]
      · rw [if_neg e3, if_neg (by omega)]
theorem downTo_swp (xs ys : Array α) (m k : Nat) (hkm : k + 1 ≤ m) (hm : m < xs.size) (hl : ys.size = xs.size) (h : ∀ t, ys[t]! = downTo (fun t => xs[t]!) m (k + 1) t) (t : Nat) : (swp ys (k + 1) k)[t]! = downTo (fun t => xs[t]!) m k t := by
  rw [swp_at ys _ _ t (by omega) (by omega), h, h, h]
  unfold downTo
  by_cases e1 : t = k
  · rw [if_pos e1, if_neg (by omega), if_pos rfl, if_neg (by omega), if_pos e1]
  · rw [if_neg e1]
    by_cases e2 : t = k + 1
    · rw [if_pos e2, if_neg (by omega), if_neg (by omega), if_pos (by omega), e2]; rfl
    · rw [if_neg e2, if_neg e2, if_neg e1]
      by_cases e3 : k + 1 < t ∧ t ≤ m
      · rw [if_pos e3, if_pos (by omega)]
      · rw [if_neg e3, if_neg (by omega)]
theorem upTo_seg {xs ys : Array α} {a b i : Nat} (hi1 : a < i) (hi2 : i ≤ b) (h : Seg le xs (a + 1) b) (hlo : ∀ t, a < t → t < i → le xs[t]! xs[a]!) (hhi : ∀ t, i ≤ t → t < b → le xs[a]! xs[t]!) (hy : ∀ t, ys[t]! = upTo (fun t => xs[t]!) a (i - 1) t) : Seg le ys a b := fun u v h1 h2 h3 => by
  rw [hy, hy]
  unfold upTo
  by_cases c1 : v < i - 1
  · rw [if_pos (by omega), if_pos (by omega)]; exact h _ _ (by omega) (by omega) (by omega)
  · by_cases c2 : v = i - 1
    · rw [if_pos (by omega), if_neg (by omega), if_pos c2]; exact hlo _ (by omega) (by omega)
    · rw [if_neg (show ¬ (a ≤ v ∧ v < i - 1) by omega), if_neg c2]
      by_cases c3 : u < i - 1
      · rw [if_pos (by omega)]; exact h _ _ (by omega) (by omega) (by omega)
      · rw [if_neg (by omega)]
        by_cases c4 : u = i - 1
        · rw [if_pos c4]; exact hhi _ (by omega) (by omega)
        · rw [if_neg c4]; exact h _ _ (by omega) h2 h3
theorem downTo_seg {xs ys : Array α} {a m i : Nat} (hi1 : a ≤ i) (hi2 : i ≤ m) (h : Seg le xs a m) (hlo : ∀ t, a ≤ t → t < i → le xs[t]! xs[m]!) (hhi : ∀ t, i ≤ t → t < m → le xs[m]! xs[t]!) (hy : ∀ t, ys[t]! = downTo (fun t => xs[t]!) m i t) : Seg le ys a (m + 1) := fun u v h1 h2 h3 => by
  rw [hy, hy]
  unfold downTo
  by_cases c1 : v < i
  · rw [if_neg (by omega), if_neg (by omega), if_neg (by omega), if_neg (by omega)]; exact h _ _ h1 h2 (by omega)
  · by_cases c2 : v = i
    · rw [if_neg (by omega), if_neg (by omega), if_neg (by omega), if_pos c2]; exact hlo _ h1 (by omega)
    · rw [if_pos (show i < v ∧ v ≤ m by omega)]
      by_cases c3 : u < i
      · rw [if_neg (by omega), if_neg (by omega)]; exact h _ _ h1 (by omega) (by omega)
      · by_cases c4 : u = i
        · rw [if_neg (by omega), if_pos c4]; exact hhi _ (by omega) (by omega)
        · rw [if_pos (by omega)]; exact h _ _ (by omega) (by omega) (by omega)
end
end Go.Proofs.Ytklidannncajiaa.OW

namespace Go.Proofs.Ytklidannncajiaa.OW
open Go.RowKit Go.Sort Go.Proofs.YtklidannncajiaaW.PrintWords Go.Proofs.YtklidannncajiaaW.PrintLast Go.Proofs.YtklidannncajiaaW.PrintMore
set_option linter.unusedVariables false
set_option linter.unusedSimpArgs false

instance : Inhabited S24 := ⟨z24⟩
/-- W is a world of the sort's: the row (block g) holds xs, all other old blocks are as they were in w0. -/
structure SI (w0 : World) (base g n cap : Nat) (ok : Nat → Prop) (xs : Array S24) (W : World) : Prop where
  own : Kd.R k24 24 W base ok (.slice (some ⟨g, 0, none⟩) n cap) xs.toList
  grown : w0.grownBy W (some g)
  len : xs.size = n
/-- The worlds that come of w by draws and new blocks. -/
structure BelowBy (w : World) where
  wd : World
  be : Below w.heap.size w wd
namespace SI
variable {w0 W W' : World} {base g n cap : Nat} {ok : Nat → Prop} {xs : Array S24}
theorem grown_below (h : w0.grownBy W (some g)) (hb : Below W.heap.size W W') : w0.grownBy W' (some g) :=
  ⟨hb.os.trans h.os, hb.tape.trans h.tape, hb.output.trans h.output, Nat.le_trans h.size hb.size, fun k hk hn => (hb.block k (Nat.lt_of_lt_of_le hk h.size)).trans (h.block k hk hn)⟩
theorem below (h : SI w0 base g n cap ok xs W) (hb : Below W.heap.size W W') : SI w0 base g n cap ok xs W' := ⟨Kd.R_below h.own hb, grown_below h.grown hb, h.len⟩
theorem drew (h : SI w0 base g n cap ok xs W) : SI w0 base g n cap ok xs W.drew := h.below (below_drew (Below.refl _ _))
theorem at_ (h : SI w0 base g n cap ok xs W) (i : Nat) (hi : i < n) : W.cell? ⟨g, i * 2, none⟩ = some (.int .i64 xs[i]!.f0) ∧ W.cell? ⟨g, i * 2 + 1, none⟩ = some (.string xs[i]!.f1) := by
  obtain ⟨c, h1, h2, h3, h4⟩ := Kd.R_elem h.own z24 (i : Int) (by omega) (by omega)
  obtain rfl := k24_openM h2
  have hx : xs.toList.getD i z24 = xs[i]! := by
    have hl := h.len
    rw [getElem!_pos xs i (by omega), List.getD_eq_getElem?_getD, Array.getElem?_toList, Array.getElem?_eq_getElem (by omega)]; rfl
  have e0 := h3 0 _ rfl
  have e1 := h3 1 _ rfl
  rw [Int.toNat_natCast, hx] at e0 e1
  exact ⟨e0, e1⟩
theorem frozen (h : SI w0 base g n cap ok xs W) (j : Nat) : W.frozen? ⟨g, j, none⟩ = false := by
  obtain ⟨inner, ho⟩ := Kd.R_own h.own
  obtain ⟨cells, hc⟩ := own_typed ho g (by simp [Value.ownBlock])
  exact blk_frozen hc j
theorem set (h : SI w0 base g n cap ok xs W) (i : Nat) (hi : i < n) (y : S24) : SI w0 base g n cap ok (xs.setIfInBounds i y) ((W.setCell ⟨g, i * 2, none⟩ (.int .i64 y.f0)).setCell ⟨g, i * 2 + 1, none⟩ (.string y.f1)) := by
  obtain ⟨c, h1, h2, h3, h4⟩ := Kd.R_elem h.own z24 (i : Int) (by omega) (by omega)
  obtain ⟨q1, q2⟩ := Kd.R_seg h.own (i : Int) (by omega) (by omega) (seg := [.int .i64 y.f0, .string y.f1]) (j := 0) h1 h3 (show 2 ≤ 2 from by decide) (x' := y) (by obtain rfl := k24_openM h2; exact k24_mkM W base (fun k => ok k ∧ k ≠ g) y) (fun _ hk => hk)
  rw [Int.toNat_natCast] at q1 q2
  refine ⟨?_, ⟨q2.os.trans h.grown.os, q2.tape.trans h.grown.tape, q2.output.trans h.grown.output, Nat.le_trans h.grown.size q2.size, fun k hk hn => (q2.block k (Nat.lt_of_lt_of_le hk h.grown.size) hn).trans (h.grown.block k hk hn)⟩, by rw [Array.size_setIfInBounds]; exact h.len⟩
  rw [Array.toList_setIfInBounds]
  exact q1
theorem swapped (h : SI w0 base g n cap ok xs W) (i j : Nat) (hi : i < n) (hj : j < n) :
    SI w0 base g n cap ok (swp xs i j) ((((W.setCell ⟨g, i * 2, none⟩ (.int .i64 xs[j]!.f0)).setCell ⟨g, i * 2 + 1, none⟩ (.string xs[j]!.f1)).setCell ⟨g, j * 2, none⟩ (.int .i64 xs[i]!.f0)).setCell ⟨g, j * 2 + 1, none⟩ (.string xs[i]!.f1)) :=
  (h.set i hi xs[j]!).set j hj xs[i]!
end SI
end Go.Proofs.Ytklidannncajiaa.OW

namespace Go.Proofs.Ytklidannncajiaa.OW
open Go.RowKit Go.Sort Go.Proofs.YtklidannncajiaaW.PrintWords Go.Proofs.YtklidannncajiaaW.PrintLast Go.Proofs.YtklidannncajiaaW.PrintMore
set_option linter.unusedVariables false
set_option linter.unusedSimpArgs false

set_option maxHeartbeats 4000000 in
set_option maxRecDepth 100000 in
theorem swapRange_calls (cv : Value) {w0 w : World} {base g n cap : Nat} {ok : Nat → Prop} {xs : Array S24} (a b m : Nat) (hab : a + m ≤ b) (hb : b + m ≤ n) (hn : n ≤ 1000) (S : SI w0 base g n cap ok xs w) :
    Calls Try.prog 117 #[.slice (some ⟨g, 0, none⟩) n cap, .int .i64 a, .int .i64 b, .int .i64 m, cv] w fun e w' => e = .returned (.tuple #[]) ∧ ∃ ys, SI w0 base g n cap ok ys w' ∧ PermIn a (b + m) xs ys ∧ ∀ t, ys[t]! = swr (fun t => xs[t]!) a b m t := by
  have hu24 := Try.underlying24
  have mixed : Try.prog.follows .mixedOrders = true := by kernel_rfl
  have S0 := Aside0.mk S
  clear S
  go_enter Try.func117, Try.ntmps117
  go_wp2_with fail
  go_loopg [10] m (fun kq v10 W => ∃ (q : Nat) (ys : Array S24), v10 = .int .i64 q ∧ Aside0 (q + kq = m) ∧ Aside0 (SI w0 base g n cap ok ys W) ∧ Aside0 (PermIn a (b + m) xs ys ∧ ∀ t, ys[t]! = swr (fun t => xs[t]!) a b q t))
  case atStart => exact ⟨0, xs, rfl, ⟨by omega⟩, S0, ⟨permIn_refl _ _ _, fun t => by unfold swr; rw [if_neg (by omega), if_neg (by omega)]⟩⟩
  case round =>
    obtain ⟨q, ys, rfl, HQ, S1, HP⟩ := hrel
    have hq := HQ.out
    cases gk with
    | zero =>
      obtain rfl : q = m := by omega
      have hlt2 : decide ((q : Int) < (q : Int)) = false := decide_eq_false (by omega)
      go_wp2_with fail
      go_end0
      exact ⟨rfl, ys, S1.out, HP.out.1, HP.out.2⟩
    | succ ko =>
      have hlt2 : decide ((q : Int) < (m : Int)) = true := decide_eq_true (by omega)
      have hys := S1.out.len
      go_wp2_with fail
      have pi1 : (0 : Int) ≤ (a : Int) + (q : Int) := by omega
      have qi1 : (a : Int) + (q : Int) < (n : Int) := by omega
      have ei1 : ((a : Int) + (q : Int)).toNat = a + q := by omega
      have pj1 : (0 : Int) ≤ (b : Int) + (q : Int) := by omega
      have qj1 : (b : Int) + (q : Int) < (n : Int) := by omega
      have ej1 : ((b : Int) + (q : Int)).toNat = b + q := by omega
      have ri1 : IntKind.i64.wrap ((a : Int) + (q : Int)) = (a : Int) + (q : Int) := by rw [IntKind.wrap_i64]; omega
      have rj1 : IntKind.i64.wrap ((b : Int) + (q : Int)) = (b : Int) + (q : Int) := by rw [IntKind.wrap_i64]; omega
      have S2 := Aside0.mk (S1.out.swapped (a + q) (b + q) (by omega) (by omega)).drew
      obtain ⟨ai1, bi1⟩ := S1.out.at_ (a + q) (by omega)
      obtain ⟨aj1, bj1⟩ := S1.out.at_ (b + q) (by omega)
      have fi1 := S1.out.frozen ((a + q) * 2)
      have gi1 := S1.out.frozen ((a + q) * 2 + 1)
      have fj1 := S1.out.frozen ((b + q) * 2)
      have gj1 := S1.out.frozen ((b + q) * 2 + 1)
      generalize hu1 : ys[a + q]! = u1 at ai1 bi1 S2
      generalize hv1 : ys[b + q]! = v1 at aj1 bj1 S2
      go_wp2_with fail
      go_big_region_o
      all_goals go_wp2
      go_roundg ko
      case measure => omega
      case rel =>
        refine ⟨q + 1, swp ys (a + q) (b + q), by go_num, ⟨by omega⟩, S2, ⟨permIn_trans _ _ _ _ _ HP.out.1 (swp_permIn _ _ _ _ _ (by omega) (by omega) (by omega) (by omega) (by omega)), swr_swp xs ys a b q (by omega) (by have := HP.out.1.1; omega) HP.out.1.1 HP.out.2⟩⟩
end Go.Proofs.Ytklidannncajiaa.OW

namespace Go.Proofs.Ytklidannncajiaa.OW
open Go.RowKit Go.Sort Go.Proofs.YtklidannncajiaaW.PrintWords Go.Proofs.YtklidannncajiaaW.PrintLast Go.Proofs.YtklidannncajiaaW.PrintMore
set_option linter.unusedVariables false
set_option linter.unusedSimpArgs false

set_option maxHeartbeats 4000000 in
set_option maxRecDepth 100000 in
theorem rotate_calls (cv : Value) {w0 w : World} {base g n cap : Nat} {ok : Nat → Prop} {xs : Array S24} (a m b : Nat) (ham : a < m) (hmb : m < b) (hb : b ≤ n) (hn : n ≤ 1000) (S : SI w0 base g n cap ok xs w) :
    Calls Try.prog 115 #[.slice (some ⟨g, 0, none⟩) n cap, .int .i64 a, .int .i64 m, .int .i64 b, cv] w fun e w' => e = .returned (.tuple #[]) ∧ ∃ ys, SI w0 base g n cap ok ys w' ∧ PermIn a b xs ys ∧ ∀ t, ys[t]! = rot (fun t => xs[t]!) a m b t := by
  have S0 := Aside0.mk S
  have hxs := S.len
  clear S
  obtain ⟨i0, hi0⟩ : ∃ i0 : Nat, (m : Int) - (a : Int) = i0 := ⟨m - a, by omega⟩
  obtain ⟨j0, hj0⟩ : ∃ j0 : Nat, (b : Int) - (m : Int) = j0 := ⟨b - m, by omega⟩
  go_enter Try.func115, Try.ntmps115
  go_wp2_with fail
  go_loopg [10, 11] (i0 + j0) (fun kq v10 v11 W => ∃ (i j : Nat) (ys : Array S24), v10 = .int .i64 i ∧ v11 = .int .i64 j ∧ Aside0 (0 < i ∧ 0 < j ∧ a + i ≤ m ∧ m + j ≤ b ∧ i + j ≤ kq) ∧ Aside0 (SI w0 base g n cap ok ys W) ∧ Aside0 (PermIn a b xs ys ∧ ∀ t, rot (fun t => ys[t]!) (m - i) m (m + j) t = rot (fun t => xs[t]!) a m b t))
  case atStart =>
    refine ⟨i0, j0, xs, by first | rfl | exact congrArg _ hi0 | (rw [← hi0]; go_num), by first | rfl | exact congrArg _ hj0 | (rw [← hj0]; go_num), ⟨by omega⟩, S0, ⟨permIn_refl _ _ _, fun t => ?_⟩⟩
    rw [show m - i0 = a by omega, show m + j0 = b by omega]
  case round =>
    obtain ⟨i, j, ys, rfl, rfl, HI, S1, HP⟩ := hrel
    obtain ⟨h1, h2, h3, h4, h5⟩ := HI.out
    have hys := S1.out.len
    obtain ⟨s, hs⟩ : ∃ s : Nat, (m : Int) - (i : Int) = s := ⟨m - i, by omega⟩
    by_cases hij : i = j
    · subst hij
      have hne : decide ((i : Int) = (i : Int)) = true := decide_eq_true rfl
      have HC := Aside0.mk (swapRange_calls cv s m i (by omega) (by omega) hn S1.out)
      go_wp2_with ((with_reducible refine gate_callee (f := 117) rfl ?_); (try (refine gate_guard (by rfl) ?_; dsimp only)); refine goesL_ (some 57) rfl rfl Try.func117 (by kernel_rfl) rfl #[.slice (some ⟨g, 0, none⟩) n cap, .int .i64 s, .int .i64 m, .int .i64 i, cv] rfl (by (try simp only [List.map_toArray, List.map_cons, List.map_nil]); first | done | rfl | (simp only [hs])) ?_; (with_reducible refine HC.out.mono ?_); rintro e w2 ⟨rfl, zs, hz⟩; refine ⟨_, rfl, ?_⟩; have HZ := Aside0.mk hz; clear hz)
      go_end0
      refine ⟨rfl, zs, HZ.out.1, permIn_trans _ _ _ _ _ HP.out.1 (permIn_mono _ _ _ _ _ _ (by omega) (by omega) (by omega) HZ.out.2.1), fun t => ?_⟩
      rw [HZ.out.2.2, ← HP.out.2, show s = m - i by omega]
      exact rot_even _ m i (by omega) t
    · have hne : decide ((i : Int) = (j : Int)) = false := decide_eq_false (by omega)
      by_cases hgt : j < i
      · have hgt2 : decide ((i : Int) > (j : Int)) = true := decide_eq_true (by omega)
        have HC := Aside0.mk (swapRange_calls cv s m j (by omega) (by omega) hn S1.out)
        go_wp2_with ((with_reducible refine gate_callee (f := 117) rfl ?_); (try (refine gate_guard (by rfl) ?_; dsimp only)); refine goesL_ (some 31) rfl rfl Try.func117 (by kernel_rfl) rfl #[.slice (some ⟨g, 0, none⟩) n cap, .int .i64 s, .int .i64 m, .int .i64 j, cv] rfl (by (try simp only [List.map_toArray, List.map_cons, List.map_nil]); first | done | rfl | (simp only [hs])) ?_; (with_reducible refine HC.out.mono ?_); rintro e w2 ⟨rfl, zs, hz⟩; refine ⟨_, rfl, ?_⟩; have HZ := Aside0.mk hz; clear hz)
        go_roundg (i - j + j)
        case measure => omega
        case rel =>
          refine ⟨i - j, j, zs, by first | rfl | go_num | (congr 1; omega), rfl, ⟨by omega⟩, ⟨HZ.out.1⟩, ⟨permIn_trans _ _ _ _ _ HP.out.1 (permIn_mono _ _ _ _ _ _ (by omega) (by omega) (by omega) HZ.out.2.1), fun t => ?_⟩⟩
          rw [← HP.out.2, ← rot_left _ m i j (by omega) hgt t]
          exact rot_congr (fun t => by rw [HZ.out.2.2, show s = m - i by omega]) _ _ _ _
      · have hgt2 : decide ((i : Int) > (j : Int)) = false := decide_eq_false (by omega)
        obtain ⟨u, hu⟩ : ∃ u : Nat, (m : Int) + (j : Int) - (i : Int) = u := ⟨m + j - i, by omega⟩
        have HC := Aside0.mk (swapRange_calls cv s u i (by omega) (by omega) hn S1.out)
        go_wp2_with ((with_reducible refine gate_callee (f := 117) rfl ?_); (try (refine gate_guard (by rfl) ?_; dsimp only)); refine goesL_ (some 46) rfl rfl Try.func117 (by kernel_rfl) rfl #[.slice (some ⟨g, 0, none⟩) n cap, .int .i64 s, .int .i64 u, .int .i64 i, cv] rfl (by (try simp only [List.map_toArray, List.map_cons, List.map_nil]); first | done | rfl | (simp only [hs, hu])) ?_; (with_reducible refine HC.out.mono ?_); rintro e w2 ⟨rfl, zs, hz⟩; refine ⟨_, rfl, ?_⟩; have HZ := Aside0.mk hz; clear hz)
        go_roundg (j - i + i)
        case measure => omega
        case rel =>
          refine ⟨i, j - i, zs, rfl, by first | rfl | go_num | (congr 1; omega), ⟨by omega⟩, ⟨HZ.out.1⟩, ⟨permIn_trans _ _ _ _ _ HP.out.1 (permIn_mono _ _ _ _ _ _ (by omega) (by omega) (by omega) HZ.out.2.1), fun t => ?_⟩⟩
          rw [← HP.out.2, ← rot_right _ m i j (by omega) (by omega) t]
          exact rot_congr (fun t => by rw [HZ.out.2.2, show s = m - i by omega, show u = m + j - i by omega]) _ _ _ _
end Go.Proofs.Ytklidannncajiaa.OW
