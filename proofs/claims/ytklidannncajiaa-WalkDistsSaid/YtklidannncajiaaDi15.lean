/- What the row of the law WalkDists leans on: contracts of functions and plain laws, each for all inputs that its own theorem names. -/
import Derived.Test.YtklidannncajiaaDi13
import Derived.Test.YtklidannncajiaaDi14
namespace Go.Proofs.Ytklidannncajiaa.OW
open Go.RowKit Go.Proofs.YtklidannncajiaaW.PrintWords Go.Proofs.YtklidannncajiaaW.PrintLast Go.Proofs.YtklidannncajiaaW.PrintMore Go.Proofs.Ytklidannncajiaa.Am
set_option linter.unusedVariables false
set_option linter.unusedSimpArgs false

theorem wr32 (x : Int) (h1 : -2147483648 ≤ x) (h2 : x ≤ 2147483647) : wrap32 x = x := by unfold wrap32; omega
theorem bt_get (s : ByteArray) (i : Nat) : bt s (i : Int) = ((s.get! i).toNat : Int) := by
  unfold bt
  rw [Int.toNat_natCast]
  by_cases h : i < s.size
  · rw [dif_pos h]
    congr 2
    show _ = s.data[i]!
    exact (getElem!_pos s.data i h).symm
  · rw [dif_neg h]
    have : s.get! i = 0 := by
      show s.data[i]! = 0
      exact getElem!_neg s.data i h
    rw [this]; rfl
def moreP (n k b : Nat) : Int × Bool := if k < n ∧ 128 ≤ b ∧ b ≤ 191 then ((b : Int) - 128, true) else (0, false)
theorem more_eq (s : ByteArray) (i j : Nat) (hi : i < s.size) : inkhornref1_more.f s ((i + j : Nat) : Int) = some (moreP (s.size - i) j (s.get! (i + j)).toNat) := by
  have hb := (s.get! (i + j)).toNat_lt
  unfold inkhornref1_more.f moreP
  rw [bt_get]
  by_cases h : j < s.size - i
  · rw [if_neg (by omega), if_pos (by omega), if_pos (by omega)]
    by_cases h1 : ((s.get! (i + j)).toNat : Int) < 128
    · rw [if_pos h1, if_neg (by omega)]
    · rw [if_neg h1]
      by_cases h2 : ((s.get! (i + j)).toNat : Int) > 191
      · rw [if_pos h2, if_neg (by omega)]
      · rw [if_neg h2, if_pos (by omega), wr32 ((s.get! (i + j)).toNat : Int) (by omega) (by omega), wr32 _ (by omega) (by omega)]
  · rw [if_pos (by omega), if_neg (by omega)]
def oneP (n b0 b1 b2 b3 : Nat) : Int × Int :=
  if b0 < 128 then ((b0 : Int), 1)
  else if 194 ≤ b0 ∧ b0 ≤ 223 ∧ (moreP n 1 b1).2 = true then (((b0 : Int) - 192) * 64 + (moreP n 1 b1).1, 2)
  else if 224 ≤ b0 ∧ b0 ≤ 239 ∧ (moreP n 1 b1).2 = true ∧ (moreP n 2 b2).2 = true then (((b0 : Int) - 224) * 4096 + (moreP n 1 b1).1 * 64 + (moreP n 2 b2).1, 3)
  else if 240 ≤ b0 ∧ b0 ≤ 244 ∧ (moreP n 1 b1).2 = true ∧ (moreP n 2 b2).2 = true ∧ (moreP n 3 b3).2 = true then (((b0 : Int) - 240) * 262144 + (moreP n 1 b1).1 * 4096 + (moreP n 2 b2).1 * 64 + (moreP n 3 b3).1, 4)
  else (0, 0)
theorem moreP_lt (n k b : Nat) (hb : b < 256) : 0 ≤ (moreP n k b).1 ∧ (moreP n k b).1 < 64 := by
  unfold moreP
  split
  · dsimp only; omega
  · dsimp only; omega
theorem one_eq (k : Nat) (s : ByteArray) (i : Nat) (hi : i < s.size) (hs : s.size ≤ 1000000) : inkhornref1_one.f (k + 2) s (i : Int) = some (oneP (s.size - i) (s.get! i).toNat (s.get! (i + 1)).toNat (s.get! (i + 2)).toNat (s.get! (i + 3)).toNat) := by
  have k0 := (s.get! i).toNat_lt
  have l1 := moreP_lt (s.size - i) 1 _ (s.get! (i + 1)).toNat_lt
  have l2 := moreP_lt (s.size - i) 2 _ (s.get! (i + 2)).toNat_lt
  have l3 := moreP_lt (s.size - i) 3 _ (s.get! (i + 3)).toNat_lt
  unfold inkhornref1_one.f
  rw [if_pos (by omega), if_pos (by omega), wr64 _ (by omega) (by omega), wr64 _ (by omega) (by omega), wr64 _ (by omega) (by omega)]
  rw [show ((i : Int) + 1) = ((i + 1 : Nat) : Int) by omega, show ((i : Int) + 2) = ((i + 2 : Nat) : Int) by omega, show ((i : Int) + 3) = ((i + 3 : Nat) : Int) by omega, more_eq s i 1 hi, more_eq s i 2 hi, more_eq s i 3 hi]
  simp only [Option.bind_some]
  rw [bt_get, wr32 ((s.get! i).toNat : Int) (by omega) (by omega)]
  unfold oneP
  generalize moreP (s.size - i) 1 (s.get! (i + 1)).toNat = x at l1
  generalize moreP (s.size - i) 2 (s.get! (i + 2)).toNat = y at l2
  generalize moreP (s.size - i) 3 (s.get! (i + 3)).toNat = z at l3
  generalize (s.get! i).toNat = c at k0
  obtain ⟨x1, x2⟩ := x
  obtain ⟨y1, y2⟩ := y
  obtain ⟨z1, z2⟩ := z
  dsimp only at l1 l2 l3 ⊢
  have w1 : wrap32 ((c : Int) - 192) = (c : Int) - 192 := wr32 _ (by omega) (by omega)
  have w2 : wrap32 (((c : Int) - 192) * 64) = ((c : Int) - 192) * 64 := wr32 _ (by omega) (by omega)
  have w3 : wrap32 (((c : Int) - 192) * 64 + x1) = ((c : Int) - 192) * 64 + x1 := wr32 _ (by omega) (by omega)
  have w4 : wrap32 ((c : Int) - 224) = (c : Int) - 224 := wr32 _ (by omega) (by omega)
  have w5 : wrap32 (((c : Int) - 224) * 4096) = ((c : Int) - 224) * 4096 := wr32 _ (by omega) (by omega)
  have w6 : wrap32 (x1 * 64) = x1 * 64 := wr32 _ (by omega) (by omega)
  have w7 : wrap32 (((c : Int) - 224) * 4096 + x1 * 64) = ((c : Int) - 224) * 4096 + x1 * 64 := wr32 _ (by omega) (by omega)
  have w8 : wrap32 (((c : Int) - 224) * 4096 + x1 * 64 + y1) = ((c : Int) - 224) * 4096 + x1 * 64 + y1 := wr32 _ (by omega) (by omega)
  have v1 : wrap32 ((c : Int) - 240) = (c : Int) - 240 := wr32 _ (by omega) (by omega)
  have v2 : wrap32 (((c : Int) - 240) * 262144) = ((c : Int) - 240) * 262144 := wr32 _ (by omega) (by omega)
  have v3 : wrap32 (x1 * 4096) = x1 * 4096 := wr32 _ (by omega) (by omega)
  have v4 : wrap32 (((c : Int) - 240) * 262144 + x1 * 4096) = ((c : Int) - 240) * 262144 + x1 * 4096 := wr32 _ (by omega) (by omega)
  have v5 : wrap32 (y1 * 64) = y1 * 64 := wr32 _ (by omega) (by omega)
  have v6 : wrap32 (((c : Int) - 240) * 262144 + x1 * 4096 + y1 * 64) = ((c : Int) - 240) * 262144 + x1 * 4096 + y1 * 64 := wr32 _ (by omega) (by omega)
  have v7 : wrap32 (((c : Int) - 240) * 262144 + x1 * 4096 + y1 * 64 + z1) = ((c : Int) - 240) * 262144 + x1 * 4096 + y1 * 64 + z1 := wr32 _ (by omega) (by omega)
  have g1 : ((c : Int) ≥ 224) = (224 ≤ c) := propext (by omega)
  have g2 : ((c : Int) ≤ 239) = (c ≤ 239) := propext (by omega)
  have g3 : ((c : Int) ≥ 240) = (240 ≤ c) := propext (by omega)
  have g4 : ((c : Int) ≤ 244) = (c ≤ 244) := propext (by omega)
  have hj1 : ∀ b, inkhornref1_one.j1 (k + 1) (c : Int) x1 x2 y1 y2 z1 z2 b = some (if b = true then (((c : Int) - 224) * 4096 + x1 * 64 + y1, 3) else if 240 ≤ c ∧ c ≤ 244 ∧ x2 = true ∧ y2 = true ∧ z2 = true then (((c : Int) - 240) * 262144 + x1 * 4096 + y1 * 64 + z1, 4) else (0, 0)) := by
    intro b
    simp only [inkhornref1_one.j1, w4, w5, w6, w7, w8, v1, v2, v3, v4, v5, v6, v7]
    clear w1 w2 w3 w4 w5 w6 w7 w8 v1 v2 v3 v4 v5 v6 v7
    simp only [g3, g4]
    by_cases q3 : 240 ≤ c <;> by_cases q4 : c ≤ 244 <;> cases x2 <;> cases y2 <;> cases z2 <;> cases b <;> simp [q3, q4]
  have hj0 : ∀ b, inkhornref1_one.j0 (k + 2) (c : Int) x1 x2 y1 y2 z1 z2 b = some (if b = true then (((c : Int) - 192) * 64 + x1, 2) else if 224 ≤ c ∧ c ≤ 239 ∧ x2 = true ∧ y2 = true then (((c : Int) - 224) * 4096 + x1 * 64 + y1, 3) else if 240 ≤ c ∧ c ≤ 244 ∧ x2 = true ∧ y2 = true ∧ z2 = true then (((c : Int) - 240) * 262144 + x1 * 4096 + y1 * 64 + z1, 4) else (0, 0)) := by
    intro b
    simp only [inkhornref1_one.j0, w1, w2, w3, hj1]
    clear w1 w2 w3 w4 w5 w6 w7 w8 v1 v2 v3 v4 v5 v6 v7 hj1
    simp only [g1, g2]
    by_cases q1 : 224 ≤ c <;> by_cases q2 : c ≤ 239 <;> cases x2 <;> cases y2 <;> cases b <;> simp [q1, q2]
  simp only [hj0]
  clear w1 w2 w3 w4 w5 w6 w7 w8 v1 v2 v3 v4 v5 v6 v7 hj1 hj0
  have g5 : ((c : Int) < 128) = (c < 128) := propext (by omega)
  have g6 : ((c : Int) ≥ 194) = (194 ≤ c) := propext (by omega)
  have g7 : ((c : Int) ≤ 223) = (c ≤ 223) := propext (by omega)
  simp only [g5, g6, g7]
  by_cases q0 : c < 128 <;> by_cases q1 : 194 ≤ c <;> by_cases q2 : c ≤ 223 <;> cases x2 <;> simp [q0, q1, q2]
def goodP (r : Int) : Bool := decide (0 ≤ r ∧ r ≤ 1114111 ∧ (r < 55296 ∨ r > 57343) ∧ r ≠ 65533)
theorem refgood_eq (r : Int) : inkhornref1_Good.f r = some (goodP r) := by
  unfold inkhornref1_Good.f goodP
  repeat' split
  all_goals (congr 1; symm)
  all_goals first | (rw [decide_eq_false]; omega) | (rw [Bool.eq_iff_iff]; simp; omega)
/-- Is the rune at a place told off? -/
def badP (r n : Int) : Prop := n = 0 ∨ goodP r = false ∨ (n = 3 ∧ r < 2048) ∨ (n = 4 ∧ r < 65536)
instance (r n : Int) : Decidable (badP r n) := inferInstanceAs (Decidable (_ ∨ _))
theorem more2 (n k b : Nat) (hb : b < 256) : (moreP n k b).2 = true ↔ (k < n ∧ b / 64 = 2) := by
  unfold moreP
  by_cases h : k < n ∧ 128 ≤ b ∧ b ≤ 191
  · rw [if_pos h]; exact ⟨fun _ => by omega, fun _ => rfl⟩
  · rw [if_neg h]; exact ⟨fun h => (by cases h), fun h2 => absurd ⟨h2.1, by omega, by omega⟩ h⟩
theorem more1 (n k b : Nat) (h : k < n ∧ b / 64 = 2) : (moreP n k b).1 = ((b % 64 : Nat) : Int) := by
  unfold moreP
  rw [if_pos ⟨h.1, by omega, by omega⟩]
  dsimp only
  omega
theorem one_decode (n b0 b1 b2 b3 : Nat) (h0 : b0 < 256) (h1 : b1 < 256) (h2 : b2 < 256) (h3 : b3 < 256) :
    if badP (oneP n b0 b1 b2 b3).1 (oneP n b0 b1 b2 b3).2 then (Lib.decodeN n b0 b1 b2 b3).1 = 65533 else (Lib.decodeN n b0 b1 b2 b3).1 ≠ 65533 ∧ oneP n b0 b1 b2 b3 = (((Lib.decodeN n b0 b1 b2 b3).1 : Int), ((Lib.decodeN n b0 b1 b2 b3).2 : Int)) := by
  have g : ∀ r : Int, goodP r = false ↔ ¬ (0 ≤ r ∧ r ≤ 1114111 ∧ (r < 55296 ∨ r > 57343) ∧ r ≠ 65533) := fun r => by unfold goodP; rw [decide_eq_false_iff_not]
  by_cases c0 : b0 < 128
  · have e1 : oneP n b0 b1 b2 b3 = ((b0 : Int), 1) := by unfold oneP; rw [if_pos c0]
    have e2 : Lib.decodeN n b0 b1 b2 b3 = (b0, 1) := by unfold Lib.decodeN; rw [if_pos c0]
    rw [e1, e2]
    dsimp only
    rw [if_neg (by unfold badP; rw [g]; omega)]
    exact ⟨by omega, rfl⟩
  by_cases A2 : 194 ≤ b0 ∧ b0 ≤ 223 ∧ (1 < n ∧ b1 / 64 = 2)
  · have e1 : oneP n b0 b1 b2 b3 = (((b0 : Int) - 192) * 64 + ((b1 % 64 : Nat) : Int), 2) := by
      unfold oneP
      rw [if_neg c0, if_pos ⟨A2.1, A2.2.1, (more2 n 1 b1 h1).2 A2.2.2⟩, more1 n 1 b1 A2.2.2]
    have e2 : Lib.decodeN n b0 b1 b2 b3 = (b0 % 32 * 64 + b1 % 64, 2) := by
      unfold Lib.decodeN
      rw [if_neg c0, if_pos ⟨by omega, A2.2.2⟩, if_pos (by omega)]
    rw [e1, e2]
    dsimp only
    rw [if_neg (by unfold badP; rw [g]; omega)]
    exact ⟨by omega, Prod.ext (by dsimp only; omega) rfl⟩
  by_cases A3 : 224 ≤ b0 ∧ b0 ≤ 239 ∧ (1 < n ∧ b1 / 64 = 2) ∧ (2 < n ∧ b2 / 64 = 2)
  · have e1 : oneP n b0 b1 b2 b3 = (((b0 : Int) - 224) * 4096 + ((b1 % 64 : Nat) : Int) * 64 + ((b2 % 64 : Nat) : Int), 3) := by
      unfold oneP
      rw [if_neg c0, if_neg (fun h => by have := h.2.1; omega), if_pos ⟨A3.1, A3.2.1, (more2 n 1 b1 h1).2 A3.2.2.1, (more2 n 2 b2 h2).2 A3.2.2.2⟩, more1 n 1 b1 A3.2.2.1, more1 n 2 b2 A3.2.2.2]
    have e2 : Lib.decodeN n b0 b1 b2 b3 = if b0 % 16 * 4096 + b1 % 64 * 64 + b2 % 64 ≥ 2048 ∧ (b0 % 16 * 4096 + b1 % 64 * 64 + b2 % 64 < 55296 ∨ (57344 ≤ b0 % 16 * 4096 + b1 % 64 * 64 + b2 % 64 ∧ b0 % 16 * 4096 + b1 % 64 * 64 + b2 % 64 ≤ 1114111))
     then (b0 % 16 * 4096 + b1 % 64 * 64 + b2 % 64, 3) else (65533, 1) := by
      unfold Lib.decodeN
      rw [if_neg c0, if_neg (fun h => by have := h.1; omega), if_pos ⟨by omega, A3.2.2.1, A3.2.2.2⟩]
    have hv : ((b0 : Int) - 224) * 4096 + ((b1 % 64 : Nat) : Int) * 64 + ((b2 % 64 : Nat) : Int) = ((b0 % 16 * 4096 + b1 % 64 * 64 + b2 % 64 : Nat) : Int) := by omega
    rw [e1, e2, hv]
    generalize b0 % 16 * 4096 + b1 % 64 * 64 + b2 % 64 = v
    dsimp only
    by_cases hc : v ≥ 2048 ∧ (v < 55296 ∨ (57344 ≤ v ∧ v ≤ 1114111))
    · rw [if_pos hc]
      dsimp only
      by_cases hz : v = 65533
      · rw [if_pos (by unfold badP; rw [g]; omega)]; exact hz
      · rw [if_neg (by unfold badP; rw [g]; omega)]; exact ⟨hz, rfl⟩
    · rw [if_neg hc, if_pos]
      unfold badP
      rw [g]
      by_cases h9 : v < 2048
      · exact .inr (.inr (.inl ⟨rfl, by omega⟩))
      · exact .inr (.inl (by omega))
  by_cases A4 : 240 ≤ b0 ∧ b0 ≤ 244 ∧ (1 < n ∧ b1 / 64 = 2) ∧ (2 < n ∧ b2 / 64 = 2) ∧ (3 < n ∧ b3 / 64 = 2)
  · have e1 : oneP n b0 b1 b2 b3 = (((b0 : Int) - 240) * 262144 + ((b1 % 64 : Nat) : Int) * 4096 + ((b2 % 64 : Nat) : Int) * 64 + ((b3 % 64 : Nat) : Int), 4) := by
      unfold oneP
      rw [if_neg c0, if_neg (fun h => by have := h.2.1; omega), if_neg (fun h => by have := h.2.1; omega), if_pos ⟨A4.1, A4.2.1, (more2 n 1 b1 h1).2 A4.2.2.1, (more2 n 2 b2 h2).2 A4.2.2.2.1, (more2 n 3 b3 h3).2 A4.2.2.2.2⟩, more1 n 1 b1 A4.2.2.1, more1 n 2 b2 A4.2.2.2.1, more1 n 3 b3 A4.2.2.2.2]
    have e2 : Lib.decodeN n b0 b1 b2 b3 = if b0 % 8 * 262144 + b1 % 64 * 4096 + b2 % 64 * 64 + b3 % 64 ≥ 65536 ∧ (b0 % 8 * 262144 + b1 % 64 * 4096 + b2 % 64 * 64 + b3 % 64 < 55296 ∨ (57344 ≤ b0 % 8 * 262144 + b1 % 64 * 4096 + b2 % 64 * 64 + b3 % 64 ∧ b0 % 8 * 262144 + b1 % 64 * 4096 + b2 % 64 * 64 + b3 % 64 ≤ 1114111))
     then (b0 % 8 * 262144 + b1 % 64 * 4096 + b2 % 64 * 64 + b3 % 64, 4) else (65533, 1) := by
      unfold Lib.decodeN
      rw [if_neg c0, if_neg (fun h => by have := h.1; omega), if_neg (fun h => by have := h.1; omega), if_pos ⟨by omega, A4.2.2.1, A4.2.2.2.1, A4.2.2.2.2⟩]
    have hv : ((b0 : Int) - 240) * 262144 + ((b1 % 64 : Nat) : Int) * 4096 + ((b2 % 64 : Nat) : Int) * 64 + ((b3 % 64 : Nat) : Int) = ((b0 % 8 * 262144 + b1 % 64 * 4096 + b2 % 64 * 64 + b3 % 64 : Nat) : Int) := by omega
    rw [e1, e2, hv]
    generalize b0 % 8 * 262144 + b1 % 64 * 4096 + b2 % 64 * 64 + b3 % 64 = v
    dsimp only
    by_cases hc : v ≥ 65536 ∧ (v < 55296 ∨ (57344 ≤ v ∧ v ≤ 1114111))
    · rw [if_pos hc]
      dsimp only
      rw [if_neg (by unfold badP; rw [g]; omega)]; exact ⟨by omega, rfl⟩
    · rw [if_neg hc, if_pos]
      unfold badP
      rw [g]
      by_cases h9 : v < 65536
      · exact .inr (.inr (.inr ⟨rfl, by omega⟩))
      · exact .inr (.inl (by omega))
  have e1 : oneP n b0 b1 b2 b3 = (0, 0) := by
    unfold oneP
    rw [if_neg c0, if_neg (fun h => A2 ⟨h.1, h.2.1, (more2 n 1 b1 h1).1 h.2.2⟩), if_neg (fun h => A3 ⟨h.1, h.2.1, (more2 n 1 b1 h1).1 h.2.2.1, (more2 n 2 b2 h2).1 h.2.2.2⟩), if_neg (fun h => A4 ⟨h.1, h.2.1, (more2 n 1 b1 h1).1 h.2.2.1, (more2 n 2 b2 h2).1 h.2.2.2.1, (more2 n 3 b3 h3).1 h.2.2.2.2⟩)]
  rw [e1, if_pos (.inl rfl)]
  rcases Lib.decodeN_shape n b0 b1 b2 b3 with ⟨c, e⟩ | ⟨c1, c2, c3, cv, e⟩ | ⟨c1, c2, c3, c4, cv, cs, e⟩ | ⟨c1, c2, c3, c4, c5, cv, cw, e⟩ | e
  · exact absurd c c0
  · exact absurd ⟨by omega, by omega, c2, c3⟩ A2
  · exact absurd ⟨by omega, by omega, ⟨by omega, c3⟩, c2, c4⟩ A3
  · exact absurd ⟨by omega, by omega, ⟨by omega, c3⟩, ⟨by omega, c4⟩, c2, c5⟩ A4
  · rw [e]
theorem one_ev (s : ByteArray) (i : Nat) (hi : i < s.size) (hs : s.size ≤ 1000000) : Ev (fun K => inkhornref1_one.f K s (i : Int)) (oneP (s.size - i) (s.get! i).toNat (s.get! (i + 1)).toNat (s.get! (i + 2)).toNat (s.get! (i + 3)).toNat) :=
  ⟨2, fun k hk => by obtain ⟨m, rfl⟩ : ∃ m, k = m + 2 := ⟨k - 2, by omega⟩; exact one_eq m s i hi hs⟩
theorem refrunes_l0 (s : ByteArray) (hs : s.size ≤ 1000000) : ∀ (d i : Nat) (acc : List Int), i ≤ s.size → s.size ≤ i + d → acc.length + (s.size - i) ≤ 1000000 →
    Ev (fun K => inkhornref1_Runes.l0 K s acc (i : Int)) (if (65533 : Int) ∈ runes s i then ([], false) else (acc ++ runes s i, true)) := by
  intro d
  induction d with
  | zero =>
    intro i acc h1 h2 h3
    rw [runes_end s i (by omega), if_neg (by simp), List.append_nil]
    exact Ev.step (f := fun _ => some (acc, true)) (fun K => by simp only [inkhornref1_Runes.l0]; rw [if_neg (by omega)]) (Ev.now _)
  | succ d ih =>
    intro i acc h1 h2 h3
    by_cases hi : i < s.size
    case neg =>
      rw [runes_end s i hi, if_neg (by simp), List.append_nil]
      exact Ev.step (f := fun _ => some (acc, true)) (fun K => by simp only [inkhornref1_Runes.l0]; rw [if_neg (by omega)]) (Ev.now _)
    have od := one_decode (s.size - i) (s.get! i).toNat (s.get! (i + 1)).toNat (s.get! (i + 2)).toNat (s.get! (i + 3)).toNat (s.get! i).toNat_lt (s.get! (i + 1)).toNat_lt (s.get! (i + 2)).toNat_lt (s.get! (i + 3)).toNat_lt
    rw [← Lib.decode_at] at od
    have oe := one_ev s i hi hs
    generalize oneP (s.size - i) (s.get! i).toNat (s.get! (i + 1)).toNat (s.get! (i + 2)).toNat (s.get! (i + 3)).toNat = rn at od oe
    obtain ⟨r, n⟩ := rn
    dsimp only at od
    have hd1 := decode_pos s i hi
    have hd2 := decode_le_size s i hi
    rw [runes_next s i hi]
    refine Ev.step (fun K => by simp only [inkhornref1_Runes.l0]; rw [if_pos (by omega)]) (Ev.bind oe ?_)
    dsimp only
    by_cases hb : badP r n
    · rw [if_pos hb] at od
      rw [if_pos (by rw [od]; exact List.mem_cons_self)]
      refine Ev.congr (f := fun _ => some ([], false)) (fun K => ?_) (Ev.now _)
      by_cases n0 : n = 0
      · rw [if_pos n0]
      · rw [if_neg n0, refgood_eq, Option.bind_some]
        cases hg : goodP r with
        | false => rw [if_neg (by simp)]
        | true =>
          rw [if_pos rfl]
          rcases hb with h | h | h | h
          · exact absurd h n0
          · rw [hg] at h; cases h
          · rw [if_pos h.1, if_pos h.2]
          · rw [if_neg (by omega), if_pos h.1, if_pos h.2]
    · rw [if_neg hb] at od
      obtain ⟨od1, od2⟩ := od
      obtain ⟨e1, e2⟩ := Prod.mk.inj od2
      unfold badP at hb
      have e3 : (i : Int) + n = ((i + (Utf8.decode s i).2 : Nat) : Int) := by omega
      have := ih (i + (Utf8.decode s i).2) (acc ++ [r]) hd2 (by omega) (by rw [List.length_append, List.length_singleton]; omega)
      refine Ev.congr (f := fun K => inkhornref1_Runes.l0 K s (acc ++ [r]) ((i + (Utf8.decode s i).2 : Nat) : Int)) (fun K => ?_) ?_
      · rw [if_neg (fun h => hb (.inl h)), refgood_eq, Option.bind_some]
        cases hg : goodP r with
        | false => exact absurd (.inr (.inl hg)) hb
        | true =>
          rw [if_pos rfl, wr64 _ (by omega) (by omega), e3]
          have hacc : acc.length < 35184372088832 := by omega
          by_cases n3 : n = 3
          · rw [if_pos n3, if_neg (fun h => hb (.inr (.inr (.inl ⟨n3, h⟩)))), if_neg (by omega), if_pos hacc]
          · rw [if_neg n3]
            by_cases n4 : n = 4
            · rw [if_pos n4, if_neg (fun h => hb (.inr (.inr (.inr ⟨n4, h⟩)))), if_pos hacc]
            · rw [if_neg n4, if_pos hacc]
      · have e4 : (if (65533 : Int) ∈ ((Utf8.decode s i).1 : Int) :: runes s (i + (Utf8.decode s i).2) then (([] : List Int), false) else (acc ++ ((Utf8.decode s i).1 : Int) :: runes s (i + (Utf8.decode s i).2), true)) = (if (65533 : Int) ∈ runes s (i + (Utf8.decode s i).2) then ([], false) else (acc ++ [r] ++ runes s (i + (Utf8.decode s i).2), true)) := by
          rw [e1, List.append_assoc, List.singleton_append]
          by_cases hm : (65533 : Int) ∈ runes s (i + (Utf8.decode s i).2)
          · rw [if_pos hm, if_pos (List.mem_cons_of_mem _ hm)]
          · rw [if_neg hm, if_neg (by
              intro h
              rcases List.mem_cons.1 h with h | h
              · exact od1 (by omega)
              · exact hm h)]
        rw [e4]
        exact this
theorem refrunes_ev {s : ByteArray} (hs : s.size ≤ 1000000) : Ev (fun K => inkhornref1_Runes.f K s) (if Clean s then (runes s 0, true) else ([], false)) := by
  have h := refrunes_l0 s hs s.size 0 [] (Nat.zero_le _) (by omega) (by simp; omega)
  unfold inkhornref1_Runes.f
  have e : (if (65533 : Int) ∈ runes s 0 then (([] : List Int), false) else ([] ++ runes s 0, true)) = (if Clean s then (runes s 0, true) else ([], false)) := by
    by_cases hm : (65533 : Int) ∈ runes s 0
    · have hc : ¬ Clean s := fun h => h hm
      rw [if_pos hm, if_neg hc]
    · have hc : Clean s := hm
      rw [if_neg hm, if_pos hc, List.nil_append]
  rw [← e]
  exact h
theorem reflen_ev {s : ByteArray} (hs : s.size ≤ 1000000) : Ev (fun K => inkhornref1_Len.f K s) (if Clean s then ((runes s 0).length : Int) else -1) := by
  unfold inkhornref1_Len.f
  refine Ev.bind (refrunes_ev hs) ?_
  by_cases hc : Clean s
  · rw [if_pos hc, if_pos hc]; exact Ev.now _
  · rw [if_neg hc, if_neg hc]; exact Ev.now _
theorem refasked_ev {s : ByteArray} (hs : s.size ≤ 1000000) : Ev (fun K => inkhornref1_Asked.f K s) (decide (isAsked s)) := by
  unfold inkhornref1_Asked.f
  refine Ev.bind (reflen_ev hs) ?_
  by_cases hc : Clean s
  · rw [if_pos hc]
    refine Ev.congr (fun K => if_pos (by omega)) (Ev.bind (reflen_ev hs) ?_)
    rw [if_pos hc]
    have e : decide (((runes s 0).length : Int) ≤ 16) = decide (isAsked s) := by
      rw [decide_eq_decide]
      exact ⟨fun h => ⟨hc, by omega⟩, fun h => by have := h.2; omega⟩
    rw [e]
    exact Ev.now _
  · rw [if_neg hc, decide_eq_false (fun h => hc h.1)]
    exact Ev.congr (fun K => if_neg (by omega)) (Ev.now _)
theorem refdist_ev {a b : ByteArray} (ha : a.size ≤ 1000000) (hb : b.size ≤ 1000000) (ca : Clean a) (cb : Clean b) (la : (runes a 0).length ≤ 16) (lb : (runes b 0).length ≤ 16) : Ev (fun K => inkhornref5_Distance.f K a b) (far (runes a 0) (runes b 0) : Int) := by
  unfold inkhornref5_Distance.f
  have h1 := refrunes_ev ha
  have h2 := refrunes_ev hb
  rw [if_pos ca] at h1
  rw [if_pos cb] at h2
  refine Ev.bind h1 (Ev.bind h2 ?_)
  dsimp only
  simp only [if_true]
  exact Ev.bind (runes_ev (runes a 0) (runes b 0) la lb) (Ev.now _)
theorem refcompare_l0 (a b : ByteArray) (ha : a.size ≤ 1000000) (hb : b.size ≤ 1000000) : ∀ (d i : Nat), a.size ≤ i + d → i ≤ a.size → i ≤ b.size → Ev (fun K => inkhornref1_Compare.l0 K a b (i : Int)) (Lib.compareBytes (a.data.toList.drop i) (b.data.toList.drop i)) := by
  have last : ∀ i : Nat, i ≤ a.size → i ≤ b.size → ¬ (i < a.size ∧ i < b.size) → Ev (fun K => inkhornref1_Compare.j1 K a b (i : Int) false) (Lib.compareBytes (a.data.toList.drop i) (b.data.toList.drop i)) := by
    intro i h1 h2 h3
    refine Ev.step (f := fun _ => some (Lib.compareBytes (a.data.toList.drop i) (b.data.toList.drop i))) (fun K => ?_) (Ev.now _)
    simp only [inkhornref1_Compare.j1]
    rw [if_neg (by simp)]
    have la : (a.data.toList.drop i).length = a.size - i := by rw [List.length_drop, size_list]
    have lb : (b.data.toList.drop i).length = b.size - i := by rw [List.length_drop, size_list]
    generalize a.data.toList.drop i = u at la
    generalize b.data.toList.drop i = v at lb
    cases u with
    | nil =>
      cases v with
      | nil => simp at la lb; rw [if_neg (by omega), if_neg (by omega)]; rfl
      | cons y v => simp at la lb; rw [if_pos (by omega)]; rfl
    | cons x u =>
      cases v with
      | nil => simp at la lb; rw [if_neg (by omega), if_pos (by omega)]; rfl
      | cons y v => simp at la lb; exact absurd ⟨by omega, by omega⟩ h3
  intro d
  induction d with
  | zero =>
    intro i h0 h1 h2
    exact Ev.step (fun K => by simp only [inkhornref1_Compare.l0]; rw [if_neg (by omega)]) (last i h1 h2 (by omega))
  | succ d ih =>
    intro i h0 h1 h2
    by_cases c1 : i < a.size
    case neg => exact Ev.step (fun K => by simp only [inkhornref1_Compare.l0]; rw [if_neg (by omega)]) (last i h1 h2 (by omega))
    by_cases c2 : i < b.size
    case neg => exact Ev.step (fun K => by simp only [inkhornref1_Compare.l0]; rw [if_pos (by omega), decide_eq_false (by omega)]) (last i h1 h2 (by omega))
    refine Ev.step (fun K => by simp only [inkhornref1_Compare.l0]; rw [if_pos (by omega), decide_eq_true (by omega)]) ?_
    have c1' : i < a.data.toList.length := by rw [← size_list]; exact c1
    have c2' : i < b.data.toList.length := by rw [← size_list]; exact c2
    rw [List.drop_eq_getElem_cons c1', List.drop_eq_getElem_cons c2']
    have xa : bt a (i : Int) = (a.data.toList[i].toNat : Int) := by rw [bt_get]; congr 2; show a.data[i]! = _; rw [getElem!_pos a.data i (by simpa using c1')]; simp
    have xb : bt b (i : Int) = (b.data.toList[i].toNat : Int) := by rw [bt_get]; congr 2; show b.data[i]! = _; rw [getElem!_pos b.data i (by simpa using c2')]; simp
    generalize a.data.toList[i] = x at xa
    generalize b.data.toList[i] = y at xb
    unfold Lib.compareBytes
    by_cases l1 : x < y
    · rw [if_pos l1]
      have l1' : x.toNat < y.toNat := UInt8.lt_iff_toNat_lt.1 l1
      exact Ev.step (f := fun _ => some (-1)) (fun K => by simp only [inkhornref1_Compare.j1, if_true]; rw [if_pos (by omega), if_pos (by omega), if_pos (by omega), if_pos (by omega)]) (Ev.now _)
    · rw [if_neg l1]
      have l1' : ¬ x.toNat < y.toNat := fun h => l1 (UInt8.lt_iff_toNat_lt.2 h)
      by_cases l2 : y < x
      · rw [if_pos l2]
        have l2' : y.toNat < x.toNat := UInt8.lt_iff_toNat_lt.1 l2
        exact Ev.step (f := fun _ => some 1) (fun K => by simp only [inkhornref1_Compare.j1, if_true]; rw [if_pos (by omega), if_pos (by omega), if_pos (by omega), if_neg (by omega), if_pos (by omega)]) (Ev.now _)
      · rw [if_neg l2]
        have l2' : ¬ y.toNat < x.toNat := fun h => l2 (UInt8.lt_iff_toNat_lt.2 h)
        exact Ev.step (fun K => by simp only [inkhornref1_Compare.j1, if_true]; rw [if_pos (by omega), if_pos (by omega), if_pos (by omega), if_neg (by omega), if_neg (by omega), wr64 _ (by omega) (by omega)]; rfl) (ih (i + 1) (by omega) (by omega) (by omega))
theorem refcompare_ev {a b : ByteArray} (ha : a.size ≤ 1000000) (hb : b.size ≤ 1000000) : Ev (fun K => inkhornref1_Compare.f K a b) (Lib.compareBytes a.data.toList b.data.toList) := by
  have := refcompare_l0 a b ha hb a.size 0 (by omega) (Nat.zero_le _) (Nat.zero_le _)
  rw [List.drop_zero, List.drop_zero] at this
  exact this
end Go.Proofs.Ytklidannncajiaa.OW

namespace Go.Proofs.Ytklidannncajiaa.OW
open Go.RowKit Go.Proofs.YtklidannncajiaaW.PrintWords Go.Proofs.YtklidannncajiaaW.PrintLast Go.Proofs.YtklidannncajiaaW.PrintMore Go.Proofs.Ytklidannncajiaa.Am

/-- Is an item ahead of another one? -/
def lessP (a b : S24) : Bool := decide (a.f0 < b.f0 ∨ (a.f0 = b.f0 ∧ ltB a.f1 b.f1))
theorem or_eq (k : Nat) (a b : Int) : cmp_Or_int.f (k + 3) [a, b] = some (if a = 0 then b else a) := by
  unfold cmp_Or_int.f
  simp only [cmp_Or_int.l0, List.length_cons, List.length_nil, rd]
  by_cases ha : a = 0
  · by_cases hb : b = 0
    · simp [ha, hb, wrap64]
    · simp [ha, hb, wrap64]
  · simp [ha]
theorem cmpInt_eq (a b : Int) : cmp_Compare_int.f a b = some (if a < b then -1 else if a > b then 1 else 0) := by
  unfold cmp_Compare_int.f cmp_isNaN_int.f
  simp only [Option.bind_some, bne_self_eq_false, Bool.false_eq_true, if_false]
  by_cases h1 : a < b
  · rw [if_pos h1, if_pos h1]
  · rw [if_neg h1, if_neg h1]
    by_cases h2 : a > b
    · rw [if_pos h2, if_pos h2]
    · rw [if_neg h2, if_neg h2]
theorem compareP_eq (k : Nat) (hk : 3 ≤ k) (a b : S24) : rank_compare.f k a.f0 a.f1 b.f0 b.f1 = some (if a.f0 < b.f0 then -1 else if a.f0 > b.f0 then 1 else Lib.compareBytes a.f1.data.toList b.f1.data.toList) := by
  obtain ⟨m, rfl⟩ : ∃ m, k = m + 3 := ⟨k - 3, by omega⟩
  unfold rank_compare.f
  rw [cmpInt_eq, Option.bind_some, compare_eq, Option.bind_some, or_eq, Option.bind_some]
  congr 1
  by_cases h1 : a.f0 < b.f0
  · simp [h1]
  · by_cases h2 : a.f0 > b.f0
    · simp [h1, h2]
    · simp [h1, h2]
theorem less_eq (k : Nat) (hk : 3 ≤ k) (a b : S24) : rank_Less.f k a.f0 a.f1 b.f0 b.f1 = some (lessP a b) := by
  unfold rank_Less.f
  rw [compareP_eq k hk, Option.bind_some]
  congr 1
  unfold lessP ltB
  rw [Bool.eq_iff_iff]
  simp only [decide_eq_true_eq]
  by_cases h1 : a.f0 < b.f0
  · simp [h1]
  · by_cases h2 : a.f0 > b.f0
    · simp [h1, h2]; omega
    · have : a.f0 = b.f0 := by omega
      simp [this]
def keepP (first : Bool) (af x : S24) : Bool := first || lessP af x
theorem skip_eq (k : Nat) (hk : 3 ≤ k) (d : Int) (first : Bool) (af : S24) (s : ByteArray) : nextSkip k d first af s = some (!keepP first af ⟨d, s⟩) := by
  unfold nextSkip keepP
  cases first with
  | true => rfl
  | false =>
    rw [if_neg (by simp)]
    have := less_eq k hk af ⟨d, s⟩
    dsimp only at this
    rw [this]
    rfl
theorem nextStep_eq (k : Nat) (hk : 3 ≤ k) (d : Int) (first : Bool) (af : S24) (bt : Int) : nextStep k d first af bt = nextStep 3 d first af bt := by
  funext a s
  unfold nextStep
  rw [skip_eq k hk, skip_eq 3 (Nat.le_refl _)]
/-- Items are taken one by one; true: one more would have been taken. -/
def feed (first : Bool) (af : S24) (bt : Int) : List S24 → List S24 → List S24 × Bool
  | l, [] => (l, false)
  | l, x :: xs => if keepP first af x = true then (if (l.length : Int) = bt then (l, true) else feed first af bt (l ++ [x]) xs) else feed first af bt l xs
theorem feed_cons (first : Bool) (af : S24) (bt : Int) (l : List S24) (x : S24) (xs : List S24) : feed first af bt l (x :: xs) = if keepP first af x = true then (if (l.length : Int) = bt then (l, true) else feed first af bt (l ++ [x]) xs) else feed first af bt l xs := rfl
theorem feed_append (first : Bool) (af : S24) (bt : Int) : ∀ (u v l : List S24), feed first af bt l (u ++ v) = if (feed first af bt l u).2 = true then feed first af bt l u else feed first af bt (feed first af bt l u).1 v
  | [], v, l => by simp [feed]
  | x :: u, v, l => by
    rw [List.cons_append, feed_cons, feed_cons]
    by_cases h1 : keepP first af x = true
    · rw [if_pos h1, if_pos h1]
      by_cases h2 : (l.length : Int) = bt
      · rw [if_pos h2, if_pos h2, if_pos rfl]
      · rw [if_neg h2, if_neg h2]
        exact feed_append first af bt u v _
    · rw [if_neg h1, if_neg h1]
      exact feed_append first af bt u v l
theorem runs_next (d : Int) (first : Bool) (af : S24) (bt : Int) : ∀ (ws : List ByteArray) (l : List S24), l.length + ws.length ≤ 1000000 →
    runs (nextStep 3 d first af bt) (l, false) ws = some (feed first af bt l (ws.map fun w => ⟨d, w⟩), !(feed first af bt l (ws.map fun w => ⟨d, w⟩)).2)
  | [], l, _ => by simp [runs, feed]
  | w :: ws, l, h => by
    simp only [List.length_cons] at h
    show (nextStep 3 d first af bt (l, false) w).bind _ = _
    unfold nextStep
    rw [skip_eq 3 (Nat.le_refl _), Option.bind_some]
    simp only [List.map_cons]
    unfold feed
    by_cases hk : keepP first af ⟨d, w⟩ = true
    · rw [if_pos hk]
      simp only [hk, Bool.not_true, Bool.false_eq_true, if_false]
      by_cases hb : (l.length : Int) = bt
      · rw [if_pos hb, if_pos hb]; rfl
      · rw [if_neg hb, if_neg hb, if_pos (by omega)]
        simp only [Option.bind_some, Bool.not_false, if_true]
        exact runs_next d first af bt ws _ (by simp; omega)
    · rw [if_neg hk]
      have hk' : keepP first af ⟨d, w⟩ = false := by simpa using hk
      simp only [hk', Bool.not_false, if_true, Option.bind_some]
      exact runs_next d first af bt ws l (by omega)
theorem feed_eq (first : Bool) (af : S24) (bt : Nat) : ∀ (items l : List S24), l.length ≤ bt → feed first af bt l items = (l ++ (items.filter (keepP first af)).take (bt - l.length), decide (bt - l.length < (items.filter (keepP first af)).length))
  | [], l, _ => by simp [feed]
  | x :: xs, l, h => by
    unfold feed
    by_cases hk : keepP first af x = true
    · rw [if_pos hk, List.filter_cons, if_pos hk]
      by_cases hb : (l.length : Int) = bt
      · have : bt - l.length = 0 := by omega
        rw [if_pos hb, this]; simp
      · obtain ⟨m, hm⟩ : ∃ m, bt - l.length = m + 1 := ⟨bt - l.length - 1, by omega⟩
        rw [if_neg hb, feed_eq first af bt xs (l ++ [x]) (by simp; omega), hm]
        have : bt - (l ++ [x]).length = m := by simp; omega
        rw [this]
        simp
    · rw [if_neg hk, List.filter_cons, if_neg hk]
      exact feed_eq first af bt xs l h
/-- The items at distances from d on, n of them. -/
def level (q : List Int) (l : List ByteArray) (d : Nat) : List S24 := (near q d l).map fun w => ⟨(d : Int), w⟩
def levels (q : List Int) (l : List ByteArray) (d n : Nat) : List S24 := (List.range' d n).flatMap (level q l)
theorem levels_succ (q : List Int) (l : List ByteArray) (d n : Nat) : levels q l d (n + 1) = level q l d ++ levels q l (d + 1) n := by
  unfold levels
  rw [List.range'_succ, List.flatMap_cons]
theorem near_len (q : List Int) (d : Nat) (l : List ByteArray) : (near q d l).length ≤ l.length := List.length_filter_le _ _
theorem level_len (q : List Int) (l : List ByteArray) (d : Nat) : (level q l d).length ≤ l.length := by unfold level; rw [List.length_map]; exact near_len q d l
theorem feed_len (first : Bool) (af : S24) (bt : Int) : ∀ (items l : List S24), (feed first af bt l items).1.length ≤ l.length + items.length
  | [], l => by simp [feed]
  | x :: xs, l => by
    unfold feed
    split
    · split
      · simp
      · have := feed_len first af bt xs (l ++ [x])
        simp at this ⊢
        omega
    · have := feed_len first af bt xs l
      simp
      omega
/-- A graph of words: its first node stands for all of them. -/
structure Graph (ns : List S72) (l : List ByteArray) : Prop where
  rep : ∃ f, Rep f ns 0 l
  good : GoodR (restsOf l)
  size : bytesOf_ l + l.length ≤ 100000
theorem next_l0 (q : List Int) (hq : q.length ≤ 16) (ns : List S72) (l : List ByteArray) (hG : Graph ns l) (first : Bool) (af : S24) (bt : Int) (top : Nat) (ht : top ≤ 5) : ∀ (n d : Nat), d + n = top → ∀ (b : List S24), b.length + n * l.length ≤ 900000 →
    ∃ K0, ∀ k kq, K0 ≤ k → K0 ≤ kq → walk_Next.l0 k q ns first af bt top kq d (b, false) = some (feed first af bt b (levels q l d n)) := by
  intro n
  induction n with
  | zero =>
    intro d hd b _
    refine ⟨1, fun k kq _ hkq => ?_⟩
    obtain ⟨m, rfl⟩ : ∃ m, kq = m + 1 := ⟨kq - 1, by omega⟩
    simp only [walk_Next.l0]
    rw [if_neg (by omega)]
    simp [levels, feed]
  | succ n ih =>
    intro d hd b hb
    have hsz := hG.size
    have hnl := near_len q d l
    have hmul : (n + 1) * l.length = n * l.length + l.length := by rw [Nat.add_mul, Nat.one_mul]
    obtain ⟨f, hR⟩ := hG.rep
    have hrun := runs_next (d : Int) first af bt (near q d l) b (by omega)
    obtain ⟨K1, h1⟩ := each_ev q d ns (nextStep 3 (d : Int) first af bt) (by omega) hq f l hR hG.good hG.size (b, false) _ hrun
    have hlv : feed first af bt b ((near q d l).map fun w => ⟨(d : Int), w⟩) = feed first af bt b (level q l d) := rfl
    have hfl := feed_len first af bt (level q l d) b
    have hll := level_len q l d
    by_cases hm : (feed first af bt b (level q l d)).2 = true
    · refine ⟨max K1 3 + 1, fun k kq hk hkq => ?_⟩
      obtain ⟨m, rfl⟩ : ∃ m, kq = m + 1 := ⟨kq - 1, by omega⟩
      have h2 : walk_each.f k q d ns (nextStep 3 (d : Int) first af bt) (b, false) = some _ := h1 k (by omega)
      simp only [walk_Next.l0]
      rw [if_pos (by omega), nextStep_eq k (by omega), h2, Option.bind_some, hlv, if_pos hm, levels_succ, feed_append, if_pos hm]
    · obtain ⟨K2, h3⟩ := ih (d + 1) (by omega) (feed first af bt b (level q l d)).1 (by omega)
      refine ⟨max (max K1 3) K2 + 1, fun k kq hk hkq => ?_⟩
      obtain ⟨m, rfl⟩ : ∃ m, kq = m + 1 := ⟨kq - 1, by omega⟩
      have h2 : walk_each.f k q d ns (nextStep 3 (d : Int) first af bt) (b, false) = some _ := h1 k (by omega)
      simp only [walk_Next.l0]
      rw [if_pos (by omega), nextStep_eq k (by omega), h2, Option.bind_some, hlv, if_neg hm, levels_succ, feed_append, if_neg hm]
      have h4 := h3 k m (by omega) (by omega)
      have e : (feed first af bt b (level q l d)) = ((feed first af bt b (level q l d)).1, false) := Prod.ext rfl (by simpa using hm)
      rw [← h4]
      congr 1
/-- The next batch: the items of all distances up to k, behind 'after', as many as are wanted. -/
def allP (s : ByteArray) (k : Int) (l : List ByteArray) : List S24 := if mayAsk s k then levels (runes s 0) l 0 (k.toNat + 1) else []
def restP (s : ByteArray) (k : Int) (l : List ByteArray) (first : Bool) (af : S24) : List S24 := (allP s k l).filter (keepP first af)
def nextP (s : ByteArray) (k : Int) (l : List ByteArray) (first : Bool) (af : S24) (batch : Int) : List S24 × Bool := ((restP s k l first af).take batch.toNat, decide ((restP s k l first af).length ≤ batch.toNat))
theorem next_ev {ns : List S72} {l : List ByteArray} (hG : Graph ns l) (s : ByteArray) (hs : s.size ≤ 1000000) (k : Int) (first : Bool) (af : S24) (batch : Int) : Ev (fun K => walk_Next.f K ns s k first af batch) (nextP s k l first af batch) := by
  unfold nextP restP allP
  by_cases hm : mayAsk s k
  · obtain ⟨⟨hc, hl⟩, h0, h4⟩ := hm
    have hm : mayAsk s k := ⟨⟨hc, hl⟩, h0, h4⟩
    have hsz := hG.size
    obtain ⟨m, rfl⟩ := Int.eq_ofNat_of_zero_le h0
    obtain ⟨K0, hK⟩ := next_l0 (runes s 0) hl ns l hG first af (if batch < 0 then 0 else batch) (m + 1) (by omega) (m + 1) 0 (by omega) [] (by
      have : (m + 1) * l.length ≤ 5 * l.length := Nat.mul_le_mul_right _ (by omega)
      simp only [List.length_nil]
      omega)
    refine ⟨K0, fun k hk => ?_⟩
    have hK' := hK k k hk hk
    show walk_Next.f k ns s m first af batch = _
    unfold walk_Next.f
    rw [walk_asked_eq hs, if_pos hm, Option.bind_some, if_pos rfl]
    have hbt : (if batch < 0 then 0 else batch) = ((batch.toNat : Nat) : Int) := by split <;> omega
    rw [if_pos hm]
    rw [hbt] at hK' ⊢
    have e1 : ((m : Int) + 1) = ((m + 1 : Nat) : Int) := by omega
    rw [e1]
    show (walk_Next.l0 k (runes s 0) ns first af ((batch.toNat : Nat) : Int) ((m + 1 : Nat) : Int) k ((0 : Nat) : Int) ([], false)).bind _ = _
    rw [hK', Option.bind_some, feed_eq first af batch.toNat _ [] (by simp)]
    simp only [List.nil_append, List.length_nil, Nat.sub_zero, Int.toNat_natCast]
    congr 2
    rw [Bool.eq_iff_iff]
    simp
  · refine ⟨0, fun k' _ => ?_⟩
    show walk_Next.f k' ns s k first af batch = _
    unfold walk_Next.f
    rw [walk_asked_eq hs, if_neg hm, Option.bind_some, if_neg (by simp), if_neg hm]
    simp
theorem runs_dists : ∀ (ws l : List ByteArray), l.length + ws.length ≤ 1000000 → runs distsStep l ws = some (l ++ ws, true)
  | [], l, _ => by simp [runs]
  | w :: ws, l, h => by
    simp only [List.length_cons] at h
    have e : distsStep l w = some (l ++ [w], true) := by unfold distsStep; rw [if_pos (by omega)]
    show (distsStep l w).bind _ = _
    rw [e, Option.bind_some, if_pos rfl, runs_dists ws _ (by simp; omega)]
    simp
def distsP (s : ByteArray) (d : Int) (l : List ByteArray) : List ByteArray := if mayAsk s d then near (runes s 0) d.toNat l else []
theorem dists_ev {ns : List S72} {l : List ByteArray} (hG : Graph ns l) (s : ByteArray) (hs : s.size ≤ 1000000) (d : Int) : Ev (fun K => walk_Dists.f K ns s d) (distsP s d l) := by
  unfold distsP
  by_cases hm : mayAsk s d
  · obtain ⟨⟨hc, hl⟩, h0, h4⟩ := hm
    have hm : mayAsk s d := ⟨⟨hc, hl⟩, h0, h4⟩
    obtain ⟨m, rfl⟩ := Int.eq_ofNat_of_zero_le h0
    obtain ⟨f, hR⟩ := hG.rep
    have hnl := near_len (runes s 0) m l
    have hsz := hG.size
    obtain ⟨K0, hK⟩ := each_ev (runes s 0) m ns distsStep (by omega) hl f l hR hG.good hG.size [] _ (runs_dists (near (runes s 0) m l) [] (by simp; omega))
    refine ⟨K0, fun k hk => ?_⟩
    have hK' : walk_each.f k (runes s 0) m ns distsStep [] = some _ := hK k hk
    show walk_Dists.f k ns s m = _
    unfold walk_Dists.f
    rw [walk_asked_eq hs, if_pos hm, Option.bind_some, if_pos rfl, hK', if_pos hm]
    simp
  · refine ⟨0, fun k' _ => ?_⟩
    show walk_Dists.f k' ns s d = _
    unfold walk_Dists.f
    rw [walk_asked_eq hs, if_neg hm, Option.bind_some, if_neg (by simp), if_neg hm]
theorem small_bytes {l : List ByteArray} (h : ∀ s ∈ l, s.size ≤ 100) : bytesOf_ l ≤ 100 * l.length := by
  induction l with
  | nil => simp [bytesOf_]
  | cons s t ih =>
    have h1 := h s List.mem_cons_self
    have h2 := ih (fun x hx => h x (List.mem_cons_of_mem _ hx))
    simp only [bytesOf_, List.map_cons, List.sum_cons, List.length_cons] at h2 ⊢
    omega
theorem edges_cons (f : Nat) (s : ByteArray) (t : List ByteArray) (es : List S91) (st : Bld) : edges (f + 1) (s :: t) es st = if s.size ≤ 1000000 ∧ 0 < s.size ∧ es.length ≤ 1000000 ∧ (s :: t).length ≤ 1000000 then
    (node f (grp (hd s) (wd s) (s :: t)) st).bind fun y => edges f ((s :: t).drop (grp (hd s) (wd s) (s :: t)).length) (es ++ [⟨((Utf8.decode s 0).1 : Int), y.1⟩]) y.2 else none := by
  simp only [edges]
  rfl
theorem node_mono : ∀ f : Nat, (∀ l st r, node f l st = some r → node (f + 1) l st = some r) ∧ (∀ l es st r, edges f l es st = some r → edges (f + 1) l es st = some r)
  | 0 => ⟨fun _ _ _ h => by simp [node] at h, fun _ _ _ _ h => by simp [edges] at h⟩
  | f + 1 => by
    obtain ⟨h1, h2⟩ := node_mono f
    refine ⟨fun l st r h => ?_, fun l es st r h => ?_⟩
    · rw [node] at h ⊢
      by_cases hc : l ≠ [] ∧ (Lib.join (l.map (·.data.toList)) [255]).length ≤ 1000000 ∧ st.ns.length ≤ 1000000 ∧ l.length ≤ 1000000
      · rw [if_pos hc] at h ⊢
        cases hF : st.F (restsKey l) with
        | some n => rw [hF] at h; exact h
        | none =>
          rw [hF] at h
          dsimp only at h ⊢
          obtain ⟨y, hy, hr⟩ := Option.bind_eq_some_iff.1 h
          rw [h2 _ _ _ _ hy]
          exact hr
      · rw [if_neg hc] at h; cases h
    · cases l with
      | nil => simp only [edges] at h ⊢; exact h
      | cons s t =>
        rw [edges_cons] at h
        split at h
        · rename_i hc
          rw [edges_cons, if_pos hc]
          obtain ⟨y, hy, hr⟩ := Option.bind_eq_some_iff.1 h
          rw [h1 _ _ _ hy, Option.bind_some]
          have h3 := h2 _ _ _ _ hr
          exact h3
        · cases h
theorem node_up {f f' : Nat} (hf : f ≤ f') {l : List ByteArray} {st : Bld} {r : Int × Bld} (h : node f l st = some r) : node f' l st = some r := by
  induction hf with
  | refl => exact h
  | step _ ih => exact (node_mono _).1 _ _ _ ih
theorem build_ev {l : List ByteArray} (hs : Small l) : ∃ e ns, Ev (fun K => graph_Build.f K l) (e, ns) ∧ (e = 0 → GoodW l ∧ Graph ns l) := by
  obtain ⟨e, he, hg⟩ := good_ev hs
  have hb := small_bytes hs.2
  have h80 := hs.1
  by_cases h0 : e = 0
  · subst h0
    have hw := hg rfl
    by_cases hl : l = []
    · subst hl
      refine ⟨0, [z72], ?_, fun _ => ⟨hw, ⟨2, ?_⟩, ⟨by simp [restsOf, isEnd], by simp [restsOf, isEnd]⟩, by simp [bytesOf_]⟩⟩
      · unfold graph_Build.f
        refine Ev.bind (f := fun K e => if e = 0 then (if ([] : List ByteArray) = [] then some (0, [z72]) else (node K [] ⟨[], fun _ => none⟩).bind fun y => some (0, y.2.ns)) else some (e, [])) he ?_
        simp only [if_true]
        exact Ev.now _
      · simp [Rep, RepE, z72, isEnd, restsOf]
    · have hgl : GoodL l := ⟨hl, fun s hs' => (hw.words s hs').1, hw.sorted⟩
      obtain ⟨r, st, h1, h2, ⟨f', h3⟩, h4, h5⟩ := (node_spec (2 * bytesOf_ l + l.length + 2)).1 l ⟨[], fun _ => none⟩ (bytesOf_ l + 1) hgl (fun _ _ h => by cases h) (Nat.lt_succ_self _) (Nat.le_refl _) (by omega) (by simp only [List.length_nil]; omega)
      have hr0 : r = 0 := by
        rw [node] at h1
        split at h1
        · dsimp only at h1
          obtain ⟨y, _, hy⟩ := Option.bind_eq_some_iff.1 h1
          split at hy
          · exact (Prod.mk.inj (Option.some.inj hy)).1.symm
          · cases hy
        · cases h1
      subst hr0
      refine ⟨0, st.ns, ?_, fun _ => ⟨hw, ⟨f', h3⟩, restsOf_good hgl, by omega⟩⟩
      unfold graph_Build.f
      refine Ev.bind (f := fun K e => if e = 0 then (if l = [] then some (0, [z72]) else (node K l ⟨[], fun _ => none⟩).bind fun y => some (0, y.2.ns)) else some (e, [])) he ?_
      simp only [hl, if_true, if_false]
      exact ⟨2 * bytesOf_ l + l.length + 2, fun k hk => by show (node k l ⟨[], fun _ => none⟩).bind _ = _; rw [node_up hk h1]; rfl⟩
  · refine ⟨e, [], ?_, fun h => absurd h h0⟩
    unfold graph_Build.f
    refine Ev.bind (f := fun K e => if e = 0 then (if l = [] then some (0, [z72]) else (node K l ⟨[], fun _ => none⟩).bind fun y => some (0, y.2.ns)) else some (e, [])) he ?_
    simp only [h0, if_false]
    exact Ev.now _
end Go.Proofs.Ytklidannncajiaa.OW
