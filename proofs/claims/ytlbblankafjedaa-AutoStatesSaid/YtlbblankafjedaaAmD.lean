/- The table of all beginnings of two texts is that of their distances; its last cell is their distance. -/
import Derived.Test.YtlbblankafjedaaAmC
import Derived.Test.YtlbblankafjedaaOAutox12
namespace Go.Proofs.Ytlbblankafjedaa.Am
open Go.RowKit Go.Proofs.Ytlbblankafjedaa.OAuto Go.Proofs.YtlbblankafjedaaW.PrintWords Go.Proofs.YtlbblankafjedaaW.PrintLast Go.Proofs.YtlbblankafjedaaW.PrintMore

/-- Row i of the table, its first m cells. -/
def trow (a b : List Int) (i m : Nat) : List Int := (List.range m).map fun j => ((dp a (b.take j) i : Nat) : Int)
/-- The table's first m rows. -/
def tab (a b : List Int) (m : Nat) : List (List Int) := (List.range m).map fun i => trow a b i (b.length + 1)
theorem trow_len (a b : List Int) (i m : Nat) : (trow a b i m).length = m := by simp [trow]
theorem tab_len (a b : List Int) (m : Nat) : (tab a b m).length = m := by simp [tab]
theorem trow_rd (a b : List Int) (i m j : Nat) (h : j < m) : rd (trow a b i m) (j : Int) = ((dp a (b.take j) i : Nat) : Int) := by
  rw [rd_nat]; simp [trow, List.getD_eq_getElem?_getD, List.getElem?_range h]
theorem tab_rd (a b : List Int) (m i : Nat) (h : i < m) : rd_L3 (tab a b m) (i : Int) = trow a b i (b.length + 1) := by
  unfold rd_L3; rw [Int.toNat_natCast]; simp [tab, List.getD_eq_getElem?_getD, List.getElem?_range h]
theorem trow_snoc (a b : List Int) (i m : Nat) : trow a b i (m + 1) = trow a b i m ++ [((dp a (b.take m) i : Nat) : Int)] := by
  simp [trow, List.range_succ]
theorem tab_snoc (a b : List Int) (m : Nat) : tab a b (m + 1) = tab a b m ++ [trow a b m (b.length + 1)] := by
  simp [tab, List.range_succ]
theorem dp_zero (a b : List Int) : dp a b 0 = b.length := by
  induction b using snoc_induction with
  | h0 => rfl
  | h1 p r ih => rw [dp_snoc]; simp [stepRow, ih]
theorem dp_cell (a b : List Int) (i j : Nat) (hj : j < b.length) :
    dp a (b.take (j + 1)) (i + 1) = min (min (dp a (b.take j) (i + 1) + 1) (dp a (b.take (j + 1)) i + 1)) (dp a (b.take j) i + if a.getD i 0 = b.getD j 0 then 0 else 1) := by
  rw [take_snoc b j hj, dp_snoc]; rfl
theorem table_l1 (a b : List Int) (ha : a.length ≤ 16) (hb : b.length ≤ 16) (i : Nat) (hi : i ≤ a.length) (R : List (List Int))
    (hc : Ev (fun K => inkhornref5_Table.l0 K a b (tab a b (i + 1)) ((i + 1 : Nat) : Int)) R) :
    ∀ (d j : Nat), j + d = b.length + 1 → Ev (fun K => inkhornref5_Table.l1 K a b (tab a b i) (i : Int) (trow a b i j) (j : Int)) R := by
  intro d
  induction d with
  | zero =>
    intro j hj
    obtain rfl : j = b.length + 1 := by omega
    refine Ev.step (fun K => ?_) hc
    simp only [inkhornref5_Table.l1]
    rw [if_neg (by omega), if_pos (by rw [tab_len]; omega), wr _ (by omega) (by omega), ← tab_snoc]
    rfl
  | succ d ih =>
    intro j hj
    have hn := ih (j + 1) (by omega)
    rw [trow_snoc] at hn
    have hw : wrap64 ((j : Int) + 1) = ((j + 1 : Nat) : Int) := by rw [wr _ (by omega) (by omega)]; rfl
    refine Ev.step (fun K => ?_) hn
    simp only [inkhornref5_Table.l1]
    rw [if_pos (by omega), hw]
    cases i with
    | zero =>
      rw [if_pos (by omega), if_pos (by rw [trow_len]; omega), dp_zero, List.length_take]
      rw [show min j b.length = j by omega]
    | succ i =>
      rw [if_neg (by omega)]
      cases j with
      | zero =>
        rw [if_pos (by omega), if_pos (by rw [trow_len]; omega)]
        rfl
      | succ j =>
        have e1 : wrap64 (((i + 1 : Nat) : Int) - 1) = (i : Int) := by rw [wr _ (by omega) (by omega)]; omega
        have e2 : wrap64 (((j + 1 : Nat) : Int) - 1) = (j : Int) := by rw [wr _ (by omega) (by omega)]; omega
        have l1 := (lip_dp a (b.take j)).any i 0
        have l2 := (lip_dp a (b.take j)).any (i + 1) 0
        have l3 := (lip_dp a (b.take (j + 1))).any i 0
        rw [dp_zero, List.length_take] at l1 l2 l3
        rw [if_neg (by omega), e1, e2, tab_rd a b (i + 1) i (by omega), if_pos (by omega), if_pos (by rw [tab_len]; omega), if_pos (by omega), if_pos (by rw [trow_len]; omega), if_pos (by omega), if_pos (by omega), rd_nat a, rd_nat b,
          trow_rd a b i _ j (by omega), trow_rd a b i _ (j + 1) (by omega), trow_rd a b (i + 1) _ j (by omega), dp_cell a b i j (by omega)]
        by_cases e : a.getD i 0 = b.getD j 0
        · rw [if_pos e, if_pos e, if_pos (by omega), if_pos (by rw [trow_len]; omega), if_pos (by rw [trow_len]; omega), if_pos (by rw [trow_len]; omega), mn_eq, mn_eq, wr _ (by omega) (by omega), wr _ (by omega) (by omega)]
          congr 4
          omega
        · rw [if_neg e, if_neg e, if_pos (by omega), if_pos (by rw [trow_len]; omega), if_pos (by rw [trow_len]; omega), if_pos (by rw [trow_len]; omega), mn_eq, mn_eq, wr _ (by omega) (by omega), wr _ (by omega) (by omega), wr _ (by omega) (by omega)]
          congr 4
          omega
theorem table_l0 (a b : List Int) (ha : a.length ≤ 16) (hb : b.length ≤ 16) :
    ∀ (d i : Nat), i + d = a.length + 1 → Ev (fun K => inkhornref5_Table.l0 K a b (tab a b i) (i : Int)) (tab a b (a.length + 1)) := by
  intro d
  induction d with
  | zero =>
    intro i hi
    obtain rfl : i = a.length + 1 := by omega
    refine Ev.step (fun K => ?_) (Ev.now _)
    simp only [inkhornref5_Table.l0]
    rw [if_neg (by omega)]
  | succ d ih =>
    intro i hi
    refine Ev.step (fun K => ?_) (table_l1 a b ha hb i (by omega) _ (ih (i + 1) (by omega)) (b.length + 1) 0 (by omega))
    simp only [inkhornref5_Table.l0]
    rw [if_pos (by omega)]
    rfl
theorem table_ev (a b : List Int) (ha : a.length ≤ 16) (hb : b.length ≤ 16) : Ev (fun K => inkhornref5_Table.f K a b) (tab a b (a.length + 1)) :=
  table_l0 a b ha hb (a.length + 1) 0 (by omega)
theorem runes_ev (a b : List Int) (ha : a.length ≤ 16) (hb : b.length ≤ 16) : Ev (fun K => inkhornref5_Runes.f K a b) (far a b : Int) := by
  refine Ev.bind (f := fun _ t => if 0 ≤ (a.length : Int) then (if (a.length : Int) < (t.length : Int) then (if 0 ≤ (b.length : Int) then (if (b.length : Int) < ((rd_L3 t (a.length : Int)).length : Int) then (some (rd (rd_L3 t (a.length : Int)) (b.length : Int))) else (none)) else (none)) else (none)) else (none)) (table_ev a b ha hb) (Ev.congr (fun K => ?_) (Ev.now _))
  rw [if_pos (by omega), if_pos (by rw [tab_len]; omega), if_pos (by omega), tab_rd a b _ a.length (by omega), if_pos (by rw [trow_len]; omega), trow_rd a b _ _ b.length (by omega), List.take_length]
  rfl
end Go.Proofs.Ytlbblankafjedaa.Am
