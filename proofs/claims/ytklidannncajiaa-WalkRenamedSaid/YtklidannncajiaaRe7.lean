/- What the row of the law WalkRenamed leans on: contracts of functions and plain laws, each for all inputs that its own theorem names. -/
import Derived.Test.YtklidannncajiaaRe1
import Derived.Test.YtklidannncajiaaRe6
namespace Go.Proofs.Ytklidannncajiaa.OW
open Go.RowKit Go.Proofs.YtklidannncajiaaW.PrintWords Go.Proofs.YtklidannncajiaaW.PrintLast Go.Proofs.YtklidannncajiaaW.PrintMore
set_option linter.unusedVariables false
set_option linter.unusedSimpArgs false

theorem row_flat {w : World} {A : Option Addr} {xs : List ByteArray} (h : Kd.C Kd.string w A xs.length xs) (h0 : 0 < xs.length) : ∃ bk o, A = some ⟨bk, o, none⟩ ∧ bk < w.heap.size ∧ ∀ (j : Nat) x, xs[j]? = some x → w.cell? ⟨bk, o + j, none⟩ = some (.string x) := by
  obtain ⟨ad, e, hc⟩ := h.2.2 h0
  have hcell : ∀ (j : Nat) x, xs[j]? = some x → w.cell? (ad.add j) = some (.string x) := by
    intro j x hx
    obtain ⟨c, _, hK, h2⟩ := hc j x hx
    have hK' : c = [.string x] := hK
    subst hK'
    have := h2 0 _ rfl
    rwa [show (Kd.string).sz = 1 from rfl, Nat.mul_one, Nat.add_zero] at this
  have h1 := hcell 0 _ (List.getElem?_eq_getElem h0)
  obtain ⟨bk, o, sp⟩ := ad
  have hsp : sp = none := by
    cases sp with
    | none => rfl
    | some q =>
      exfalso
      simp only [Addr.add, if_true] at h1
      unfold World.cell? at h1
      split at h1 <;> simp at h1
  subst hsp
  refine ⟨bk, o, e, World.block_lt_of_cell? w _ h1, fun j x hx => ?_⟩
  have := hcell j x hx
  unfold Addr.add at this
  by_cases hj : j = 0
  · subst hj; simpa using this
  · rwa [if_neg hj] at this
theorem join_calls (bk o c : Nat) (l : List ByteArray) (w : World) (hbk : bk < w.heap.size) (hcells : ∀ (j : Nat) x, l[j]? = some x → w.cell? ⟨bk, o + j, none⟩ = some (.string x)) (h1 : l.length ≤ 1000000) (h2 : l.length ≤ c) (h3 : (Lib.join (l.map (·.data.toList)) [255]).length ≤ 1000000) :
    Calls Try.prog 50 #[.slice (some ⟨bk, o, none⟩) l.length c, .string ⟨#[255]⟩] w fun e w' => e = .returned (.string (restsKey l)) ∧ Below w.heap.size w w' :=
  Try.strings_Join bk o c l ⟨#[255]⟩ w hcells hbk (by omega) h2 (Nat.le_trans h3 (by omega))
theorem BuilderAt.mono {w : World} {B b gB mB : Nat} {ok ok' : Nat → Prop} {st : Bld} (h : BuilderAt w B b gB mB ok st) (ho : ∀ k, ok k → k < w.heap.size → ok' k) : BuilderAt w B b gB mB ok' st := by
  obtain ⟨v, h1, h2⟩ := h.graph
  exact ⟨h.blk, h.leG, h.leM, h.size, ⟨v, h1, Kd.R_mono (Kd.R_bound h2) (fun k hk => ho k hk.1 hk.2.2.1)⟩, h.map⟩
theorem BuilderAt.below {w w1 : World} {B b gB mB : Nat} {ok : Nat → Prop} {st : Bld} (h : BuilderAt w B b gB mB ok st) (hb : Below w.heap.size w w1) : BuilderAt w1 B b gB mB ok st := by
  obtain ⟨v, h1, h2⟩ := h.graph
  exact ⟨blk_below h.blk hb, h.leG, h.leM, Nat.le_trans h.size hb.size, ⟨v, blk_below h1 hb, Kd.R_below h2 hb⟩, h.map.move (hb.block _ h.map.lt)⟩
theorem cells_ne_map {w : World} {k t m : Nat} {cs : Array Value} {es : Array MapEntry} {clock : Nat} (h : w.heap[k]? = some (.cells cs t (0, 0))) (h' : w.heap[m]? = some (.map es clock)) : k ≠ m := by
  rintro rfl
  rw [h] at h'
  cases h'
theorem NodeKept.setCell (B mB : Nat) (w : World) {a : Addr} {t : Nat} (ht : Typed w a.block t) (hp : B ≤ a.block ∧ (t = 66 ∨ t = 72)) (v : Value) : NodeKept B mB w (w.setCell a v) :=
  ⟨rfl, rfl, rfl, by simp [World.setCell], fun k _ _ hn => Below.heap_setCell w a v k (fun e => by subst e; exact hn t ht hp)⟩
theorem isEnd_true {s : ByteArray} {tl : List ByteArray} (h : s.toList.isEmpty = true) : isEnd (s :: tl) = true := by
  have h1 : s.data.toList = [] := by rw [← Lib.toList_data]; simpa using h
  have : s = ⟨#[]⟩ := bytes_ext (by rw [h1])
  simp [isEnd, this]
theorem isEnd_false {s : ByteArray} {tl : List ByteArray} (h : s.toList.isEmpty = false) : isEnd (s :: tl) = false := by
  have : s ≠ ⟨#[]⟩ := by
    rintro rfl
    rw [Lib.toList_data] at h
    simp at h
  simp [isEnd, this]
theorem cut_rests (A : Option Addr) (c : Nat) (xs : List ByteArray) (m : Nat) (hm : m ≤ xs.length) (hc : xs.length ≤ c) :
    ∃ A' : Option Addr, (∀ W : World, (Instr.slice 22 (.slice A xs.length c) (some (.int .i64 m)) none none).run Try.prog W = .ok (.slice A' (xs.drop m).length (c - m)) W) ∧
      (∀ w : World, Kd.C Kd.string w A xs.length xs → Kd.C Kd.string w A' (xs.drop m).length (xs.drop m)) ∧ (xs.drop m).length ≤ c - m := by
  obtain ⟨i, hi, hz⟩ := Option.map_eq_some_iff.1 info9
  simp only [Prod.mk.injEq] at hz
  obtain ⟨A', h1, h2, h3⟩ := print_drop_of (P := Try.prog) Value.string (⟨#[]⟩ : ByteArray) 22 9 .i64 Try.underlying22 hi hz.2.1 A c xs (m : Int) (by omega) (by omega) hc
  rw [Int.toNat_natCast] at h1 h2 h3
  exact ⟨A', h1, fun w h => Kd.C_of_reads (h2 w (Kd.reads_of_C h)), h3⟩
theorem okp_of {w : World} {base gn : Nat} {v : Value} {es : List S91} {cls : Array Value} (h : Kd.R k91 91 w base (fun _ => True) v es) (hg : w.heap[gn]? = some (.cells cls 72 (0, 0))) : Kd.R k91 91 w base (fun k => base ≤ k ∧ k ≠ gn) v es :=
  Kd.R_mono (Kd.R_bound (Kd.R_types h hg (by decide))) (fun _ hk => ⟨hk.2.1, hk.1.2⟩)
theorem grp_at (p : ByteArray) (n : Nat) : ∀ (l : List ByteArray) (j : Nat), j < (grp p n l).length → ∃ x, l[j]? = some x ∧ Lib.hasPrefix x.data.toList p.data.toList = true ∧ (grp p n l)[j]? = some (cut x n)
  | [], j, h => by simp [grp] at h
  | s :: t, j, h => by
    unfold grp at h ⊢
    by_cases hp : Lib.hasPrefix s.data.toList p.data.toList = true
    · rw [if_pos hp] at h ⊢
      cases j with
      | zero => exact ⟨s, rfl, hp, rfl⟩
      | succ j => exact grp_at p n t j (by simpa using h)
    · rw [if_neg hp] at h
      simp at h
theorem grp_le (p : ByteArray) (n : Nat) : ∀ l : List ByteArray, (grp p n l).length ≤ l.length
  | [] => by simp [grp]
  | s :: t => by
    unfold grp
    split
    · have := grp_le p n t; simp; omega
    · simp
theorem grp_stop (p : ByteArray) (n : Nat) : ∀ (l : List ByteArray) (x : ByteArray), l[(grp p n l).length]? = some x → Lib.hasPrefix x.data.toList p.data.toList = false
  | [], x, h => by simp [grp] at h
  | s :: t, x, h => by
    unfold grp at h
    by_cases hp : Lib.hasPrefix s.data.toList p.data.toList = true
    · rw [if_pos hp, List.length_cons, List.getElem?_cons_succ] at h
      exact grp_stop p n t x h
    · rw [if_neg hp] at h
      simp only [List.length_nil, List.getElem?_cons_zero, Option.some.injEq] at h
      subst h
      simpa using hp
/-- What is there behind the map's own turn. -/
theorem BuilderAt.mapped {w w1 : World} {B b gB mB : Nat} {ok : Nat → Prop} {st : Bld} {v : Value} (h : BuilderAt w B b gB mB ok st) (h1 : w.heap[gB]? = some (.cells #[v] 66 (0, 0))) (h2 : Kd.R k72 72 w B ok v st.ns) (hg : w.grownBy w1 (some mB)) :
    w1.heap[b]? = some (.cells #[.pointer (some ⟨gB, 0, none⟩), .map (some mB)] 69 (0, 0)) ∧ w1.heap[gB]? = some (.cells #[v] 66 (0, 0)) ∧ Kd.R k72 72 w1 B ok v st.ns := by
  obtain ⟨es, clock, hM⟩ := h.map.is
  refine ⟨blk_grown h.blk hg (fun e => cells_ne_map h.blk hM (Option.some.inj e)), blk_grown h1 hg (fun e => cells_ne_map h1 hM (Option.some.inj e)), ?_⟩
  exact Kd.R_mono (Kd.R_grown (Kd.R_bound h2) hg (fun k hk e => by
    obtain ⟨_, _, _, q, _, cells, hc⟩ := hk
    exact cells_ne_map hc hM (Option.some.inj e))) (fun _ hk => hk.1)
/-- A row of edges that none of the nodes has is written. -/
theorem BuilderAt.edged {w w1 : World} {B b gB mB base : Nat} {ok ok1 : Nat → Prop} {st : Bld} {u : Value} {es : List S91} (h : BuilderAt w B b gB mB ok st) (hu : Kd.R k91 91 w base ok1 u es) (hg : w.grownBy w1 u.ownBlock) (hne : ∀ k, ok k → some k ≠ u.ownBlock) :
    BuilderAt w1 B b gB mB (fun k => ok k ∧ some k ≠ u.ownBlock ∧ k < w.heap.size) st := by
  obtain ⟨v, h1, h2⟩ := h.graph
  refine ⟨blk_grown h.blk hg (Kd.R_ne hu h.blk (by decide)), h.leG, h.leM, Nat.le_trans h.size hg.size, ⟨v, blk_grown h1 hg (Kd.R_ne hu h1 (by decide)), ?_⟩, ?_⟩
  · exact Kd.R_mono (Kd.R_grown (Kd.R_bound h2) hg (fun k hk => hne k hk.1)) (fun k hk => ⟨hk.1, hne k hk.1, hk.2.2.1⟩)
  · refine h.map.move (hg.block _ h.map.lt (fun e => ?_))
    obtain ⟨inner, hown⟩ := Kd.R_own hu
    obtain ⟨cells, hc⟩ := own_typed hown _ e.symm
    obtain ⟨es', clock, hM⟩ := h.map.is
    exact cells_ne_map hc hM rfl
theorem NodeKept.edged {w w1 w2 : World} {B mB : Nat} {ok1 : Nat → Prop} {u : Value} {es : List S91} (h : NodeKept B mB w w1) (hu : Kd.R k91 91 w1 w.heap.size ok1 u es) (hg : w1.grownBy w2 u.ownBlock) : NodeKept B mB w w2 :=
  ⟨hg.os.trans h.os, hg.tape.trans h.tape, hg.output.trans h.output, Nat.le_trans h.size hg.size, fun k hk hm ht => (hg.block k (Nat.lt_of_lt_of_le hk h.size) (fun e => by
    obtain ⟨inner, hown⟩ := Kd.R_own hu
    have := own_base hown k e.symm
    omega)).trans (h.block k hk hm ht)⟩
set_option maxHeartbeats 4000000 in
set_option maxRecDepth 100000 in
theorem node_calls (B b gB mB : Nat) : ∀ (f : Nat) (l : List ByteArray) (st st' : Bld) (r : Int) (A : Option Addr) (c : Nat) (ok : Nat → Prop) (w : World), node f l st = some (r, st') → BuilderAt w B b gB mB ok st → (∀ W, NodeKept B mB w W → Kd.C Kd.string W A l.length l) → l.length ≤ c →
    Calls Try.prog 34 #[.pointer (some ⟨b, 0, none⟩), .slice A l.length c] w fun e w' => e = .returned (.int .i64 r) ∧ BuilderAt w' B b gB mB (fun k => ok k ∨ w.heap.size ≤ k) st' ∧ NodeKept B mB w w' := by
  intro f
  induction f using Nat.strongRecOn with
  | _ f ih =>
    intro l st st' r A c ok w h hB hC hc
    have IH := Aside0.mk ih
    clear ih
    cases f with
    | zero => simp [node] at h
    | succ f =>
      simp only [node] at h
      by_cases hg : l ≠ [] ∧ (Lib.join (l.map (·.data.toList)) [255]).length ≤ 1000000 ∧ st.ns.length ≤ 1000000 ∧ l.length ≤ 1000000
      case neg => rw [if_neg hg] at h; cases h
      rw [if_pos hg] at h
      obtain ⟨hne, hjl, hnl, hll⟩ := hg
      have hpos : 0 < l.length := List.length_pos_iff.2 hne
      have HB := Aside0.mk hB
      have HC := Aside0.mk hC
      have HL := Aside0.mk (show l.length ≤ c ∧ (Lib.join (l.map (·.data.toList)) [255]).length ≤ 1000000 ∧ st.ns.length ≤ 1000000 ∧ l.length ≤ 1000000 from ⟨hc, hjl, hnl, hll⟩)
      obtain ⟨bk, o, eA, hbk, hcell⟩ := row_flat (hC w (NodeKept.refl _ _ _)) hpos
      subst eA
      have HJ := Aside0.mk (show bk < w.heap.size ∧ ∀ (j : Nat) x, l[j]? = some x → w.cell? ⟨bk, o + j, none⟩ = some (.string x) from ⟨hbk, hcell⟩)
      clear hB hC hc hjl hnl hll hne hbk hcell
      have hks : (restsKey l).size ≤ maxLen := by have h1 := HL.out.2.1; unfold maxLen; show (Lib.join _ _).toArray.size ≤ _; simp only [List.size_toArray]; omega
      cases hF : st.F (restsKey l) with
      | some n =>
        rw [hF] at h
        obtain ⟨rfl, rfl⟩ := Prod.mk.inj (Option.some.inj h)
        have HF := Aside0.mk hF
        clear h hF
        have hb0 : w.cell? ⟨b, 0, none⟩ = some (.pointer (some ⟨gB, 0, none⟩)) := blk_cell HB.out.blk 0
        have hb1 : w.cell? ⟨b, 1, none⟩ = some (.map (some mB)) := blk_cell HB.out.blk 1
        go_enter Try.func34, Try.ntmps34
        go_wp2_with (first | ((with_reducible refine gate_callee (f := 50) rfl ?_); (try (refine gate_guard (by rfl) ?_; dsimp only)); refine goesL_ (some 16) rfl rfl Try.func50 (by kernel_rfl) rfl #[.slice (some ⟨bk, o, none⟩) l.length c, .string ⟨#[255]⟩] rfl (by (try simp only [List.map_toArray, List.map_cons, List.map_nil]); first | done | rfl) ?_; (with_reducible refine (join_calls bk o c l w HJ.out.1 HJ.out.2 HL.out.2.2.2 HL.out.1 HL.out.2.1).mono ?_); rintro e w1 ⟨rfl, hb⟩; refine ⟨_, rfl, ?_⟩; have hb0' := pw_cell_below hb hb0; have hb1' := pw_cell_below hb hb1; have HB1 := Aside0.mk hb; clear hb hb0 hb1) | (at_lookup; refine (HB.out.map.move (HB1.out.block _ HB.out.map.lt)).look rfl _ _ rfl (restsKey l) hks rfl rfl ?_; intro ci hci; rw [HF.out]; obtain rfl := hci n HF.out; clear hci))
        go_ret
        exact ⟨rfl, (HB.out.below HB1.out).mono (fun _ hk _ => .inl hk), NodeKept.of_below HB1.out⟩
      | none =>
        rw [hF] at h
        obtain ⟨y, hy, h⟩ := Option.bind_eq_some_iff.1 h
        by_cases hlt : st.ns.length < y.2.ns.length
        case neg => rw [if_neg hlt] at h; cases h
        rw [if_pos hlt] at h
        obtain ⟨rfl, rfl⟩ := Prod.mk.inj (Option.some.inj h)
        have HF := Aside0.mk hF
        have HY := Aside0.mk hy
        have HLT := Aside0.mk hlt
        clear h hF hy hlt
        have hb0 : w.cell? ⟨b, 0, none⟩ = some (.pointer (some ⟨gB, 0, none⟩)) := blk_cell HB.out.blk 0
        have hb1 : w.cell? ⟨b, 1, none⟩ = some (.map (some mB)) := blk_cell HB.out.blk 1
        obtain ⟨vn, hg0, hr0⟩ := HB.out.graph
        obtain ⟨An, cn, en⟩ := Kd.R_slice hr0
        subst en
        have hg1 := block_cell hg0
        have hnl := HL.out.2.2.1
        have HG0 := Aside0.mk hg0
        have HR0 := Aside0.mk hr0
        clear hg0 hr0
        go_enter Try.func34, Try.ntmps34
        go_upto_region 7 with (first | ((with_reducible refine gate_callee (f := 50) rfl ?_); (try (refine gate_guard (by rfl) ?_; dsimp only)); refine goesL_ (some 16) rfl rfl Try.func50 (by kernel_rfl) rfl #[.slice (some ⟨bk, o, none⟩) l.length c, .string ⟨#[255]⟩] rfl (by (try simp only [List.map_toArray, List.map_cons, List.map_nil]); first | done | rfl) ?_; (with_reducible refine (join_calls bk o c l w HJ.out.1 HJ.out.2 HL.out.2.2.2 HL.out.1 HL.out.2.1).mono ?_); rintro e w1 ⟨rfl, hb⟩; refine ⟨_, rfl, ?_⟩; have hb0' := pw_cell_below hb hb0; have hb1' := pw_cell_below hb hb1; have hg1' := pw_cell_below hb hg1; have HB1 := Aside0.mk (HB.out.below hb); have HK1 := Aside0.mk (NodeKept.of_below (B := B) (mB := mB) hb); have HG1 := Aside0.mk (blk_below HG0.out hb); have HR1 := Aside0.mk (Kd.R_below HR0.out hb); clear hb hb0 hb1 hg1) | (at_lookup; refine HB1.out.map.look rfl _ _ rfl (restsKey l) hks rfl rfl ?_; intro ci hci; rw [HF.out]; clear hci) | (at_mapUpdate; refine HB1.out.map.put (by unfold maxLen; omega) rfl rfl _ _ _ rfl (restsKey l) hks (st.ns.length : Int) (WalkArith.wf_i64 (by omega)) rfl rfl rfl ?_; intro w2 hm2 hgr2; have HM2 := Aside0.mk hm2; have HG2 := Aside0.mk hgr2; clear hm2 hgr2 hb0' hb1' hg1'))
        obtain ⟨h2b, h2g, h2r⟩ := HB1.out.mapped HG1.out HR1.out HG2.out
        have hb2c : w2.cell? ⟨b, 0, none⟩ = some (.pointer (some ⟨gB, 0, none⟩)) := blk_cell h2b 0
        have hg2c := block_cell h2g
        have H2b := Aside0.mk h2b
        have H2g := Aside0.mk h2g
        have H2r := Aside0.mk h2r
        have HK2 := Aside0.mk (HK1.out.trans (NodeKept.of_grown (B := B) (mB := mB) HG2.out (fun k hk => .inl (Option.some.inj hk).symm)))
        clear h2b h2g h2r HB1 HG1 HR1 HK1
        go_cut [8] (fun v8 W => v8 = .int .i64 st.ns.length ∧ Aside0 (BuilderAt W B b gB mB (fun k => ok k ∨ w.heap.size ≤ k) (st.open_ (restsKey l))) ∧ Aside0 (NodeKept B mB w W))
        case first =>
          refine start_ (n := 17) (S := fun w' => w'.cell? ⟨b, 0, none⟩ = some (.pointer (some ⟨gB, 0, none⟩)) ∧ w'.cell? ⟨gB, 0, none⟩ = some (.slice An st.ns.length cn)) (ds := [16]) #[false, false, false, false, false, false, false, false, false, false, false, false, false, false, false, false, false] (by kernel_rfl) rfl rfl ⟨hb2c, hg2c⟩ (fun hHeld => ?_)
          have D1 := Aside0.mk (blk_drew H2b.out)
          have D2 := Aside0.mk (blk_drew H2g.out)
          have D3 := Aside0.mk (Kd.R_mono (ok' := fun k => ok k ∨ w.heap.size ≤ k) (Kd.R_drew H2r.out) (fun _ hk => .inl hk))
          have D4 := Aside0.mk (HM2.out.move (w' := w2.drew) rfl)
          have D5 := Aside0.mk (HK2.out.trans (NodeKept.of_below ((Below.refl _ _).drew)))
          clear H2b H2g H2r HM2 HK2 HG2 hb2c hg2c
          generalize w2.drew = w3 at D1 D2 D3 D4 D5 hHeld ⊢
          refine pure_ (i := 0) (N := (some 42)) (v := ?_) (a' := ?_) #[true, false, false, false, false, false, false, false, false, false, false, false, false, false, false, false, false] rfl rfl (by kernel_rfl) (fun _ _ _ h => h) (Or.inl ⟨by rfl, ?_⟩) ?_ ?_
          rotate_left
          · intro w'
            go_simp
            with_reducible rfl
          rotate_left
          · simp only [Act.put, List.setIfInBounds_toArray, List.set_cons_zero, List.set_cons_succ, i64_w, i32_w]
            rfl
          refine pure_ (i := 1) (N := (some 43)) (v := ?_) (a' := ?_) #[true, true, false, false, false, false, false, false, false, false, false, false, false, false, false, false, false] rfl rfl (by kernel_rfl) (fun _ _ _ h => h) (Or.inl ⟨by rfl, ?_⟩) ?_ ?_
          rotate_left
          · intro w'
            go_simp
            with_reducible rfl
          rotate_left
          · simp only [Act.put, List.setIfInBounds_toArray, List.set_cons_zero, List.set_cons_succ, i64_w, i32_w]
            rfl
          refine pure_ (i := 2) (N := (some 44)) (v := ?_) (a' := ?_) #[true, true, true, false, false, false, false, false, false, false, false, false, false, false, false, false, false] rfl rfl (by kernel_rfl) (fun _ _ _ h => h) (Or.inl ⟨by rfl, ?_⟩) ?_ ?_
          rotate_left
          · intro w'
            go_simp
            with_reducible rfl
          rotate_left
          · simp only [Act.put, List.setIfInBounds_toArray, List.set_cons_zero, List.set_cons_succ, i64_w, i32_w]
            rfl
          refine pure_ (i := 4) (N := (some 46)) (v := ?_) (a' := ?_) #[true, true, true, false, true, false, false, false, false, false, false, false, false, false, false, false, false] rfl rfl (by kernel_rfl) (fun _ _ _ h => h) (Or.inl ⟨by rfl, ?_⟩) ?_ ?_
          rotate_left
          · intro w'
            go_simp
            with_reducible rfl
          rotate_left
          · simp only [Act.put, List.setIfInBounds_toArray, List.set_cons_zero, List.set_cons_succ, i64_w, i32_w]
            rfl
          refine pure_ (i := 5) (N := (some 47)) (v := ?_) (a' := ?_) #[true, true, true, false, true, true, false, false, false, false, false, false, false, false, false, false, false] rfl rfl (by kernel_rfl) (fun _ _ _ h => h) (Or.inl ⟨by rfl, ?_⟩) ?_ ?_
          rotate_left
          · intro w'
            go_simp
            with_reducible rfl
          rotate_left
          · simp only [Act.put, List.setIfInBounds_toArray, List.set_cons_zero, List.set_cons_succ, i64_w, i32_w]
            rfl
          refine pure_ (i := 6) (N := (some 48)) (v := ?_) (a' := ?_) #[true, true, true, false, true, true, true, false, false, false, false, false, false, false, false, false, false] rfl rfl (by kernel_rfl) (fun _ _ _ h => h) (Or.inl ⟨by rfl, ?_⟩) ?_ ?_
          rotate_left
          · intro w'
            go_simp
            with_reducible rfl
          rotate_left
          · simp only [Act.put, List.setIfInBounds_toArray, List.set_cons_zero, List.set_cons_succ, i64_w, i32_w]
            rfl
          refine pure_ (i := 11) (N := (some 53)) (v := ?_) (a' := ?_) #[true, true, true, false, true, true, true, false, false, false, false, true, false, false, false, false, false] rfl rfl (by kernel_rfl) (fun _ _ _ h => h) (Or.inl ⟨by rfl, ?_⟩) ?_ ?_
          rotate_left
          · intro w'
            go_simp
            with_reducible rfl
          rotate_left
          · simp only [Act.put, List.setIfInBounds_toArray, List.set_cons_zero, List.set_cons_succ, i64_w, i32_w]
            rfl
          refine take_ (i := 3) (N := (some 45)) (v := ?_) (a' := ?_) #[true, true, true, true, true, true, true, false, false, false, false, true, false, false, false, false, false] rfl rfl (by kernel_rfl) (fun _ _ _ h => h) (Or.inl ⟨by rfl, ?_⟩) hHeld ?_ ?_
          rotate_left
          · rintro w' ⟨s0, s1⟩
            go_simp
            with_reducible rfl
          rotate_left
          · simp only [Act.put, List.setIfInBounds_toArray, List.set_cons_zero, List.set_cons_succ, i64_w, i32_w]
            rfl
          refine take_ (i := 7) (N := (some 49)) (v := ?_) (a' := ?_) #[true, true, true, true, true, true, true, true, false, false, false, true, false, false, false, false, false] rfl rfl (by kernel_rfl) (fun _ _ _ h => h) (Or.inl ⟨by rfl, ?_⟩) hHeld ?_ ?_
          rotate_left
          · rintro w' ⟨s0, s1⟩
            go_simp
            with_reducible rfl
          rotate_left
          · simp only [Act.put, List.setIfInBounds_toArray, List.set_cons_zero, List.set_cons_succ, i64_w, i32_w]
            rfl
          refine pure_ (i := 8) (N := (some 50)) (v := ?_) (a' := ?_) #[true, true, true, true, true, true, true, true, true, false, false, true, false, false, false, false, false] rfl rfl (by kernel_rfl) (fun _ _ _ h => h) (Or.inl ⟨by rfl, ?_⟩) ?_ ?_
          rotate_left
          · intro w'
            go_simp
            with_reducible rfl
          rotate_left
          · simp only [Act.put, List.setIfInBounds_toArray, List.set_cons_zero, List.set_cons_succ, i64_w, i32_w]
            rfl
          refine pure_ (i := 9) (N := (some 51)) (v := ?_) (a' := ?_) #[true, true, true, true, true, true, true, true, true, true, false, true, false, false, false, false, false] rfl rfl (by kernel_rfl) (fun _ _ _ h => h) (Or.inl ⟨by rfl, ?_⟩) ?_ ?_
          rotate_left
          · intro w'
            go_simp
            with_reducible rfl
          rotate_left
          · simp only [Act.put, List.setIfInBounds_toArray, List.set_cons_zero, List.set_cons_succ, i64_w, i32_w]
            rfl
          refine take_ (i := 10) (N := (some 52)) (v := ?_) (a' := ?_) #[true, true, true, true, true, true, true, true, true, true, true, true, false, false, false, false, false] rfl rfl (by kernel_rfl) (fun _ _ _ h => h) (Or.inl ⟨by rfl, ?_⟩) hHeld ?_ ?_
          rotate_left
          · rintro w' ⟨s0, s1⟩
            go_simp
            with_reducible rfl
          rotate_left
          · simp only [Act.put, List.setIfInBounds_toArray, List.set_cons_zero, List.set_cons_succ, i64_w, i32_w]
            rfl
          refine one_ (i := 12) (N := (some 54)) #[true, true, true, true, true, true, true, true, true, true, true, true, true, false, false, false, false] rfl rfl (by kernel_rfl) (by decide) (fun K hK => ?_)
          refine value_ (v := .slice (some ⟨w3.heap.size, 0, none⟩) 1 1) (w1 := w3.alloc (.cells #[.bool false, .slice none 0 0] 72)) (by rfl) rfl ?hr ?_
          (case hr => first | (go_simp; done) | (go_simp; rfl))
          refine hK.out _ _ ⟨blk_cell (blk_alloc D1.out _) 0, blk_cell (blk_alloc D2.out _) 0⟩ (fun hHeld => ?_)
          clear hK K
          refine norm_ (a' := ?_) ?_ ?_
          rotate_left
          · show Act.put _ (some 54) _ = _
            simp only [Act.put, List.setIfInBounds_toArray, List.set_cons_zero, List.set_cons_succ, i64_w, i32_w]
            rfl
          refine one_ (i := 13) (N := (some 55)) #[true, true, true, true, true, true, true, true, true, true, true, true, true, true, false, false, false] rfl rfl (by kernel_rfl) (by decide) (fun K hK => ?_)
          refine Kd.R_append_step k72 (w0 := w3) B (by rfl) (.tmp 52) (.tmp 54) 64 72 (.agg #[.bool false, .slice none 0 0]) 32 rfl Try.underlying64 info72 rfl (by decide) (by omega) (.slice An st.ns.length cn) st.ns z72 [.bool false, .slice none 0 0] (fun k => ok k ∨ w.heap.size ≤ k) (fun _ => False) rfl rfl ?aP (fun _ hk => hk.elim) (fun k hk => .inr (Nat.le_trans D5.out.size hk)) D3.out (Below.refl _ _) ?aS (by omega) ?_
          (case aP => exact k72_mkM _ _ _ z72 (Kd.R_nil _ _ _ _ _))
          (case aS => exact Nat.le_trans HB.out.size D5.out.size)
          intro v1 w5 ho hb hg hat
          obtain ⟨A5, c5, e5⟩ := Kd.R_slice ho
          subst e5
          rw [List.length_append, List.length_singleton] at ho
          have E1 := Aside0.mk (blk_grown D1.out hg (Kd.R_ne D3.out D1.out (by decide)))
          have E2 := Aside0.mk (blk_grown D2.out hg (Kd.R_ne D3.out D2.out (by decide)))
          have E3 := Aside0.mk ho
          have E4 := Aside0.mk (D4.out.move (hg.block _ D4.out.lt (fun e => by obtain ⟨inner, hown⟩ := Kd.R_own D3.out; obtain ⟨cells, hcl⟩ := own_typed hown _ e.symm; obtain ⟨es, clock, hM⟩ := D4.out.is; exact cells_ne_map hcl hM rfl)))
          have E5 := Aside0.mk (D5.out.trans (NodeKept.of_grown hg (fun k hk => by obtain ⟨inner, hown⟩ := Kd.R_own D3.out; exact .inr ⟨72, own_typed hown k hk, own_base hown k hk, .inr rfl⟩)))
          clear ho hb hg hat D1 D2 D3 D4 D5
          refine hK.out _ _ ⟨blk_cell E1.out 0, blk_cell E2.out 0⟩ (fun hHeld => ?_)
          clear hK K
          refine norm_ (a' := ?_) ?_ ?_
          rotate_left
          · show Act.put _ (some 55) _ = _
            simp only [Act.put, List.setIfInBounds_toArray, List.set_cons_zero, List.set_cons_succ, i64_w, i32_w]
            rfl
          refine pure_ (i := 14) (N := (some 56)) (v := ?_) (a' := ?_) #[true, true, true, true, true, true, true, true, true, true, true, true, true, true, true, false, false] rfl rfl (by kernel_rfl) (fun _ _ _ h => h) (Or.inl ⟨by rfl, ?_⟩) ?_ ?_
          rotate_left
          · intro w'
            go_simp
            with_reducible rfl
          rotate_left
          · simp only [Act.put, List.setIfInBounds_toArray, List.set_cons_zero, List.set_cons_succ, i64_w, i32_w]
            rfl
          refine pure_ (i := 15) (N := (some 57)) (v := ?_) (a' := ?_) #[true, true, true, true, true, true, true, true, true, true, true, true, true, true, true, true, false] rfl rfl (by kernel_rfl) (fun _ _ _ h => h) (Or.inl ⟨by rfl, ?_⟩) ?_ ?_
          rotate_left
          · intro w'
            go_simp
            with_reducible rfl
          rotate_left
          · simp only [Act.put, List.setIfInBounds_toArray, List.set_cons_zero, List.set_cons_succ, i64_w, i32_w]
            rfl
          refine last_ (i := 16) (N := none) #[true, true, true, true, true, true, true, true, true, true, true, true, true, true, true, true, true] rfl rfl (by kernel_rfl) (by decide) (fun K hK => ?_)
          have hc5 := block_cell E2.out
          have hf5 := blk_frozen E2.out 0
          refine skip_ (w1 := w5.setCell ⟨gB, 0, none⟩ (.slice A5 (st.ns.length + 1) c5)) (by rfl) rfl ?hr ?_
          (case hr => first | (go_simp; done) | (go_simp; rfl))
          refine hK.out _ _ ?_
          clear hK K hHeld hc5 hf5
          refine done_ (by kernel_rfl) ?_
          go_wp2_with fail
          go_meet
          exact ⟨rfl, ⟨⟨blk_far (p := ⟨gB, 0, none⟩) E1.out (blk_ne E1.out E2.out (by decide)) _, HB.out.leG, HB.out.leM, Nat.le_trans HB.out.size (Nat.le_trans E5.out.size (by simp [World.setCell])), ⟨_, blk_set E2.out 0 _, Kd.R_set E3.out E2.out (by decide) 0 _⟩, by
            have := E4.out.move (w' := w5.setCell ⟨gB, 0, none⟩ (.slice A5 (st.ns.length + 1) c5)) (Below.heap_setCell _ _ _ _ (fun e => by obtain ⟨es, clock, hM⟩ := E4.out.is; exact cells_ne_map E2.out (e ▸ hM) rfl))
            simpa [Bld.open_] using this⟩⟩, ⟨E5.out.trans (NodeKept.setCell B mB w5 (a := ⟨gB, 0, none⟩) ⟨_, E2.out⟩ ⟨HB.out.leG, .inl rfl⟩ _)⟩⟩
        case rest =>
          obtain ⟨rfl, HB2, HK2⟩ := hcut
          clear hks
          obtain ⟨s, tl, hl⟩ : ∃ s tl, l = s :: tl := by
            cases l with
            | nil => simp at hpos
            | cons s tl => exact ⟨s, tl, rfl⟩
          obtain ⟨bk', o', eA, _, hcell⟩ := row_flat (HC.out wc HK2.out) hpos
          obtain ⟨rfl, rfl⟩ : bk = bk' ∧ o = o' := by
            injection eA with eA
            injection eA with h1 h2
            exact ⟨h1, h2⟩
          clear eA
          have hs0 : wc.cell? ⟨bk, o, none⟩ = some (.string s) := by have := hcell 0 s (by rw [hl]; rfl); rwa [Nat.add_zero] at this
          clear hcell
          have HLs := Aside0.mk hl
          clear hl
          go_upto_if 67 with fail
          have HC2 := HC
          clear hs0
          go_cut [1, 9] (fun v1 v9 W => ∃ (A' : Option Addr) (c' : Nat), v1 = .slice A' (restsOf l).length c' ∧ v9 = .bool (isEnd l) ∧ W = wc ∧ Aside0 ((restsOf l).length ≤ c') ∧ Aside0 (∀ W, NodeKept B mB w W → Kd.C Kd.string W A' (restsOf l).length (restsOf l)))
          case first =>
            cases hse : s.toList.isEmpty with
            | true =>
              have he : isEnd l = true := by rw [HLs.out]; exact isEnd_true hse
              have hr : restsOf l = l.drop 1 := by unfold restsOf; rw [if_pos he]
              obtain ⟨A', h1, h2, h3⟩ := cut_rests (some ⟨bk, o, none⟩) c l 1 hpos HL.out.1
              replace h1 : ∀ W : World, (Instr.slice 22 (.slice (some ⟨bk, o, none⟩) l.length c) (some (.int .i64 1)) none none).run Try.prog W = .ok (.slice A' (l.drop 1).length (c - 1)) W := h1
              have HE := Aside0.mk he
              have HR := Aside0.mk hr
              clear he hr hse
              go_wp2_with fail
              go_meet
              exact ⟨A', c - 1, by rw [HR.out, List.length_drop], by rw [HE.out], rfl, ⟨by rw [HR.out]; exact h3⟩, ⟨fun W hk => by rw [HR.out]; exact h2 W (HC2.out W hk)⟩⟩
            | false =>
              have he : isEnd l = false := by rw [HLs.out]; exact isEnd_false hse
              have hr : restsOf l = l := by unfold restsOf; rw [if_neg (by rw [he]; simp)]
              have HE := Aside0.mk he
              have HR := Aside0.mk hr
              clear he hr hse
              go_wp2_with fail
              go_meet
              exact ⟨some ⟨bk, o, none⟩, c, by rw [HR.out], by rw [HE.out], rfl, ⟨by rw [HR.out]; exact HL.out.1⟩, ⟨fun W hk => by rw [HR.out]; exact HC2.out W hk⟩⟩
          case rest =>
            obtain ⟨A', c', rfl, rfl, rfl, HL', HC'⟩ := hcut
            have HBB := Aside0.mk HB.out.size
            clear HC2
            go_upto_block 0 with fail
            go_wp2_with fail
            go_loopg [1, 10] f (fun kq v1 v10 W => ∃ (l' : List ByteArray) (es : List S91) (st1 : Bld) (A1 : Option Addr) (c1 : Nat), v1 = .slice A1 l'.length c1 ∧ Aside0 (edges kq l' es st1 = some y) ∧ Aside0 (kq ≤ f) ∧ Aside0 (l'.length ≤ c1) ∧ Aside0 (∀ W', NodeKept B mB w W' → Kd.C Kd.string W' A1 l'.length l') ∧ Aside0 (Kd.R k91 91 W w.heap.size (fun _ => True) v10 es) ∧ Aside0 (BuilderAt W B b gB mB (fun k => (ok k ∨ w.heap.size ≤ k) ∧ some k ≠ v10.ownBlock) st1) ∧ Aside0 (NodeKept B mB w W))
            case atStart => exact ⟨restsOf l, [], _, _, _, rfl, HY, ⟨Nat.le_refl _⟩, HL', HC', ⟨Kd.R_nil _ _ _ _ _⟩, ⟨HB2.out.mono (fun k hk _ => ⟨hk, by simp [Value.ownBlock]⟩)⟩, HK2⟩
            case round =>
              clear HY HL' HC' HB2 HK2
              obtain ⟨l1, es, st1, A1, c1, rfl, HE, HKF, HL1, HC1, HO, HB1, HK⟩ := hrel
              cases gk with
              | zero => exact absurd HE.out (by simp [edges])
              | succ ko =>
                have hE := HE.out
                clear HE
                cases l1 with
                | nil =>
                  simp only [edges] at hE
                  obtain rfl := Option.some.inj hE
                  clear hE
                  obtain ⟨v, hg, hr'⟩ := HB1.out.graph
                  have hr := Kd.R_mono (ok' := fun k => ok k ∨ w.heap.size ≤ k) hr' (fun _ hk => hk.1)
                  clear hr'
                  obtain ⟨gn, cn1, ev, hgb, _, cls, hgn⟩ := Kd.R_form hr (by have := HLT.out; dsimp only at this; omega)
                  subst ev
                  have HGB := Aside0.mk hgb
                  clear hgb
                  have hlt : ((st.ns.length : Int)) < (st1.ns.length : Int) := by have := HLT.out; dsimp only at this; omega
                  obtain ⟨ce, hcl, hM, hcc, hfr⟩ := Kd.R_elem hr z72 (st.ns.length : Int) (by omega) hlt
                  obtain ⟨vq, rfl, _⟩ := k72_openM hM
                  obtain ⟨A10, c10, e10⟩ := Kd.R_slice HO.out
                  subst e10
                  have HSG := Aside0.mk (Kd.R_seg hr (st.ns.length : Int) (by omega) hlt (seg := [.bool (isEnd l), .slice A10 es.length c10]) (j := 0) hcl hcc (show 2 ≤ 2 from by decide) (x' := (⟨isEnd l, es⟩ : S72)) (k72_mkM _ _ _ (⟨isEnd l, es⟩ : S72) (Kd.R_lower (Kd.R_mono (okp_of HO.out hgn) (fun _ hk => hk)) HBB.out)) (fun _ hk => ⟨.inr hk.1, hk.2⟩))
                  rw [Int.toNat_natCast] at hcc hfr HSG
                  have hx0 : wr.cell? ⟨gn, st.ns.length * 2, none⟩ = some _ := hcc 0 _ rfl
                  have hx1 : wr.cell? ⟨gn, st.ns.length * 2 + 1, none⟩ = some _ := hcc 1 _ rfl
                  have hf0 : wr.frozen? ⟨gn, st.ns.length * 2, none⟩ = false := hfr 0
                  have hf1 : wr.frozen? ⟨gn, st.ns.length * 2 + 1, none⟩ = false := hfr 1
                  have hb0 : wr.cell? ⟨b, 0, none⟩ = some (.pointer (some ⟨gB, 0, none⟩)) := blk_cell HB1.out.blk 0
                  have hg0 := block_cell hg
                  have HGG := Aside0.mk hg
                  have HGN := Aside0.mk hgn
                  clear hg hr hcl hcc hfr hM hgn
                  go_wp2_with fail
                  go_ret
                  have hsg := HSG.out
                  refine ⟨rfl, ⟨blk_grown HB1.out.blk hsg.2 (fun e => blk_ne HB1.out.blk HGN.out (by decide) (Option.some.inj e)), HB1.out.leG, HB1.out.leM, Nat.le_trans HB1.out.size hsg.2.size, ⟨_, blk_grown HGG.out hsg.2 (fun e => blk_ne HGG.out HGN.out (by decide) (Option.some.inj e)), hsg.1⟩, ?_⟩, HK.out.trans (NodeKept.of_grown hsg.2 (fun k hk => .inr ⟨72, (Option.some.inj hk) ▸ ⟨_, HGN.out⟩, (Option.some.inj hk) ▸ ?_, .inr rfl⟩))⟩
                  · have h3 := HB1.out.map.move (hsg.2.block _ HB1.out.map.lt (fun e => by obtain ⟨es', clock, hM⟩ := HB1.out.map.is; exact cells_ne_map HGN.out hM (Option.some.inj e).symm))
                    have e : (st1.shut st.ns.length ⟨isEnd l, es⟩).ns.length = st1.ns.length := by simp [Bld.shut]
                    rw [e]
                    exact h3
                  · exact HGB.out
                | cons s1 t1 =>
                  simp only [edges] at hE
                  by_cases hsz : s1.size ≤ 1000000 ∧ 0 < s1.size ∧ es.length ≤ 1000000 ∧ (s1 :: t1).length ≤ 1000000
                  case neg => rw [if_neg hsz] at hE; cases hE
                  rw [if_pos hsz] at hE
                  obtain ⟨⟨m, st2⟩, hN, hE2⟩ := Option.bind_eq_some_iff.1 hE
                  have HSZ := Aside0.mk hsz
                  have HDW := Aside0.mk (show 1 ≤ (Utf8.decode s1 0).2 ∧ (Utf8.decode s1 0).2 ≤ s1.size from ⟨decode_pos s1 0 hsz.2.1, by have := decode_le_size s1 0 hsz.2.1; omega⟩)
                  have HFI := Aside0.mk (show graph_first.f s1 = some (((Utf8.decode s1 0).1 : Int), ((Utf8.decode s1 0).2 : Int)) from by unfold graph_first.f; rw [if_pos (by omega), if_neg (by omega)])
                  have HNO := Aside0.mk hN
                  have HED := Aside0.mk hE2
                  clear hE hN hE2 hsz
                  dsimp only at HED
                  generalize (Utf8.decode s1 0).1 = rn at HFI HED
                  generalize hwd : (Utf8.decode s1 0).2 = wd at HDW HFI HNO HED
                  clear hwd
                  obtain ⟨bk1, o1, eA1, hbk1, hcell1⟩ := row_flat (HC1.out wr HK.out) (by simp)
                  subst eA1
                  have hs1 : wr.cell? ⟨bk1, o1, none⟩ = some (.string s1) := by have := hcell1 0 s1 rfl; rwa [Nat.add_zero] at this
                  have hlen1 : (s1 :: t1).length = t1.length + 1 := rfl
                  clear hcell1 hbk1
                  go_upto_region 14 with ((with_reducible refine gate_callee (f := 51) rfl ?_); (try (refine gate_guard (by rfl) ?_; dsimp only)); refine goesL_ (some 77) rfl rfl Try.func51 (by kernel_rfl) rfl #[.string s1] rfl (by (try simp only [List.map_toArray, List.map_cons, List.map_nil]); first | done | rfl) ?_; (with_reducible refine (graph_first.calls s1 (rn : Int) (wd : Int) _ HFI.out).mono ?_); rintro e w5 ⟨rfl, hb⟩; refine ⟨_, rfl, ?_⟩; have HB5 := Aside0.mk (HB1.out.below hb); have HK5 := Aside0.mk (NodeKept.of_below (B := B) (mB := mB) hb); have HO5 := Aside0.mk (Kd.R_below HO.out hb); clear hb)
                  have HC5 := HC1
                  clear hs1
                  obtain ⟨G, hG⟩ : ∃ G, G = grp (s1.extract 0 wd) wd (s1 :: t1) := ⟨_, rfl⟩
                  rw [← hG] at HNO HED
                  have HGG := Aside0.mk hG
                  have HGL := Aside0.mk (show G.length ≤ t1.length + 1 from by rw [hG]; exact grp_le _ _ _)
                  clear hG
                  have HLL := Aside0.mk (show t1.length + 1 ≤ 1000000 from HSZ.out.2.2.2)
                  have HTL := Aside0.mk (show t1.length + 1 ≤ 9223372036854775807 from (HC5.out w5 (HK.out.trans HK5.out)).2.1)
                  go_wp2_with fail
                  go_loopg [13, 14] G.length (fun kq v13 v14 W => ∃ j : Nat, v13 = .int .i64 j ∧ Aside0 (j + kq = G.length) ∧ Aside0 (Kd.R Kd.string 9 W w5.heap.size (fun _ => True) v14 (G.take j)) ∧ Aside0 (Below w5.heap.size w5 W))
                  case atStart => exact ⟨0, rfl, ⟨by omega⟩, ⟨by rw [List.take_zero]; exact Kd.R_nil _ _ _ _ _⟩, ⟨Below.refl _ _⟩⟩
                  case round =>
                    obtain ⟨j, rfl, HJK, HR6, HB6⟩ := hrel
                    have HK6 := Aside0.mk (NodeKept.of_below (B := B) (mB := mB) HB6.out)
                    obtain ⟨bk2, o2, eA2, _, hcell2⟩ := row_flat (HC5.out wr (HK.out.trans (HK5.out.trans HK6.out))) (by simp)
                    obtain ⟨rfl, rfl⟩ : bk1 = bk2 ∧ o1 = o2 := by
                      injection eA2 with eA2
                      injection eA2 with h1 h2
                      exact ⟨h1, h2⟩
                    clear eA2
                    have hs1 : wr.cell? ⟨bk1, o1, none⟩ = some (.string s1) := by have := hcell2 0 s1 rfl; rwa [Nat.add_zero] at this
                    have hw1 := HDW.out.1
                    have hw2 := HDW.out.2
                    have hmx : s1.size ≤ 1000000 := HSZ.out.1
                    have htl := HTL.out
                    cases gk with
                    | succ q =>
                      obtain ⟨x, hx1, hx2, hx3⟩ := grp_at (s1.extract 0 wd) wd (s1 :: t1) j (by rw [← HGG.out]; have := HJK.out; omega)
                      have hxc := hcell2 j x hx1
                      have HX := Aside0.mk (show Lib.hasPrefix x.data.toList (s1.extract 0 wd).data.toList = true ∧ G[j]? = some (cut x wd) from ⟨hx2, by rw [HGG.out]; exact hx3⟩)
                      clear hcell2 hx1 hx2 hx3
                      have hjl : j < t1.length + 1 := by have := HJK.out; have := HGL.out; omega
                      have hji : decide ((j : Int) < (t1.length : Int) + 1) = true := decide_eq_true (by omega)
                      have hq : ∀ W : World, Calls Try.prog 52 #[.string x, .string (s1.extract 0 wd)] W fun e w' => e = .returned (.bool true) ∧ w' = W := fun W => (Try.strings_HasPrefix x (s1.extract 0 wd) W).mono fun e w' ⟨h1, h2⟩ => ⟨by rw [h1, HX.out.1], h2⟩
                      have HQ := Aside0.mk hq
                      clear hq
                      have hxs : wd ≤ x.size := by
                        have h1 := (List.isPrefixOf_iff_prefix.1 HX.out.1).length_le
                        rw [head_data, List.length_take, ← size_list, ← size_list] at h1
                        omega
                      have hjg : j < G.length := by have := HJK.out; omega
                      have HGT := Aside0.mk (show G.take j ++ [cut x wd] = G.take (j + 1) from by rw [List.take_add_one, HX.out.2]; rfl)
                      have hgj : (G.take j).length = j := by rw [List.length_take]; omega
                      have HGJ := Aside0.mk hgj
                      have hgl : j ≤ 100000000 := by have := HGL.out; have := HLL.out; omega
                      clear hgj
                      go_upto_region 16 with fail
                      go_quiet ((go_at_call 52; exact Calls.quiet_of_same (HQ.out _)))
                      go_wp2_with ((with_reducible refine gate_builtin (b := .append) (xs := #[.tmp 96, .tmp 103]) rfl ?_); at_builtin; refine Kd.R_append Kd.string (w0 := wr.drewN nq) w5.heap.size rfl (.tmp 96) (.tmp 103) 22 9 (.string ⟨#[]⟩) 16 rfl Try.underlying22 info9 rfl (by decide) (by omega) u14 (G.take j) (cut x wd) [.string (cut x wd)] (fun _ => True) (fun _ => False) rfl rfl ?aP (fun _ hk => hk.elim) (fun _ _ => trivial) (Kd.R_drewN HR6.out _) (Below.refl _ _) HB6.out.size (by rw [HGJ.out]; omega) ?_; (case aP => exact rfl); intro v8 w8 ho hb hg hat; rw [HGT.out] at ho; have HR8 := Aside0.mk ho; have HB8 := Aside0.mk ((pw_below_drewN HB6.out nq).grown hg HB6.out.size (fun kk hk => by obtain ⟨inner, hown⟩ := Kd.R_own HR6.out; exact own_base hown kk hk)); clear ho hb hg hat)
                      go_roundg q
                      case measure => omega
                      case rel => exact ⟨j + 1, by go_num, ⟨by have := HJK.out; omega⟩, HR8, HB8⟩
                    | zero =>
                      have hj := HJK.out
                      obtain rfl : j = G.length := by omega
                      clear hj HJK
                      have hr6 := HR6.out
                      rw [List.take_length] at hr6
                      have HR6' := Aside0.mk hr6
                      clear hr6 HR6
                      go_upto_region 16 with fail
                      by_cases hjL : G.length < t1.length + 1
                      · obtain ⟨x, hx1⟩ : ∃ x, (s1 :: t1)[G.length]? = some x := ⟨_, List.getElem?_eq_getElem (by simpa using hjL)⟩
                        have hxc := hcell2 G.length x hx1
                        have HX := Aside0.mk (show Lib.hasPrefix x.data.toList (s1.extract 0 wd).data.toList = false from grp_stop _ wd (s1 :: t1) x (by rw [← HGG.out]; exact hx1))
                        clear hcell2 hx1
                        have hji : decide ((G.length : Int) < (t1.length : Int) + 1) = true := decide_eq_true (by omega)
                        have hq : ∀ W : World, Calls Try.prog 52 #[.string x, .string (s1.extract 0 wd)] W fun e w' => e = .returned (.bool false) ∧ w' = W := fun W => (Try.strings_HasPrefix x (s1.extract 0 wd) W).mono fun e w' ⟨h1, h2⟩ => ⟨by rw [h1, HX.out], h2⟩
                        have HQ := Aside0.mk hq
                        clear hq
                        go_quiet ((go_at_call 52; exact Calls.quiet_of_same (HQ.out _)))
                        clear HQ HX hji hxc
                        go_upto_region 19 with fail
                        have HR7 := Aside0.mk (Kd.R_drewN HR6'.out nq)
                        have HB7 := Aside0.mk (pw_below_drewN HB6.out nq)
                        clear HR6' HB6 HK6 hs1
                        generalize wr.drewN nq = w7 at HR7 HB7 ⊢
                        have HK7 := Aside0.mk (NodeKept.of_below (B := B) (mB := mB) HB7.out)
                        have HB8 := Aside0.mk (HB5.out.below HB7.out)
                        have HO7 := Aside0.mk (Kd.R_below HO5.out HB7.out)
                        obtain ⟨A', h1, h2, h3⟩ := cut_rests (some ⟨bk1, o1, none⟩) c1 (s1 :: t1) G.length (by have := HGL.out; simpa using this) HL1.out
                        replace h1 : ∀ W : World, (Instr.slice 22 (.slice (some ⟨bk1, o1, none⟩) (t1.length + 1) c1) (some (.int .i64 (G.length : Int))) none none).run Try.prog W = .ok (.slice A' ((s1 :: t1).drop G.length).length (c1 - G.length)) W := h1
                        have H2 := Aside0.mk h2
                        have H3 := Aside0.mk h3
                        clear h2 h3
                        obtain ⟨Ag, cg, eg⟩ := Kd.R_slice HR7.out
                        subst eg
                        have HU10 := Aside0.mk (show ∀ k, u10.ownBlock = some k → k < w7.heap.size from fun k hk => by obtain ⟨inner, hown⟩ := Kd.R_own HO7.out; exact own_lt hown k hk)
                        have HGC := Aside0.mk (show (∀ W', NodeKept B mB w7 W' → Kd.C Kd.string W' Ag G.length G) ∧ G.length ≤ cg from ⟨fun W' hk => (Kd.R_reads' (hk.row HB8.out.map.is HR7.out (by decide))).2.2, (Kd.R_reads' HR7.out).2.1⟩)
                        go_wp2_with (first | ((with_reducible refine gate_callee (f := 34) rfl ?_); (try (refine gate_guard (by rfl) ?_; dsimp only)); refine goesL_ (some 114) rfl rfl Try.func34 (by kernel_rfl) rfl #[.pointer (some ⟨b, 0, none⟩), .slice Ag G.length cg] rfl (by (try simp only [List.map_toArray, List.map_cons, List.map_nil]); first | done | rfl) ?_; (with_reducible refine (IH.out ko (by have := HKF.out; omega) G st1 st2 m Ag cg _ w7 HNO.out HB8.out HGC.out.1 HGC.out.2).mono ?_); rintro e w8 ⟨rfl, hb, hk⟩; refine ⟨_, rfl, ?_⟩; have HB9 := Aside0.mk hb; have HK9 := Aside0.mk hk; have HO9 := Aside0.mk (hk.row HB8.out.map.is HO7.out (by decide)); clear hb hk) | ((with_reducible refine gate_builtin (b := .append) (xs := #[.tmp 110, .tmp 116]) rfl ?_); at_builtin; refine Kd.R_append k91 (w0 := w8) w.heap.size rfl (.tmp 110) (.tmp 116) 70 91 (.agg #[(.int .i32 0), (.int .i64 0)]) 16 rfl Try.underlying70 info91 rfl (by decide) (by omega) u10 es (⟨(rn : Int), m⟩ : S91) [.int .i32 (rn : Int), .int .i64 m] (fun _ => True) (fun _ => False) rfl rfl ?bP (fun _ hk => hk.elim) (fun _ _ => trivial) HO9.out (Below.refl _ _) ?bS (by have := HSZ.out.2.2.1; omega) ?_; (case bP => exact k91_mkM _ _ _ (⟨(rn : Int), m⟩ : S91)); (case bS => exact Nat.le_trans HK.out.size (Nat.le_trans HK5.out.size (Nat.le_trans HK7.out.size HK9.out.size))); intro v9 w9 ho hb hg hat; have HO10 := Aside0.mk ho; have HG10 := Aside0.mk hg; have HAT := Aside0.mk hat; clear ho hb hg hat))
                        go_roundg ko
                        case measure => omega
                        case rel => exact ⟨(s1 :: t1).drop G.length, es ++ [(⟨(rn : Int), m⟩ : S91)], st2, A', c1 - G.length, by rw [List.length_drop]; rfl, HED, ⟨by have := HKF.out; omega⟩, H3, ⟨fun W' hk => H2.out W' (HC5.out W' hk)⟩, HO10, ⟨(HB9.out.edged HO9.out HG10.out (fun k hk => by
                          rcases hk with hk | hk
                          · exact hk.2
                          · intro e; have := HU10.out k e.symm; omega)).mono (fun k hk hlt => ⟨by
                            rcases hk.1 with hk' | hk'
                            · exact hk'.1
                            · exact .inr (Nat.le_trans HK.out.size (Nat.le_trans HK5.out.size (Nat.le_trans HK7.out.size hk'))), by
                            rcases HAT.out with e | ⟨bb, e, hle⟩
                            · rw [e]; exact hk.2.1
                            · rw [e]; intro e2; have := hk.2.2; injection e2 with e2; omega⟩)⟩, ⟨(HK.out.trans (HK5.out.trans (HK7.out.trans HK9.out))).edged HO9.out HG10.out⟩⟩
                      · clear hcell2
                        have hji : decide ((G.length : Int) < (t1.length : Int) + 1) = false := decide_eq_false (by omega)
                        go_quiet (fail)
                        clear hji
                        go_upto_region 19 with fail
                        have HR7 := Aside0.mk (Kd.R_drewN HR6'.out nq)
                        have HB7 := Aside0.mk (pw_below_drewN HB6.out nq)
                        clear HR6' HB6 HK6 hs1
                        generalize wr.drewN nq = w7 at HR7 HB7 ⊢
                        have HK7 := Aside0.mk (NodeKept.of_below (B := B) (mB := mB) HB7.out)
                        have HB8 := Aside0.mk (HB5.out.below HB7.out)
                        have HO7 := Aside0.mk (Kd.R_below HO5.out HB7.out)
                        obtain ⟨A', h1, h2, h3⟩ := cut_rests (some ⟨bk1, o1, none⟩) c1 (s1 :: t1) G.length (by have := HGL.out; simpa using this) HL1.out
                        replace h1 : ∀ W : World, (Instr.slice 22 (.slice (some ⟨bk1, o1, none⟩) (t1.length + 1) c1) (some (.int .i64 (G.length : Int))) none none).run Try.prog W = .ok (.slice A' ((s1 :: t1).drop G.length).length (c1 - G.length)) W := h1
                        have H2 := Aside0.mk h2
                        have H3 := Aside0.mk h3
                        clear h2 h3
                        obtain ⟨Ag, cg, eg⟩ := Kd.R_slice HR7.out
                        subst eg
                        have HU10 := Aside0.mk (show ∀ k, u10.ownBlock = some k → k < w7.heap.size from fun k hk => by obtain ⟨inner, hown⟩ := Kd.R_own HO7.out; exact own_lt hown k hk)
                        have HGC := Aside0.mk (show (∀ W', NodeKept B mB w7 W' → Kd.C Kd.string W' Ag G.length G) ∧ G.length ≤ cg from ⟨fun W' hk => (Kd.R_reads' (hk.row HB8.out.map.is HR7.out (by decide))).2.2, (Kd.R_reads' HR7.out).2.1⟩)
                        go_wp2_with (first | ((with_reducible refine gate_callee (f := 34) rfl ?_); (try (refine gate_guard (by rfl) ?_; dsimp only)); refine goesL_ (some 114) rfl rfl Try.func34 (by kernel_rfl) rfl #[.pointer (some ⟨b, 0, none⟩), .slice Ag G.length cg] rfl (by (try simp only [List.map_toArray, List.map_cons, List.map_nil]); first | done | rfl) ?_; (with_reducible refine (IH.out ko (by have := HKF.out; omega) G st1 st2 m Ag cg _ w7 HNO.out HB8.out HGC.out.1 HGC.out.2).mono ?_); rintro e w8 ⟨rfl, hb, hk⟩; refine ⟨_, rfl, ?_⟩; have HB9 := Aside0.mk hb; have HK9 := Aside0.mk hk; have HO9 := Aside0.mk (hk.row HB8.out.map.is HO7.out (by decide)); clear hb hk) | ((with_reducible refine gate_builtin (b := .append) (xs := #[.tmp 110, .tmp 116]) rfl ?_); at_builtin; refine Kd.R_append k91 (w0 := w8) w.heap.size rfl (.tmp 110) (.tmp 116) 70 91 (.agg #[(.int .i32 0), (.int .i64 0)]) 16 rfl Try.underlying70 info91 rfl (by decide) (by omega) u10 es (⟨(rn : Int), m⟩ : S91) [.int .i32 (rn : Int), .int .i64 m] (fun _ => True) (fun _ => False) rfl rfl ?bP (fun _ hk => hk.elim) (fun _ _ => trivial) HO9.out (Below.refl _ _) ?bS (by have := HSZ.out.2.2.1; omega) ?_; (case bP => exact k91_mkM _ _ _ (⟨(rn : Int), m⟩ : S91)); (case bS => exact Nat.le_trans HK.out.size (Nat.le_trans HK5.out.size (Nat.le_trans HK7.out.size HK9.out.size))); intro v9 w9 ho hb hg hat; have HO10 := Aside0.mk ho; have HG10 := Aside0.mk hg; have HAT := Aside0.mk hat; clear ho hb hg hat))
                        go_roundg ko
                        case measure => omega
                        case rel => exact ⟨(s1 :: t1).drop G.length, es ++ [(⟨(rn : Int), m⟩ : S91)], st2, A', c1 - G.length, by rw [List.length_drop]; rfl, HED, ⟨by have := HKF.out; omega⟩, H3, ⟨fun W' hk => H2.out W' (HC5.out W' hk)⟩, HO10, ⟨(HB9.out.edged HO9.out HG10.out (fun k hk => by
                          rcases hk with hk | hk
                          · exact hk.2
                          · intro e; have := HU10.out k e.symm; omega)).mono (fun k hk hlt => ⟨by
                            rcases hk.1 with hk' | hk'
                            · exact hk'.1
                            · exact .inr (Nat.le_trans HK.out.size (Nat.le_trans HK5.out.size (Nat.le_trans HK7.out.size hk'))), by
                            rcases HAT.out with e | ⟨bb, e, hle⟩
                            · rw [e]; exact hk.2.1
                            · rw [e]; intro e2; have := hk.2.2; injection e2 with e2; omega⟩)⟩, ⟨(HK.out.trans (HK5.out.trans (HK7.out.trans HK9.out))).edged HO9.out HG10.out⟩⟩
end Go.Proofs.Ytklidannncajiaa.OW
