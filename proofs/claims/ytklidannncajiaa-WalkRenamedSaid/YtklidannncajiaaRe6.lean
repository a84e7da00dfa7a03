/- What the row of the law WalkRenamed leans on: contracts of functions and plain laws, each for all inputs that its own theorem names. -/
import Derived.Test.YtklidannncajiaaRe0
import Derived.Test.YtklidannncajiaaRe5
import Derived.Test.YtklidannncajiaaRe2
import Derived.Outline
namespace Go.Proofs.Ytklidannncajiaa.OW
open Go.RowKit Go.Proofs.YtklidannncajiaaW.PrintWords Go.Proofs.YtklidannncajiaaW.PrintLast Go.Proofs.YtklidannncajiaaW.PrintMore

theorem enc_le (i : Int) : (Utf8.encode i).size ≤ 4 := by
  unfold Utf8.encode
  dsimp only
  repeat' split
  all_goals (show _ ≤ 4; simp [ByteArray.size])
/-- The edges of a place from the i-th on downwards: what they lead to is laid onto the stack (its top is last). -/
def walk_each.kids (k : Nat) (q : List Int) (d : Int) (st : List S121) (wd : ByteArray) (es : List S91) : Nat → List S96 → Option (List S96)
  | 0, xs => some xs
  | i + 1, xs => (auto_Step.f k q d st (rd_T91 es i).f0).bind fun s => if s.length = 0 then walk_each.kids k q d st wd es i xs else if xs.length < 1000000 ∧ wd.size < 1000000 then walk_each.kids k q d st wd es i (xs ++ [⟨(rd_T91 es i).f1, s, wd ++ Utf8.encode (rd_T91 es i).f0⟩]) else none
def walk_each.l0 {α : Type} (k : Nat) (q : List Int) (d : Int) (ns : List S72) (step : α → ByteArray → Option (α × Bool)) : Nat → List S96 → α → Option α
  | 0, _, _ => none
  | kq + 1, xs, a => if xs.length = 0 then some a else
    let p := rd_T96 xs (xs.length - 1)
    (auto_Dist.f k q d p.f1).bind fun t => (if t.2 = true ∧ t.1 = d ∧ (nodeAt ns p.f0).f0 = true then step a p.f2 else some (a, true)).bind fun y =>
      if y.2 = true then (graph_Edges.f ns p.f0).bind fun es => (walk_each.kids k q d p.f1 p.f2 es es.length (xs.take (xs.length - 1))).bind fun xs' => walk_each.l0 k q d ns step kq xs' y.1 else some y.1
def walk_each.f {α : Type} (k : Nat) (q : List Int) (d : Int) (ns : List S72) (step : α → ByteArray → Option (α × Bool)) (a : α) : Option α :=
  (auto_Start.f q d).bind fun s => walk_each.l0 k q d ns step k [⟨0, s, ⟨#[]⟩⟩] a
/-- What walk.each may write: what the closure may, and places of its own. -/
def EachMay (Pc : Nat → Nat → Prop) (B : Nat) (k t : Nat) : Prop := Pc k t ∨ (B ≤ k ∧ t = 96)
theorem KeptBy.to_own {Pc : Nat → Nat → Prop} {w w' : World} (h : KeptBy (EachMay Pc w.heap.size) w w') : KeptBy Pc w w' :=
  ⟨h.os, h.tape, h.output, h.size, fun k hk ht => h.block k hk (fun t h1 h2 => by
    rcases h2 with h2 | h2
    · exact ht t h1 h2
    · omega)⟩
/-- What holds while a place is gone through: its box (block bx), its state's row, the stack. -/
structure EachAt (Pc : Nat → Nat → Prop) (w0 : World) (bx : Nat) (pn : Int) (Ap : Option Addr) (cp : Nat) (ps : List S121) (pw : ByteArray) (v : Value) (xs : List S96) (W : World) : Prop where
  kept : KeptBy (EachMay Pc w0.heap.size) w0 W
  box : W.heap[bx]? = some (.cells #[.int .i64 pn, .slice Ap ps.length cp, .string pw] 96 (0, 0))
  state : k121.R 121 W w0.heap.size (fun _ => True) (.slice Ap ps.length cp) ps
  stack : k96.R 96 W w0.heap.size (fun k => k ≠ bx) v xs
namespace EachAt
variable {Pc : Nat → Nat → Prop} {w0 : World} {bx : Nat} {pn : Int} {Ap : Option Addr} {cp : Nat} {ps : List S121} {pw : ByteArray} {v : Value} {xs : List S96} {W W' : World}
theorem below (h : EachAt Pc w0 bx pn Ap cp ps pw v xs W) (hb : Below W.heap.size W W') : EachAt Pc w0 bx pn Ap cp ps pw v xs W' :=
  ⟨h.kept.trans (KeptBy.of_below hb), blk_below h.box hb, Kd.R_below h.state hb, Kd.R_below h.stack hb⟩
theorem closure (h : EachAt Pc w0 bx pn Ap cp ps pw v xs W) (hp : ∀ k t, Pc k t → t ≠ 96 ∧ t ≠ 121) (hk : KeptBy Pc W W') : EachAt Pc w0 bx pn Ap cp ps pw v xs W' :=
  ⟨h.kept.trans (hk.mono fun _ _ hp => .inl hp), (hk.typed ⟨_, h.box⟩ (fun hc => (hp _ _ hc).1 rfl)).trans h.box,
   hk.row h.state (fun k t ht _ hc => (hp k t hc).2 (by simpa [k121, Kd.iso, Kd.pair, Kd.int, Kd.scalar] using ht)),
   hk.row h.stack (fun k t ht _ hc => by
     have h1 := hp k t hc
     have : t = 96 ∨ t = 121 := by simpa [k96, k121, Kd.iso, Kd.pair, Kd.int, Kd.scalar, Kd.slice, Kd.string] using ht
     omega)⟩
theorem grown (h : EachAt Pc w0 bx pn Ap cp ps pw v xs W) {v1 : Value} {ys : List S96} (hg : W.grownBy W' v.ownBlock) (ho : k96.R 96 W' w0.heap.size (fun k => k ≠ bx) v1 ys) : EachAt Pc w0 bx pn Ap cp ps pw v1 ys W' := by
  obtain ⟨inner, hown⟩ := Kd.R_own h.stack
  refine ⟨h.kept.trans (KeptBy.of_grown hg (fun k hk => ⟨96, own_typed hown k hk, .inr ⟨own_base hown k hk, rfl⟩⟩)), blk_grown h.box hg (fun e => h.stack.1 bx e.symm rfl), ?_, ho⟩
  exact Kd.R_mono (Kd.R_over (d' := k96) h.state h.stack (by simp [k121, Kd.iso, Kd.pair, Kd.int, Kd.scalar]) hg) (fun _ hk => hk)
theorem cells (h : EachAt Pc w0 bx pn Ap cp ps pw v xs W) : W.cell? ⟨bx, 0, none⟩ = some (.int .i64 pn) ∧ W.cell? ⟨bx, 1, none⟩ = some (.slice Ap ps.length cp) ∧ W.cell? ⟨bx, 2, none⟩ = some (.string pw) :=
  ⟨blk_cell h.box 0, blk_cell h.box 1, blk_cell h.box 2⟩
theorem reads (h : EachAt Pc w0 bx pn Ap cp ps pw v xs W) : k121.C W Ap ps.length ps ∧ ps.length ≤ cp := ⟨(Kd.R_reads' h.state).2.2, (Kd.R_reads' h.state).2.1⟩
end EachAt
/-- What is left of a round behind the word. -/
def walk_each.next {α : Type} (k : Nat) (q : List Int) (d : Int) (ns : List S72) (step : α → ByteArray → Option (α × Bool)) (kq : Nat) (pn : Int) (ps : List S121) (pw : ByteArray) (xs : List S96) (y : α × Bool) : Option α :=
  if y.2 = true then (graph_Edges.f ns pn).bind fun es => (walk_each.kids k q d ps pw es es.length xs).bind fun xs' => walk_each.l0 k q d ns step kq xs' y.1 else some y.1
set_option maxHeartbeats 2000000 in
set_option maxRecDepth 100000 in
theorem walk_each.calls {α : Type} (k : Nat) (g : Nat) (ns : List S72) (gf : FuncId) (cap : Array Value) (Pc : Nat → Nat → Prop) (Inv : α → World → Prop) (step : α → ByteArray → Option (α × Bool)) (HY : YieldsBy gf cap Pc Inv step) (A0 : Option Addr) (c0 : Nat) (q : List Int) (d : Int) (a r : α) (w : World)
    (hG : ∀ W, KeptBy (EachMay Pc w.heap.size) w W → GraphAt W g ns ∧ Kd.C (Kd.int .i32) W A0 q.length q) (hc0 : q.length ≤ c0) (hI : Inv a w) (h : walk_each.f k q d ns step a = some r) :
    Calls Try.prog 36 #[.pointer (some ⟨g, 0, none⟩), .slice A0 q.length c0, .int .i64 d, .func (.func gf) #[] cap] w fun e w' => e = .returned (.tuple #[]) ∧ Inv r w' ∧ KeptBy Pc w w' := by
  have HG := Aside0.mk hG
  have HC0 := Aside0.mk hc0
  have HI := Aside0.mk hI
  clear hG hc0 hI
  obtain ⟨s0, hs0, h⟩ := Option.bind_eq_some_iff.1 h
  have AS := Aside0.mk hs0
  have H' := Aside0.mk h
  clear hs0 h
  have HQ := Aside0.mk ((HG.out w (KeptBy.refl _ w)).2)
  have HB := Aside0.mk (Below.refl w.heap.size w)
  go_enter Try.func36, Try.ntmps36
  go_wp2_with (first | ((with_reducible refine gate_callee (f := 54) rfl ?_); (try (refine gate_guard (by rfl) ?_; dsimp only)); refine goesL_ (some 18) rfl rfl Try.func54 (by kernel_rfl) rfl #[.slice A0 q.length c0, .int .i64 d] rfl (by (try simp only [List.map_toArray, List.map_cons, List.map_nil]); first | done | rfl) ?_; (with_reducible refine (auto_Start.calls A0 c0 q d s0 _ HQ.out HC0.out AS.out).mono ?_); rintro e w1 ⟨v, rfl, ho, hb⟩; refine ⟨_, rfl, ?_⟩; obtain ⟨As, cs, es⟩ := Kd.R_slice ho; subst es; have HO1 := Aside0.mk ho; have HB1 := Aside0.mk hb; clear ho hb) | ((with_reducible refine gate_dst (N := 20) rfl ?_); refine Kd.R_lit (w0 := w) k96 w.heap.size 96 ?hg (N := 20) ?hd (xs := ([⟨0, s0, ⟨#[]⟩⟩] : List S96)) (inner := [.int .i64 0, .slice As s0.length cs, .string ⟨#[]⟩]) (ok := fun _ => True) (okp := fun _ => True) ?hr ?hp (fun _ hk => hk) trivial HB1.out HB1.out.size (by simp) ?_; (case hd => rfl); (case hg => rfl); (case hr => first | (go_simp; done) | (go_simp; rfl)); (case hp => exact (Reps.c3 (show Kd.M k96 _ _ _ (⟨0, s0, ⟨#[]⟩⟩ : S96) [.int .i64 0, .slice As s0.length cs, .string ⟨#[]⟩] from (k96_mkM _ _ _ (⟨0, s0, ⟨#[]⟩⟩ : S96) HO1.out)) (Reps.none _ _))); intro v2 w2 ho2 hb2 hg2 _; have HO2 := Aside0.mk ho2; have HB2 := Aside0.mk hb2; clear ho2 hb2 hg2))
  have HI2 := Aside0.mk (HY.keep a w w2 HI.out (KeptBy.of_below HB2.out))
  have HK2 := Aside0.mk (KeptBy.of_below (P := EachMay Pc w.heap.size) HB2.out)
  clear HI HB HB1 HB2 HO1
  go_loopg [8] k (fun kq v8 W => ∃ (xs : List S96) (b : α), Aside0 (walk_each.l0 k q d ns step kq xs b = some r) ∧ Aside0 (Kd.R k96 96 W w.heap.size (fun _ => True) v8 xs) ∧ Aside0 (Inv b W) ∧ Aside0 (KeptBy (EachMay Pc w.heap.size) w W))
  case atStart => exact ⟨_, a, H', HO2, HI2, HK2⟩
  case round =>
    clear H' HO2 HI2 HK2
    obtain ⟨xs, b, HA, HO, HI, HK⟩ := hrel
    cases gk with
    | zero => exact absurd HA.out (by simp [walk_each.l0])
    | succ ko =>
      have H := HA.out
      clear HA
      simp only [walk_each.l0] at H
      by_cases c0x : xs.length = 0
      · rw [if_pos c0x] at H
        obtain rfl := Option.some.inj H
        obtain rfl := List.eq_nil_of_length_eq_zero c0x
        clear H
        obtain ⟨Ax, cx, ex⟩ := Kd.R_slice HO.out
        subst ex
        go_wp2
        first | go_end0 | ((try simp only [Exit.inBlock, Exit.then]); refine bodyPost_ret (results_none rfl _ _ _) rfl ?_)
        exact ⟨rfl, HI.out, HK.out.to_own⟩
      · rw [if_neg c0x] at H
        obtain ⟨n, hn⟩ : ∃ n, xs.length = n + 1 := ⟨xs.length - 1, by omega⟩
        obtain ⟨go, co, eo, gb, gl, cl, HGo⟩ := Kd.R_form HO.out (by omega)
        rw [hn] at eo
        subst eo
        have hmax : n + 1 ≤ 9223372036854775807 := by
          have h2 := (Kd.R_reads' HO.out).2.2.2.1
          omega
        clear c0x
        have HN := Aside0.mk hn
        have GB := Aside0.mk gb
        clear gb gl
        obtain ⟨ce, hcl, hM, hcc, hfr⟩ := Kd.R_elem HO.out z96 (n : Int) (by omega) (by omega)
        rw [Int.toNat_natCast] at hM hcc hfr
        rw [hn, Nat.add_sub_cancel, show (((n + 1 : Nat) : Int) - 1) = (n : Int) by omega] at H
        clear hn
        have hrd : xs.getD n z96 = rd_T96 xs n := by unfold rd_T96; rw [Int.toNat_natCast]
        rw [hrd] at hM
        clear hrd
        have HX := Aside0.mk (Kd.R_take (m := n) HO.out (by have := HN.out; omega))
        generalize rd_T96 xs n = p at H hM
        obtain ⟨pn, ps, pw⟩ := p
        dsimp only at H
        obtain ⟨vs, rfl, hs⟩ := k96_openM hM
        obtain ⟨Ap, cp, ep⟩ := Kd.R_slice hs
        subst ep
        have HS := Aside0.mk hs
        clear hM hs hcl
        have hx0 : wr.cell? ⟨go, n * 3, none⟩ = some (.int .i64 pn) := hcc 0 _ rfl
        have hx1 : wr.cell? ⟨go, n * 3 + 1, none⟩ = some (.slice Ap ps.length cp) := hcc 1 _ rfl
        have hx2 : wr.cell? ⟨go, n * 3 + 2, none⟩ = some (.string pw) := hcc 2 _ rfl
        clear hcc hfr
        have HP := Aside0.mk H
        clear H
        have hcap : n + 1 ≤ co := (Kd.R_reads' HO.out).2.1
        go_upto_region 4 with fail
        have hbx := heap_alloc_new wr (.cells #[.int .i64 pn, .slice Ap ps.length cp, .string pw] 96)
        have hlt : ∀ kk, some kk = (Value.slice (some ⟨go, 0, none⟩) n co).ownBlock → kk ≠ wr.heap.size := by
          intro kk hk
          have := blk_lt HGo
          have : kk = go := by simpa [Value.ownBlock] using hk
          omega
        have EA := Aside0.mk (show EachAt Pc w wr.heap.size pn Ap cp ps pw (.slice (some ⟨go, 0, none⟩) n co) (xs.take n) (wr.alloc (.cells #[.int .i64 pn, .slice Ap ps.length cp, .string pw] 96)) from
          ⟨HK.out.trans (KeptBy.of_below ((Below.refl _ _).alloc (Nat.le_refl _) _)), hbx, Kd.R_mono (Kd.R_alloc HS.out _) (fun _ _ => trivial), Kd.R_mono (Kd.R_alloc (Kd.R_bound HX.out) _) (fun kk hk => by have := hk.2.2.1; omega)⟩)
        have HI2 := Aside0.mk (HY.keep b wr (wr.alloc (.cells #[.int .i64 pn, .slice Ap ps.length cp, .string pw] 96)) HI.out (KeptBy.of_below ((Below.refl _ _).alloc (Nat.le_refl _) _)))
        clear hbx hlt hcap hmax hx0 hx1 hx2 HGo HS HX HO HI HK HN GB
        generalize wr.alloc (.cells #[.int .i64 pn, .slice Ap ps.length cp, .string pw] 96) = W3 at EA HI2 ⊢
        generalize wr.heap.size = bx at EA ⊢
        obtain ⟨⟨far, near⟩, hD, hN⟩ := Option.bind_eq_some_iff.1 HP.out
        have AD := Aside0.mk hD
        obtain ⟨y, hY1, hY2⟩ := Option.bind_eq_some_iff.1 hN
        have AY := Aside0.mk hY1
        have AN := Aside0.mk (show walk_each.next k q d ns step ko pn ps pw (xs.take n) y = some r from hY2)
        clear hD hN hY1 hY2 HP
        obtain ⟨hb0, hb1, hb2⟩ := EA.out.cells
        go_upto_region 5 with ((with_reducible refine gate_callee (f := 55) rfl ?_); (try (refine gate_guard (by rfl) ?_; dsimp only)); refine goesL_ (some 40) rfl rfl Try.func55 (by kernel_rfl) rfl #[.slice A0 q.length c0, .int .i64 d, .slice Ap ps.length cp] rfl (by (try simp only [List.map_toArray, List.map_cons, List.map_nil]); first | done | rfl) ?_; (with_reducible refine (auto_Dist.calls k A0 c0 q d Ap cp ps far near _ (HG.out _ EA.out.kept).2 HC0.out EA.out.reads.1 EA.out.reads.2 AD.out).mono ?_); rintro e w4 ⟨rfl, hb⟩; refine ⟨_, rfl, ?_⟩; have EA4 := Aside0.mk (EA.out.below hb); have HI4 := Aside0.mk (HY.keep b W3 w4 HI2.out (KeptBy.of_below hb)); clear hb hb0 hb1 hb2 EA HI2)
        clear AD
        go_cut [61] (fun v61 W => v61 = .bool (!y.2) ∧ Aside0 (EachAt Pc w bx pn Ap cp ps pw (.slice (some ⟨go, 0, none⟩) n co) (xs.take n) W) ∧ Aside0 (Inv y.1 W))
        case first =>
          obtain ⟨fn, hf1, hf2, hf3⟩ := HY.fn
          have HF1 := Aside0.mk hf1
          clear hf1
          cases near with
          | false =>
            obtain rfl : (b, true) = y := Option.some.inj ((if_neg (by simp)).symm.trans AY.out)
            go_wp2_with fail
            go_meet
            exact ⟨rfl, EA4, HI4⟩
          | true =>
            by_cases hfd : far = d
            · have hfb : (far == d) = true := by simpa using hfd
              have HFD := Aside0.mk hfd
              clear hfd
              have hb0 := EA4.out.cells.1
              cases hfin : (nodeAt ns pn).f0 with
              | false =>
                have HFI := Aside0.mk hfin
                clear hfin
                obtain rfl : (b, true) = y := Option.some.inj ((if_neg (by rw [HFI.out]; simp)).symm.trans AY.out)
                go_wp2_with ((with_reducible refine gate_callee (f := 56) rfl ?_); (try (refine gate_guard (by rfl) ?_; dsimp only)); refine goesL_ (some 53) rfl rfl Try.func56 (by kernel_rfl) rfl #[.pointer (some ⟨g, 0, none⟩), .int .i64 pn] rfl (by (try simp only [List.map_toArray, List.map_cons, List.map_nil]); first | done | rfl) ?_; (with_reducible refine (graph_Final.calls g ns pn _ (HG.out _ EA4.out.kept).1).mono ?_); rintro e w5 ⟨rfl, hb⟩; refine ⟨_, rfl, ?_⟩; rw [HFI.out]; have EA5 := Aside0.mk (EA4.out.below hb); have HI5 := Aside0.mk (HY.keep b w4 w5 HI4.out (KeptBy.of_below hb)); clear hb hb0 EA4 HI4)
                go_meet
                exact ⟨rfl, EA5, HI5⟩
              | true =>
                have HFI := Aside0.mk hfin
                clear hfin
                have AY2 := Aside0.mk ((if_pos (show true = true ∧ far = d ∧ (nodeAt ns pn).f0 = true from ⟨rfl, HFD.out, HFI.out⟩)).symm.trans AY.out)
                obtain ⟨ya, yg⟩ := y
                go_wp2_with (first | ((with_reducible refine gate_callee (f := 56) rfl ?_); (try (refine gate_guard (by rfl) ?_; dsimp only)); refine goesL_ (some 53) rfl rfl Try.func56 (by kernel_rfl) rfl #[.pointer (some ⟨g, 0, none⟩), .int .i64 pn] rfl (by (try simp only [List.map_toArray, List.map_cons, List.map_nil]); first | done | rfl) ?_; (with_reducible refine (graph_Final.calls g ns pn _ (HG.out _ EA4.out.kept).1).mono ?_); rintro e w5 ⟨rfl, hb⟩; refine ⟨_, rfl, ?_⟩; rw [HFI.out]; have EA5 := Aside0.mk (EA4.out.below hb); have HI5 := Aside0.mk (HY.keep b w4 w5 HI4.out (KeptBy.of_below hb)); clear hb hb0 EA4 HI4; have hb2 := EA5.out.cells.2.2) | ((with_reducible refine gate_value (t := 56) rfl ?_); (try (refine gate_guard (by rfl) ?_; dsimp only)); refine goesV_ (some 59) rfl rfl HF1.out hf2 hf3 (#[.string pw] ++ cap) rfl rfl (by (try simp only [List.map_toArray, List.map_cons, List.map_nil]); first | done | rfl) ?_; (with_reducible refine (HY.call b pw ya yg _ AY2.out HI5.out).mono ?_); rintro e w6 ⟨rfl, hi, hk⟩; refine ⟨_, rfl, ?_⟩; have EA6 := Aside0.mk (EA5.out.closure HY.pc hk); have HI6 := Aside0.mk hi; clear hi hk hb2 EA5 HI5))
                go_meet
                exact ⟨rfl, EA6, HI6⟩
            · have hfb : (far == d) = false := by simpa using hfd
              obtain rfl : (b, true) = y := Option.some.inj ((if_neg (by simp [hfd])).symm.trans AY.out)
              clear hfd
              go_wp2_with fail
              go_meet
              exact ⟨rfl, EA4, HI4⟩
        case rest =>
          obtain ⟨rfl, EA, HI⟩ := hcut
          obtain ⟨ya, yg⟩ := y
          clear AY EA4 HI4
          cases yg with
          | false =>
            obtain rfl : ya = r := Option.some.inj ((if_neg (by simp)).symm.trans AN.out)
            go_wp2_with fail
            first | go_end0 | ((try simp only [Exit.inBlock, Exit.then]); refine bodyPost_ret (results_none rfl _ _ _) rfl ?_)
            exact ⟨rfl, HI.out, EA.out.kept.to_own⟩
          | true =>
            have hn := AN.out
            unfold walk_each.next at hn
            rw [if_pos rfl] at hn
            obtain ⟨es, he, hn⟩ := Option.bind_eq_some_iff.1 hn
            obtain ⟨xe, hk, hn⟩ := Option.bind_eq_some_iff.1 hn
            have AE := Aside0.mk he
            have AK := Aside0.mk hk
            have AN := Aside0.mk (show walk_each.l0 k q d ns step ko xe ya = some r from hn)
            clear he hk hn
            dsimp only at HI
            have hb0 := EA.out.cells.1
            go_upto_block 2 with ((with_reducible refine gate_callee (f := 57) rfl ?_); (try (refine gate_guard (by rfl) ?_; dsimp only)); refine goesL_ (some 65) rfl rfl Try.func57 (by kernel_rfl) rfl #[.pointer (some ⟨g, 0, none⟩), .int .i64 pn] rfl (by (try simp only [List.map_toArray, List.map_cons, List.map_nil]); first | done | rfl) ?_; (with_reducible refine (graph_Edges.calls g ns pn es _ (HG.out _ EA.out.kept).1 AE.out).mono ?_); rintro e w7 ⟨v7, rfl, ho, hb⟩; refine ⟨_, rfl, ?_⟩; obtain ⟨Ae, ce, ee⟩ := Kd.R_slice ho; subst ee; have hme : es.length ≤ 9223372036854775807 := (Kd.R_reads' ho).2.2.2.1; have EA7 := Aside0.mk (EA.out.below hb); have HI7 := Aside0.mk (HY.keep ya wc w7 HI.out (KeptBy.of_below hb)); have HE7 := Aside0.mk (Kd.R_lower (base' := 0) ho (Nat.zero_le _)); clear hb hb0 ho EA HI)
            go_wp2_with fail
            go_loopg [8, 13] es.length (fun kq v8 v13 W => ∃ (xs1 : List S96) (jv : Int), v13 = .int .i64 jv ∧ Aside0 (jv = (kq : Int) - 1) ∧ Aside0 (kq ≤ es.length) ∧ Aside0 (EachAt Pc w bx pn Ap cp ps pw v8 xs1 W) ∧ Aside0 (walk_each.kids k q d ps pw es kq xs1 = some xe) ∧ Aside0 (Inv ya W) ∧ Aside0 (Kd.R k91 91 W 0 (fun _ => True) (.slice Ae es.length ce) es))
            case atStart => exact ⟨_, _, rfl, ⟨rfl⟩, ⟨Nat.le_refl _⟩, EA7, AK, HI7, HE7⟩
            case round =>
              clear EA7 HI7 HE7 AK
              obtain ⟨xs1, jv, rfl, HJ, HKQ, EA, AK, HI, HE⟩ := hrel
              cases gk with
              | zero =>
                obtain rfl : xs1 = xe := Option.some.inj AK.out
                have hj := HJ.out
                obtain rfl : jv = -1 := by omega
                clear hj
                go_wp2_with fail
                go_roundg ko
                case measure => omega
                case rel => exact ⟨xs1, ya, AN, ⟨Kd.R_mono EA.out.stack (fun _ _ => trivial)⟩, HI, ⟨EA.out.kept⟩⟩
              | succ i =>
                have hj := HJ.out
                obtain rfl : jv = (i : Int) := by omega
                clear hj
                have hi : i < es.length := HKQ.out
                obtain ⟨ge, cge, eo, _, _, cle, HGe⟩ := Kd.R_form HE.out (by omega)
                injection eo with ea en ec
                subst ea
                subst ec
                clear en
                obtain ⟨cel, hcl, hM, hcc, hfr⟩ := Kd.R_elem HE.out z91 (i : Int) (by omega) (by omega)
                rw [Int.toNat_natCast] at hM hcc hfr
                have hrd : es.getD i z91 = rd_T91 es (i : Int) := by unfold rd_T91; rw [Int.toNat_natCast]
                rw [hrd] at hM
                have hK := AK.out
                unfold walk_each.kids at hK
                generalize rd_T91 es (i : Int) = x at hM hK
                obtain ⟨xr, xt⟩ := x
                obtain rfl := k91_openM hM
                have he0 : wr.cell? ⟨ge, i * 2, none⟩ = some (.int .i32 xr) := hcc 0 _ rfl
                have he1 : wr.cell? ⟨ge, i * 2 + 1, none⟩ = some (.int .i64 xt) := hcc 1 _ rfl
                clear hcc hfr hM hcl hrd HGe
                obtain ⟨s, hS, hK⟩ := Option.bind_eq_some_iff.1 hK
                have AS1 := Aside0.mk hS
                have AK1 := Aside0.mk hK
                clear hS hK AK
                dsimp only at AS1 AK1
                have hib : decide ((i : Int) < 0) = false := decide_eq_false (by omega)
                have hib2 : decide (0 ≤ (i : Int)) = true := decide_eq_true (by omega)
                go_upto_region 11 with fail
                have hbe := heap_alloc_new wr (.cells #[.int .i32 xr, .int .i64 xt] 91)
                have hbW := (Below.refl wr.heap.size wr).alloc (Nat.le_refl _) (.cells #[.int .i32 xr, .int .i64 xt] 91)
                have EA4 := Aside0.mk (EA.out.below hbW)
                have HI4 := Aside0.mk (HY.keep ya wr _ HI.out (KeptBy.of_below hbW))
                have HE4 := Aside0.mk (Kd.R_below HE.out hbW)
                have BE4 := Aside0.mk hbe
                have HU := Aside0.mk (show w.heap.size ≤ wr.heap.size ∧ bx < wr.heap.size ∧ ∀ kk, u8.ownBlock = some kk → kk < wr.heap.size from ⟨EA.out.kept.size, blk_lt EA.out.box, fun kk hk => by obtain ⟨inner, ho⟩ := Kd.R_own EA.out.stack; exact own_lt ho kk hk⟩)
                have HW4 := Aside0.mk (hbW.size)
                clear hbe hbW he0 he1 EA HI HE hib hib2
                generalize wr.alloc (.cells #[.int .i32 xr, .int .i64 xt] 91) = W4 at EA4 HI4 HE4 BE4 HW4 ⊢
                generalize wr.heap.size = be at BE4 HU HW4 ⊢
                have hb1 := EA4.out.cells.2.1
                have hc0 : W4.cell? ⟨be, 0, none⟩ = some (.int .i32 xr) := blk_cell BE4.out 0
                by_cases hs0 : s.length = 0
                · have AK2 := Aside0.mk ((if_pos hs0).symm.trans AK1.out)
                  have AD0 := Aside0.mk (show auto_Dead.f s = some true by unfold auto_Dead.f; rw [hs0]; rfl)
                  clear hs0
                  go_wp2_with (first | ((with_reducible refine gate_callee (f := 58) rfl ?_); (try (refine gate_guard (by rfl) ?_; dsimp only)); refine goesL_ (some 83) rfl rfl Try.func58 (by kernel_rfl) rfl #[.slice A0 q.length c0, .int .i64 d, .slice Ap ps.length cp, .int .i32 xr] rfl (by (try simp only [List.map_toArray, List.map_cons, List.map_nil]); first | done | rfl) ?_; (with_reducible refine (auto_Step.calls k A0 c0 q d Ap cp ps xr s _ (HG.out _ EA4.out.kept).2 HC0.out EA4.out.reads.1 EA4.out.reads.2 AS1.out).mono ?_); rintro e w5 ⟨v5, rfl, ho, hb⟩; refine ⟨_, rfl, ?_⟩; obtain ⟨A5, c5, e5⟩ := Kd.R_slice ho; subst e5; have EA5 := Aside0.mk (EA4.out.below hb); have HI5 := Aside0.mk (HY.keep ya W4 w5 HI4.out (KeptBy.of_below hb)); have HE5 := Aside0.mk (Kd.R_below HE4.out hb); have BE5 := Aside0.mk (blk_below BE4.out hb); have HS5 := Aside0.mk ho; have HZ5 := Aside0.mk hb.size; clear ho hb hb1 hc0 EA4 HI4 HE4 BE4) | ((with_reducible refine gate_callee (f := 59) rfl ?_); (try (refine gate_guard (by rfl) ?_; dsimp only)); refine goesL_ (some 85) rfl rfl Try.func59 (by kernel_rfl) rfl #[.slice A5 s.length c5] rfl (by (try simp only [List.map_toArray, List.map_cons, List.map_nil]); first | done | rfl) ?_; (with_reducible refine (auto_Dead.calls A5 c5 s true _ (Kd.R_reads' HS5.out).2.2 (Kd.R_reads' HS5.out).2.1 AD0.out).mono ?_); rintro e w6 ⟨rfl, hd⟩; refine ⟨_, rfl, ?_⟩; have hb := hd.below; have EA6 := Aside0.mk (EA5.out.below hb); have HI6 := Aside0.mk (HY.keep ya w5 w6 HI5.out (KeptBy.of_below hb)); have HE6 := Aside0.mk (Kd.R_below HE5.out hb); have BE6 := Aside0.mk (blk_below BE5.out hb); have HS6 := Aside0.mk (Kd.R_below HS5.out hb); have HZ6 := Aside0.mk (Nat.le_trans HZ5.out hb.size); clear hd hb EA5 HI5 HE5 BE5 HS5))
                  go_roundg i
                  case measure => omega
                  case rel => exact ⟨xs1, (i : Int) - 1, by go_num, ⟨rfl⟩, ⟨by omega⟩, EA6, AK2, HI6, HE6⟩
                · have AK2 := Aside0.mk ((if_neg hs0).symm.trans AK1.out)
                  have AD0 := Aside0.mk (show auto_Dead.f s = some false by unfold auto_Dead.f; congr 1; simpa using hs0)
                  clear hs0
                  go_upto_region 13 with (first | ((with_reducible refine gate_callee (f := 58) rfl ?_); (try (refine gate_guard (by rfl) ?_; dsimp only)); refine goesL_ (some 83) rfl rfl Try.func58 (by kernel_rfl) rfl #[.slice A0 q.length c0, .int .i64 d, .slice Ap ps.length cp, .int .i32 xr] rfl (by (try simp only [List.map_toArray, List.map_cons, List.map_nil]); first | done | rfl) ?_; (with_reducible refine (auto_Step.calls k A0 c0 q d Ap cp ps xr s _ (HG.out _ EA4.out.kept).2 HC0.out EA4.out.reads.1 EA4.out.reads.2 AS1.out).mono ?_); rintro e w5 ⟨v5, rfl, ho, hb⟩; refine ⟨_, rfl, ?_⟩; obtain ⟨A5, c5, e5⟩ := Kd.R_slice ho; subst e5; have EA5 := Aside0.mk (EA4.out.below hb); have HI5 := Aside0.mk (HY.keep ya W4 w5 HI4.out (KeptBy.of_below hb)); have HE5 := Aside0.mk (Kd.R_below HE4.out hb); have BE5 := Aside0.mk (blk_below BE4.out hb); have HS5 := Aside0.mk ho; have HZ5 := Aside0.mk hb.size; clear ho hb hb1 hc0 EA4 HI4 HE4 BE4) | ((with_reducible refine gate_callee (f := 59) rfl ?_); (try (refine gate_guard (by rfl) ?_; dsimp only)); refine goesL_ (some 85) rfl rfl Try.func59 (by kernel_rfl) rfl #[.slice A5 s.length c5] rfl (by (try simp only [List.map_toArray, List.map_cons, List.map_nil]); first | done | rfl) ?_; (with_reducible refine (auto_Dead.calls A5 c5 s false _ (Kd.R_reads' HS5.out).2.2 (Kd.R_reads' HS5.out).2.1 AD0.out).mono ?_); rintro e w6 ⟨rfl, hd⟩; refine ⟨_, rfl, ?_⟩; have hb := hd.below; have EA6 := Aside0.mk (EA5.out.below hb); have HI6 := Aside0.mk (HY.keep ya w5 w6 HI5.out (KeptBy.of_below hb)); have HE6 := Aside0.mk (Kd.R_below HE5.out hb); have BE6 := Aside0.mk (blk_below BE5.out hb); have HS6 := Aside0.mk (Kd.R_below HS5.out hb); have HZ6 := Aside0.mk (Nat.le_trans HZ5.out hb.size); clear hd hb EA5 HI5 HE5 BE5 HS5))
                  by_cases hlen : xs1.length < 1000000 ∧ pw.size < 1000000
                  case neg => exact absurd ((if_neg hlen).symm.trans AK2.out) (by simp)
                  have AK3 := Aside0.mk ((if_pos hlen).symm.trans AK2.out)
                  have hsz : ¬ 9223372036854775807 < pw.size + (Utf8.encode xr).size := by have := enc_le xr; omega
                  have HL := Aside0.mk hlen.1
                  clear hlen
                  have hb2 := EA6.out.cells.2.2
                  have hc0 : w6.cell? ⟨be, 0, none⟩ = some (.int .i32 xr) := blk_cell BE6.out 0
                  have hc1 : w6.cell? ⟨be, 1, none⟩ = some (.int .i64 xt) := blk_cell BE6.out 1
                  have hsx : k121.R 121 w6 w.heap.size (fun kk => kk ≠ bx ∧ some kk ≠ u8.ownBlock) (.slice A5 s.length c5) s :=
                    Kd.R_lower (Kd.R_mono (Kd.R_bound HS6.out) (fun kk hk => ⟨by have := HU.out.2.1; have := HW4.out; have := hk.2.1; omega, fun e => by have := HU.out.2.2 kk e.symm; have := HW4.out; have := hk.2.1; omega⟩)) (Nat.le_trans HU.out.1 HW4.out)
                  have HSX := Aside0.mk hsx
                  clear hsx
                  go_wp2_with ((with_reducible refine gate_builtin (b := .append) (xs := #[.tmp 87, .tmp 98]) rfl ?_); at_builtin; refine Kd.R_append k96 (w0 := w6) w.heap.size rfl (.tmp 87) (.tmp 98) 97 96 (.agg #[(.int .i64 0), (.slice none 0 0), (.string ⟨#[]⟩)]) 48 rfl Try.underlying97 info96 rfl (by decide) (by omega) u8 xs1 (⟨xt, s, pw ++ Utf8.encode xr⟩ : S96) [.int .i64 xt, .slice A5 s.length c5, .string (pw ++ Utf8.encode xr)] (fun kk => kk ≠ bx) (fun kk => kk ≠ bx ∧ some kk ≠ u8.ownBlock) rfl rfl ?aP (fun _ hk => hk) ?aF ?aO ?aB ?aS ?aL ?_; (case aP => exact k96_mkM _ _ _ (⟨xt, s, pw ++ Utf8.encode xr⟩ : S96) HSX.out); (case aF => exact (fun kk hk => by have := blk_lt EA6.out.box; omega)); (case aO => exact EA6.out.stack); (case aB => exact Below.refl _ _); (case aS => exact EA6.out.kept.size); (case aL => have := HL.out; omega); intro v9 w9 ho hb hg hat; have HO9 := Aside0.mk ho; have HG9 := Aside0.mk hg; clear ho hb hg hat)
                  go_roundg i
                  case measure => omega
                  case rel => exact ⟨xs1 ++ [(⟨xt, s, pw ++ Utf8.encode xr⟩ : S96)], (i : Int) - 1, by go_num, ⟨rfl⟩, ⟨by omega⟩, ⟨EA6.out.grown HG9.out HO9.out⟩, AK3, ⟨HY.keep ya _ _ HI6.out (KeptBy.of_grown HG9.out (fun kk hk => by obtain ⟨inner, ho⟩ := Kd.R_own EA6.out.stack; exact ⟨96, own_typed ho kk hk, rfl⟩))⟩, ⟨Kd.R_over (d' := k96) HE6.out EA6.out.stack (by simp [k91, Kd.iso, Kd.pair, Kd.int, Kd.scalar]) HG9.out⟩⟩
end Go.Proofs.Ytklidannncajiaa.OW

namespace Go.Proofs.Ytklidannncajiaa.OW
open Go.RowKit Go.Proofs.YtklidannncajiaaW.PrintWords Go.Proofs.YtklidannncajiaaW.PrintLast Go.Proofs.YtklidannncajiaaW.PrintMore

/-- What walk.asked tells where there is a graph. -/
def walk_asked.f (s : ByteArray) (k : Int) : Option (List Int × Bool) := if k < 0 then some ([], false) else if k > 4 then some ([], false) else (text_Asked.f s).bind fun b => if b = true then text_Runes.f s else some ([], false)
set_option maxHeartbeats 2000000 in
set_option maxRecDepth 100000 in
theorem walk_asked.calls (g : Nat) (s : ByteArray) (k : Int) (r1 : List Int) (r2 : Bool) (w : World) (h : walk_asked.f s k = some (r1, r2)) :
    Calls Try.prog 35 #[.pointer (some ⟨g, 0, none⟩), .string s, .int .i64 k] w fun e w' => ∃ v0_ : Value, e = .returned (.tuple #[v0_, .bool r2]) ∧ Kd.R (Kd.int .i32) 21 w' w.heap.size (fun _ => True) v0_ r1 ∧ Below w.heap.size w w' := by
  unfold walk_asked.f at h
  by_cases c0 : k < 0
  · rw [if_pos c0] at h
    obtain ⟨rfl, rfl⟩ := Prod.mk.inj (Option.some.inj h)
    clear h
    have d0 : decide (k < 0) = true := decide_eq_true c0
    go_enter Try.func35, Try.ntmps35
    go_wp2
    go_ret2
    exact ⟨_, rfl, Kd.R_nil _ _ _ _ _, Below.refl _ _⟩
  · rw [if_neg c0] at h
    have d0 : decide (k < 0) = false := decide_eq_false c0
    by_cases c1 : k > 4
    · rw [if_pos c1] at h
      obtain ⟨rfl, rfl⟩ := Prod.mk.inj (Option.some.inj h)
      clear h
      have d1 : decide (4 < k) = true := decide_eq_true c1
      go_enter Try.func35, Try.ntmps35
      go_wp2
      go_ret2
      exact ⟨_, rfl, Kd.R_nil _ _ _ _ _, Below.refl _ _⟩
    · rw [if_neg c1] at h
      have d1 : decide (4 < k) = false := decide_eq_false c1
      obtain ⟨b, ha, h⟩ := Option.bind_eq_some_iff.1 h
      have HA := Aside0.mk ha
      clear ha
      cases b with
      | true =>
        have HR := Aside0.mk (show text_Runes.f s = some (r1, r2) from by rw [if_pos rfl] at h; exact h)
        clear h
        go_enter Try.func35, Try.ntmps35
        go_wp2_with (first | ((with_reducible refine gate_callee (f := 25) rfl ?_); (try (refine gate_guard (by rfl) ?_; dsimp only)); refine goesL_ (some 20) rfl rfl Try.func25 (by kernel_rfl) rfl #[.string s] rfl (by (try simp only [List.map_toArray, List.map_cons, List.map_nil]); first | done | rfl) ?_; (with_reducible refine (text_Asked.calls s true _ HA.out).mono ?_); rintro e w1 ⟨rfl, hb⟩; refine ⟨_, rfl, ?_⟩; have HB1 := Aside0.mk hb; clear hb) | ((with_reducible refine gate_callee (f := 53) rfl ?_); (try (refine gate_guard (by rfl) ?_; dsimp only)); refine goesL_ (some 24) rfl rfl Try.func53 (by kernel_rfl) rfl #[.string s] rfl (by (try simp only [List.map_toArray, List.map_cons, List.map_nil]); first | done | rfl) ?_; (with_reducible refine (text_Runes.calls s r1 r2 _ HR.out).mono ?_); rintro e w2 ⟨v, rfl, ho, hb⟩; refine ⟨_, rfl, ?_⟩; have HO := Aside0.mk ho; have HB2 := Aside0.mk (below_step HB1.out hb); clear ho hb))
        go_ret2
        exact ⟨_, rfl, Kd.R_lower HO.out HB1.out.size, HB2.out⟩
      | false =>
        rw [if_neg (by decide)] at h
        obtain ⟨rfl, rfl⟩ := Prod.mk.inj (Option.some.inj h)
        clear h
        go_enter Try.func35, Try.ntmps35
        go_wp2_with ((with_reducible refine gate_callee (f := 25) rfl ?_); (try (refine gate_guard (by rfl) ?_; dsimp only)); refine goesL_ (some 20) rfl rfl Try.func25 (by kernel_rfl) rfl #[.string s] rfl (by (try simp only [List.map_toArray, List.map_cons, List.map_nil]); first | done | rfl) ?_; (with_reducible refine (text_Asked.calls s false _ HA.out).mono ?_); rintro e w1 ⟨rfl, hb⟩; refine ⟨_, rfl, ?_⟩; have HB1 := Aside0.mk hb; clear hb)
        go_ret2
        exact ⟨_, rfl, Kd.R_nil _ _ _ _ _, HB1.out⟩
end Go.Proofs.Ytklidannncajiaa.OW

namespace Go.Proofs.Ytklidannncajiaa.OW
open Go.RowKit Go.Proofs.YtklidannncajiaaW.PrintWords Go.Proofs.YtklidannncajiaaW.PrintLast Go.Proofs.YtklidannncajiaaW.PrintMore

theorem block_cell {W : World} {b t : Nat} {v : Value} (h : W.heap[b]? = some (.cells #[v] t (0, 0))) : W.cell? ⟨b, 0, none⟩ = some v := blk_cell h 0
/-- A graph that was there when a call began is there as long as what is written was made since. -/
theorem GraphAt.kept {w w1 : World} {g : Nat} {ns : List S72} {P : Nat → Nat → Prop} (h : GraphAt w g ns) (hk : KeptBy P w w1) (hp : ∀ k t, P k t → w.heap.size ≤ k) : GraphAt w1 g ns := h.below (hk.to_below hp (Nat.le_refl _))
end Go.Proofs.Ytklidannncajiaa.OW
