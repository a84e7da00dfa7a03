/- What the row of the law WalkRenamed leans on: contracts of functions and plain laws, each for all inputs that its own theorem names. -/
import Derived.Test.YtklidannncajiaaRe6
import Derived.Test.YtklidannncajiaaRe10
import Derived.Test.YtklidannncajiaaRe9
import Derived.Test.YtklidannncajiaaRe0
import Derived.Test.YtklidannncajiaaRe1
import Derived.Test.YtklidannncajiaaRe8
import Derived.Test.YtklidannncajiaaRe2
import Derived.Outline
namespace Go.Proofs.Ytklidannncajiaa.OW
open Go.RowKit Go.Proofs.YtklidannncajiaaW.PrintWords Go.Proofs.YtklidannncajiaaW.PrintLast Go.Proofs.YtklidannncajiaaW.PrintMore

/-- Is a word passed over: it is not behind 'after'? -/
def nextSkip (k : Nat) (d : Int) (first : Bool) (af : S24) (s : ByteArray) : Option Bool := if first = true then some false else (rank_Less.f k af.f0 af.f1 d s).bind fun b => some (!b)
def nextStep (k : Nat) (d : Int) (first : Bool) (af : S24) (batch : Int) (a : List S24 × Bool) (s : ByteArray) : Option ((List S24 × Bool) × Bool) :=
  (nextSkip k d first af s).bind fun skip => if skip = true then some (a, !a.2) else if (a.1.length : Int) = batch then some ((a.1, true), false) else if a.1.length < 1000000 then some ((a.1 ++ [⟨d, s⟩], a.2), !a.2) else none
/-- The variables of walk.Next that its closure has: their blocks. -/
structure NextAt where
  B : Nat
  bf : Nat
  ba : Nat
  bl : Nat
  bb : Nat
  bm : Nat
def NextMay (N : NextAt) (k t : Nat) : Prop := N.B ≤ k ∧ (k = N.bl ∧ t = 31 ∨ k = N.bm ∧ t = 4 ∨ k ≠ N.ba ∧ t = 24)
structure NextInv (N : NextAt) (first : Bool) (af : S24) (batch : Int) (a : List S24 × Bool) (W : World) : Prop where
  bl : N.B ≤ N.bl
  bm : N.B ≤ N.bm
  ne : N.bf ≠ N.bm
  first : W.heap[N.bf]? = some (.cells #[.bool first] 4 (0, 0))
  after : W.heap[N.ba]? = some (.cells #[.int .i64 af.f0, .string af.f1] 24 (0, 0))
  batch : W.heap[N.bb]? = some (.cells #[.int .i64 batch] 3 (0, 0))
  more : W.heap[N.bm]? = some (.cells #[.bool a.2] 4 (0, 0))
  list : ∃ v, W.heap[N.bl]? = some (.cells #[v] 31 (0, 0)) ∧ Kd.R k24 24 W N.B (fun k => k ≠ N.ba) v a.1
theorem NextInv.below {N : NextAt} {first : Bool} {af : S24} {batch : Int} {a : List S24 × Bool} {W W' : World} (h : NextInv N first af batch a W) (hb : Below W.heap.size W W') : NextInv N first af batch a W' := by
  obtain ⟨v, h1, h2⟩ := h.list
  exact ⟨h.bl, h.bm, h.ne, blk_below h.first hb, blk_below h.after hb, blk_below h.batch hb, blk_below h.more hb, v, blk_below h1 hb, Kd.R_below h2 hb⟩
theorem NextInv.keep {N : NextAt} {first : Bool} {af : S24} {batch : Int} {a : List S24 × Bool} {W W' : World} (h : NextInv N first af batch a W) (hk : KeptBy (fun _ t => t = 96) W W') : NextInv N first af batch a W' := by
  obtain ⟨v, h1, h2⟩ := h.list
  exact ⟨h.bl, h.bm, h.ne, (hk.typed ⟨_, h.first⟩ (by decide)).trans h.first, (hk.typed ⟨_, h.after⟩ (by decide)).trans h.after, (hk.typed ⟨_, h.batch⟩ (by decide)).trans h.batch, (hk.typed ⟨_, h.more⟩ (by decide)).trans h.more, v, (hk.typed ⟨_, h1⟩ (by decide)).trans h1, hk.row h2 (fun k t ht _ hc => by
    have : t = 24 := by simpa [k24, Kd.iso, Kd.pair, Kd.int, Kd.string, Kd.scalar] using ht
    omega)⟩
theorem NextInv.full {N : NextAt} {first : Bool} {af : S24} {batch : Int} {a : List S24 × Bool} {W : World} (h : NextInv N first af batch a W) (b : Bool) : NextInv N first af batch (a.1, b) (W.setCell ⟨N.bm, 0, none⟩ (.bool b)) := by
  obtain ⟨v, h1, h2⟩ := h.list
  exact ⟨h.bl, h.bm, h.ne, blk_far (p := ⟨N.bm, 0, none⟩) h.first h.ne _, blk_far (p := ⟨N.bm, 0, none⟩) h.after (blk_ne h.after h.more (by decide)) _, blk_far (p := ⟨N.bm, 0, none⟩) h.batch (blk_ne h.batch h.more (by decide)) _, blk_set h.more 0 _, v, blk_far (p := ⟨N.bm, 0, none⟩) h1 (blk_ne h1 h.more (by decide)) _, Kd.R_set h2 h.more (by decide) 0 _⟩
theorem NextInv.longer {N : NextAt} {first : Bool} {af : S24} {batch : Int} {a : List S24 × Bool} {W W1 : World} (h : NextInv N first af batch a W) {v v1 : Value} {l1 : List S24} (hv : W.heap[N.bl]? = some (.cells #[v] 31 (0, 0))) (hr : Kd.R k24 24 W N.B (fun k => k ≠ N.ba) v a.1) (hg : W.grownBy W1 v.ownBlock) (hr1 : Kd.R k24 24 W1 N.B (fun k => k ≠ N.ba) v1 l1) :
    NextInv N first af batch (l1, a.2) (W1.setCell ⟨N.bl, 0, none⟩ v1) ∧ KeptBy (NextMay N) W (W1.setCell ⟨N.bl, 0, none⟩ v1) := by
  have hbl := blk_grown hv hg (Kd.R_ne hr hv (by decide))
  have ha := blk_grown h.after hg (fun e => hr.1 _ e.symm rfl)
  have hf := blk_grown h.first hg (Kd.R_ne hr h.first (by decide))
  have hb := blk_grown h.batch hg (Kd.R_ne hr h.batch (by decide))
  have hm := blk_grown h.more hg (Kd.R_ne hr h.more (by decide))
  refine ⟨⟨h.bl, h.bm, h.ne, blk_far (p := ⟨N.bl, 0, none⟩) hf (blk_ne hf hbl (by decide)) _, blk_far (p := ⟨N.bl, 0, none⟩) ha (blk_ne ha hbl (by decide)) _, blk_far (p := ⟨N.bl, 0, none⟩) hb (blk_ne hb hbl (by decide)) _, blk_far (p := ⟨N.bl, 0, none⟩) hm (blk_ne hm hbl (by decide)) _, v1, blk_set hbl 0 _, Kd.R_set hr1 hbl (by decide) 0 _⟩, ?_⟩
  refine (KeptBy.of_grown hg (fun k hk => ?_)).trans (KeptBy.setCell W1 ⟨_, hbl⟩ ⟨h.bl, .inl ⟨rfl, rfl⟩⟩ _)
  obtain ⟨inner, ho⟩ := Kd.R_own hr
  exact ⟨24, own_typed ho k hk, own_base ho k hk, .inr (.inr ⟨hr.1 k hk, rfl⟩)⟩
set_option maxHeartbeats 4000000 in
set_option maxRecDepth 100000 in
theorem next_calls (k : Nat) (N : NextAt) (bd : Nat) (d : Int) (first : Bool) (af : S24) (batch : Int) (a a' : List S24 × Bool) (s : ByteArray) (go : Bool) (W : World) (hs : nextStep k d first af batch a s = some (a', go)) (hI : NextInv N first af batch a W) (hd : W.heap[bd]? = some (.cells #[.int .i64 d] 3 (0, 0))) :
    Calls Try.prog 37 #[.string s, .pointer (some ⟨bd, 0, none⟩), .pointer (some ⟨N.bf, 0, none⟩), .pointer (some ⟨N.ba, 0, none⟩), .pointer (some ⟨N.bl, 0, none⟩), .pointer (some ⟨N.bb, 0, none⟩), .pointer (some ⟨N.bm, 0, none⟩)] W fun e W' => e = .returned (.bool go) ∧ NextInv N first af batch a' W' ∧ W'.heap[bd]? = some (.cells #[.int .i64 d] 3 (0, 0)) ∧ KeptBy (NextMay N) W W' := by
  obtain ⟨l, more⟩ := a
  obtain ⟨skip, hk, hs⟩ := Option.bind_eq_some_iff.1 hs
  have HS := Aside0.mk hs
  clear hs
  have HI := Aside0.mk hI
  have HD := Aside0.mk hd
  have hc1 := block_cell hd
  have hb1 := (Below.refl W.heap.size W).alloc (Nat.le_refl _) (.cells #[.int .i64 d, .string s] 24)
  have hx1 := heap_alloc_new W (.cells #[.int .i64 d, .string s] 24)
  have HI1 := Aside0.mk (hI.below hb1)
  have HD1 := Aside0.mk (blk_below hd hb1)
  have HX1 := Aside0.mk hx1
  have HB1 := Aside0.mk hb1
  clear hI hd hb1 hx1
  go_enter Try.func37, Try.ntmps37
  go_upto_region 3 with fail
  have HK1 := Aside0.mk (KeptBy.of_below (P := NextMay N) HB1.out)
  clear hc1 HI HD HB1
  generalize W.alloc (.cells #[.int .i64 d, .string s] 24) = W1 at HI1 HD1 HX1 HK1 ⊢
  generalize W.heap.size = bx at HX1 ⊢
  have hc0 := block_cell HI1.out.first
  go_cut [17] (fun v17 w2 => v17 = .bool skip ∧ Aside0 (NextInv N first af batch (l, more) w2) ∧ Aside0 (w2.heap[bd]? = some (.cells #[.int .i64 d] 3 (0, 0))) ∧ Aside0 (w2.heap[bx]? = some (.cells #[.int .i64 d, .string s] 24 (0, 0))) ∧ Aside0 (KeptBy (NextMay N) W w2))
  case first =>
    unfold nextSkip at hk
    cases first with
    | true =>
      obtain rfl := Option.some.inj ((if_pos rfl).symm.trans hk)
      clear hk
      go_wp2_with fail
      go_meet
      exact ⟨rfl, HI1, HD1, HX1, HK1⟩
    | false =>
      obtain ⟨b, hb, hk2⟩ := Option.bind_eq_some_iff.1 ((if_neg (by simp)).symm.trans hk)
      obtain rfl := Option.some.inj hk2
      have HL := Aside0.mk hb
      clear hk hb hk2
      have ha0 : W1.cell? ⟨N.ba, 0, none⟩ = some (.int .i64 af.f0) := blk_cell HI1.out.after 0
      have ha1 : W1.cell? ⟨N.ba, 1, none⟩ = some (.string af.f1) := blk_cell HI1.out.after 1
      have hx0 : W1.cell? ⟨bx, 0, none⟩ = some (.int .i64 d) := blk_cell HX1.out 0
      have hx1 : W1.cell? ⟨bx, 1, none⟩ = some (.string s) := blk_cell HX1.out 1
      go_wp2_with ((with_reducible refine gate_callee (f := 38) rfl ?_); (try (refine gate_guard (by rfl) ?_; dsimp only)); refine goesL_ (some 23) rfl rfl Try.func38 (by kernel_rfl) rfl #[.agg #[.int .i64 af.f0, .string af.f1], .agg #[.int .i64 d, .string s]] rfl (by (try simp only [List.map_toArray, List.map_cons, List.map_nil]); first | done | rfl) ?_; (with_reducible refine (rank_Less.calls k af.f0 af.f1 d s b _ HL.out).mono ?_); rintro e w3 ⟨rfl, hb⟩; refine ⟨_, rfl, ?_⟩; have HI3 := Aside0.mk (HI1.out.below hb); have HD3 := Aside0.mk (blk_below HD1.out hb); have HX3 := Aside0.mk (blk_below HX1.out hb); have HK3 := Aside0.mk (HK1.out.trans (KeptBy.of_below hb)); clear hb ha0 ha1 hx0 hx1 hc0)
      go_meet
      exact ⟨rfl, HI3, HD3, HX3, HK3⟩
  case rest =>
    obtain ⟨rfl, HI, HD, HX, HK⟩ := hcut
    clear hc0 hk
    have hm := block_cell HI.out.more
    have hb := block_cell HI.out.batch
    obtain ⟨v, hv, hr⟩ := HI.out.list
    obtain ⟨Av, cv, ev⟩ := Kd.R_slice hr
    subst ev
    have hl := block_cell hv
    have HV := Aside0.mk hv
    have HR := Aside0.mk hr
    clear hv hr
    cases skip with
    | true =>
      obtain ⟨rfl, rfl⟩ := Prod.mk.inj (Option.some.inj ((if_pos rfl).symm.trans HS.out))
      go_wp2_with fail
      go_ret
      exact ⟨rfl, HI.out, HD.out, HK.out⟩
    | false =>
      have hs2 := (if_neg (show ¬ (false = true) by simp)).symm.trans HS.out
      dsimp only at hs2
      by_cases hlb : (l.length : Int) = batch
      · obtain ⟨rfl, rfl⟩ := Prod.mk.inj (Option.some.inj ((if_pos hlb).symm.trans hs2))
        have hlb2 : ((l.length : Int) == batch) = true := by simpa using hlb
        have HLB := Aside0.mk hlb
        clear hlb hs2 HS
        have hf := blk_frozen HI.out.more 0
        go_wp2_with fail
        go_ret
        exact ⟨rfl, HI.out.full true, blk_far (p := ⟨N.bm, 0, none⟩) HD.out (blk_ne HD.out HI.out.more (by decide)) _, HK.out.trans (KeptBy.setCell wc ⟨_, HI.out.more⟩ ⟨HI.out.bm, .inr (.inl ⟨rfl, rfl⟩)⟩ _)⟩
      · have hlb2 : ((l.length : Int) == batch) = false := by simpa using hlb
        have hs3 := (if_neg hlb).symm.trans hs2
        by_cases hll : l.length < 1000000
        case neg => exact absurd ((if_neg hll).symm.trans hs3) (by simp)
        obtain ⟨rfl, rfl⟩ := Prod.mk.inj (Option.some.inj ((if_pos hll).symm.trans hs3))
        have HLL := Aside0.mk hll
        clear hlb hs2 hs3 hll HS
        have hf := blk_frozen HV.out 0
        have hx0 : wc.cell? ⟨bx, 0, none⟩ = some (.int .i64 d) := blk_cell HX.out 0
        have hx1 : wc.cell? ⟨bx, 1, none⟩ = some (.string s) := blk_cell HX.out 1
        have HZ := Aside0.mk (Nat.le_trans HI.out.bl (Nat.le_of_lt (blk_lt HV.out)))
        go_wp2_with ((with_reducible refine gate_builtin (b := .append) (xs := #[.tmp 13, .tmp 15]) rfl ?_); at_builtin; refine Kd.R_append k24 (w0 := wc) N.B rfl (.tmp 13) (.tmp 15) 31 24 (.agg #[(.int .i64 0), (.string ⟨#[]⟩)]) 24 rfl Try.underlying31 info24 rfl (by decide) (by omega) (.slice Av l.length cv) l (⟨d, s⟩ : S24) [.int .i64 d, .string s] (fun kk => kk ≠ N.ba) (fun _ => False) rfl rfl ?aP (fun _ hk => hk.elim) (fun kk hk => by have := blk_lt HI.out.after; omega) HR.out (Below.refl _ _) HZ.out (by have := HLL.out; omega) ?_; (case aP => exact k24_mkM _ _ _ (⟨d, s⟩ : S24)); intro v1 w1 ho hb1 hg hat; obtain ⟨A1, c1, e1⟩ := Kd.R_slice ho; subst e1; rw [List.length_append, List.length_singleton] at ho; have HN := Aside0.mk (HI.out.longer HV.out HR.out hg ho); have HM1 := Aside0.mk (blk_grown HI.out.more hg (Kd.R_ne HR.out HI.out.more (by decide))); have HV1 := Aside0.mk (blk_grown HV.out hg (Kd.R_ne HR.out HV.out (by decide))); have HD1 := Aside0.mk (blk_grown HD.out hg (Kd.R_ne HR.out HD.out (by decide))); clear ho hb1 hg hat hm hb hl hf hx0 hx1; have hl1 := block_cell HV1.out; have hf1 := blk_frozen HV1.out 0; have hm1 := block_cell HM1.out; have hne : N.bm ≠ N.bl := blk_ne HM1.out HV1.out (by decide))
        go_ret
        exact ⟨rfl, HN.out.1, blk_far (p := ⟨N.bl, 0, none⟩) HD1.out (blk_ne HD1.out HV1.out (by decide)) _, HK.out.trans HN.out.2⟩
theorem next_yields (k : Nat) (N : NextAt) (bd : Nat) (d : Int) (first : Bool) (af : S24) (batch : Int) :
    YieldsBy 37 #[.pointer (some ⟨bd, 0, none⟩), .pointer (some ⟨N.bf, 0, none⟩), .pointer (some ⟨N.ba, 0, none⟩), .pointer (some ⟨N.bl, 0, none⟩), .pointer (some ⟨N.bb, 0, none⟩), .pointer (some ⟨N.bm, 0, none⟩)] (NextMay N) (fun a W => NextInv N first af batch a W ∧ W.heap[bd]? = some (.cells #[.int .i64 d] 3 (0, 0))) (nextStep k d first af batch) where
  fn := ⟨_, Try.func37, by kernel_rfl, rfl⟩
  call := fun a s a' go W hs hI => (next_calls k N bd d first af batch a a' s go W hs hI.1 hI.2).mono fun e W' ⟨h1, h2, h3, h4⟩ => ⟨h1, ⟨h2, h3⟩, h4⟩
  keep := fun a W W' hI hk => ⟨hI.1.keep hk, (hk.typed ⟨_, hI.2⟩ (by decide)).trans hI.2⟩
  pc := fun k t h => by rcases h.2 with h | h | h <;> omega
def walk_Next.l0 (k : Nat) (q : List Int) (ns : List S72) (first : Bool) (af : S24) (batch top : Int) : Nat → Int → (List S24 × Bool) → Option (List S24 × Bool)
  | 0, _, _ => none
  | kq + 1, d, a => if d < top then (walk_each.f k q d ns (nextStep k d first af batch) a).bind fun a' => if a'.2 = true then some a' else walk_Next.l0 k q ns first af batch top kq (d + 1) a' else some a
/-- The next batch of near words, and whether there are no others. -/
def walk_Next.f (k : Nat) (ns : List S72) (s : ByteArray) (kk : Int) (first : Bool) (af : S24) (batch : Int) : Option (List S24 × Bool) :=
  (walk_asked.f s kk).bind fun t => if t.2 = true then (walk_Next.l0 k t.1 ns first af (if batch < 0 then 0 else batch) (kk + 1) k 0 ([], false)).bind fun a => some (a.1, !a.2) else some ([], true)
theorem asked_bound {s : ByteArray} {k : Int} {q : List Int} (h : walk_asked.f s k = some (q, true)) : 0 ≤ k ∧ k ≤ 4 := by
  unfold walk_asked.f at h
  by_cases c0 : k < 0
  · rw [if_pos c0] at h
    have := (Prod.mk.inj (Option.some.inj h)).2
    cases this
  · rw [if_neg c0] at h
    by_cases c1 : k > 4
    · rw [if_pos c1] at h
      have := (Prod.mk.inj (Option.some.inj h)).2
      cases this
    · omega
attribute [local go_sem] max2_int max_two
set_option maxHeartbeats 4000000 in
set_option maxRecDepth 100000 in
theorem walk_Next.calls (k : Nat) (g : Nat) (ns : List S72) (s : ByteArray) (kk : Int) (first : Bool) (af : S24) (batch : Int) (r1 : List S24) (r2 : Bool) (w : World) (hG : GraphAt w g ns) (h : walk_Next.f k ns s kk first af batch = some (r1, r2)) :
    Calls Try.prog 15 #[.pointer (some ⟨g, 0, none⟩), .string s, .int .i64 kk, .bool first, .agg #[.int .i64 af.f0, .string af.f1], .int .i64 batch] w fun e w' => ∃ v0_ : Value, e = .returned (.tuple #[v0_, .bool r2]) ∧ Kd.R k24 24 w' w.heap.size (fun _ => True) v0_ r1 ∧ Below w.heap.size w w' := by
  obtain ⟨⟨q, ok⟩, ha, h⟩ := Option.bind_eq_some_iff.1 h
  have HG := Aside0.mk hG
  have HA := Aside0.mk ha
  clear hG ha
  have hb0 := (Below.refl w.heap.size w).alloc (Nat.le_refl _) (.cells #[.bool first] 4)
  have hb1 := hb0.alloc (by simp) (.cells #[.int .i64 af.f0, .string af.f1] 24)
  have hb2 := hb1.alloc (by simp; omega) (.cells #[.int .i64 batch] 3)
  have h0 := blk_alloc (blk_alloc (heap_alloc_new w (.cells #[.bool first] 4)) (.cells #[.int .i64 af.f0, .string af.f1] 24)) (.cells #[.int .i64 batch] 3)
  have h1 := blk_alloc (heap_alloc_new (w.alloc (.cells #[.bool first] 4)) (.cells #[.int .i64 af.f0, .string af.f1] 24)) (.cells #[.int .i64 batch] 3)
  have h2 := heap_alloc_new ((w.alloc (.cells #[.bool first] 4)).alloc (.cells #[.int .i64 af.f0, .string af.f1] 24)) (.cells #[.int .i64 batch] 3)
  have e1 : (w.alloc (.cells #[.bool first] 4)).heap.size = w.heap.size + 1 := by simp
  have e2 : ((w.alloc (.cells #[.bool first] 4)).alloc (.cells #[.int .i64 af.f0, .string af.f1] 24)).heap.size = w.heap.size + 1 + 1 := by simp
  rw [e1] at h1
  rw [e2] at h2
  clear e1 e2
  have HB := Aside0.mk hb2
  have H0 := Aside0.mk h0
  have H1 := Aside0.mk h1
  have H2 := Aside0.mk h2
  clear hb0 hb1 hb2 h0 h1 h2
  go_enter Try.func15, Try.ntmps15
  go_upto_region 1 with fail
  generalize ((w.alloc (.cells #[.bool first] 4)).alloc (.cells #[.int .i64 af.f0, .string af.f1] 24)).alloc (.cells #[.int .i64 batch] 3) = w1 at HB H0 H1 H2 ⊢
  cases ok with
  | false =>
    obtain ⟨rfl, rfl⟩ := Prod.mk.inj (Option.some.inj ((if_neg (by simp)).symm.trans h))
    clear h
    go_wp2_with ((with_reducible refine gate_callee (f := 35) rfl ?_); (try (refine gate_guard (by rfl) ?_; dsimp only)); refine goesL_ (some 23) rfl rfl Try.func35 (by kernel_rfl) rfl #[.pointer (some ⟨g, 0, none⟩), .string s, .int .i64 kk] rfl (by (try simp only [List.map_toArray, List.map_cons, List.map_nil]); first | done | rfl) ?_; (with_reducible refine (walk_asked.calls g s kk q false _ HA.out).mono ?_); rintro e w2 ⟨v, rfl, ho, hb⟩; refine ⟨_, rfl, ?_⟩; obtain ⟨A1, c1, e1⟩ := Kd.R_slice ho; subst e1; have HB2 := Aside0.mk (below_step HB.out hb); clear ho hb)
    go_ret2
    exact ⟨_, rfl, Kd.R_nil _ _ _ _ _, HB2.out⟩
  | true =>
    obtain ⟨a, hE, h⟩ := Option.bind_eq_some_iff.1 ((if_pos rfl).symm.trans h)
    obtain ⟨rfl, rfl⟩ := Prod.mk.inj (Option.some.inj h)
    have HE := Aside0.mk hE
    clear h hE
    obtain ⟨hk0, hk4⟩ := asked_bound HA.out
    go_upto_region 4 with ((with_reducible refine gate_callee (f := 35) rfl ?_); (try (refine gate_guard (by rfl) ?_; dsimp only)); refine goesL_ (some 23) rfl rfl Try.func35 (by kernel_rfl) rfl #[.pointer (some ⟨g, 0, none⟩), .string s, .int .i64 kk] rfl (by (try simp only [List.map_toArray, List.map_cons, List.map_nil]); first | done | rfl) ?_; (with_reducible refine (walk_asked.calls g s kk q true _ HA.out).mono ?_); rintro e w2 ⟨v, rfl, ho, hb⟩; refine ⟨_, rfl, ?_⟩; obtain ⟨A1, c1, e1⟩ := Kd.R_slice ho; subst e1; have HO2 := Aside0.mk ho; have HS2 := Aside0.mk hb.size; have HB2 := Aside0.mk (below_step HB.out hb); have H02 := Aside0.mk (blk_below H0.out hb); have H12 := Aside0.mk (blk_below H1.out hb); have H22 := Aside0.mk (blk_below H2.out hb); clear ho hb HB H0 H1 H2)
    go_upto_region 5 with fail
    have hb3 := (Below.refl w2.heap.size w2).alloc (Nat.le_refl _) (.cells #[.slice none 0 0] 31)
    have HL3 := Aside0.mk (heap_alloc_new w2 (.cells #[.slice none 0 0] 31))
    have HLB := Aside0.mk HB2.out.size
    have HO3 := Aside0.mk (Kd.R_below HO2.out hb3)
    have HB3 := Aside0.mk (below_step HB2.out hb3)
    have H03 := Aside0.mk (blk_below H02.out hb3)
    have H13 := Aside0.mk (blk_below H12.out hb3)
    have H23 := Aside0.mk (blk_below H22.out hb3)
    clear hb3 HO2 HB2 H02 H12 H22
    generalize w2.alloc (.cells #[.slice none 0 0] 31) = w3 at HL3 HO3 HB3 H03 H13 H23 ⊢
    generalize w2.heap.size = bl at HL3 HLB HS2 ⊢
    have hc := block_cell H23.out
    have hf := blk_frozen H23.out 0
    go_upto_region 6 with fail
    generalize (if batch < 0 then 0 else batch) = nb at HE ⊢
    have HB4 := Aside0.mk (below_set HB3.out (show w.heap.size ≤ w.heap.size + 1 + 1 by omega) (j := 0) (v := .int .i64 nb))
    have H24 := Aside0.mk (blk_set H23.out 0 (.int .i64 nb))
    have H04 := Aside0.mk (blk_far (p := ⟨w.heap.size + 1 + 1, 0, none⟩) H03.out (by show w.heap.size ≠ w.heap.size + 1 + 1; omega) (.int .i64 nb))
    have H14 := Aside0.mk (blk_far (p := ⟨w.heap.size + 1 + 1, 0, none⟩) H13.out (by show w.heap.size + 1 ≠ w.heap.size + 1 + 1; omega) (.int .i64 nb))
    have HL4 := Aside0.mk (blk_far (p := ⟨w.heap.size + 1 + 1, 0, none⟩) HL3.out (blk_ne HL3.out H23.out (by decide)) (.int .i64 nb))
    have HO4 := Aside0.mk (Kd.R_set HO3.out H23.out (by decide) 0 (.int .i64 nb))
    have HX4 := Aside0.mk (show w.heap.size < (w3.setCell ⟨w.heap.size + 1 + 1, 0, none⟩ (.int .i64 nb)).heap.size from blk_lt H04.out)
    clear hc hf HO3 HB3 H03 H13 H23 HL3
    generalize w3.setCell ⟨w.heap.size + 1 + 1, 0, none⟩ (.int .i64 nb) = w4 at HB4 H04 H14 H24 HL4 HO4 HX4 ⊢
    go_upto_region 7 with fail
    have hb5 := (Below.refl w4.heap.size w4).alloc (Nat.le_refl _) (.cells #[.bool false] 4)
    have HI5 := Aside0.mk (show NextInv ⟨w.heap.size, w.heap.size, w.heap.size + 1, bl, w.heap.size + 1 + 1, w4.heap.size⟩ first af nb ([], false) (w4.alloc (.cells #[.bool false] 4)) from
      ⟨HLB.out, HB4.out.size, Nat.ne_of_lt HX4.out, blk_below H04.out hb5, blk_below H14.out hb5, blk_below H24.out hb5, heap_alloc_new w4 _, _, blk_below HL4.out hb5, Kd.R_nil _ _ _ _ _⟩)
    have HO5 := Aside0.mk (Kd.R_below HO4.out hb5)
    have HB5 := Aside0.mk (below_step HB4.out hb5)
    clear hb5 HO4 HB4 H04 H14 H24 HL4 HX4 HS2 HLB
    generalize w4.alloc (.cells #[.bool false] 4) = w5 at HI5 HO5 HB5 ⊢
    generalize w4.heap.size = bm at HI5 ⊢
    go_wp2_with fail
    go_loopg [32] k (fun kq v32 W => ∃ (d : Int) (b : List S24 × Bool), v32 = .int .i64 d ∧ (0 ≤ d ∧ d ≤ 5) ∧ Aside0 (walk_Next.l0 k q ns first af nb (kk + 1) kq d b = some a) ∧ Aside0 (NextInv ⟨w.heap.size, w.heap.size, w.heap.size + 1, bl, w.heap.size + 1 + 1, bm⟩ first af nb b W) ∧ Aside0 (Kd.R (Kd.int .i32) 21 W w1.heap.size (fun _ => True) (.slice A1 q.length c1) q) ∧ Aside0 (Below w.heap.size w W))
    case atStart => exact ⟨0, _, rfl, by omega, HE, HI5, HO5, HB5⟩
    case round =>
      clear HE HI5 HO5 HB5
      obtain ⟨d, b, rfl, ⟨hd0, hd5⟩, HA2, HI, HO, HB⟩ := hrel
      cases gk with
      | zero => exact absurd HA2.out (by simp [walk_Next.l0])
      | succ ko =>
        have H := HA2.out
        simp only [walk_Next.l0] at H
        clear HA2
        by_cases hlt : d < kk + 1
        · rw [if_pos hlt] at H
          obtain ⟨b', hE, hR⟩ := Option.bind_eq_some_iff.1 H
          have HE := Aside0.mk hE
          have HR := Aside0.mk hR
          clear H hE hR
          have hdt : decide (d < kk + 1) = true := decide_eq_true hlt
          go_upto_region 10 with fail
          have hb6 := (Below.refl wr.heap.size wr).alloc (Nat.le_refl _) (.cells #[.int .i64 d] 3)
          have HD6 := Aside0.mk (heap_alloc_new wr (.cells #[.int .i64 d] 3))
          have HI6 := Aside0.mk (HI.out.below hb6)
          have HO6 := Aside0.mk (Kd.R_below HO.out hb6)
          have HB6 := Aside0.mk (below_step HB.out hb6)
          clear hb6 HI HO HB
          generalize wr.alloc (.cells #[.int .i64 d] 3) = w6 at HD6 HI6 HO6 HB6 ⊢
          generalize wr.heap.size = bd at HD6 ⊢
          have HC := Aside0.mk (show ∀ W, KeptBy (EachMay (NextMay ⟨w.heap.size, w.heap.size, w.heap.size + 1, bl, w.heap.size + 1 + 1, bm⟩) w6.heap.size) w6 W → GraphAt W g ns ∧ Kd.C (Kd.int .i32) W A1 q.length q from fun W hk =>
            ⟨HG.out.below (HB6.out.trans (hk.to_below (fun kk t hp => by rcases hp with hp | hp; exact hp.1; exact Nat.le_trans HB6.out.size hp.1) HB6.out.size)),
             (Kd.R_reads' (hk.row HO6.out (fun kk t ht _ hp => by
              have : t = 21 := by simpa [Kd.int, Kd.scalar] using ht
              rcases hp with hp | hp
              · have := hp.2; omega
              · have := hp.2; omega))).2.2⟩)
          have HQ := Aside0.mk (Kd.R_reads' HO6.out).2.1
          have hd6 := block_cell HD6.out
          go_upto_region 11 with ((with_reducible refine gate_callee (f := 36) rfl ?_); (try (refine gate_guard (by rfl) ?_; dsimp only)); refine goesL_ (some 39) rfl rfl Try.func36 (by kernel_rfl) rfl #[.pointer (some ⟨g, 0, none⟩), .slice A1 q.length c1, .int .i64 d, .func (.func 37) #[] #[.pointer (some ⟨bd, 0, none⟩), .pointer (some ⟨w.heap.size, 0, none⟩), .pointer (some ⟨w.heap.size + 1, 0, none⟩), .pointer (some ⟨bl, 0, none⟩), .pointer (some ⟨w.heap.size + 1 + 1, 0, none⟩), .pointer (some ⟨bm, 0, none⟩)]] rfl (by (try simp only [List.map_toArray, List.map_cons, List.map_nil]); first | done | rfl) ?_; (with_reducible refine (walk_each.calls k g ns 37 _ (NextMay ⟨w.heap.size, w.heap.size, w.heap.size + 1, bl, w.heap.size + 1 + 1, bm⟩) (fun a W => NextInv ⟨w.heap.size, w.heap.size, w.heap.size + 1, bl, w.heap.size + 1 + 1, bm⟩ first af nb a W ∧ W.heap[bd]? = some (.cells #[.int .i64 d] 3 (0, 0))) (nextStep k d first af nb) (next_yields k ⟨w.heap.size, w.heap.size, w.heap.size + 1, bl, w.heap.size + 1 + 1, bm⟩ bd d first af nb) A1 c1 q d b b' w6 HC.out HQ.out ⟨HI6.out, HD6.out⟩ HE.out).mono ?_); rintro e w7 ⟨rfl, hi, hk⟩; refine ⟨_, rfl, ?_⟩; have HI7 := Aside0.mk hi.1; have HO7 := Aside0.mk (hk.row HO6.out (fun kk t ht _ hp => by have : t = 21 := (by simpa [Kd.int, Kd.scalar] using ht); have := hp.2; omega)); have HB7 := Aside0.mk (HB6.out.trans (hk.to_below (fun kk t hp => hp.1) HB6.out.size)); clear hi hk hd6 HC HQ HD6 HI6 HO6 HB6)
          have hc2 := block_cell HI7.out.more
          obtain ⟨v, hv, hr⟩ := HI7.out.list
          obtain ⟨Av, cv, ev⟩ := Kd.R_slice hr
          subst ev
          have hc1 := block_cell hv
          have HRL := Aside0.mk hr
          clear hv hr
          obtain ⟨bl', more'⟩ := b'
          cases more' with
          | true =>
            obtain rfl := Option.some.inj ((if_pos rfl).symm.trans HR.out)
            go_wp2_with fail
            go_quiet (fail)
            go_wp2_with fail
            go_ret2
            exact ⟨_, rfl, Kd.R_mono (Kd.R_drewN HRL.out _) (fun _ _ => trivial), pw_below_drewN HB7.out _⟩
          | false =>
            have HR2 := Aside0.mk ((if_neg (by simp)).symm.trans HR.out)
            clear HR
            go_wp2_with fail
            go_roundg ko
            case measure => omega
            case rel => exact ⟨d + 1, _, rfl, by omega, HR2, HI7, HO7, HB7⟩
        · rw [if_neg hlt] at H
          obtain rfl := Option.some.inj H
          have hdt : decide (d < kk + 1) = false := decide_eq_false hlt
          clear H
          obtain ⟨v, hv, hr⟩ := HI.out.list
          obtain ⟨Av, cv, ev⟩ := Kd.R_slice hr
          subst ev
          have hc1 := block_cell hv
          have hc2 := block_cell HI.out.more
          have HR := Aside0.mk hr
          clear hv hr
          go_wp2_with fail
          go_quiet (fail)
          go_wp2_with fail
          go_ret2
          exact ⟨_, rfl, Kd.R_mono (Kd.R_drewN HR.out _) (fun _ _ => trivial), pw_below_drewN HB.out _⟩
end Go.Proofs.Ytklidannncajiaa.OW

namespace Go.Proofs.Ytklidannncajiaa.OW
open Go.RowKit Go.Proofs.YtklidannncajiaaW.PrintWords Go.Proofs.YtklidannncajiaaW.PrintLast Go.Proofs.YtklidannncajiaaW.PrintMore Go.Proofs.Ytklidannncajiaa.Am

theorem rdOf_nat {α : Type} (z : α) (xs : List α) (i : Nat) (h : i < xs.length) : rdOf z xs (i : Int) = xs[i] := by
  unfold rdOf
  rw [Int.toNat_natCast, List.getD_eq_getElem?_getD, List.getElem?_eq_getElem h]; rfl
theorem wr64 (x : Int) (h1 : -9223372036854775808 ≤ x) (h2 : x ≤ 9223372036854775807) : wrap64 x = x := wr x h1 h2
/-! ### sizes -/
def Small (l : List ByteArray) : Prop := l.length ≤ 80 ∧ ∀ s ∈ l, s.size ≤ 100
instance (l : List ByteArray) : Decidable (Small l) := inferInstanceAs (Decidable (_ ∧ _))
theorem great_ev (l : List ByteArray) : Ev (fun K => inkhornlaw0_GreatTexts.f K l) (!decide (Small l)) := by
  by_cases hl : l.length ≤ 80
  · have key : ∀ (d i : Nat), i + d = l.length → (∀ j, (h : j < l.length) → j < i → l[j].size ≤ 100) → Ev (fun K => inkhornlaw0_GreatTexts.l0 K l (i : Int)) (!decide (Small l)) := by
      intro d
      induction d with
      | zero =>
        intro i hi hp
        have hs : Small l := ⟨hl, fun s hs => by obtain ⟨j, hj, rfl⟩ := List.mem_iff_getElem.1 hs; exact hp j hj (by omega)⟩
        refine Ev.step (f := fun K => inkhornlaw0_GreatTexts.j1 K l i false) (fun K => by simp only [inkhornlaw0_GreatTexts.l0]; rw [if_neg (by omega)]) ?_
        refine Ev.step (f := fun _ => some (!decide (Small l))) (fun K => ?_) (Ev.now _)
        simp only [inkhornlaw0_GreatTexts.j1, Bool.false_eq_true, if_false]
        rw [decide_eq_true hs]
        simp; omega
      | succ d ih =>
        intro i hi hp
        refine Ev.step (f := fun K => inkhornlaw0_GreatTexts.j1 K l i true) (fun K => by simp only [inkhornlaw0_GreatTexts.l0]; rw [if_pos (by omega), decide_eq_true (by omega)]) ?_
        by_cases hz : l[i].size ≤ 100
        · refine Ev.step (f := fun K => inkhornlaw0_GreatTexts.l0 K l ((i + 1 : Nat) : Int)) (fun K => ?_) (ih (i + 1) (by omega) (fun j hj h => by
            by_cases e : j = i
            · subst e; exact hz
            · exact hp j hj (by omega)))
          simp only [inkhornlaw0_GreatTexts.j1]
          rw [if_pos trivial, if_pos (by omega), if_pos (by omega), rdOf_nat _ _ _ (by omega), if_neg (by omega), wr64 _ (by omega) (by omega)]
          rfl
        · have hs : ¬ Small l := fun h => hz (h.2 _ (List.getElem_mem _))
          refine Ev.step (f := fun _ => some (!decide (Small l))) (fun K => ?_) (Ev.now _)
          simp only [inkhornlaw0_GreatTexts.j1]
          rw [if_pos trivial, if_pos (by omega), if_pos (by omega), rdOf_nat _ _ _ (by omega), if_pos (by omega), decide_eq_false hs]
          rfl
    exact key l.length 0 (by omega) (fun j _ h => by omega)
  · have hs : ¬ Small l := fun h => hl h.1
    refine Ev.step (f := fun K => inkhornlaw0_GreatTexts.j1 K l 0 false) (fun K => ?_) (Ev.step (f := fun _ => some (!decide (Small l))) (fun K => ?_) (Ev.now _))
    · show inkhornlaw0_GreatTexts.l0 (K + 1) l 0 = _
      simp only [inkhornlaw0_GreatTexts.l0]
      rw [if_pos (by omega), decide_eq_false (by omega)]
    · simp only [inkhornlaw0_GreatTexts.j1, Bool.false_eq_true, if_false]
      rw [decide_eq_false hs]
      simp; omega
/-! ### texts -/
theorem len_eq {s : ByteArray} (h : s.size ≤ 1000000) : text_Len.f s = some (if Clean s then ((runes s 0).length : Int) else -1) := by
  unfold text_Len.f
  rw [if_pos (by omega)]
  by_cases hc : Clean s
  · rw [if_pos hc, if_neg hc]
  · rw [if_neg hc, if_pos (Classical.not_not.1 hc)]
def isWord (s : ByteArray) : Prop := Clean s ∧ 1 ≤ (runes s 0).length ∧ (runes s 0).length ≤ 12
instance (s : ByteArray) : Decidable (isWord s) := inferInstanceAs (Decidable (_ ∧ _))
def isAsked (s : ByteArray) : Prop := Clean s ∧ (runes s 0).length ≤ 16
instance (s : ByteArray) : Decidable (isAsked s) := inferInstanceAs (Decidable (_ ∧ _))
theorem word_eq {s : ByteArray} (h : s.size ≤ 1000000) : text_Word.f s = some (decide (isWord s)) := by
  unfold text_Word.f
  rw [len_eq h, Option.bind_some]
  unfold isWord
  by_cases hc : Clean s
  · simp only [hc, if_true, true_and]
    by_cases h1 : 1 ≤ (runes s 0).length
    · rw [if_pos (by omega)]
      congr 1
      rw [Bool.eq_iff_iff]; simp; omega
    · rw [if_neg (by omega)]; simp; omega
  · simp [hc]
theorem asked_eq {s : ByteArray} (h : s.size ≤ 1000000) : text_Asked.f s = some (decide (isAsked s)) := by
  unfold text_Asked.f
  rw [len_eq h, Option.bind_some]
  unfold isAsked
  by_cases hc : Clean s
  · simp only [hc, if_true, true_and]
    rw [if_pos (by omega)]
    congr 1
    rw [Bool.eq_iff_iff]; simp; omega
  · simp [hc]
theorem runes_eq {s : ByteArray} (h : s.size ≤ 1000000) : text_Runes.f s = some (if Clean s then (runes s 0, true) else ([], false)) := by
  unfold text_Runes.f
  rw [if_pos (by omega)]
  by_cases hc : Clean s
  · rw [if_pos hc, if_neg hc]
  · rw [if_neg hc, if_pos (Classical.not_not.1 hc)]
def mayAsk (s : ByteArray) (k : Int) : Prop := isAsked s ∧ 0 ≤ k ∧ k ≤ 4
instance (s : ByteArray) (k : Int) : Decidable (mayAsk s k) := inferInstanceAs (Decidable (_ ∧ _))
theorem walk_asked_eq {s : ByteArray} (h : s.size ≤ 1000000) (k : Int) : walk_asked.f s k = some (if mayAsk s k then (runes s 0, true) else ([], false)) := by
  unfold walk_asked.f
  by_cases h0 : k < 0
  · rw [if_pos h0, if_neg (fun hm => by have := hm.2.1; omega)]
  · rw [if_neg h0]
    by_cases h1 : k > 4
    · rw [if_pos h1, if_neg (fun hm => by have := hm.2.2; omega)]
    · rw [if_neg h1, asked_eq h, Option.bind_some]
      by_cases ha : isAsked s
      · rw [if_pos (by simpa using ha), if_pos ⟨ha, by omega, by omega⟩, runes_eq h, if_pos ha.1]
      · rw [if_neg (by simpa using ha), if_neg (fun hm => ha hm.1)]
theorem compare_eq (a b : ByteArray) : text_Compare.f a b = some (Lib.compareBytes a.data.toList b.data.toList) := rfl
/-! ### good lists -/
structure GoodW (l : List ByteArray) : Prop where
  len : l.length ≤ 60
  words : ∀ s ∈ l, isWord s
  sorted : l.Pairwise ltB
theorem good_cons {l : List ByteArray} (h : ∀ i, (hi : i + 1 < l.length) → ltB l[i] l[i + 1]) : l.Pairwise ltB := by
  rw [List.pairwise_iff_getElem]
  intro i j hi hj hij
  obtain ⟨d, rfl⟩ : ∃ d, j = i + 1 + d := ⟨j - i - 1, by omega⟩
  induction d with
  | zero => exact h i hj
  | succ d ih => exact (ih (by omega) (by omega)).trans (h (i + 1 + d) (by omega))
theorem good_ev {l : List ByteArray} (hs : Small l) : ∃ e, Ev (fun K => list_Good.f K l) e ∧ (e = 0 → GoodW l) := by
  by_cases hl : l.length ≤ 60
  case neg => exact ⟨3, Ev.congr (f := fun _ => some 3) (fun K => by unfold list_Good.f; rw [if_pos (by omega)]) (Ev.now _), fun h => by cases h⟩
  have k1 : (∀ s ∈ l, isWord s) → ∀ (d i : Nat), 1 ≤ i → i + d = max l.length 1 → (∀ j, (hj : j + 1 < l.length) → j + 1 < i → ltB l[j] l[j + 1]) → ∃ e, Ev (fun K => list_Good.l1 K l (i : Int)) e ∧ (e = 0 → GoodW l) := by
    intro hw d
    induction d with
    | zero =>
      intro i h1 hi hp
      refine ⟨0, Ev.step (f := fun _ => some 0) (fun K => by simp only [list_Good.l1]; rw [if_neg (by omega)]) (Ev.now _), fun _ => ⟨hl, hw, good_cons (fun j hj => hp j hj (by omega))⟩⟩
    | succ d ih =>
      intro i h1 hi hp
      have hil : i < l.length := by omega
      have hrd : ∀ K, list_Good.l1 (K + 1) l (i : Int) = if Lib.compareBytes l[i - 1].data.toList l[i].data.toList ≥ 0 then some 7 else list_Good.l1 K l ((i + 1 : Nat) : Int) := by
        intro K
        simp only [list_Good.l1]
        rw [if_pos (by omega), wr64 _ (by omega) (by omega), if_pos (by omega), if_pos (by omega), if_pos (by omega), show ((i : Int) - 1) = ((i - 1 : Nat) : Int) by omega, rdOf_nat _ _ _ (by omega), rdOf_nat _ _ _ hil, compare_eq, Option.bind_some, wr64 _ (by omega) (by omega)]
        rfl
      by_cases hc : Lib.compareBytes l[i - 1].data.toList l[i].data.toList ≥ 0
      · exact ⟨7, Ev.step (f := fun _ => some 7) (fun K => by rw [hrd, if_pos hc]) (Ev.now _), fun h => by cases h⟩
      · obtain ⟨e, he, h0⟩ := ih (i + 1) (by omega) (by omega) (fun j hj hji => by
          by_cases e : j + 1 = i
          · subst e
            simp only [Nat.add_sub_cancel] at hc
            unfold ltB
            omega
          · exact hp j hj (by omega))
        exact ⟨e, Ev.step (fun K => by rw [hrd, if_neg hc]) he, h0⟩
  have k0 : ∀ (d i : Nat), i + d = l.length → (∀ j, (hj : j < l.length) → j < i → isWord l[j]) → ∃ e, Ev (fun K => list_Good.l0 K l l (l.length : Int) (i : Int)) e ∧ (e = 0 → GoodW l) := by
    intro d
    induction d with
    | zero =>
      intro i hi hp
      obtain ⟨e, he, h0⟩ := k1 (fun s hs => by obtain ⟨j, hj, rfl⟩ := List.mem_iff_getElem.1 hs; exact hp j hj (by omega)) (max l.length 1 - 1) 1 (by omega) (by omega) (fun j _ h => by omega)
      exact ⟨e, Ev.step (f := fun K => list_Good.l1 K l 1) (fun K => by simp only [list_Good.l0]; rw [if_neg (by omega)]) he, h0⟩
    | succ d ih =>
      intro i hi hp
      have hil : i < l.length := by omega
      have hrd : ∀ K, list_Good.l0 (K + 1) l l (l.length : Int) (i : Int) = if decide (isWord l[i]) = true then list_Good.l0 K l l (l.length : Int) ((i + 1 : Nat) : Int) else some 6 := by
        intro K
        simp only [list_Good.l0]
        rw [if_pos (by omega), if_pos (by omega), if_pos (by omega), rdOf_nat _ _ _ hil, word_eq (by have := hs.2 l[i] (List.getElem_mem _); omega), Option.bind_some, wr64 _ (by omega) (by omega)]
        rfl
      by_cases hc : isWord l[i]
      · obtain ⟨e, he, h0⟩ := ih (i + 1) (by omega) (fun j hj hji => by
          by_cases e : j = i
          · subst e; exact hc
          · exact hp j hj (by omega))
        exact ⟨e, Ev.step (fun K => by rw [hrd, if_pos (by simpa using hc)]) he, h0⟩
      · exact ⟨6, Ev.step (f := fun _ => some 6) (fun K => by rw [hrd, if_neg (by simpa using hc)]) (Ev.now _), fun h => by cases h⟩
  obtain ⟨e, he, h0⟩ := k0 l.length 0 (by omega) (fun j _ h => by omega)
  exact ⟨e, Ev.congr (fun K => by unfold list_Good.f; rw [if_neg (by omega)]; rfl) he, h0⟩
end Go.Proofs.Ytklidannncajiaa.OW

namespace Go.Proofs.Ytklidannncajiaa.OW
open Go.RowKit Go.Proofs.YtklidannncajiaaW.PrintWords Go.Proofs.YtklidannncajiaaW.PrintLast Go.Proofs.YtklidannncajiaaW.PrintMore Go.Proofs.Ytklidannncajiaa.Am
set_option linter.unusedVariables false
set_option linter.unusedSimpArgs false

def goodP (r : Int) : Bool := decide (0 ≤ r ∧ r ≤ 1114111 ∧ (r < 55296 ∨ r > 57343) ∧ r ≠ 65533)
/-- Is the rune at a place told off? -/
def badP (r n : Int) : Prop := n = 0 ∨ goodP r = false ∨ (n = 3 ∧ r < 2048) ∨ (n = 4 ∧ r < 65536)
instance (r n : Int) : Decidable (badP r n) := inferInstanceAs (Decidable (_ ∨ _))
end Go.Proofs.Ytklidannncajiaa.OW

namespace Go.Proofs.Ytklidannncajiaa.OW
open Go.RowKit Go.Proofs.YtklidannncajiaaW.PrintWords Go.Proofs.YtklidannncajiaaW.PrintLast Go.Proofs.YtklidannncajiaaW.PrintMore Go.Proofs.Ytklidannncajiaa.Am

/-- Is an item ahead of another one? -/
def lessP (a b : S24) : Bool := decide (a.f0 < b.f0 ∨ (a.f0 = b.f0 ∧ ltB a.f1 b.f1))
theorem or_eq (k : Nat) (a b : Int) : cmp_Or_int.f (k + 3) [a, b] = some (if a = 0 then b else a) := by
  unfold cmp_Or_int.f
  simp only [cmp_Or_int.l0, List.length_cons, List.length_nil, rd]
  by_cases ha : a = 0
  · by_cases hb : b = 0
    · simp [ha, hb, wrap64]
    · simp [ha, hb, wrap64]
  · simp [ha]
theorem cmpInt_eq (a b : Int) : cmp_Compare_int.f a b = some (if a < b then -1 else if a > b then 1 else 0) := by
  unfold cmp_Compare_int.f cmp_isNaN_int.f
  simp only [Option.bind_some, bne_self_eq_false, Bool.false_eq_true, if_false]
  by_cases h1 : a < b
  · rw [if_pos h1, if_pos h1]
  · rw [if_neg h1, if_neg h1]
    by_cases h2 : a > b
    · rw [if_pos h2, if_pos h2]
    · rw [if_neg h2, if_neg h2]
theorem compareP_eq (k : Nat) (hk : 3 ≤ k) (a b : S24) : rank_compare.f k a.f0 a.f1 b.f0 b.f1 = some (if a.f0 < b.f0 then -1 else if a.f0 > b.f0 then 1 else Lib.compareBytes a.f1.data.toList b.f1.data.toList) := by
  obtain ⟨m, rfl⟩ : ∃ m, k = m + 3 := ⟨k - 3, by omega⟩
  unfold rank_compare.f
  rw [cmpInt_eq, Option.bind_some, compare_eq, Option.bind_some, or_eq, Option.bind_some]
  congr 1
  by_cases h1 : a.f0 < b.f0
  · simp [h1]
  · by_cases h2 : a.f0 > b.f0
    · simp [h1, h2]
    · simp [h1, h2]
theorem less_eq (k : Nat) (hk : 3 ≤ k) (a b : S24) : rank_Less.f k a.f0 a.f1 b.f0 b.f1 = some (lessP a b) := by
  unfold rank_Less.f
  rw [compareP_eq k hk, Option.bind_some]
  congr 1
  unfold lessP ltB
  rw [Bool.eq_iff_iff]
  simp only [decide_eq_true_eq]
  by_cases h1 : a.f0 < b.f0
  · simp [h1]
  · by_cases h2 : a.f0 > b.f0
    · simp [h1, h2]; omega
    · have : a.f0 = b.f0 := by omega
      simp [this]
def keepP (first : Bool) (af x : S24) : Bool := first || lessP af x
theorem skip_eq (k : Nat) (hk : 3 ≤ k) (d : Int) (first : Bool) (af : S24) (s : ByteArray) : nextSkip k d first af s = some (!keepP first af ⟨d, s⟩) := by
  unfold nextSkip keepP
  cases first with
  | true => rfl
  | false =>
    rw [if_neg (by simp)]
    have := less_eq k hk af ⟨d, s⟩
    dsimp only at this
    rw [this]
    rfl
theorem nextStep_eq (k : Nat) (hk : 3 ≤ k) (d : Int) (first : Bool) (af : S24) (bt : Int) : nextStep k d first af bt = nextStep 3 d first af bt := by
  funext a s
  unfold nextStep
  rw [skip_eq k hk, skip_eq 3 (Nat.le_refl _)]
/-- Items are taken one by one; true: one more would have been taken. -/
def feed (first : Bool) (af : S24) (bt : Int) : List S24 → List S24 → List S24 × Bool
  | l, [] => (l, false)
  | l, x :: xs => if keepP first af x = true then (if (l.length : Int) = bt then (l, true) else feed first af bt (l ++ [x]) xs) else feed first af bt l xs
theorem feed_cons (first : Bool) (af : S24) (bt : Int) (l : List S24) (x : S24) (xs : List S24) : feed first af bt l (x :: xs) = if keepP first af x = true then (if (l.length : Int) = bt then (l, true) else feed first af bt (l ++ [x]) xs) else feed first af bt l xs := rfl
theorem feed_append (first : Bool) (af : S24) (bt : Int) : ∀ (u v l : List S24), feed first af bt l (u ++ v) = if (feed first af bt l u).2 = true then feed first af bt l u else feed first af bt (feed first af bt l u).1 v
  | [], v, l => by simp [feed]
  | x :: u, v, l => by
    rw [List.cons_append, feed_cons, feed_cons]
    by_cases h1 : keepP first af x = true
    · rw [if_pos h1, if_pos h1]
      by_cases h2 : (l.length : Int) = bt
      · rw [if_pos h2, if_pos h2, if_pos rfl]
      · rw [if_neg h2, if_neg h2]
        exact feed_append first af bt u v _
    · rw [if_neg h1, if_neg h1]
      exact feed_append first af bt u v l
theorem runs_next (d : Int) (first : Bool) (af : S24) (bt : Int) : ∀ (ws : List ByteArray) (l : List S24), l.length + ws.length ≤ 1000000 →
    runs (nextStep 3 d first af bt) (l, false) ws = some (feed first af bt l (ws.map fun w => ⟨d, w⟩), !(feed first af bt l (ws.map fun w => ⟨d, w⟩)).2)
  | [], l, _ => by simp [runs, feed]
  | w :: ws, l, h => by
    simp only [List.length_cons] at h
    show (nextStep 3 d first af bt (l, false) w).bind _ = _
    unfold nextStep
    rw [skip_eq 3 (Nat.le_refl _), Option.bind_some]
    simp only [List.map_cons]
    unfold feed
    by_cases hk : keepP first af ⟨d, w⟩ = true
    · rw [if_pos hk]
      simp only [hk, Bool.not_true, Bool.false_eq_true, if_false]
      by_cases hb : (l.length : Int) = bt
      · rw [if_pos hb, if_pos hb]; rfl
      · rw [if_neg hb, if_neg hb, if_pos (by omega)]
        simp only [Option.bind_some, Bool.not_false, if_true]
        exact runs_next d first af bt ws _ (by simp; omega)
    · rw [if_neg hk]
      have hk' : keepP first af ⟨d, w⟩ = false := by simpa using hk
      simp only [hk', Bool.not_false, if_true, Option.bind_some]
      exact runs_next d first af bt ws l (by omega)
theorem feed_eq (first : Bool) (af : S24) (bt : Nat) : ∀ (items l : List S24), l.length ≤ bt → feed first af bt l items = (l ++ (items.filter (keepP first af)).take (bt - l.length), decide (bt - l.length < (items.filter (keepP first af)).length))
  | [], l, _ => by simp [feed]
  | x :: xs, l, h => by
    unfold feed
    by_cases hk : keepP first af x = true
    · rw [if_pos hk, List.filter_cons, if_pos hk]
      by_cases hb : (l.length : Int) = bt
      · have : bt - l.length = 0 := by omega
        rw [if_pos hb, this]; simp
      · obtain ⟨m, hm⟩ : ∃ m, bt - l.length = m + 1 := ⟨bt - l.length - 1, by omega⟩
        rw [if_neg hb, feed_eq first af bt xs (l ++ [x]) (by simp; omega), hm]
        have : bt - (l ++ [x]).length = m := by simp; omega
        rw [this]
        simp
    · rw [if_neg hk, List.filter_cons, if_neg hk]
      exact feed_eq first af bt xs l h
/-- The items at distances from d on, n of them. -/
def level (q : List Int) (l : List ByteArray) (d : Nat) : List S24 := (near q d l).map fun w => ⟨(d : Int), w⟩
def levels (q : List Int) (l : List ByteArray) (d n : Nat) : List S24 := (List.range' d n).flatMap (level q l)
theorem levels_succ (q : List Int) (l : List ByteArray) (d n : Nat) : levels q l d (n + 1) = level q l d ++ levels q l (d + 1) n := by
  unfold levels
  rw [List.range'_succ, List.flatMap_cons]
theorem near_len (q : List Int) (d : Nat) (l : List ByteArray) : (near q d l).length ≤ l.length := List.length_filter_le _ _
theorem level_len (q : List Int) (l : List ByteArray) (d : Nat) : (level q l d).length ≤ l.length := by unfold level; rw [List.length_map]; exact near_len q d l
theorem feed_len (first : Bool) (af : S24) (bt : Int) : ∀ (items l : List S24), (feed first af bt l items).1.length ≤ l.length + items.length
  | [], l => by simp [feed]
  | x :: xs, l => by
    unfold feed
    split
    · split
      · simp
      · have := feed_len first af bt xs (l ++ [x])
        simp at this ⊢
        omega
    · have := feed_len first af bt xs l
      simp
      omega
/-- A graph of words: its first node stands for all of them. -/
structure Graph (ns : List S72) (l : List ByteArray) : Prop where
  rep : ∃ f, Rep f ns 0 l
  good : GoodR (restsOf l)
  size : bytesOf_ l + l.length ≤ 100000
theorem next_l0 (q : List Int) (hq : q.length ≤ 16) (ns : List S72) (l : List ByteArray) (hG : Graph ns l) (first : Bool) (af : S24) (bt : Int) (top : Nat) (ht : top ≤ 5) : ∀ (n d : Nat), d + n = top → ∀ (b : List S24), b.length + n * l.length ≤ 900000 →
    ∃ K0, ∀ k kq, K0 ≤ k → K0 ≤ kq → walk_Next.l0 k q ns first af bt top kq d (b, false) = some (feed first af bt b (levels q l d n)) := by
  intro n
  induction n with
  | zero =>
    intro d hd b _
    refine ⟨1, fun k kq _ hkq => ?_⟩
    obtain ⟨m, rfl⟩ : ∃ m, kq = m + 1 := ⟨kq - 1, by omega⟩
    simp only [walk_Next.l0]
    rw [if_neg (by omega)]
    simp [levels, feed]
  | succ n ih =>
    intro d hd b hb
    have hsz := hG.size
    have hnl := near_len q d l
    have hmul : (n + 1) * l.length = n * l.length + l.length := by rw [Nat.add_mul, Nat.one_mul]
    obtain ⟨f, hR⟩ := hG.rep
    have hrun := runs_next (d : Int) first af bt (near q d l) b (by omega)
    obtain ⟨K1, h1⟩ := each_ev q d ns (nextStep 3 (d : Int) first af bt) (by omega) hq f l hR hG.good hG.size (b, false) _ hrun
    have hlv : feed first af bt b ((near q d l).map fun w => ⟨(d : Int), w⟩) = feed first af bt b (level q l d) := rfl
    have hfl := feed_len first af bt (level q l d) b
    have hll := level_len q l d
    by_cases hm : (feed first af bt b (level q l d)).2 = true
    · refine ⟨max K1 3 + 1, fun k kq hk hkq => ?_⟩
      obtain ⟨m, rfl⟩ : ∃ m, kq = m + 1 := ⟨kq - 1, by omega⟩
      have h2 : walk_each.f k q d ns (nextStep 3 (d : Int) first af bt) (b, false) = some _ := h1 k (by omega)
      simp only [walk_Next.l0]
      rw [if_pos (by omega), nextStep_eq k (by omega), h2, Option.bind_some, hlv, if_pos hm, levels_succ, feed_append, if_pos hm]
    · obtain ⟨K2, h3⟩ := ih (d + 1) (by omega) (feed first af bt b (level q l d)).1 (by omega)
      refine ⟨max (max K1 3) K2 + 1, fun k kq hk hkq => ?_⟩
      obtain ⟨m, rfl⟩ : ∃ m, kq = m + 1 := ⟨kq - 1, by omega⟩
      have h2 : walk_each.f k q d ns (nextStep 3 (d : Int) first af bt) (b, false) = some _ := h1 k (by omega)
      simp only [walk_Next.l0]
      rw [if_pos (by omega), nextStep_eq k (by omega), h2, Option.bind_some, hlv, if_neg hm, levels_succ, feed_append, if_neg hm]
      have h4 := h3 k m (by omega) (by omega)
      have e : (feed first af bt b (level q l d)) = ((feed first af bt b (level q l d)).1, false) := Prod.ext rfl (by simpa using hm)
      rw [← h4]
      congr 1
/-- The next batch: the items of all distances up to k, behind 'after', as many as are wanted. -/
def allP (s : ByteArray) (k : Int) (l : List ByteArray) : List S24 := if mayAsk s k then levels (runes s 0) l 0 (k.toNat + 1) else []
def restP (s : ByteArray) (k : Int) (l : List ByteArray) (first : Bool) (af : S24) : List S24 := (allP s k l).filter (keepP first af)
def nextP (s : ByteArray) (k : Int) (l : List ByteArray) (first : Bool) (af : S24) (batch : Int) : List S24 × Bool := ((restP s k l first af).take batch.toNat, decide ((restP s k l first af).length ≤ batch.toNat))
theorem next_ev {ns : List S72} {l : List ByteArray} (hG : Graph ns l) (s : ByteArray) (hs : s.size ≤ 1000000) (k : Int) (first : Bool) (af : S24) (batch : Int) : Ev (fun K => walk_Next.f K ns s k first af batch) (nextP s k l first af batch) := by
  unfold nextP restP allP
  by_cases hm : mayAsk s k
  · obtain ⟨⟨hc, hl⟩, h0, h4⟩ := hm
    have hm : mayAsk s k := ⟨⟨hc, hl⟩, h0, h4⟩
    have hsz := hG.size
    obtain ⟨m, rfl⟩ := Int.eq_ofNat_of_zero_le h0
    obtain ⟨K0, hK⟩ := next_l0 (runes s 0) hl ns l hG first af (if batch < 0 then 0 else batch) (m + 1) (by omega) (m + 1) 0 (by omega) [] (by
      have : (m + 1) * l.length ≤ 5 * l.length := Nat.mul_le_mul_right _ (by omega)
      simp only [List.length_nil]
      omega)
    refine ⟨K0, fun k hk => ?_⟩
    have hK' := hK k k hk hk
    show walk_Next.f k ns s m first af batch = _
    unfold walk_Next.f
    rw [walk_asked_eq hs, if_pos hm, Option.bind_some, if_pos rfl]
    have hbt : (if batch < 0 then 0 else batch) = ((batch.toNat : Nat) : Int) := by split <;> omega
    rw [if_pos hm]
    rw [hbt] at hK' ⊢
    have e1 : ((m : Int) + 1) = ((m + 1 : Nat) : Int) := by omega
    rw [e1]
    show (walk_Next.l0 k (runes s 0) ns first af ((batch.toNat : Nat) : Int) ((m + 1 : Nat) : Int) k ((0 : Nat) : Int) ([], false)).bind _ = _
    rw [hK', Option.bind_some, feed_eq first af batch.toNat _ [] (by simp)]
    simp only [List.nil_append, List.length_nil, Nat.sub_zero, Int.toNat_natCast]
    congr 2
    rw [Bool.eq_iff_iff]
    simp
  · refine ⟨0, fun k' _ => ?_⟩
    show walk_Next.f k' ns s k first af batch = _
    unfold walk_Next.f
    rw [walk_asked_eq hs, if_neg hm, Option.bind_some, if_neg (by simp), if_neg hm]
    simp
theorem small_bytes {l : List ByteArray} (h : ∀ s ∈ l, s.size ≤ 100) : bytesOf_ l ≤ 100 * l.length := by
  induction l with
  | nil => simp [bytesOf_]
  | cons s t ih =>
    have h1 := h s List.mem_cons_self
    have h2 := ih (fun x hx => h x (List.mem_cons_of_mem _ hx))
    simp only [bytesOf_, List.map_cons, List.sum_cons, List.length_cons] at h2 ⊢
    omega
theorem edges_cons (f : Nat) (s : ByteArray) (t : List ByteArray) (es : List S91) (st : Bld) : edges (f + 1) (s :: t) es st = if s.size ≤ 1000000 ∧ 0 < s.size ∧ es.length ≤ 1000000 ∧ (s :: t).length ≤ 1000000 then
    (node f (grp (hd s) (wd s) (s :: t)) st).bind fun y => edges f ((s :: t).drop (grp (hd s) (wd s) (s :: t)).length) (es ++ [⟨((Utf8.decode s 0).1 : Int), y.1⟩]) y.2 else none := by
  simp only [edges]
  rfl
theorem node_mono : ∀ f : Nat, (∀ l st r, node f l st = some r → node (f + 1) l st = some r) ∧ (∀ l es st r, edges f l es st = some r → edges (f + 1) l es st = some r)
  | 0 => ⟨fun _ _ _ h => by simp [node] at h, fun _ _ _ _ h => by simp [edges] at h⟩
  | f + 1 => by
    obtain ⟨h1, h2⟩ := node_mono f
    refine ⟨fun l st r h => ?_, fun l es st r h => ?_⟩
    · rw [node] at h ⊢
      by_cases hc : l ≠ [] ∧ (Lib.join (l.map (·.data.toList)) [255]).length ≤ 1000000 ∧ st.ns.length ≤ 1000000 ∧ l.length ≤ 1000000
      · rw [if_pos hc] at h ⊢
        cases hF : st.F (restsKey l) with
        | some n => rw [hF] at h; exact h
        | none =>
          rw [hF] at h
          dsimp only at h ⊢
          obtain ⟨y, hy, hr⟩ := Option.bind_eq_some_iff.1 h
          rw [h2 _ _ _ _ hy]
          exact hr
      · rw [if_neg hc] at h; cases h
    · cases l with
      | nil => simp only [edges] at h ⊢; exact h
      | cons s t =>
        rw [edges_cons] at h
        split at h
        · rename_i hc
          rw [edges_cons, if_pos hc]
          obtain ⟨y, hy, hr⟩ := Option.bind_eq_some_iff.1 h
          rw [h1 _ _ _ hy, Option.bind_some]
          have h3 := h2 _ _ _ _ hr
          exact h3
        · cases h
theorem node_up {f f' : Nat} (hf : f ≤ f') {l : List ByteArray} {st : Bld} {r : Int × Bld} (h : node f l st = some r) : node f' l st = some r := by
  induction hf with
  | refl => exact h
  | step _ ih => exact (node_mono _).1 _ _ _ ih
theorem build_ev {l : List ByteArray} (hs : Small l) : ∃ e ns, Ev (fun K => graph_Build.f K l) (e, ns) ∧ (e = 0 → GoodW l ∧ Graph ns l) := by
  obtain ⟨e, he, hg⟩ := good_ev hs
  have hb := small_bytes hs.2
  have h80 := hs.1
  by_cases h0 : e = 0
  · subst h0
    have hw := hg rfl
    by_cases hl : l = []
    · subst hl
      refine ⟨0, [z72], ?_, fun _ => ⟨hw, ⟨2, ?_⟩, ⟨by simp [restsOf, isEnd], by simp [restsOf, isEnd]⟩, by simp [bytesOf_]⟩⟩
      · unfold graph_Build.f
        refine Ev.bind (f := fun K e => if e = 0 then (if ([] : List ByteArray) = [] then some (0, [z72]) else (node K [] ⟨[], fun _ => none⟩).bind fun y => some (0, y.2.ns)) else some (e, [])) he ?_
        simp only [if_true]
        exact Ev.now _
      · simp [Rep, RepE, z72, isEnd, restsOf]
    · have hgl : GoodL l := ⟨hl, fun s hs' => (hw.words s hs').1, hw.sorted⟩
      obtain ⟨r, st, h1, h2, ⟨f', h3⟩, h4, h5⟩ := (node_spec (2 * bytesOf_ l + l.length + 2)).1 l ⟨[], fun _ => none⟩ (bytesOf_ l + 1) hgl (fun _ _ h => by cases h) (Nat.lt_succ_self _) (Nat.le_refl _) (by omega) (by simp only [List.length_nil]; omega)
      have hr0 : r = 0 := by
        rw [node] at h1
        split at h1
        · dsimp only at h1
          obtain ⟨y, _, hy⟩ := Option.bind_eq_some_iff.1 h1
          split at hy
          · exact (Prod.mk.inj (Option.some.inj hy)).1.symm
          · cases hy
        · cases h1
      subst hr0
      refine ⟨0, st.ns, ?_, fun _ => ⟨hw, ⟨f', h3⟩, restsOf_good hgl, by omega⟩⟩
      unfold graph_Build.f
      refine Ev.bind (f := fun K e => if e = 0 then (if l = [] then some (0, [z72]) else (node K l ⟨[], fun _ => none⟩).bind fun y => some (0, y.2.ns)) else some (e, [])) he ?_
      simp only [hl, if_true, if_false]
      exact ⟨2 * bytesOf_ l + l.length + 2, fun k hk => by show (node k l ⟨[], fun _ => none⟩).bind _ = _; rw [node_up hk h1]; rfl⟩
  · refine ⟨e, [], ?_, fun h => absurd h h0⟩
    unfold graph_Build.f
    refine Ev.bind (f := fun K e => if e = 0 then (if l = [] then some (0, [z72]) else (node K l ⟨[], fun _ => none⟩).bind fun y => some (0, y.2.ns)) else some (e, [])) he ?_
    simp only [h0, if_false]
    exact Ev.now _
end Go.Proofs.Ytklidannncajiaa.OW

-- Laid by a program of this session (wip/ownprint.py, wip/hooks.py) over the seat's translation. Lean checks it.
namespace Go.Proofs.Ytklidannncajiaa.OW
open Go.RowKit Go.Proofs.YtklidannncajiaaW.PrintWords Go.Proofs.YtklidannncajiaaW.PrintLast Go.Proofs.YtklidannncajiaaW.PrintMore
attribute [local go_sem] max2_int min2_int max_two min_two max_three min_three max_four min_four   -- for this text's walks alone
set_option linter.unusedVariables false
set_option linter.unusedSimpArgs false

/-! ### rank_May: function 19 -/
/-! ### inkhornlaw0_Low: function 20 -/
def inkhornlaw0_Low.f (a0 : Int) (a1 : Int) : Option (Int) := if (IntKind.u64.wrap (a1)) = 0 then (none) else (some (wrap64 (Int.tmod (IntKind.u64.wrap (a0)) (IntKind.u64.wrap (a1)))))
set_option maxHeartbeats 8000000 in
set_option maxRecDepth 100000 in
theorem inkhornlaw0_Low.calls (a0 : Int) (a1 : Int) (r : Int) (w : World) (h : inkhornlaw0_Low.f a0 a1 = some r) :
    Calls Try.prog 20 #[.int .i64 a0, .int .i64 a1] w fun e w' => e = .returned (.int .i64 r) ∧ Drawn0 w w' := by
  have H : (if (IntKind.u64.wrap (a1)) = 0 then (none) else (some (wrap64 (Int.tmod (IntKind.u64.wrap (a0)) (IntKind.u64.wrap (a1)))))) = some r := h
  clear h
  by_cases c3 : (IntKind.u64.wrap (a1)) = 0
  · rw [if_pos c3] at H
    exact absurd H (by simp)
  · rw [if_neg c3] at H
    have c3b0 : ((IntKind.u64.wrap (a1)) == 0) = false := beq_eq_false_iff_ne.mpr c3
    have c3b1 : ((IntKind.u64.wrap (a1)) != 0) = true := bne_iff_ne.mpr c3
    obtain rfl := Option.some.inj H
    go_enter Try.func20, Try.ntmps20
    go_wp2
    go_ret
    exact ⟨by first | rfl | (simp; done) | (simp [*]; done), by repeat (first | exact Drawn0.refl _ | apply Drawn0.step)⟩

-- NOT PRINTED: function 4 (inkhornlaw11_WalkSplit)

-- NOT PRINTED: function 21 (walk_Dists)

/-! ### inkhornlaw0_SameTexts: function 22 -/
/-! ### inkhornref11_Dists: function 23 -/
/-! ### inkhornlaw0_OverTexts: function 24 -/
-- NOT PRINTED: function 5 (inkhornlaw11_WalkDists)

-- NOT PRINTED: function 6 (inkhornlaw11_WalkFar)

-- NOT PRINTED: function 66 (slices_BinarySearchFunc_string_string_string)

-- NOT PRINTED: function 45 (list_At)

-- NOT PRINTED: function 29 (list_Without)

-- NOT PRINTED: function 7 (inkhornlaw11_WalkLevels)

end Go.Proofs.Ytklidannncajiaa.OW
