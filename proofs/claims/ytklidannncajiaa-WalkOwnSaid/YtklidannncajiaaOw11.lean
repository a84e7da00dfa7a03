/- What the row of the law WalkOwn leans on: contracts of functions and plain laws, each for all inputs that its own theorem names. -/
import Derived.Test.YtklidannncajiaaOw6
import Derived.Test.YtklidannncajiaaOw10
import Derived.Test.YtklidannncajiaaOw9
import Derived.Test.YtklidannncajiaaOw0
import Derived.Test.YtklidannncajiaaOw2
import Derived.Test.YtklidannncajiaaOw1
import Derived.Test.YtklidannncajiaaOw8
import Derived.Outline
import Derived.Sort.Grow
namespace Go.Proofs.Ytklidannncajiaa.OW
open Go.RowKit Go.Proofs.YtklidannncajiaaW.PrintWords Go.Proofs.YtklidannncajiaaW.PrintLast Go.Proofs.YtklidannncajiaaW.PrintMore

/-- Is a word passed over: it is not behind 'after'? -/
def nextSkip (k : Nat) (d : Int) (first : Bool) (af : S24) (s : ByteArray) : Option Bool := if first = true then some false else (rank_Less.f k af.f0 af.f1 d s).bind fun b => some (!b)
def nextStep (k : Nat) (d : Int) (first : Bool) (af : S24) (batch : Int) (a : List S24 × Bool) (s : ByteArray) : Option ((List S24 × Bool) × Bool) :=
  (nextSkip k d first af s).bind fun skip => if skip = true then some (a, !a.2) else if (a.1.length : Int) = batch then some ((a.1, true), false) else if a.1.length < 1000000 then some ((a.1 ++ [⟨d, s⟩], a.2), !a.2) else none
/-- The variables of walk.Next that its closure has: their blocks. -/
structure NextAt where
  B : Nat
  bf : Nat
  ba : Nat
  bl : Nat
  bb : Nat
  bm : Nat
def NextMay (N : NextAt) (k t : Nat) : Prop := N.B ≤ k ∧ (k = N.bl ∧ t = 31 ∨ k = N.bm ∧ t = 4 ∨ k ≠ N.ba ∧ t = 24)
structure NextInv (N : NextAt) (first : Bool) (af : S24) (batch : Int) (a : List S24 × Bool) (W : World) : Prop where
  bl : N.B ≤ N.bl
  bm : N.B ≤ N.bm
  ne : N.bf ≠ N.bm
  first : W.heap[N.bf]? = some (.cells #[.bool first] 4 (0, 0))
  after : W.heap[N.ba]? = some (.cells #[.int .i64 af.f0, .string af.f1] 24 (0, 0))
  batch : W.heap[N.bb]? = some (.cells #[.int .i64 batch] 3 (0, 0))
  more : W.heap[N.bm]? = some (.cells #[.bool a.2] 4 (0, 0))
  list : ∃ v, W.heap[N.bl]? = some (.cells #[v] 31 (0, 0)) ∧ Kd.R k24 24 W N.B (fun k => k ≠ N.ba) v a.1
theorem NextInv.below {N : NextAt} {first : Bool} {af : S24} {batch : Int} {a : List S24 × Bool} {W W' : World} (h : NextInv N first af batch a W) (hb : Below W.heap.size W W') : NextInv N first af batch a W' := by
  obtain ⟨v, h1, h2⟩ := h.list
  exact ⟨h.bl, h.bm, h.ne, blk_below h.first hb, blk_below h.after hb, blk_below h.batch hb, blk_below h.more hb, v, blk_below h1 hb, Kd.R_below h2 hb⟩
theorem NextInv.keep {N : NextAt} {first : Bool} {af : S24} {batch : Int} {a : List S24 × Bool} {W W' : World} (h : NextInv N first af batch a W) (hk : KeptBy (fun _ t => t = 96) W W') : NextInv N first af batch a W' := by
  obtain ⟨v, h1, h2⟩ := h.list
  exact ⟨h.bl, h.bm, h.ne, (hk.typed ⟨_, h.first⟩ (by decide)).trans h.first, (hk.typed ⟨_, h.after⟩ (by decide)).trans h.after, (hk.typed ⟨_, h.batch⟩ (by decide)).trans h.batch, (hk.typed ⟨_, h.more⟩ (by decide)).trans h.more, v, (hk.typed ⟨_, h1⟩ (by decide)).trans h1, hk.row h2 (fun k t ht _ hc => by
    have : t = 24 := by simpa [k24, Kd.iso, Kd.pair, Kd.int, Kd.string, Kd.scalar] using ht
    omega)⟩
theorem NextInv.full {N : NextAt} {first : Bool} {af : S24} {batch : Int} {a : List S24 × Bool} {W : World} (h : NextInv N first af batch a W) (b : Bool) : NextInv N first af batch (a.1, b) (W.setCell ⟨N.bm, 0, none⟩ (.bool b)) := by
  obtain ⟨v, h1, h2⟩ := h.list
  exact ⟨h.bl, h.bm, h.ne, blk_far (p := ⟨N.bm, 0, none⟩) h.first h.ne _, blk_far (p := ⟨N.bm, 0, none⟩) h.after (blk_ne h.after h.more (by decide)) _, blk_far (p := ⟨N.bm, 0, none⟩) h.batch (blk_ne h.batch h.more (by decide)) _, blk_set h.more 0 _, v, blk_far (p := ⟨N.bm, 0, none⟩) h1 (blk_ne h1 h.more (by decide)) _, Kd.R_set h2 h.more (by decide) 0 _⟩
theorem NextInv.longer {N : NextAt} {first : Bool} {af : S24} {batch : Int} {a : List S24 × Bool} {W W1 : World} (h : NextInv N first af batch a W) {v v1 : Value} {l1 : List S24} (hv : W.heap[N.bl]? = some (.cells #[v] 31 (0, 0))) (hr : Kd.R k24 24 W N.B (fun k => k ≠ N.ba) v a.1) (hg : W.grownBy W1 v.ownBlock) (hr1 : Kd.R k24 24 W1 N.B (fun k => k ≠ N.ba) v1 l1) :
    NextInv N first af batch (l1, a.2) (W1.setCell ⟨N.bl, 0, none⟩ v1) ∧ KeptBy (NextMay N) W (W1.setCell ⟨N.bl, 0, none⟩ v1) := by
  have hbl := blk_grown hv hg (Kd.R_ne hr hv (by decide))
  have ha := blk_grown h.after hg (fun e => hr.1 _ e.symm rfl)
  have hf := blk_grown h.first hg (Kd.R_ne hr h.first (by decide))
  have hb := blk_grown h.batch hg (Kd.R_ne hr h.batch (by decide))
  have hm := blk_grown h.more hg (Kd.R_ne hr h.more (by decide))
  refine ⟨⟨h.bl, h.bm, h.ne, blk_far (p := ⟨N.bl, 0, none⟩) hf (blk_ne hf hbl (by decide)) _, blk_far (p := ⟨N.bl, 0, none⟩) ha (blk_ne ha hbl (by decide)) _, blk_far (p := ⟨N.bl, 0, none⟩) hb (blk_ne hb hbl (by decide)) _, blk_far (p := ⟨N.bl, 0, none⟩) hm (blk_ne hm hbl (by decide)) _, v1, blk_set hbl 0 _, Kd.R_set hr1 hbl (by decide) 0 _⟩, ?_⟩
  refine (KeptBy.of_grown hg (fun k hk => ?_)).trans (KeptBy.setCell W1 ⟨_, hbl⟩ ⟨h.bl, .inl ⟨rfl, rfl⟩⟩ _)
  obtain ⟨inner, ho⟩ := Kd.R_own hr
  exact ⟨24, own_typed ho k hk, own_base ho k hk, .inr (.inr ⟨hr.1 k hk, rfl⟩)⟩
set_option maxHeartbeats 4000000 in
set_option maxRecDepth 100000 in
theorem next_calls (k : Nat) (N : NextAt) (bd : Nat) (d : Int) (first : Bool) (af : S24) (batch : Int) (a a' : List S24 × Bool) (s : ByteArray) (go : Bool) (W : World) (hs : nextStep k d first af batch a s = some (a', go)) (hI : NextInv N first af batch a W) (hd : W.heap[bd]? = some (.cells #[.int .i64 d] 3 (0, 0))) :
    Calls Try.prog 37 #[.string s, .pointer (some ⟨bd, 0, none⟩), .pointer (some ⟨N.bf, 0, none⟩), .pointer (some ⟨N.ba, 0, none⟩), .pointer (some ⟨N.bl, 0, none⟩), .pointer (some ⟨N.bb, 0, none⟩), .pointer (some ⟨N.bm, 0, none⟩)] W fun e W' => e = .returned (.bool go) ∧ NextInv N first af batch a' W' ∧ W'.heap[bd]? = some (.cells #[.int .i64 d] 3 (0, 0)) ∧ KeptBy (NextMay N) W W' := by
  obtain ⟨l, more⟩ := a
  obtain ⟨skip, hk, hs⟩ := Option.bind_eq_some_iff.1 hs
  have HS := Aside0.mk hs
  clear hs
  have HI := Aside0.mk hI
  have HD := Aside0.mk hd
  have hc1 := block_cell hd
  have hb1 := (Below.refl W.heap.size W).alloc (Nat.le_refl _) (.cells #[.int .i64 d, .string s] 24)
  have hx1 := heap_alloc_new W (.cells #[.int .i64 d, .string s] 24)
  have HI1 := Aside0.mk (hI.below hb1)
  have HD1 := Aside0.mk (blk_below hd hb1)
  have HX1 := Aside0.mk hx1
  have HB1 := Aside0.mk hb1
  clear hI hd hb1 hx1
  go_enter Try.func37, Try.ntmps37
  go_upto_region 3 with fail
  have HK1 := Aside0.mk (KeptBy.of_below (P := NextMay N) HB1.out)
  clear hc1 HI HD HB1
  generalize W.alloc (.cells #[.int .i64 d, .string s] 24) = W1 at HI1 HD1 HX1 HK1 ⊢
  generalize W.heap.size = bx at HX1 ⊢
  have hc0 := block_cell HI1.out.first
  go_cut [17] (fun v17 w2 => v17 = .bool skip ∧ Aside0 (NextInv N first af batch (l, more) w2) ∧ Aside0 (w2.heap[bd]? = some (.cells #[.int .i64 d] 3 (0, 0))) ∧ Aside0 (w2.heap[bx]? = some (.cells #[.int .i64 d, .string s] 24 (0, 0))) ∧ Aside0 (KeptBy (NextMay N) W w2))
  case first =>
    unfold nextSkip at hk
    cases first with
    | true =>
      obtain rfl := Option.some.inj ((if_pos rfl).symm.trans hk)
      clear hk
      go_wp2_with fail
      go_meet
      exact ⟨rfl, HI1, HD1, HX1, HK1⟩
    | false =>
      obtain ⟨b, hb, hk2⟩ := Option.bind_eq_some_iff.1 ((if_neg (by simp)).symm.trans hk)
      obtain rfl := Option.some.inj hk2
      have HL := Aside0.mk hb
      clear hk hb hk2
      have ha0 : W1.cell? ⟨N.ba, 0, none⟩ = some (.int .i64 af.f0) := blk_cell HI1.out.after 0
      have ha1 : W1.cell? ⟨N.ba, 1, none⟩ = some (.string af.f1) := blk_cell HI1.out.after 1
      have hx0 : W1.cell? ⟨bx, 0, none⟩ = some (.int .i64 d) := blk_cell HX1.out 0
      have hx1 : W1.cell? ⟨bx, 1, none⟩ = some (.string s) := blk_cell HX1.out 1
      go_wp2_with ((with_reducible refine gate_callee (f := 38) rfl ?_); (try (refine gate_guard (by rfl) ?_; dsimp only)); refine goesL_ (some 23) rfl rfl Try.func38 (by kernel_rfl) rfl #[.agg #[.int .i64 af.f0, .string af.f1], .agg #[.int .i64 d, .string s]] rfl (by (try simp only [List.map_toArray, List.map_cons, List.map_nil]); first | done | rfl) ?_; (with_reducible refine (rank_Less.calls k af.f0 af.f1 d s b _ HL.out).mono ?_); rintro e w3 ⟨rfl, hb⟩; refine ⟨_, rfl, ?_⟩; have HI3 := Aside0.mk (HI1.out.below hb); have HD3 := Aside0.mk (blk_below HD1.out hb); have HX3 := Aside0.mk (blk_below HX1.out hb); have HK3 := Aside0.mk (HK1.out.trans (KeptBy.of_below hb)); clear hb ha0 ha1 hx0 hx1 hc0)
      go_meet
      exact ⟨rfl, HI3, HD3, HX3, HK3⟩
  case rest =>
    obtain ⟨rfl, HI, HD, HX, HK⟩ := hcut
    clear hc0 hk
    have hm := block_cell HI.out.more
    have hb := block_cell HI.out.batch
    obtain ⟨v, hv, hr⟩ := HI.out.list
    obtain ⟨Av, cv, ev⟩ := Kd.R_slice hr
    subst ev
    have hl := block_cell hv
    have HV := Aside0.mk hv
    have HR := Aside0.mk hr
    clear hv hr
    cases skip with
    | true =>
      obtain ⟨rfl, rfl⟩ := Prod.mk.inj (Option.some.inj ((if_pos rfl).symm.trans HS.out))
      go_wp2_with fail
      go_ret
      exact ⟨rfl, HI.out, HD.out, HK.out⟩
    | false =>
      have hs2 := (if_neg (show ¬ (false = true) by simp)).symm.trans HS.out
      dsimp only at hs2
      by_cases hlb : (l.length : Int) = batch
      · obtain ⟨rfl, rfl⟩ := Prod.mk.inj (Option.some.inj ((if_pos hlb).symm.trans hs2))
        have hlb2 : ((l.length : Int) == batch) = true := by simpa using hlb
        have HLB := Aside0.mk hlb
        clear hlb hs2 HS
        have hf := blk_frozen HI.out.more 0
        go_wp2_with fail
        go_ret
        exact ⟨rfl, HI.out.full true, blk_far (p := ⟨N.bm, 0, none⟩) HD.out (blk_ne HD.out HI.out.more (by decide)) _, HK.out.trans (KeptBy.setCell wc ⟨_, HI.out.more⟩ ⟨HI.out.bm, .inr (.inl ⟨rfl, rfl⟩)⟩ _)⟩
      · have hlb2 : ((l.length : Int) == batch) = false := by simpa using hlb
        have hs3 := (if_neg hlb).symm.trans hs2
        by_cases hll : l.length < 1000000
        case neg => exact absurd ((if_neg hll).symm.trans hs3) (by simp)
        obtain ⟨rfl, rfl⟩ := Prod.mk.inj (Option.some.inj ((if_pos hll).symm.trans hs3))
        have HLL := Aside0.mk hll
        clear hlb hs2 hs3 hll HS
        have hf := blk_frozen HV.out 0
        have hx0 : wc.cell? ⟨bx, 0, none⟩ = some (.int .i64 d) := blk_cell HX.out 0
        have hx1 : wc.cell? ⟨bx, 1, none⟩ = some (.string s) := blk_cell HX.out 1
        have HZ := Aside0.mk (Nat.le_trans HI.out.bl (Nat.le_of_lt (blk_lt HV.out)))
        go_wp2_with ((with_reducible refine gate_builtin (b := .append) (xs := #[.tmp 13, .tmp 15]) rfl ?_); at_builtin; refine Kd.R_append k24 (w0 := wc) N.B rfl (.tmp 13) (.tmp 15) 31 24 (.agg #[(.int .i64 0), (.string ⟨#[]⟩)]) 24 rfl Try.underlying31 info24 rfl (by decide) (by omega) (.slice Av l.length cv) l (⟨d, s⟩ : S24) [.int .i64 d, .string s] (fun kk => kk ≠ N.ba) (fun _ => False) rfl rfl ?aP (fun _ hk => hk.elim) (fun kk hk => by have := blk_lt HI.out.after; omega) HR.out (Below.refl _ _) HZ.out (by have := HLL.out; omega) ?_; (case aP => exact k24_mkM _ _ _ (⟨d, s⟩ : S24)); intro v1 w1 ho hb1 hg hat; obtain ⟨A1, c1, e1⟩ := Kd.R_slice ho; subst e1; rw [List.length_append, List.length_singleton] at ho; have HN := Aside0.mk (HI.out.longer HV.out HR.out hg ho); have HM1 := Aside0.mk (blk_grown HI.out.more hg (Kd.R_ne HR.out HI.out.more (by decide))); have HV1 := Aside0.mk (blk_grown HV.out hg (Kd.R_ne HR.out HV.out (by decide))); have HD1 := Aside0.mk (blk_grown HD.out hg (Kd.R_ne HR.out HD.out (by decide))); clear ho hb1 hg hat hm hb hl hf hx0 hx1; have hl1 := block_cell HV1.out; have hf1 := blk_frozen HV1.out 0; have hm1 := block_cell HM1.out; have hne : N.bm ≠ N.bl := blk_ne HM1.out HV1.out (by decide))
        go_ret
        exact ⟨rfl, HN.out.1, blk_far (p := ⟨N.bl, 0, none⟩) HD1.out (blk_ne HD1.out HV1.out (by decide)) _, HK.out.trans HN.out.2⟩
theorem next_yields (k : Nat) (N : NextAt) (bd : Nat) (d : Int) (first : Bool) (af : S24) (batch : Int) :
    YieldsBy 37 #[.pointer (some ⟨bd, 0, none⟩), .pointer (some ⟨N.bf, 0, none⟩), .pointer (some ⟨N.ba, 0, none⟩), .pointer (some ⟨N.bl, 0, none⟩), .pointer (some ⟨N.bb, 0, none⟩), .pointer (some ⟨N.bm, 0, none⟩)] (NextMay N) (fun a W => NextInv N first af batch a W ∧ W.heap[bd]? = some (.cells #[.int .i64 d] 3 (0, 0))) (nextStep k d first af batch) where
  fn := ⟨_, Try.func37, by kernel_rfl, rfl⟩
  call := fun a s a' go W hs hI => (next_calls k N bd d first af batch a a' s go W hs hI.1 hI.2).mono fun e W' ⟨h1, h2, h3, h4⟩ => ⟨h1, ⟨h2, h3⟩, h4⟩
  keep := fun a W W' hI hk => ⟨hI.1.keep hk, (hk.typed ⟨_, hI.2⟩ (by decide)).trans hI.2⟩
  pc := fun k t h => by rcases h.2 with h | h | h <;> omega
def walk_Next.l0 (k : Nat) (q : List Int) (ns : List S72) (first : Bool) (af : S24) (batch top : Int) : Nat → Int → (List S24 × Bool) → Option (List S24 × Bool)
  | 0, _, _ => none
  | kq + 1, d, a => if d < top then (walk_each.f k q d ns (nextStep k d first af batch) a).bind fun a' => if a'.2 = true then some a' else walk_Next.l0 k q ns first af batch top kq (d + 1) a' else some a
/-- The next batch of near words, and whether there are no others. -/
def walk_Next.f (k : Nat) (ns : List S72) (s : ByteArray) (kk : Int) (first : Bool) (af : S24) (batch : Int) : Option (List S24 × Bool) :=
  (walk_asked.f s kk).bind fun t => if t.2 = true then (walk_Next.l0 k t.1 ns first af (if batch < 0 then 0 else batch) (kk + 1) k 0 ([], false)).bind fun a => some (a.1, !a.2) else some ([], true)
theorem asked_bound {s : ByteArray} {k : Int} {q : List Int} (h : walk_asked.f s k = some (q, true)) : 0 ≤ k ∧ k ≤ 4 := by
  unfold walk_asked.f at h
  by_cases c0 : k < 0
  · rw [if_pos c0] at h
    have := (Prod.mk.inj (Option.some.inj h)).2
    cases this
  · rw [if_neg c0] at h
    by_cases c1 : k > 4
    · rw [if_pos c1] at h
      have := (Prod.mk.inj (Option.some.inj h)).2
      cases this
    · omega
attribute [local go_sem] max2_int max_two
set_option maxHeartbeats 4000000 in
set_option maxRecDepth 100000 in
theorem walk_Next.calls (k : Nat) (g : Nat) (ns : List S72) (s : ByteArray) (kk : Int) (first : Bool) (af : S24) (batch : Int) (r1 : List S24) (r2 : Bool) (w : World) (hG : GraphAt w g ns) (h : walk_Next.f k ns s kk first af batch = some (r1, r2)) :
    Calls Try.prog 15 #[.pointer (some ⟨g, 0, none⟩), .string s, .int .i64 kk, .bool first, .agg #[.int .i64 af.f0, .string af.f1], .int .i64 batch] w fun e w' => ∃ v0_ : Value, e = .returned (.tuple #[v0_, .bool r2]) ∧ Kd.R k24 24 w' w.heap.size (fun _ => True) v0_ r1 ∧ Below w.heap.size w w' := by
  obtain ⟨⟨q, ok⟩, ha, h⟩ := Option.bind_eq_some_iff.1 h
  have HG := Aside0.mk hG
  have HA := Aside0.mk ha
  clear hG ha
  have hb0 := (Below.refl w.heap.size w).alloc (Nat.le_refl _) (.cells #[.bool first] 4)
  have hb1 := hb0.alloc (by simp) (.cells #[.int .i64 af.f0, .string af.f1] 24)
  have hb2 := hb1.alloc (by simp; omega) (.cells #[.int .i64 batch] 3)
  have h0 := blk_alloc (blk_alloc (heap_alloc_new w (.cells #[.bool first] 4)) (.cells #[.int .i64 af.f0, .string af.f1] 24)) (.cells #[.int .i64 batch] 3)
  have h1 := blk_alloc (heap_alloc_new (w.alloc (.cells #[.bool first] 4)) (.cells #[.int .i64 af.f0, .string af.f1] 24)) (.cells #[.int .i64 batch] 3)
  have h2 := heap_alloc_new ((w.alloc (.cells #[.bool first] 4)).alloc (.cells #[.int .i64 af.f0, .string af.f1] 24)) (.cells #[.int .i64 batch] 3)
  have e1 : (w.alloc (.cells #[.bool first] 4)).heap.size = w.heap.size + 1 := by simp
  have e2 : ((w.alloc (.cells #[.bool first] 4)).alloc (.cells #[.int .i64 af.f0, .string af.f1] 24)).heap.size = w.heap.size + 1 + 1 := by simp
  rw [e1] at h1
  rw [e2] at h2
  clear e1 e2
  have HB := Aside0.mk hb2
  have H0 := Aside0.mk h0
  have H1 := Aside0.mk h1
  have H2 := Aside0.mk h2
  clear hb0 hb1 hb2 h0 h1 h2
  go_enter Try.func15, Try.ntmps15
  go_upto_region 1 with fail
  generalize ((w.alloc (.cells #[.bool first] 4)).alloc (.cells #[.int .i64 af.f0, .string af.f1] 24)).alloc (.cells #[.int .i64 batch] 3) = w1 at HB H0 H1 H2 ⊢
  cases ok with
  | false =>
    obtain ⟨rfl, rfl⟩ := Prod.mk.inj (Option.some.inj ((if_neg (by simp)).symm.trans h))
    clear h
    go_wp2_with ((with_reducible refine gate_callee (f := 35) rfl ?_); (try (refine gate_guard (by rfl) ?_; dsimp only)); refine goesL_ (some 23) rfl rfl Try.func35 (by kernel_rfl) rfl #[.pointer (some ⟨g, 0, none⟩), .string s, .int .i64 kk] rfl (by (try simp only [List.map_toArray, List.map_cons, List.map_nil]); first | done | rfl) ?_; (with_reducible refine (walk_asked.calls g s kk q false _ HA.out).mono ?_); rintro e w2 ⟨v, rfl, ho, hb⟩; refine ⟨_, rfl, ?_⟩; obtain ⟨A1, c1, e1⟩ := Kd.R_slice ho; subst e1; have HB2 := Aside0.mk (below_step HB.out hb); clear ho hb)
    go_ret2
    exact ⟨_, rfl, Kd.R_nil _ _ _ _ _, HB2.out⟩
  | true =>
    obtain ⟨a, hE, h⟩ := Option.bind_eq_some_iff.1 ((if_pos rfl).symm.trans h)
    obtain ⟨rfl, rfl⟩ := Prod.mk.inj (Option.some.inj h)
    have HE := Aside0.mk hE
    clear h hE
    obtain ⟨hk0, hk4⟩ := asked_bound HA.out
    go_upto_region 4 with ((with_reducible refine gate_callee (f := 35) rfl ?_); (try (refine gate_guard (by rfl) ?_; dsimp only)); refine goesL_ (some 23) rfl rfl Try.func35 (by kernel_rfl) rfl #[.pointer (some ⟨g, 0, none⟩), .string s, .int .i64 kk] rfl (by (try simp only [List.map_toArray, List.map_cons, List.map_nil]); first | done | rfl) ?_; (with_reducible refine (walk_asked.calls g s kk q true _ HA.out).mono ?_); rintro e w2 ⟨v, rfl, ho, hb⟩; refine ⟨_, rfl, ?_⟩; obtain ⟨A1, c1, e1⟩ := Kd.R_slice ho; subst e1; have HO2 := Aside0.mk ho; have HS2 := Aside0.mk hb.size; have HB2 := Aside0.mk (below_step HB.out hb); have H02 := Aside0.mk (blk_below H0.out hb); have H12 := Aside0.mk (blk_below H1.out hb); have H22 := Aside0.mk (blk_below H2.out hb); clear ho hb HB H0 H1 H2)
    go_upto_region 5 with fail
    have hb3 := (Below.refl w2.heap.size w2).alloc (Nat.le_refl _) (.cells #[.slice none 0 0] 31)
    have HL3 := Aside0.mk (heap_alloc_new w2 (.cells #[.slice none 0 0] 31))
    have HLB := Aside0.mk HB2.out.size
    have HO3 := Aside0.mk (Kd.R_below HO2.out hb3)
    have HB3 := Aside0.mk (below_step HB2.out hb3)
    have H03 := Aside0.mk (blk_below H02.out hb3)
    have H13 := Aside0.mk (blk_below H12.out hb3)
    have H23 := Aside0.mk (blk_below H22.out hb3)
    clear hb3 HO2 HB2 H02 H12 H22
    generalize w2.alloc (.cells #[.slice none 0 0] 31) = w3 at HL3 HO3 HB3 H03 H13 H23 ⊢
    generalize w2.heap.size = bl at HL3 HLB HS2 ⊢
    have hc := block_cell H23.out
    have hf := blk_frozen H23.out 0
    go_upto_region 6 with fail
    generalize (if batch < 0 then 0 else batch) = nb at HE ⊢
    have HB4 := Aside0.mk (below_set HB3.out (show w.heap.size ≤ w.heap.size + 1 + 1 by omega) (j := 0) (v := .int .i64 nb))
    have H24 := Aside0.mk (blk_set H23.out 0 (.int .i64 nb))
    have H04 := Aside0.mk (blk_far (p := ⟨w.heap.size + 1 + 1, 0, none⟩) H03.out (by show w.heap.size ≠ w.heap.size + 1 + 1; omega) (.int .i64 nb))
    have H14 := Aside0.mk (blk_far (p := ⟨w.heap.size + 1 + 1, 0, none⟩) H13.out (by show w.heap.size + 1 ≠ w.heap.size + 1 + 1; omega) (.int .i64 nb))
    have HL4 := Aside0.mk (blk_far (p := ⟨w.heap.size + 1 + 1, 0, none⟩) HL3.out (blk_ne HL3.out H23.out (by decide)) (.int .i64 nb))
    have HO4 := Aside0.mk (Kd.R_set HO3.out H23.out (by decide) 0 (.int .i64 nb))
    have HX4 := Aside0.mk (show w.heap.size < (w3.setCell ⟨w.heap.size + 1 + 1, 0, none⟩ (.int .i64 nb)).heap.size from blk_lt H04.out)
    clear hc hf HO3 HB3 H03 H13 H23 HL3
    generalize w3.setCell ⟨w.heap.size + 1 + 1, 0, none⟩ (.int .i64 nb) = w4 at HB4 H04 H14 H24 HL4 HO4 HX4 ⊢
    go_upto_region 7 with fail
    have hb5 := (Below.refl w4.heap.size w4).alloc (Nat.le_refl _) (.cells #[.bool false] 4)
    have HI5 := Aside0.mk (show NextInv ⟨w.heap.size, w.heap.size, w.heap.size + 1, bl, w.heap.size + 1 + 1, w4.heap.size⟩ first af nb ([], false) (w4.alloc (.cells #[.bool false] 4)) from
      ⟨HLB.out, HB4.out.size, Nat.ne_of_lt HX4.out, blk_below H04.out hb5, blk_below H14.out hb5, blk_below H24.out hb5, heap_alloc_new w4 _, _, blk_below HL4.out hb5, Kd.R_nil _ _ _ _ _⟩)
    have HO5 := Aside0.mk (Kd.R_below HO4.out hb5)
    have HB5 := Aside0.mk (below_step HB4.out hb5)
    clear hb5 HO4 HB4 H04 H14 H24 HL4 HX4 HS2 HLB
    generalize w4.alloc (.cells #[.bool false] 4) = w5 at HI5 HO5 HB5 ⊢
    generalize w4.heap.size = bm at HI5 ⊢
    go_wp2_with fail
    go_loopg [32] k (fun kq v32 W => ∃ (d : Int) (b : List S24 × Bool), v32 = .int .i64 d ∧ (0 ≤ d ∧ d ≤ 5) ∧ Aside0 (walk_Next.l0 k q ns first af nb (kk + 1) kq d b = some a) ∧ Aside0 (NextInv ⟨w.heap.size, w.heap.size, w.heap.size + 1, bl, w.heap.size + 1 + 1, bm⟩ first af nb b W) ∧ Aside0 (Kd.R (Kd.int .i32) 21 W w1.heap.size (fun _ => True) (.slice A1 q.length c1) q) ∧ Aside0 (Below w.heap.size w W))
    case atStart => exact ⟨0, _, rfl, by omega, HE, HI5, HO5, HB5⟩
    case round =>
      clear HE HI5 HO5 HB5
      obtain ⟨d, b, rfl, ⟨hd0, hd5⟩, HA2, HI, HO, HB⟩ := hrel
      cases gk with
      | zero => exact absurd HA2.out (by simp [walk_Next.l0])
      | succ ko =>
        have H := HA2.out
        simp only [walk_Next.l0] at H
        clear HA2
        by_cases hlt : d < kk + 1
        · rw [if_pos hlt] at H
          obtain ⟨b', hE, hR⟩ := Option.bind_eq_some_iff.1 H
          have HE := Aside0.mk hE
          have HR := Aside0.mk hR
          clear H hE hR
          have hdt : decide (d < kk + 1) = true := decide_eq_true hlt
          go_upto_region 10 with fail
          have hb6 := (Below.refl wr.heap.size wr).alloc (Nat.le_refl _) (.cells #[.int .i64 d] 3)
          have HD6 := Aside0.mk (heap_alloc_new wr (.cells #[.int .i64 d] 3))
          have HI6 := Aside0.mk (HI.out.below hb6)
          have HO6 := Aside0.mk (Kd.R_below HO.out hb6)
          have HB6 := Aside0.mk (below_step HB.out hb6)
          clear hb6 HI HO HB
          generalize wr.alloc (.cells #[.int .i64 d] 3) = w6 at HD6 HI6 HO6 HB6 ⊢
          generalize wr.heap.size = bd at HD6 ⊢
          have HC := Aside0.mk (show ∀ W, KeptBy (EachMay (NextMay ⟨w.heap.size, w.heap.size, w.heap.size + 1, bl, w.heap.size + 1 + 1, bm⟩) w6.heap.size) w6 W → GraphAt W g ns ∧ Kd.C (Kd.int .i32) W A1 q.length q from fun W hk =>
            ⟨HG.out.below (HB6.out.trans (hk.to_below (fun kk t hp => by rcases hp with hp | hp; exact hp.1; exact Nat.le_trans HB6.out.size hp.1) HB6.out.size)),
             (Kd.R_reads' (hk.row HO6.out (fun kk t ht _ hp => by
              have : t = 21 := by simpa [Kd.int, Kd.scalar] using ht
              rcases hp with hp | hp
              · have := hp.2; omega
              · have := hp.2; omega))).2.2⟩)
          have HQ := Aside0.mk (Kd.R_reads' HO6.out).2.1
          have hd6 := block_cell HD6.out
          go_upto_region 11 with ((with_reducible refine gate_callee (f := 36) rfl ?_); (try (refine gate_guard (by rfl) ?_; dsimp only)); refine goesL_ (some 39) rfl rfl Try.func36 (by kernel_rfl) rfl #[.pointer (some ⟨g, 0, none⟩), .slice A1 q.length c1, .int .i64 d, .func (.func 37) #[] #[.pointer (some ⟨bd, 0, none⟩), .pointer (some ⟨w.heap.size, 0, none⟩), .pointer (some ⟨w.heap.size + 1, 0, none⟩), .pointer (some ⟨bl, 0, none⟩), .pointer (some ⟨w.heap.size + 1 + 1, 0, none⟩), .pointer (some ⟨bm, 0, none⟩)]] rfl (by (try simp only [List.map_toArray, List.map_cons, List.map_nil]); first | done | rfl) ?_; (with_reducible refine (walk_each.calls k g ns 37 _ (NextMay ⟨w.heap.size, w.heap.size, w.heap.size + 1, bl, w.heap.size + 1 + 1, bm⟩) (fun a W => NextInv ⟨w.heap.size, w.heap.size, w.heap.size + 1, bl, w.heap.size + 1 + 1, bm⟩ first af nb a W ∧ W.heap[bd]? = some (.cells #[.int .i64 d] 3 (0, 0))) (nextStep k d first af nb) (next_yields k ⟨w.heap.size, w.heap.size, w.heap.size + 1, bl, w.heap.size + 1 + 1, bm⟩ bd d first af nb) A1 c1 q d b b' w6 HC.out HQ.out ⟨HI6.out, HD6.out⟩ HE.out).mono ?_); rintro e w7 ⟨rfl, hi, hk⟩; refine ⟨_, rfl, ?_⟩; have HI7 := Aside0.mk hi.1; have HO7 := Aside0.mk (hk.row HO6.out (fun kk t ht _ hp => by have : t = 21 := (by simpa [Kd.int, Kd.scalar] using ht); have := hp.2; omega)); have HB7 := Aside0.mk (HB6.out.trans (hk.to_below (fun kk t hp => hp.1) HB6.out.size)); clear hi hk hd6 HC HQ HD6 HI6 HO6 HB6)
          have hc2 := block_cell HI7.out.more
          obtain ⟨v, hv, hr⟩ := HI7.out.list
          obtain ⟨Av, cv, ev⟩ := Kd.R_slice hr
          subst ev
          have hc1 := block_cell hv
          have HRL := Aside0.mk hr
          clear hv hr
          obtain ⟨bl', more'⟩ := b'
          cases more' with
          | true =>
            obtain rfl := Option.some.inj ((if_pos rfl).symm.trans HR.out)
            go_wp2_with fail
            go_quiet (fail)
            go_wp2_with fail
            go_ret2
            exact ⟨_, rfl, Kd.R_mono (Kd.R_drewN HRL.out _) (fun _ _ => trivial), pw_below_drewN HB7.out _⟩
          | false =>
            have HR2 := Aside0.mk ((if_neg (by simp)).symm.trans HR.out)
            clear HR
            go_wp2_with fail
            go_roundg ko
            case measure => omega
            case rel => exact ⟨d + 1, _, rfl, by omega, HR2, HI7, HO7, HB7⟩
        · rw [if_neg hlt] at H
          obtain rfl := Option.some.inj H
          have hdt : decide (d < kk + 1) = false := decide_eq_false hlt
          clear H
          obtain ⟨v, hv, hr⟩ := HI.out.list
          obtain ⟨Av, cv, ev⟩ := Kd.R_slice hr
          subst ev
          have hc1 := block_cell hv
          have hc2 := block_cell HI.out.more
          have HR := Aside0.mk hr
          clear hv hr
          go_wp2_with fail
          go_quiet (fail)
          go_wp2_with fail
          go_ret2
          exact ⟨_, rfl, Kd.R_mono (Kd.R_drewN HR.out _) (fun _ _ => trivial), pw_below_drewN HB.out _⟩
end Go.Proofs.Ytklidannncajiaa.OW

namespace Go.Proofs.Ytklidannncajiaa.OW
open Go.RowKit Go.Proofs.YtklidannncajiaaW.PrintWords Go.Proofs.YtklidannncajiaaW.PrintLast Go.Proofs.YtklidannncajiaaW.PrintMore Go.Proofs.Ytklidannncajiaa.Am

theorem rdOf_nat {α : Type} (z : α) (xs : List α) (i : Nat) (h : i < xs.length) : rdOf z xs (i : Int) = xs[i] := by
  unfold rdOf
  rw [Int.toNat_natCast, List.getD_eq_getElem?_getD, List.getElem?_eq_getElem h]; rfl
theorem wr64 (x : Int) (h1 : -9223372036854775808 ≤ x) (h2 : x ≤ 9223372036854775807) : wrap64 x = x := wr x h1 h2
/-! ### sizes -/
def Small (l : List ByteArray) : Prop := l.length ≤ 80 ∧ ∀ s ∈ l, s.size ≤ 100
instance (l : List ByteArray) : Decidable (Small l) := inferInstanceAs (Decidable (_ ∧ _))
theorem great_ev (l : List ByteArray) : Ev (fun K => inkhornlaw0_GreatTexts.f K l) (!decide (Small l)) := by
  by_cases hl : l.length ≤ 80
  · have key : ∀ (d i : Nat), i + d = l.length → (∀ j, (h : j < l.length) → j < i → l[j].size ≤ 100) → Ev (fun K => inkhornlaw0_GreatTexts.l0 K l (i : Int)) (!decide (Small l)) := by
      intro d
      induction d with
      | zero =>
        intro i hi hp
        have hs : Small l := ⟨hl, fun s hs => by obtain ⟨j, hj, rfl⟩ := List.mem_iff_getElem.1 hs; exact hp j hj (by omega)⟩
        refine Ev.step (f := fun K => inkhornlaw0_GreatTexts.j1 K l i false) (fun K => by simp only [inkhornlaw0_GreatTexts.l0]; rw [if_neg (by omega)]) ?_
        refine Ev.step (f := fun _ => some (!decide (Small l))) (fun K => ?_) (Ev.now _)
        simp only [inkhornlaw0_GreatTexts.j1, Bool.false_eq_true, if_false]
        rw [decide_eq_true hs]
        simp; omega
      | succ d ih =>
        intro i hi hp
        refine Ev.step (f := fun K => inkhornlaw0_GreatTexts.j1 K l i true) (fun K => by simp only [inkhornlaw0_GreatTexts.l0]; rw [if_pos (by omega), decide_eq_true (by omega)]) ?_
        by_cases hz : l[i].size ≤ 100
        · refine Ev.step (f := fun K => inkhornlaw0_GreatTexts.l0 K l ((i + 1 : Nat) : Int)) (fun K => ?_) (ih (i + 1) (by omega) (fun j hj h => by
            by_cases e : j = i
            · subst e; exact hz
            · exact hp j hj (by omega)))
          simp only [inkhornlaw0_GreatTexts.j1]
          rw [if_pos trivial, if_pos (by omega), if_pos (by omega), rdOf_nat _ _ _ (by omega), if_neg (by omega), wr64 _ (by omega) (by omega)]
          rfl
        · have hs : ¬ Small l := fun h => hz (h.2 _ (List.getElem_mem _))
          refine Ev.step (f := fun _ => some (!decide (Small l))) (fun K => ?_) (Ev.now _)
          simp only [inkhornlaw0_GreatTexts.j1]
          rw [if_pos trivial, if_pos (by omega), if_pos (by omega), rdOf_nat _ _ _ (by omega), if_pos (by omega), decide_eq_false hs]
          rfl
    exact key l.length 0 (by omega) (fun j _ h => by omega)
  · have hs : ¬ Small l := fun h => hl h.1
    refine Ev.step (f := fun K => inkhornlaw0_GreatTexts.j1 K l 0 false) (fun K => ?_) (Ev.step (f := fun _ => some (!decide (Small l))) (fun K => ?_) (Ev.now _))
    · show inkhornlaw0_GreatTexts.l0 (K + 1) l 0 = _
      simp only [inkhornlaw0_GreatTexts.l0]
      rw [if_pos (by omega), decide_eq_false (by omega)]
    · simp only [inkhornlaw0_GreatTexts.j1, Bool.false_eq_true, if_false]
      rw [decide_eq_false hs]
      simp; omega
/-! ### texts -/
theorem len_eq {s : ByteArray} (h : s.size ≤ 1000000) : text_Len.f s = some (if Clean s then ((runes s 0).length : Int) else -1) := by
  unfold text_Len.f
  rw [if_pos (by omega)]
  by_cases hc : Clean s
  · rw [if_pos hc, if_neg hc]
  · rw [if_neg hc, if_pos (Classical.not_not.1 hc)]
def isWord (s : ByteArray) : Prop := Clean s ∧ 1 ≤ (runes s 0).length ∧ (runes s 0).length ≤ 12
instance (s : ByteArray) : Decidable (isWord s) := inferInstanceAs (Decidable (_ ∧ _))
def isAsked (s : ByteArray) : Prop := Clean s ∧ (runes s 0).length ≤ 16
instance (s : ByteArray) : Decidable (isAsked s) := inferInstanceAs (Decidable (_ ∧ _))
theorem word_eq {s : ByteArray} (h : s.size ≤ 1000000) : text_Word.f s = some (decide (isWord s)) := by
  unfold text_Word.f
  rw [len_eq h, Option.bind_some]
  unfold isWord
  by_cases hc : Clean s
  · simp only [hc, if_true, true_and]
    by_cases h1 : 1 ≤ (runes s 0).length
    · rw [if_pos (by omega)]
      congr 1
      rw [Bool.eq_iff_iff]; simp; omega
    · rw [if_neg (by omega)]; simp; omega
  · simp [hc]
theorem asked_eq {s : ByteArray} (h : s.size ≤ 1000000) : text_Asked.f s = some (decide (isAsked s)) := by
  unfold text_Asked.f
  rw [len_eq h, Option.bind_some]
  unfold isAsked
  by_cases hc : Clean s
  · simp only [hc, if_true, true_and]
    rw [if_pos (by omega)]
    congr 1
    rw [Bool.eq_iff_iff]; simp; omega
  · simp [hc]
theorem runes_eq {s : ByteArray} (h : s.size ≤ 1000000) : text_Runes.f s = some (if Clean s then (runes s 0, true) else ([], false)) := by
  unfold text_Runes.f
  rw [if_pos (by omega)]
  by_cases hc : Clean s
  · rw [if_pos hc, if_neg hc]
  · rw [if_neg hc, if_pos (Classical.not_not.1 hc)]
def mayAsk (s : ByteArray) (k : Int) : Prop := isAsked s ∧ 0 ≤ k ∧ k ≤ 4
instance (s : ByteArray) (k : Int) : Decidable (mayAsk s k) := inferInstanceAs (Decidable (_ ∧ _))
theorem walk_asked_eq {s : ByteArray} (h : s.size ≤ 1000000) (k : Int) : walk_asked.f s k = some (if mayAsk s k then (runes s 0, true) else ([], false)) := by
  unfold walk_asked.f
  by_cases h0 : k < 0
  · rw [if_pos h0, if_neg (fun hm => by have := hm.2.1; omega)]
  · rw [if_neg h0]
    by_cases h1 : k > 4
    · rw [if_pos h1, if_neg (fun hm => by have := hm.2.2; omega)]
    · rw [if_neg h1, asked_eq h, Option.bind_some]
      by_cases ha : isAsked s
      · rw [if_pos (by simpa using ha), if_pos ⟨ha, by omega, by omega⟩, runes_eq h, if_pos ha.1]
      · rw [if_neg (by simpa using ha), if_neg (fun hm => ha hm.1)]
theorem compare_eq (a b : ByteArray) : text_Compare.f a b = some (Lib.compareBytes a.data.toList b.data.toList) := rfl
/-! ### good lists -/
structure GoodW (l : List ByteArray) : Prop where
  len : l.length ≤ 60
  words : ∀ s ∈ l, isWord s
  sorted : l.Pairwise ltB
theorem good_cons {l : List ByteArray} (h : ∀ i, (hi : i + 1 < l.length) → ltB l[i] l[i + 1]) : l.Pairwise ltB := by
  rw [List.pairwise_iff_getElem]
  intro i j hi hj hij
  obtain ⟨d, rfl⟩ : ∃ d, j = i + 1 + d := ⟨j - i - 1, by omega⟩
  induction d with
  | zero => exact h i hj
  | succ d ih => exact (ih (by omega) (by omega)).trans (h (i + 1 + d) (by omega))
theorem good_ev {l : List ByteArray} (hs : Small l) : ∃ e, Ev (fun K => list_Good.f K l) e ∧ (e = 0 → GoodW l) := by
  by_cases hl : l.length ≤ 60
  case neg => exact ⟨3, Ev.congr (f := fun _ => some 3) (fun K => by unfold list_Good.f; rw [if_pos (by omega)]) (Ev.now _), fun h => by cases h⟩
  have k1 : (∀ s ∈ l, isWord s) → ∀ (d i : Nat), 1 ≤ i → i + d = max l.length 1 → (∀ j, (hj : j + 1 < l.length) → j + 1 < i → ltB l[j] l[j + 1]) → ∃ e, Ev (fun K => list_Good.l1 K l (i : Int)) e ∧ (e = 0 → GoodW l) := by
    intro hw d
    induction d with
    | zero =>
      intro i h1 hi hp
      refine ⟨0, Ev.step (f := fun _ => some 0) (fun K => by simp only [list_Good.l1]; rw [if_neg (by omega)]) (Ev.now _), fun _ => ⟨hl, hw, good_cons (fun j hj => hp j hj (by omega))⟩⟩
    | succ d ih =>
      intro i h1 hi hp
      have hil : i < l.length := by omega
      have hrd : ∀ K, list_Good.l1 (K + 1) l (i : Int) = if Lib.compareBytes l[i - 1].data.toList l[i].data.toList ≥ 0 then some 7 else list_Good.l1 K l ((i + 1 : Nat) : Int) := by
        intro K
        simp only [list_Good.l1]
        rw [if_pos (by omega), wr64 _ (by omega) (by omega), if_pos (by omega), if_pos (by omega), if_pos (by omega), show ((i : Int) - 1) = ((i - 1 : Nat) : Int) by omega, rdOf_nat _ _ _ (by omega), rdOf_nat _ _ _ hil, compare_eq, Option.bind_some, wr64 _ (by omega) (by omega)]
        rfl
      by_cases hc : Lib.compareBytes l[i - 1].data.toList l[i].data.toList ≥ 0
      · exact ⟨7, Ev.step (f := fun _ => some 7) (fun K => by rw [hrd, if_pos hc]) (Ev.now _), fun h => by cases h⟩
      · obtain ⟨e, he, h0⟩ := ih (i + 1) (by omega) (by omega) (fun j hj hji => by
          by_cases e : j + 1 = i
          · subst e
            simp only [Nat.add_sub_cancel] at hc
            unfold ltB
            omega
          · exact hp j hj (by omega))
        exact ⟨e, Ev.step (fun K => by rw [hrd, if_neg hc]) he, h0⟩
  have k0 : ∀ (d i : Nat), i + d = l.length → (∀ j, (hj : j < l.length) → j < i → isWord l[j]) → ∃ e, Ev (fun K => list_Good.l0 K l l (l.length : Int) (i : Int)) e ∧ (e = 0 → GoodW l) := by
    intro d
    induction d with
    | zero =>
      intro i hi hp
      obtain ⟨e, he, h0⟩ := k1 (fun s hs => by obtain ⟨j, hj, rfl⟩ := List.mem_iff_getElem.1 hs; exact hp j hj (by omega)) (max l.length 1 - 1) 1 (by omega) (by omega) (fun j _ h => by omega)
      exact ⟨e, Ev.step (f := fun K => list_Good.l1 K l 1) (fun K => by simp only [list_Good.l0]; rw [if_neg (by omega)]) he, h0⟩
    | succ d ih =>
      intro i hi hp
      have hil : i < l.length := by omega
      have hrd : ∀ K, list_Good.l0 (K + 1) l l (l.length : Int) (i : Int) = if decide (isWord l[i]) = true then list_Good.l0 K l l (l.length : Int) ((i + 1 : Nat) : Int) else some 6 := by
        intro K
        simp only [list_Good.l0]
        rw [if_pos (by omega), if_pos (by omega), if_pos (by omega), rdOf_nat _ _ _ hil, word_eq (by have := hs.2 l[i] (List.getElem_mem _); omega), Option.bind_some, wr64 _ (by omega) (by omega)]
        rfl
      by_cases hc : isWord l[i]
      · obtain ⟨e, he, h0⟩ := ih (i + 1) (by omega) (fun j hj hji => by
          by_cases e : j = i
          · subst e; exact hc
          · exact hp j hj (by omega))
        exact ⟨e, Ev.step (fun K => by rw [hrd, if_pos (by simpa using hc)]) he, h0⟩
      · exact ⟨6, Ev.step (f := fun _ => some 6) (fun K => by rw [hrd, if_neg (by simpa using hc)]) (Ev.now _), fun h => by cases h⟩
  obtain ⟨e, he, h0⟩ := k0 l.length 0 (by omega) (fun j _ h => by omega)
  exact ⟨e, Ev.congr (fun K => by unfold list_Good.f; rw [if_neg (by omega)]; rfl) he, h0⟩
end Go.Proofs.Ytklidannncajiaa.OW

namespace Go.Proofs.Ytklidannncajiaa.OW
open Go.RowKit Go.Proofs.YtklidannncajiaaW.PrintWords Go.Proofs.YtklidannncajiaaW.PrintLast Go.Proofs.YtklidannncajiaaW.PrintMore
set_option linter.unusedVariables false
set_option linter.unusedSimpArgs false

theorem putCells_take {α : Type} [Inhabited α] (enc : α → Value) (d : Array α) (c : Array Value) (hd : d.size ≤ c.size) (m : Nat) (hm : m ≤ d.size) : (Go.Sort.putCells enc 0 d c).toList.take m = (d.toList.take m).map enc := by
  apply List.ext_getElem?
  intro j
  rw [List.getElem?_take, List.getElem?_map, List.getElem?_take]
  by_cases hj : j < m
  · rw [if_pos hj, if_pos hj, Array.getElem?_toList, Array.getElem?_toList, Array.getElem?_eq_getElem (show j < d.size by omega)]
    unfold Go.Sort.putCells
    rw [Array.getElem?_mapIdx, Array.getElem?_eq_getElem (show j < c.size by omega)]
    simp only [Option.map_some, Nat.zero_add, Nat.zero_le, true_and, Nat.sub_zero]
    rw [if_pos (by omega), getElem!_pos d j (by omega)]
  · rw [if_neg hj, if_neg hj]; rfl
theorem heap_put {α : Type} [Inhabited α] (enc : α → Value) (w : World) (q g : Nat) (d : Array α) (os : Array Obj) (k : Nat) (hk : k < w.heap.size) :
    (Go.Sort.grow (Go.Sort.putRow enc (Go.Sort.ahead w q) g 0 d) os).heap[k]? = (if k = g then (w.heap[k]?).map (Go.Sort.onCells (Go.Sort.putCells enc 0 d)) else w.heap[k]?) := by
  show ((Go.Sort.putRow enc (Go.Sort.ahead w q) g 0 d).heap ++ os)[k]? = _
  rw [Array.getElem?_append_left (by rw [Go.Sort.size_putRow]; exact hk)]
  show (w.heap.modify g (Go.Sort.onCells (Go.Sort.putCells enc 0 d)))[k]? = _
  rw [Array.getElem?_modify]
  by_cases h : g = k
  · rw [if_pos h, if_pos h.symm]
  · rw [if_neg h, if_neg (fun e => h e.symm)]
theorem put_grown {α : Type} [Inhabited α] (enc : α → Value) (w : World) (q g : Nat) (d : Array α) (os : Array Obj) : w.grownBy (Go.Sort.grow (Go.Sort.putRow enc (Go.Sort.ahead w q) g 0 d) os) (some g) :=
  ⟨rfl, rfl, rfl, by
    show w.heap.size ≤ ((Go.Sort.putRow enc (Go.Sort.ahead w q) g 0 d).heap ++ os).size
    rw [Array.size_append, Go.Sort.size_putRow]
    exact Nat.le_add_right _ _, fun k hk hne => by rw [heap_put enc w q g d os k hk, if_neg (fun e => hne (by rw [e]))]⟩
/-- A row of texts whose cells have been put anew; m of them are told on. -/
theorem R_putRow {α : Type} [Inhabited α] (enc : α → Value) {w : World} {base g n cap : Nat} {ok : Nat → Prop} {xs ys : List ByteArray} (h : Kd.R Kd.string 9 w base ok (.slice (some ⟨g, 0, none⟩) n cap) xs) (hn : xs.length = n) (q : Nat) (d : Array α) (os : Array Obj) (hd : d.size = n) (hys : ys.length ≤ n) (he : (d.toList.take ys.length).map enc = ys.map Value.string) :
    Kd.R Kd.string 9 (Go.Sort.grow (Go.Sort.putRow enc (Go.Sort.ahead w q) g 0 d) os) base ok (.slice (some ⟨g, 0, none⟩) ys.length cap) ys := by
  have ho := Kd.own_of_R (enc := Value.string) (h1 := fun _ => rfl) h
  rcases ho with ⟨hl, ho⟩
  rcases ho with ⟨e, _⟩ | ⟨g', cap', cur, e, hb, hh, hc1, hc2, hc3, hc4⟩
  · cases e
  · injection e with e1 e2 e3
    injection e1 with e1
    injection e1 with e1
    subst e1
    subst e3
    have hg := blk_lt hh
    refine Kd.R_of_own (enc := Value.string) (h1 := fun _ => rfl) ⟨by rw [encs_length]; omega, .inr ⟨g, cap, Go.Sort.putCells enc 0 d cur, rfl, hb, ?_, by omega, hc2, ?_, ?_⟩⟩ (fun k hk => h.1 k hk)
    · rw [heap_put enc w q g d os g hg, if_pos rfl, hh]
      rfl
    · unfold Go.Sort.putCells
      rw [Array.size_mapIdx]
      exact hc3
    · rw [Nat.mul_one, putCells_take enc d cur (by omega) _ (by omega), he]
      rfl
end Go.Proofs.Ytklidannncajiaa.OW

namespace Go.Proofs.Ytklidannncajiaa.OW
open Go.RowKit Go.Proofs.YtklidannncajiaaW.PrintWords Go.Proofs.YtklidannncajiaaW.PrintLast Go.Proofs.YtklidannncajiaaW.PrintMore
set_option linter.unusedVariables false
set_option linter.unusedSimpArgs false

def bytesL (s : ByteArray) : List UInt8 := s.data.toList
def textL (l : List UInt8) : ByteArray := ⟨l.toArray⟩
theorem text_bytes (s : ByteArray) : textL (bytesL s) = s := bytes_ext (by simp [textL, bytesL])
def compactP (ys : List ByteArray) : List ByteArray := (Lib.compact (ys.map bytesL)).map textL
theorem arr_at (ys : List ByteArray) (i : Nat) (h : i < ys.length) : (ys.map bytesL).toArray[i]! = bytesL ys[i] := by
  rw [getElem!_pos _ i (by simpa using h)]
  simp
theorem compactP_eq (ys : List ByteArray) : compactP ys = ((List.range ys.length).filter (Lib.keeps (ys.map bytesL).toArray)).map (fun i => textL ((ys.map bytesL).toArray[i]!)) := by
  unfold compactP Lib.compact Lib.compactUpTo
  rw [List.map_map, List.length_map]
  rfl
theorem compactP_mem {ys : List ByteArray} {s : ByteArray} (h : s ∈ compactP ys) : s ∈ ys := by
  rw [compactP_eq] at h
  obtain ⟨i, hi, rfl⟩ := List.mem_map.1 h
  have hil : i < ys.length := List.mem_range.1 (List.mem_filter.1 hi).1
  rw [arr_at ys i hil, text_bytes]
  exact List.getElem_mem hil
theorem compactP_len (ys : List ByteArray) : (compactP ys).length ≤ ys.length := by
  rw [compactP_eq, List.length_map]
  exact Nat.le_trans (List.length_filter_le _ _) (by rw [List.length_range]; exact Nat.le_refl _)
theorem leB_trans {a b c : ByteArray} (h1 : ¬ ltB b a) (h2 : ltB b c) : ltB a c := by
  by_cases e : a = b
  · rw [e]; exact h2
  · exact (ltB.total h1 (fun h => e h.symm)).trans h2
theorem compactP_sorted {ys : List ByteArray} (h : ∀ i j, (hi : i < ys.length) → (hj : j < ys.length) → i < j → ¬ ltB ys[j] ys[i]) : (compactP ys).Pairwise ltB := by
  rw [compactP_eq]
  refine List.Pairwise.map (R := fun i j => i < j ∧ i < ys.length ∧ j < ys.length ∧ Lib.keeps (ys.map bytesL).toArray j = true) _ (fun i j hij => ?_) ?_
  · obtain ⟨hlt, hi, hj, hk⟩ := hij
    rw [arr_at ys i hi, arr_at ys j hj, text_bytes, text_bytes]
    have hk : ys[j - 1] ≠ ys[j] := by
      unfold Lib.keeps at hk
      rcases of_decide_eq_true hk with h0 | h0
      · omega
      · rw [arr_at ys j hj, arr_at ys (j - 1) (by omega)] at h0
        exact fun e => h0 (by rw [e])
    have h1 : ltB ys[j - 1] ys[j] := ltB.total (h (j - 1) j (by omega) hj (by omega)) (fun e => hk e.symm)
    rcases Nat.lt_or_ge i (j - 1) with h2 | h2
    · exact leB_trans (h i (j - 1) hi (by omega) h2) h1
    · obtain rfl : i = j - 1 := by omega
      exact h1
  · have h1 : (List.range ys.length).Pairwise (· < ·) := List.pairwise_lt_range
    have h2 := h1.filter (Lib.keeps (ys.map bytesL).toArray)
    refine List.Pairwise.imp_of_mem (fun {a b} ha hb hab => ?_) h2
    obtain ⟨a1, _⟩ := List.mem_filter.1 ha
    obtain ⟨b1, b2⟩ := List.mem_filter.1 hb
    exact ⟨hab, List.mem_range.1 a1, List.mem_range.1 b1, b2⟩
end Go.Proofs.Ytklidannncajiaa.OW

namespace Go.Proofs.Ytklidannncajiaa.OW
open Go.RowKit Go.Proofs.YtklidannncajiaaW.PrintWords Go.Proofs.YtklidannncajiaaW.PrintLast Go.Proofs.YtklidannncajiaaW.PrintMore
set_option linter.unusedVariables false
set_option linter.unusedSimpArgs false

theorem cell_own {w : World} {base g cap : Nat} {ok : Nat → Prop} {ys : List ByteArray} (h : Kd.R Kd.string 9 w base ok (.slice (some ⟨g, 0, none⟩) ys.length cap) ys) (j : Nat) (hj : j < ys.length) : w.cell? ⟨g, 0 + j, none⟩ = some (.string ys[j]) ∧ w.frozen? ⟨g, 0 + j, none⟩ = false := by
  have := Kd.R_cell (enc := Value.string) (h1 := fun _ => rfl) ByteArray.empty h (j : Int) (by omega) (by omega)
  rw [Int.toNat_natCast, rdOf_nat _ _ _ hj] at this
  rw [Nat.zero_add]
  exact this
theorem compact_calls {W : World} {base : Nat} {ok : Nat → Prop} (A : Option Addr) (c : Nat) (ys : List ByteArray) (hl : ys.length ≤ 1000) (h : Kd.R Kd.string 9 W base ok (.slice A ys.length c) ys) :
    Calls Try.prog 49 #[.slice A ys.length c] W fun e w' => ∃ v', e = .returned v' ∧ Kd.R Kd.string 9 w' base ok v' (compactP ys) ∧ W.grownBy w' (Value.slice A ys.length c).ownBlock := by
  by_cases h0 : ys.length = 0
  · obtain rfl : ys = [] := List.eq_nil_of_length_eq_zero h0
    refine (Try.slices_Compact_string_empty A c W).mono ?_
    rintro e w' ⟨rfl, rfl⟩
    exact ⟨_, rfl, h, ⟨rfl, rfl, rfl, Nat.le_refl _, fun _ _ _ => rfl⟩⟩
  · obtain ⟨g, cg, e, _, _, _, _⟩ := Kd.R_form h (by omega)
    injection e with e1 _ e3
    subst e1
    subst e3
    have hH : Go.Sort.Holds encStr W g 0 (ys.map bytesL).toArray := by
      intro j hj
      have hj : j < ys.length := by simpa using hj
      obtain ⟨h1, h2⟩ := cell_own h j hj
      refine ⟨?_, h2⟩
      rw [h1, arr_at ys j hj]
      show some (Value.string ys[j]) = some (Value.string (textL (bytesL ys[j])))
      rw [text_bytes]
    have hcap : ys.length ≤ c := (Kd.R_reads' h).2.1
    have hc := Try.slices_Compact_string g 0 c (ys.map bytesL) W hH (by simp; omega) (by simp; exact hcap)
    rw [List.length_map] at hc
    refine hc.mono ?_
    rintro e w' ⟨rfl, q, rfl⟩
    have hcl : (Lib.compact (ys.map bytesL)).length = (compactP ys).length := by unfold compactP; rw [List.length_map]
    have hle := compactP_len ys
    have hd : (Lib.compact (ys.map bytesL) ++ List.replicate ((ys.map bytesL).length - (Lib.compact (ys.map bytesL)).length) []).toArray.size = ys.length := by
      simp only [List.size_toArray, List.length_append, List.length_replicate, List.length_map]
      omega
    have hR := R_putRow encStr h rfl q (Lib.compact (ys.map bytesL) ++ List.replicate ((ys.map bytesL).length - (Lib.compact (ys.map bytesL)).length) []).toArray #[] hd hle (by
      rw [← hcl]
      simp only [List.take_left']
      unfold compactP
      rw [List.map_map]
      rfl)
    have hG := put_grown encStr W q g (Lib.compact (ys.map bytesL) ++ List.replicate ((ys.map bytesL).length - (Lib.compact (ys.map bytesL)).length) []).toArray #[]
    rw [Go.Sort.grow_empty] at hR hG
    rw [List.length_map] at hR hG
    rw [← hcl] at hR
    exact ⟨_, rfl, hR, hG⟩
end Go.Proofs.Ytklidannncajiaa.OW

namespace Go.Proofs.Ytklidannncajiaa.OW
open Go.RowKit Go.Proofs.YtklidannncajiaaW.PrintWords Go.Proofs.YtklidannncajiaaW.PrintLast Go.Proofs.YtklidannncajiaaW.PrintMore
set_option linter.unusedVariables false
set_option linter.unusedSimpArgs false

def cfT (a b : ByteArray) : Int := Lib.compareBytes a.data.toList b.data.toList
theorem ltT (a b : ByteArray) : ltOf cfT a b = true ↔ ltB a b := by unfold ltOf cfT ltB; exact decide_eq_true_iff
theorem ltT' (a b : ByteArray) : ltOf cfT a b = false ↔ ¬ ltB a b := by rw [← ltT, Bool.not_eq_true]
theorem swoT : Go.Sort.SWO (ltOf cfT) where
  irrefl x := (ltT' x x).2 (ltB.irrefl x)
  trans x y z h1 h2 := (ltT x z).2 (((ltT x y).1 h1).trans ((ltT y z).1 h2))
  ntrans x y z h1 h2 := by
    rw [ltT'] at *
    intro h
    by_cases e : x = y
    · rw [e] at h; exact h2 h
    · exact h2 ((ltB.total h1 e).trans h)
theorem cmpT (x y : ByteArray) (W : World) : Calls Try.prog 44 (#[.string x, .string y] ++ #[]) W fun e w' => e = .returned (.int .i64 (cfT x y)) ∧ ∃ q, w' = W.drewN q :=
  (text_Compare.calls x y _ W (compare_eq x y)).mono fun _ _ ⟨h1, h2⟩ => ⟨h1, by obtain ⟨m, rfl⟩ := h2; exact ⟨m, rfl⟩⟩
theorem cmpReadsT (g size : Nat) (w : World) : CmpReads Try.prog 44 #[] Value.string cfT g 0 size w := fun _ _ _ _ x y => cmpT x y _
theorem sort_calls {W : World} {base : Nat} {ok : Nat → Prop} (A : Option Addr) (c : Nat) (xs : List ByteArray) (hl : xs.length ≤ 1000) (h : Kd.R Kd.string 9 W base ok (.slice A xs.length c) xs) :
    Calls Try.prog 48 #[.slice A xs.length c, .func (.func 44) #[] #[]] W fun e w' => e = .returned (.tuple #[]) ∧ ∃ ys, ys.length = xs.length ∧ (∀ s ∈ ys, s ∈ xs) ∧ (∀ i j, (hi : i < ys.length) → (hj : j < ys.length) → i < j → ¬ ltB ys[j] ys[i]) ∧ Kd.R Kd.string 9 w' base ok (.slice A xs.length c) ys ∧ W.grownBy w' (Value.slice A xs.length c).ownBlock := by
  have eg : ∀ args w, (callFunc 44 args).run Try.prog w = .ok (.enter 44 args) w := enters_of Try.func44 (by kernel_rfl) rfl
  by_cases h0 : xs.length = 0
  · obtain rfl : xs = [] := List.eq_nil_of_length_eq_zero h0
    have hcon := AnyF.slices_SortFunc_none { Try.sortS with } A c (.func (.func 44) #[] #[]) W
    change Calls Try.prog 48 _ _ _ at hcon
    refine hcon.mono ?_
    rintro e w' ⟨rfl, rfl⟩
    exact ⟨rfl, [], rfl, fun _ h => h, fun i j hi => absurd hi (by simp), h, ⟨rfl, rfl, rfl, Nat.le_refl _, fun _ _ _ => rfl⟩⟩
  · obtain ⟨g, cg, e, _, _, _, hg⟩ := Kd.R_form h (by omega)
    injection e with e1 _ e3
    subst e1
    subst e3
    have hat : ∀ (ys : List ByteArray) (j : Nat) (hj : j < ys.length), ys.toArray[j]! = ys[j] := fun ys j hj => by
      rw [getElem!_pos _ j (by simpa using hj)]; simp
    have hH : Go.Sort.Holds Value.string W g 0 xs.toArray := by
      intro j hj
      have hj : j < xs.length := by simpa using hj
      obtain ⟨h1, h2⟩ := cell_own h j hj
      exact ⟨by rw [h1, hat xs j hj], h2⟩
    have hgl : g < W.heap.size := by
      rcases (Kd.own_of_R (enc := Value.string) (h1 := fun _ => rfl) h).2 with ⟨e, _⟩ | ⟨g', cap', cur, e, hb, hh, _⟩
      · cases e
      · cases e
        exact blk_lt hh
    have hcon := Any.slices_SortFunc Try.sortS Value.string (fun _ => rfl) cfT swoT 44 #[] g 0 c xs.toArray W eg (cmpReadsT g xs.toArray.size W).lays hH hgl (by simp; omega)
    change Calls Try.prog 48 _ _ _ at hcon
    rw [List.size_toArray] at hcon
    refine hcon.mono ?_
    rintro e w' ⟨rfl, d', n, os, hp, hs, rfl⟩
    obtain ⟨p1, p2, p3⟩ := hp
    replace p1 : d'.size = xs.length := by simpa using p1
    have hds : d'.toList.length = xs.length := by rw [Array.length_toList]; exact p1
    refine ⟨rfl, d'.toList, hds, ?_, ?_, ?_, put_grown Value.string W n g d' os⟩
    · intro s hsm
      have e1 : d'.extract 0 xs.length = d' := by rw [← p1]; simp
      have e2 : xs.toArray.extract 0 xs.length = xs.toArray := by simp
      rw [e1, e2] at p3
      exact p3.subset hsm
    · intro i j hi hj hij
      have := hs i j (Nat.zero_le _) hij (by omega)
      rw [ltT'] at this
      have h1 : d'[j]! = d'.toList[j] := by rw [getElem!_pos d' j (by omega)]; simp
      have h2 : d'[i]! = d'.toList[i] := by rw [getElem!_pos d' i (by omega)]; simp
      rw [h1, h2] at this
      exact this
    · have hR := R_putRow Value.string h rfl n d' os p1 (Nat.le_of_eq hds) (by rw [List.take_length])
      rw [hds] at hR
      exact hR
end Go.Proofs.Ytklidannncajiaa.OW

namespace Go.Proofs.Ytklidannncajiaa.OW
open Go.RowKit Go.Proofs.YtklidannncajiaaW.PrintWords Go.Proofs.YtklidannncajiaaW.PrintLast Go.Proofs.YtklidannncajiaaW.PrintMore Go.Proofs.Ytklidannncajiaa.Am
set_option linter.unusedVariables false
set_option linter.unusedSimpArgs false

def goodP (r : Int) : Bool := decide (0 ≤ r ∧ r ≤ 1114111 ∧ (r < 55296 ∨ r > 57343) ∧ r ≠ 65533)
/-- Is the rune at a place told off? -/
def badP (r n : Int) : Prop := n = 0 ∨ goodP r = false ∨ (n = 3 ∧ r < 2048) ∨ (n = 4 ∧ r < 65536)
instance (r n : Int) : Decidable (badP r n) := inferInstanceAs (Decidable (_ ∨ _))
end Go.Proofs.Ytklidannncajiaa.OW
