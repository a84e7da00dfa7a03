/- What the row of the law WalkBatches leans on: contracts of functions and plain laws, each for all inputs that its own theorem names. -/
import Derived.Test.YtklidannncajiaaBa15
import Derived.Test.YtklidannncajiaaBa0
import Derived.Test.YtklidannncajiaaBa13
import Derived.Test.YtklidannncajiaaBa14
import Derived.Test.YtklidannncajiaaBa11
import Derived.Outline
namespace Go.Proofs.Ytklidannncajiaa.OW
open Go.RowKit Go.Lib Go.Sort Go.Proofs.YtklidannncajiaaW.PrintWords Go.Proofs.YtklidannncajiaaW.PrintLast Go.Proofs.YtklidannncajiaaW.PrintMore
set_option linter.unusedVariables false
set_option linter.unusedSimpArgs false

/-- The blocks of s places each rise, below place e. -/
def Blk (lt : S24 → S24 → Bool) (s e : Nat) (xs : Array S24) : Prop := ∀ u v, u < v → v < e → u / s = v / s → lt xs[v]! xs[u]! = false
theorem blk_next20 {lt : S24 → S24 → Bool} {q e n : Nat} {ys zs : Array S24} (h : Blk lt 20 (20 * q) ys) (he : e ≤ 20 * q + 20) (hp : PermIn (20 * q) e ys zs) (hs : SortedIn lt (20 * q) e zs) : Blk lt 20 e zs := fun u v h1 h2 h3 => by
  by_cases hv : v < 20 * q
  · rw [hp.2.1 u (.inl (by omega)), hp.2.1 v (.inl hv)]
    exact h u v h1 hv h3
  · exact hs u v (by omega) h1 h2
theorem blk_next40 {lt : S24 → S24 → Bool} {q e n : Nat} {ys zs : Array S24} (h : Blk lt 40 (40 * q) ys) (he : e ≤ 40 * q + 40) (hp : PermIn (40 * q) e ys zs) (hs : SortedIn lt (40 * q) e zs) : Blk lt 40 e zs := fun u v h1 h2 h3 => by
  by_cases hv : v < 40 * q
  · rw [hp.2.1 u (.inl (by omega)), hp.2.1 v (.inl hv)]
    exact h u v h1 hv h3
  · exact hs u v (by omega) h1 h2
theorem blk_next80 {lt : S24 → S24 → Bool} {q e n : Nat} {ys zs : Array S24} (h : Blk lt 80 (80 * q) ys) (he : e ≤ 80 * q + 80) (hp : PermIn (80 * q) e ys zs) (hs : SortedIn lt (80 * q) e zs) : Blk lt 80 e zs := fun u v h1 h2 h3 => by
  by_cases hv : v < 80 * q
  · rw [hp.2.1 u (.inl (by omega)), hp.2.1 v (.inl hv)]
    exact h u v h1 hv h3
  · exact hs u v (by omega) h1 h2
theorem blk_two20 {lt : S24 → S24 → Bool} {q n : Nat} {xs : Array S24} (h : ∀ u v, 40 * q ≤ u → u < v → v < n → u / 20 = v / 20 → lt xs[v]! xs[u]! = false) : (∀ e, e ≤ 40 * q + 20 → e ≤ n → SortedIn lt (40 * q) e xs) ∧ ∀ e, e ≤ 40 * q + 40 → e ≤ n → SortedIn lt (40 * q + 20) e xs :=
  ⟨fun e h1 h2 u v h3 h4 h5 => h u v h3 h4 (by omega) (by omega), fun e h1 h2 u v h3 h4 h5 => h u v (by omega) h4 (by omega) (by omega)⟩
theorem blk_two40 {lt : S24 → S24 → Bool} {q n : Nat} {xs : Array S24} (h : ∀ u v, 80 * q ≤ u → u < v → v < n → u / 40 = v / 40 → lt xs[v]! xs[u]! = false) : (∀ e, e ≤ 80 * q + 40 → e ≤ n → SortedIn lt (80 * q) e xs) ∧ ∀ e, e ≤ 80 * q + 80 → e ≤ n → SortedIn lt (80 * q + 40) e xs :=
  ⟨fun e h1 h2 u v h3 h4 h5 => h u v h3 h4 (by omega) (by omega), fun e h1 h2 u v h3 h4 h5 => h u v (by omega) h4 (by omega) (by omega)⟩
set_option maxHeartbeats 16000000 in
set_option maxRecDepth 100000 in
theorem stable_calls {cf : S24 → S24 → Int} (hcmp : CmpB cf) (hS : SWO (ltOf cf)) {w0 w : World} {base g n cap : Nat} {ok : Nat → Prop} {xs : Array S24} (hn : n ≤ 80) (S : SI w0 base g n cap ok xs w) :
    Calls Try.prog 87 #[.slice (some ⟨g, 0, none⟩) n cap, .int .i64 n, .func (.func 60) #[] #[]] w fun e w' => e = .returned (.tuple #[]) ∧ ∃ ys, SI w0 base g n cap ok ys w' ∧ PermIn 0 n xs ys ∧ SortedIn (ltOf cf) 0 n ys := by
  have S0 := Aside0.mk S
  have hxs := S.len
  clear S
  go_enter Try.func87, Try.ntmps87
  go_wp2_with fail
  go_loopg [7, 8] n (fun kq v7 v8 W => ∃ (q : Nat) (ys : Array S24), v7 = .int .i64 ((20 * q : Nat) : Int) ∧ v8 = .int .i64 ((20 * q + 20 : Nat) : Int) ∧ Aside0 (20 * q ≤ n ∧ n ≤ kq + 20 * q) ∧ Aside0 (SI w0 base g n cap ok ys W) ∧ Aside0 (PermIn 0 n xs ys ∧ Blk (ltOf cf) 20 (20 * q) ys))
  case atStart => exact ⟨0, xs, rfl, rfl, ⟨by omega⟩, S0, ⟨permIn_refl _ _ _, fun u v h1 h2 => by omega⟩⟩
  case round =>
    clear S0
    obtain ⟨q, ys, rfl, rfl, HQ, S1, HP⟩ := hrel
    obtain ⟨h1, h2⟩ := HQ.out
    have hys := S1.out.len
    by_cases hle : 20 * q + 20 ≤ n
    · have hle2 : decide (((20 * q + 20 : Nat) : Int) ≤ (n : Int)) = true := decide_eq_true (by omega)
      cases gk with
      | zero => omega
      | succ ko =>
        have HCC := Aside0.mk (insertion_calls hcmp hS (20 * q) (20 * q + 20) (by omega) hle (by omega) S1.out)
        generalize hA : 20 * q + 20 = A at hle2 HCC ⊢
        generalize hB : 20 * q = B at HCC ⊢
        go_wp2_with ((with_reducible refine gate_callee (f := 105) rfl ?_); (try (refine gate_guard (by rfl) ?_; dsimp only)); refine goesL_ (some 18) rfl rfl Try.func105 (by kernel_rfl) rfl #[.slice (some ⟨g, 0, none⟩) n cap, .int .i64 B, .int .i64 A, .func (.func 60) #[] #[]] rfl (by (try simp only [List.map_toArray, List.map_cons, List.map_nil]); first | done | rfl) ?_; (with_reducible refine HCC.out.mono ?_); rintro e w3 ⟨rfl, zs, hz⟩; refine ⟨_, rfl, ?_⟩; have HZ := Aside0.mk hz; clear hz)
        go_roundg (n - A)
        case measure => omega
        case rel =>
          subst hA; subst hB
          refine ⟨q + 1, zs, by first | rfl | (congr 1; omega) | (go_num; omega), by first | rfl | go_num | (congr 1; omega), ⟨by omega⟩, ⟨HZ.out.1⟩, ⟨permIn_trans _ _ _ _ _ HP.out.1 (permIn_mono _ _ _ _ _ _ (by omega) (by omega) (by omega) HZ.out.2.1), ?_⟩⟩
          have := blk_next20 (n := n) HP.out.2 (Nat.le_refl _) HZ.out.2.1 HZ.out.2.2
          rwa [show 20 * (q + 1) = 20 * q + 20 by omega]
    · have hle2 : decide (((20 * q + 20 : Nat) : Int) ≤ (n : Int)) = false := decide_eq_false (by omega)
      have HCC := Aside0.mk (insertion_calls hcmp hS (20 * q) n (by omega) (Nat.le_refl _) (by omega) S1.out)
      go_wp2_with ((with_reducible refine gate_callee (f := 105) rfl ?_); (try (refine gate_guard (by rfl) ?_; dsimp only)); refine goesL_ (some 27) rfl rfl Try.func105 (by kernel_rfl) rfl #[.slice (some ⟨g, 0, none⟩) n cap, .int .i64 ((20 * q : Nat) : Int), .int .i64 n, .func (.func 60) #[] #[]] rfl (by (try simp only [List.map_toArray, List.map_cons, List.map_nil]); first | done | rfl) ?_; (with_reducible refine HCC.out.mono ?_); rintro e w3 ⟨rfl, zs, hz⟩; refine ⟨_, rfl, ?_⟩; have HZ := Aside0.mk hz; clear hz)
      have HP2 := Aside0.mk (show PermIn 0 n xs zs ∧ Blk (ltOf cf) 20 n zs from ⟨permIn_trans _ _ _ _ _ HP.out.1 (permIn_mono _ _ _ _ _ _ (by omega) (by omega) (by omega) HZ.out.2.1), blk_next20 (n := n) HP.out.2 (by omega) HZ.out.2.1 HZ.out.2.2⟩)
      have S2 := Aside0.mk HZ.out.1
      clear HZ HCC HP S1 hys HQ h1 h2 hle hle2
      simp only [Act.put, List.setIfInBounds_toArray, List.set_cons_zero, List.set_cons_succ]
      go_loopg [6, 7, 8, 9] 2 (fun kq v6 v7 v8 v9 W => ∃ (s : Nat) (ys : Array S24), v6 = .int .i64 s ∧ Aside0 ((s = 20 ∧ kq = 2) ∨ (s = 40 ∧ kq = 1) ∨ (s = 80 ∧ kq = 0)) ∧ Aside0 (SI w0 base g n cap ok ys W) ∧ Aside0 (PermIn 0 n xs ys ∧ Blk (ltOf cf) s n ys))
      case atStart => exact ⟨20, zs, rfl, ⟨by omega⟩, S2, HP2⟩
      case round =>
        clear S2 HP2
        obtain ⟨s, ys, rfl, HSZ, S3, HP⟩ := hrel
        have hys := S3.out.len
        by_cases hlt : s < n
        · rcases HSZ.out with ⟨rfl, rfl⟩ | ⟨rfl, rfl⟩ | ⟨rfl, rfl⟩
          · have hlt2 : decide (((20 : Nat) : Int) < (n : Int)) = true := decide_eq_true (by omega)
            have hlt3 : decide ((20 : Int) < (n : Int)) = true := decide_eq_true (by omega)
            have hlt4 : (20 : Int) < (n : Int) := by omega
            go_wp2_with fail
            go_loopg [7, 8] n (fun kq2 v7 v8 W => ∃ (q : Nat) (zs : Array S24), v7 = .int .i64 ((40 * q : Nat) : Int) ∧ v8 = .int .i64 ((40 * q + 40 : Nat) : Int) ∧ Aside0 (40 * q ≤ n ∧ n ≤ kq2 + 40 * q) ∧ Aside0 (SI w0 base g n cap ok zs W) ∧ Aside0 (PermIn 0 n xs zs ∧ Blk (ltOf cf) 40 (40 * q) zs ∧ ∀ u v, 40 * q ≤ u → u < v → v < n → u / 20 = v / 20 → ltOf cf zs[v]! zs[u]! = false))
            case atStart => exact ⟨0, ys, rfl, rfl, ⟨by omega⟩, S3, ⟨HP.out.1, fun u v h1 h2 => by omega, fun u v _ h1 h2 h3 => HP.out.2 u v h1 h2 h3⟩⟩
            case round =>
              clear S3 hys
              obtain ⟨q, zs, rfl, rfl, HQ, S4, HP4⟩ := hrel
              obtain ⟨h1, h2⟩ := HQ.out
              have hzs := S4.out.len
              have H2 := Aside0.mk (blk_two20 HP4.out.2.2)
              by_cases hle : 40 * q + 40 ≤ n
              · have hle2 : decide (((40 * q + 40 : Nat) : Int) ≤ (n : Int)) = true := decide_eq_true (by omega)
                cases gk with
                | zero => omega
                | succ ko =>
                  have HCC := Aside0.mk (symMerge_calls hcmp hS (by omega : n ≤ 1000) n zs _ (40 * q) (40 * q + 20) (40 * q + 40) (by omega) (by omega) (by omega) hle S4.out (H2.out.1 _ (Nat.le_refl _) (by omega)) (H2.out.2 _ (Nat.le_refl _) hle))
                  generalize hM : 40 * q + 20 = M at HCC
                  generalize hA : 40 * q + 40 = A at hle2 HCC ⊢
                  generalize hB : 40 * q = B at HCC ⊢
                  have hBM : (B : Int) + 20 = (M : Int) := by omega
                  go_wp2_with ((with_reducible refine gate_callee (f := 106) rfl ?_); (try (refine gate_guard (by rfl) ?_; dsimp only)); refine goesL_ (some 43) rfl rfl Try.func106 (by kernel_rfl) rfl #[.slice (some ⟨g, 0, none⟩) n cap, .int .i64 B, .int .i64 M, .int .i64 A, .func (.func 60) #[] #[]] rfl (by (try simp only [List.map_toArray, List.map_cons, List.map_nil]); first | done | rfl) ?_; (with_reducible refine HCC.out.mono ?_); rintro e w5 ⟨rfl, y2, hz⟩; refine ⟨_, rfl, ?_⟩; have HZ := Aside0.mk hz; clear hz)
                  go_roundg (n - A)
                  case measure => omega
                  case rel =>
                    clear hBM
                    subst hM; subst hA; subst hB
                    refine ⟨q + 1, y2, by first | rfl | (congr 1; omega) | (go_num; omega), by first | rfl | go_num | (congr 1; omega), ⟨by omega⟩, ⟨HZ.out.1⟩, ⟨permIn_trans _ _ _ _ _ HP4.out.1 (permIn_mono _ _ _ _ _ _ (by omega) (by omega) (by omega) HZ.out.2.1), ?_, fun u v h3 h4 h5 h6 => ?_⟩⟩
                    · have := blk_next40 (n := n) HP4.out.2.1 (Nat.le_refl _) HZ.out.2.1 HZ.out.2.2
                      rwa [show 40 * (q + 1) = 40 * q + 40 by omega]
                    · rw [HZ.out.2.1.2.1 u (.inr (by omega)), HZ.out.2.1.2.1 v (.inr (by omega))]
                      exact HP4.out.2.2 u v (by omega) h4 h5 h6
              · have hle2 : decide (((40 * q + 40 : Nat) : Int) ≤ (n : Int)) = false := decide_eq_false (by omega)
                by_cases hm : 40 * q + 20 < n
                · have hm2 : decide (((40 * q + 20 : Nat) : Int) < (n : Int)) = true := decide_eq_true (by omega)
                  have HCC := Aside0.mk (symMerge_calls hcmp hS (by omega : n ≤ 1000) n zs _ (40 * q) (40 * q + 20) n (by omega) (by omega) (by omega) (Nat.le_refl _) S4.out (H2.out.1 _ (Nat.le_refl _) (by omega)) (H2.out.2 _ (by omega) (Nat.le_refl _)))
                  generalize hM : 40 * q + 20 = M at hm2 HCC
                  generalize hA : 40 * q + 40 = A at hle2 ⊢
                  generalize hB : 40 * q = B at HCC ⊢
                  have hBM : (B : Int) + 20 = (M : Int) := by omega
                  go_wp2_with ((with_reducible refine gate_callee (f := 106) rfl ?_); (try (refine gate_guard (by rfl) ?_; dsimp only)); refine goesL_ (some 60) rfl rfl Try.func106 (by kernel_rfl) rfl #[.slice (some ⟨g, 0, none⟩) n cap, .int .i64 B, .int .i64 M, .int .i64 n, .func (.func 60) #[] #[]] rfl (by (try simp only [List.map_toArray, List.map_cons, List.map_nil]); first | done | rfl) ?_; (with_reducible refine HCC.out.mono ?_); rintro e w5 ⟨rfl, y2, hz⟩; refine ⟨_, rfl, ?_⟩; have HZ := Aside0.mk hz; clear hz)
                  go_roundg 1
                  case measure => omega
                  case rel =>
                    clear hBM
                    subst hM; subst hA; subst hB
                    exact ⟨40, y2, rfl, ⟨by omega⟩, ⟨HZ.out.1⟩, ⟨permIn_trans _ _ _ _ _ HP4.out.1 (permIn_mono _ _ _ _ _ _ (by omega) (by omega) (by omega) HZ.out.2.1), blk_next40 (n := n) HP4.out.2.1 (by omega) HZ.out.2.1 HZ.out.2.2⟩⟩
                · have hm2 : decide (((40 * q + 20 : Nat) : Int) < (n : Int)) = false := decide_eq_false (by omega)
                  have hs := blk_next40 (n := n) HP4.out.2.1 (by omega) (permIn_refl zs _ _) (H2.out.1 n (by omega) (Nat.le_refl _))
                  have HB := Aside0.mk hs
                  clear hs
                  generalize hM : 40 * q + 20 = M at hm2
                  generalize hA : 40 * q + 40 = A at hle2 ⊢
                  generalize hB : 40 * q = B at ⊢
                  have hBM : (B : Int) + 20 = (M : Int) := by omega
                  go_wp2_with fail
                  go_roundg 1
                  case measure => omega
                  case rel => exact ⟨40, zs, rfl, ⟨by omega⟩, S4, ⟨HP4.out.1, HB.out⟩⟩
          · have hlt2 : decide (((40 : Nat) : Int) < (n : Int)) = true := decide_eq_true (by omega)
            have hlt3 : decide ((40 : Int) < (n : Int)) = true := decide_eq_true (by omega)
            have hlt4 : (40 : Int) < (n : Int) := by omega
            go_wp2_with fail
            go_loopg [7, 8] n (fun kq2 v7 v8 W => ∃ (q : Nat) (zs : Array S24), v7 = .int .i64 ((80 * q : Nat) : Int) ∧ v8 = .int .i64 ((80 * q + 80 : Nat) : Int) ∧ Aside0 (80 * q ≤ n ∧ n ≤ kq2 + 80 * q) ∧ Aside0 (SI w0 base g n cap ok zs W) ∧ Aside0 (PermIn 0 n xs zs ∧ Blk (ltOf cf) 80 (80 * q) zs ∧ ∀ u v, 80 * q ≤ u → u < v → v < n → u / 40 = v / 40 → ltOf cf zs[v]! zs[u]! = false))
            case atStart => exact ⟨0, ys, rfl, rfl, ⟨by omega⟩, S3, ⟨HP.out.1, fun u v h1 h2 => by omega, fun u v _ h1 h2 h3 => HP.out.2 u v h1 h2 h3⟩⟩
            case round =>
              clear S3 hys
              obtain ⟨q, zs, rfl, rfl, HQ, S4, HP4⟩ := hrel
              obtain ⟨h1, h2⟩ := HQ.out
              have hzs := S4.out.len
              have H2 := Aside0.mk (blk_two40 HP4.out.2.2)
              by_cases hle : 80 * q + 80 ≤ n
              · have hle2 : decide (((80 * q + 80 : Nat) : Int) ≤ (n : Int)) = true := decide_eq_true (by omega)
                cases gk with
                | zero => omega
                | succ ko =>
                  have HCC := Aside0.mk (symMerge_calls hcmp hS (by omega : n ≤ 1000) n zs _ (80 * q) (80 * q + 40) (80 * q + 80) (by omega) (by omega) (by omega) hle S4.out (H2.out.1 _ (Nat.le_refl _) (by omega)) (H2.out.2 _ (Nat.le_refl _) hle))
                  generalize hM : 80 * q + 40 = M at HCC
                  generalize hA : 80 * q + 80 = A at hle2 HCC ⊢
                  generalize hB : 80 * q = B at HCC ⊢
                  have hBM : (B : Int) + 40 = (M : Int) := by omega
                  go_wp2_with ((with_reducible refine gate_callee (f := 106) rfl ?_); (try (refine gate_guard (by rfl) ?_; dsimp only)); refine goesL_ (some 43) rfl rfl Try.func106 (by kernel_rfl) rfl #[.slice (some ⟨g, 0, none⟩) n cap, .int .i64 B, .int .i64 M, .int .i64 A, .func (.func 60) #[] #[]] rfl (by (try simp only [List.map_toArray, List.map_cons, List.map_nil]); first | done | rfl) ?_; (with_reducible refine HCC.out.mono ?_); rintro e w5 ⟨rfl, y2, hz⟩; refine ⟨_, rfl, ?_⟩; have HZ := Aside0.mk hz; clear hz)
                  go_roundg (n - A)
                  case measure => omega
                  case rel =>
                    clear hBM
                    subst hM; subst hA; subst hB
                    refine ⟨q + 1, y2, by first | rfl | (congr 1; omega) | (go_num; omega), by first | rfl | go_num | (congr 1; omega), ⟨by omega⟩, ⟨HZ.out.1⟩, ⟨permIn_trans _ _ _ _ _ HP4.out.1 (permIn_mono _ _ _ _ _ _ (by omega) (by omega) (by omega) HZ.out.2.1), ?_, fun u v h3 h4 h5 h6 => ?_⟩⟩
                    · have := blk_next80 (n := n) HP4.out.2.1 (Nat.le_refl _) HZ.out.2.1 HZ.out.2.2
                      rwa [show 80 * (q + 1) = 80 * q + 80 by omega]
                    · rw [HZ.out.2.1.2.1 u (.inr (by omega)), HZ.out.2.1.2.1 v (.inr (by omega))]
                      exact HP4.out.2.2 u v (by omega) h4 h5 h6
              · have hle2 : decide (((80 * q + 80 : Nat) : Int) ≤ (n : Int)) = false := decide_eq_false (by omega)
                by_cases hm : 80 * q + 40 < n
                · have hm2 : decide (((80 * q + 40 : Nat) : Int) < (n : Int)) = true := decide_eq_true (by omega)
                  have HCC := Aside0.mk (symMerge_calls hcmp hS (by omega : n ≤ 1000) n zs _ (80 * q) (80 * q + 40) n (by omega) (by omega) (by omega) (Nat.le_refl _) S4.out (H2.out.1 _ (Nat.le_refl _) (by omega)) (H2.out.2 _ (by omega) (Nat.le_refl _)))
                  generalize hM : 80 * q + 40 = M at hm2 HCC
                  generalize hA : 80 * q + 80 = A at hle2 ⊢
                  generalize hB : 80 * q = B at HCC ⊢
                  have hBM : (B : Int) + 40 = (M : Int) := by omega
                  go_wp2_with ((with_reducible refine gate_callee (f := 106) rfl ?_); (try (refine gate_guard (by rfl) ?_; dsimp only)); refine goesL_ (some 60) rfl rfl Try.func106 (by kernel_rfl) rfl #[.slice (some ⟨g, 0, none⟩) n cap, .int .i64 B, .int .i64 M, .int .i64 n, .func (.func 60) #[] #[]] rfl (by (try simp only [List.map_toArray, List.map_cons, List.map_nil]); first | done | rfl) ?_; (with_reducible refine HCC.out.mono ?_); rintro e w5 ⟨rfl, y2, hz⟩; refine ⟨_, rfl, ?_⟩; have HZ := Aside0.mk hz; clear hz)
                  go_roundg 0
                  case measure => omega
                  case rel =>
                    clear hBM
                    subst hM; subst hA; subst hB
                    exact ⟨80, y2, rfl, ⟨by omega⟩, ⟨HZ.out.1⟩, ⟨permIn_trans _ _ _ _ _ HP4.out.1 (permIn_mono _ _ _ _ _ _ (by omega) (by omega) (by omega) HZ.out.2.1), blk_next80 (n := n) HP4.out.2.1 (by omega) HZ.out.2.1 HZ.out.2.2⟩⟩
                · have hm2 : decide (((80 * q + 40 : Nat) : Int) < (n : Int)) = false := decide_eq_false (by omega)
                  have hs := blk_next80 (n := n) HP4.out.2.1 (by omega) (permIn_refl zs _ _) (H2.out.1 n (by omega) (Nat.le_refl _))
                  have HB := Aside0.mk hs
                  clear hs
                  generalize hM : 80 * q + 40 = M at hm2
                  generalize hA : 80 * q + 80 = A at hle2 ⊢
                  generalize hB : 80 * q = B at ⊢
                  have hBM : (B : Int) + 40 = (M : Int) := by omega
                  go_wp2_with fail
                  go_roundg 0
                  case measure => omega
                  case rel => exact ⟨80, zs, rfl, ⟨by omega⟩, S4, ⟨HP4.out.1, HB.out⟩⟩
          · omega
        · have hlt2 : decide ((s : Int) < (n : Int)) = false := decide_eq_false (by omega)
          have hlt3 : ¬ (s : Int) < (n : Int) := by omega
          have HEND := Aside0.mk (show SortedIn (ltOf cf) 0 n ys from fun u v h1 h2 h3 => HP.out.2 u v h2 h3 (by rw [Nat.div_eq_of_lt (by omega), Nat.div_eq_of_lt (by omega)]))
          go_wp2
          go_end0
          exact ⟨rfl, ys, S3.out, HP.out.1, HEND.out⟩
set_option maxHeartbeats 4000000 in
set_option maxRecDepth 100000 in
theorem sortStable_calls {cf : S24 → S24 → Int} (hcmp : CmpB cf) (hS : SWO (ltOf cf)) {w0 w : World} {base g n cap : Nat} {ok : Nat → Prop} {xs : Array S24} (hn : n ≤ 80) (S : SI w0 base g n cap ok xs w) :
    Calls Try.prog 69 #[.slice (some ⟨g, 0, none⟩) n cap, .func (.func 60) #[] #[]] w fun e w' => e = .returned (.tuple #[]) ∧ ∃ ys, SI w0 base g n cap ok ys w' ∧ PermIn 0 n xs ys ∧ SortedIn (ltOf cf) 0 n ys := by
  have HCC := Aside0.mk (stable_calls hcmp hS hn S)
  clear S
  go_enter Try.func69, Try.ntmps69
  go_wp2_with ((with_reducible refine gate_callee (f := 87) rfl ?_); (try (refine gate_guard (by rfl) ?_; dsimp only)); refine goesL_ (some 8) rfl rfl Try.func87 (by kernel_rfl) rfl #[.slice (some ⟨g, 0, none⟩) n cap, .int .i64 n, .func (.func 60) #[] #[]] rfl (by (try simp only [List.map_toArray, List.map_cons, List.map_nil]); first | done | rfl) ?_; (with_reducible refine HCC.out.mono ?_); rintro e w3 ⟨rfl, zs, hz⟩; refine ⟨_, rfl, ?_⟩; have HZ := Aside0.mk hz; clear hz)
  go_end0
  exact ⟨rfl, zs, HZ.out⟩
/-! no items -/
set_option maxHeartbeats 4000000 in
set_option maxRecDepth 100000 in
theorem insertion_none (cv : Value) (A : Option Addr) (c : Nat) (w : World) :
    Calls Try.prog 105 #[.slice A 0 c, .int .i64 0, .int .i64 0, cv] w fun e w' => e = .returned (.tuple #[]) ∧ w' = w := by
  go_enter Try.func105, Try.ntmps105
  go_wp2_with fail
  refine wp_loop_rounds 1 ?_
  rw [rounds_succ]
  go_wp2_with fail
  go_end0
  exact ⟨rfl, rfl⟩
set_option maxHeartbeats 4000000 in
set_option maxRecDepth 100000 in
theorem stable_none (cv : Value) (A : Option Addr) (c : Nat) (w : World) :
    Calls Try.prog 87 #[.slice A 0 c, .int .i64 0, cv] w fun e w' => e = .returned (.tuple #[]) ∧ w' = w := by
  go_enter Try.func87, Try.ntmps87
  go_wp2_with fail
  refine wp_loop_rounds 1 ?_
  rw [rounds_succ]
  go_wp2_with ((with_reducible refine gate_callee (f := 105) rfl ?_); (try (refine gate_guard (by rfl) ?_; dsimp only)); refine goesL_ (some 27) rfl rfl Try.func105 (by kernel_rfl) rfl #[.slice A 0 c, .int .i64 0, .int .i64 0, cv] rfl (by (try simp only [List.map_toArray, List.map_cons, List.map_nil]); first | done | rfl) ?_; (with_reducible refine (insertion_none cv A c _).mono ?_); rintro e w3 ⟨rfl, hw⟩; refine ⟨_, rfl, ?_⟩; subst hw)
  refine wp_loop_rounds 1 ?_
  rw [rounds_succ]
  go_wp2_with fail
  go_end0
  exact ⟨rfl, rfl⟩
set_option maxHeartbeats 4000000 in
set_option maxRecDepth 100000 in
theorem sortStable_none (cv : Value) (A : Option Addr) (c : Nat) (w : World) :
    Calls Try.prog 69 #[.slice A 0 c, cv] w fun e w' => e = .returned (.tuple #[]) ∧ w' = w := by
  go_enter Try.func69, Try.ntmps69
  go_wp2_with ((with_reducible refine gate_callee (f := 87) rfl ?_); (try (refine gate_guard (by rfl) ?_; dsimp only)); refine goesL_ (some 8) rfl rfl Try.func87 (by kernel_rfl) rfl #[.slice A 0 c, .int .i64 0, cv] rfl (by (try simp only [List.map_toArray, List.map_cons, List.map_nil]); first | done | rfl) ?_; (with_reducible refine (stable_none cv A c _).mono ?_); rintro e w3 ⟨rfl, hw⟩; refine ⟨_, rfl, ?_⟩; subst hw)
  go_end0
  exact ⟨rfl, rfl⟩
end Go.Proofs.Ytklidannncajiaa.OW

namespace Go.Proofs.Ytklidannncajiaa.OW
open Go.RowKit Go.Proofs.YtklidannncajiaaW.PrintWords Go.Proofs.YtklidannncajiaaW.PrintLast Go.Proofs.YtklidannncajiaaW.PrintMore
set_option linter.unusedVariables false
set_option linter.unusedSimpArgs false

def clone_Item.f (l0 : List S24) : Option (List S24) := if l0.length < 5864062014805 then (some l0) else none
set_option maxHeartbeats 8000000 in
set_option maxRecDepth 100000 in
theorem clone_Item.calls (A0 : Option Addr) (c0 : Nat) (l0 : List S24) (r : List S24) (w : World) (hr0 : Kd.C k24 w A0 l0.length l0) (hc0 : l0.length ≤ c0) (h : clone_Item.f l0 = some r) :
    Calls Try.prog 68 #[.slice A0 l0.length c0] w fun e w' => ∃ v0_ : Value, e = .returned (v0_) ∧ Kd.R k24 24 w' w.heap.size (fun _ => True) v0_ r ∧ Below w.heap.size w w' := by
  have HR0 := Aside0.mk hr0
  have hnil : A0 = none → l0 = [] := by
    intro hA
    cases l0 with
    | nil => rfl
    | cons x xs =>
      obtain ⟨ad, e, _⟩ := hr0.2.2 (by simp)
      rw [hA] at e
      cases e
  clear hr0 hc0
  unfold clone_Item.f at h
  by_cases c : l0.length < 5864062014805
  · rw [if_pos c] at h
    obtain rfl := Option.some.inj h
    clear h
    have C := Aside0.mk c
    clear c
    cases A0 with
    | none =>
      obtain rfl := hnil rfl
      clear hnil
      have kq := fun W : World => Lib.run_eql_slice_nil (P := Try.prog) W 31 24 none 0 c0 0 0 Try.underlying31
      go_enter Try.func68, Try.ntmps68
      go_wp2
      go_ret
      exact ⟨_, rfl, Kd.R_nil _ _ _ _ _, Below.refl _ _⟩
    | some ad =>
      clear hnil
      have kq := fun W : World => Lib.run_eql_slice_nil (P := Try.prog) W 31 24 (some ad) l0.length c0 0 0 Try.underlying31
      go_enter Try.func68, Try.ntmps68
      go_wp2_with (first | ((with_reducible refine gate_dst (N := 5) rfl ?_); refine Kd.R_lit (w0 := w) k24 w.heap.size 24 ?hg (N := 5) ?hd (xs := ([] : List S24)) (inner := []) (ok := fun _ => True) (okp := fun _ => True) ?hr ?hp (fun _ hk => hk) trivial (Below.refl _ _) (Nat.le_refl _) (by simp) ?_; (case hd => rfl); (case hg => rfl); (case hr => first | (go_simp; done) | (go_simp; rfl)); (case hp => exact Reps.none _ _); intro v1 w1 ho1 hb1 _ _; have HO := Aside0.mk ho1; have HB := Aside0.mk hb1; clear ho1 hb1) | ((with_reducible refine gate_dst (N := 7) rfl ?_); refine Kd.R_append_rows (w0 := w) k24 w.heap.size rfl _ _ 31 24 (.agg #[(.int .i64 0), (.string ⟨#[]⟩)]) 24 rfl Try.underlying31 info24 rfl (by decide) (by decide) _ ([] : List S24) l0 (some ad) l0.length c0 (fun _ => True) (fun _ => False) rfl rfl HO.out (Kd.C_below HR0.out HB.out) (fun x cs hx => by rw [k24_open hx]; exact k24_mkM _ _ _ x) (fun _ hk => hk.elim) (fun _ _ => trivial) HB.out HB.out.size (by have := C.out; simp; omega) ?_; intro v2 w2 ho2 hb2 _ _; have HO2 := Aside0.mk ho2; have HB2 := Aside0.mk hb2; clear ho2 hb2))
      go_ret
      exact ⟨_, rfl, by have h := HO2.out; rwa [List.nil_append] at h, HB2.out⟩
  · rw [if_neg c] at h
    cases h

end Go.Proofs.Ytklidannncajiaa.OW

namespace Go.Proofs.Ytklidannncajiaa.OW
open Go.RowKit Go.Lib Go.Sort Go.Proofs.YtklidannncajiaaW.PrintWords Go.Proofs.YtklidannncajiaaW.PrintLast Go.Proofs.YtklidannncajiaaW.PrintMore Go.Proofs.Ytklidannncajiaa.Am
set_option linter.unusedVariables false
set_option linter.unusedSimpArgs false

theorem near_ev {s w : ByteArray} (hs : s.size ≤ 1000000) (hw : w.size ≤ 1000000) (ha : isAsked s) (hx : isWord w) (k : Nat) (hk : k ≤ 4) :
    Ev (fun K => band_Near.f K s w (k : Int)) (if far (runes s 0) (runes w 0) ≤ k then ((far (runes s 0) (runes w 0) : Int), true) else (0, false)) := by
  have h := within_ev (runes s 0) (runes w 0) k (Nat.le_trans ha.2 (by omega)) (Nat.le_trans hx.2.2 (by omega)) (by omega)
  rw [far_swap] at h
  unfold band_Near.f
  rw [runes_eq hs, if_pos ha.1, runes_eq hw, if_pos hx.1]
  simp only [Option.bind_some]
  refine Ev.congr (fun K => by rw [if_pos trivial, if_pos trivial]) (Ev.bind h (Ev.now _))
def nearI (q : List Int) (k : Nat) (w : ByteArray) : Option S24 := if far q (runes w 0) ≤ k then some ⟨(far q (runes w 0) : Int), w⟩ else none
theorem mem_nearI {q : List Int} {k : Nat} {l : List ByteArray} {x : S24} : x ∈ l.filterMap (nearI q k) ↔ x ∈ levels q l 0 (k + 1) := by
  rw [mem_levels, List.mem_filterMap]
  constructor
  · rintro ⟨w, hw, h⟩
    unfold nearI at h
    split at h
    · rename_i hle
      exact ⟨w, hw, by omega, (Option.some.inj h).symm⟩
    · cases h
  · rintro ⟨w, hw, h, rfl⟩
    exact ⟨w, hw, by unfold nearI; rw [if_pos (by omega)]⟩
theorem nearI_nodup {q : List Int} {k : Nat} {l : List ByteArray} (h : l.Pairwise ltB) : (l.filterMap (nearI q k)).Nodup := by
  refine List.Pairwise.filterMap (nearI q k) (fun a a' hab b h1 b' h2 e => ?_) h
  have e1 : b.f1 = a := by
    unfold nearI at h1
    split at h1
    · exact congrArg S24.f1 (Option.some.inj h1).symm
    · cases h1
  have e2 : b'.f1 = a' := by
    unfold nearI at h2
    split at h2
    · exact congrArg S24.f1 (Option.some.inj h2).symm
    · cases h2
  rw [e, e2] at e1
  subst e1
  exact ltB.irrefl _ hab
/-! the order -/
def cfI (x y : S24) : Int := if x.f0 < y.f0 then -1 else if x.f0 > y.f0 then 1 else Lib.compareBytes x.f1.data.toList y.f1.data.toList
theorem ltI (x y : S24) : ltOf cfI x y = lessP x y := by
  unfold ltOf cfI lessP ltB
  rw [Bool.eq_iff_iff]
  simp only [decide_eq_true_eq]
  by_cases h1 : x.f0 < y.f0
  · simp [h1]
  · by_cases h2 : x.f0 > y.f0
    · simp [h1, h2]; omega
    · have : x.f0 = y.f0 := by omega
      simp [this]
theorem swoI : SWO (ltOf cfI) where
  irrefl x := by rw [ltI]; exact Bool.eq_false_iff.2 (lessP_irrefl x)
  trans x y z h1 h2 := by rw [ltI] at *; exact lessP_trans h1 h2
  ntrans x y z h1 h2 := by
    rw [ltI] at *
    refine Bool.eq_false_iff.2 fun h => ?_
    by_cases e : x = y
    · rw [e] at h; exact Bool.eq_false_iff.1 h2 h
    · exact Bool.eq_false_iff.1 h2 (lessP_trans (lessP_total (Bool.eq_false_iff.1 h1) e) h)
theorem cmpI : CmpB cfI := fun x y W => rank_compare.calls 3 x.f0 x.f1 y.f0 y.f1 (cfI x y) W (compareP_eq 3 (Nat.le_refl _) x y)
/-! rank.Sort -/
set_option maxHeartbeats 4000000 in
set_option maxRecDepth 100000 in
theorem rankSort_calls (A : Option Addr) (c : Nat) (l : List S24) (w : World) (hl : l.length ≤ 80) (hr : Kd.C k24 w A l.length l) (hc : l.length ≤ c) :
    Calls Try.prog 47 #[.slice A l.length c] w fun e w' => ∃ v ys, e = .returned v ∧ Kd.R k24 24 w' w.heap.size (fun _ => True) v ys ∧ (ys.Perm l ∧ ys.Pairwise (fun a b => lessP b a = false)) ∧ Below w.heap.size w w' := by
  have HCL := Aside0.mk (clone_Item.calls A c l l w hr hc (by unfold clone_Item.f; rw [if_pos (by omega)]))
  clear hr hc
  go_enter Try.func47, Try.ntmps47
  go_upto_region 2 with ((with_reducible refine gate_callee (f := 68) rfl ?_); (try (refine gate_guard (by rfl) ?_; dsimp only)); refine goesL_ (some 5) rfl rfl Try.func68 (by kernel_rfl) rfl #[.slice A l.length c] rfl (by (try simp only [List.map_toArray, List.map_cons, List.map_nil]); first | done | rfl) ?_; (with_reducible refine HCL.out.mono ?_); rintro e w2 ⟨v0, rfl, ho, hb⟩; refine ⟨_, rfl, ?_⟩; have HO := Aside0.mk ho; have HB := Aside0.mk hb; clear ho hb)
  obtain ⟨A3, c3, e3⟩ := Kd.R_slice HO.out
  subst e3
  by_cases h0 : l.length = 0
  · obtain rfl : l = [] := List.eq_nil_of_length_eq_zero h0
    go_wp2_with ((with_reducible refine gate_callee (f := 69) rfl ?_); (try (refine gate_guard (by rfl) ?_; dsimp only)); refine goesL_ (some 7) rfl rfl Try.func69 (by kernel_rfl) rfl #[.slice A3 0 c3, .func (.func 60) #[] #[]] rfl (by (try simp only [List.map_toArray, List.map_cons, List.map_nil]); first | done | rfl) ?_; (with_reducible refine (sortStable_none (.func (.func 60) #[] #[]) A3 c3 _).mono ?_); rintro e w3 ⟨rfl, hw⟩; subst hw; refine ⟨_, rfl, ?_⟩)
    go_ret
    exact ⟨_, [], rfl, HO.out, ⟨List.Perm.refl _, List.Pairwise.nil⟩, HB.out⟩
  · obtain ⟨g, cg, e, _, _, _, _⟩ := Kd.R_form HO.out (by omega)
    injection e with e1 _ e3
    subst e1
    subst e3
    have HS := Aside0.mk (show SI w2 w.heap.size g l.length c3 (fun _ => True) l.toArray w2 from ⟨HO.out, ⟨rfl, rfl, rfl, Nat.le_refl _, fun _ _ _ => rfl⟩, by simp⟩)
    have HBG := Aside0.mk (Kd.R_base HO.out)
    go_wp2_with ((with_reducible refine gate_callee (f := 69) rfl ?_); (try (refine gate_guard (by rfl) ?_; dsimp only)); refine goesL_ (some 7) rfl rfl Try.func69 (by kernel_rfl) rfl #[.slice (some ⟨g, 0, none⟩) l.length c3, .func (.func 60) #[] #[]] rfl (by (try simp only [List.map_toArray, List.map_cons, List.map_nil]); first | done | rfl) ?_; (with_reducible refine (sortStable_calls cmpI swoI hl HS.out).mono ?_); rintro e w3 ⟨rfl, ys, hs, hp, ho⟩; refine ⟨_, rfl, ?_⟩; have HZ := Aside0.mk hs; have HP := Aside0.mk hp; have HQ := Aside0.mk ho; clear hs hp ho)
    go_ret
    have hlen := HZ.out.len
    have hR := HZ.out.own
    refine ⟨_, rfl, ys.toList, hR, ⟨?_, ?_⟩, HB.out.grown HZ.out.grown HB.out.size HBG.out⟩
    · have := HP.out.2.2
      have e1 : ys.extract 0 l.length = ys := by rw [← hlen]; simp
      have e2 : l.toArray.extract 0 l.length = l.toArray := by simp
      rw [e1, e2] at this
      exact this
    · rw [List.pairwise_iff_getElem]
      intro i j hi hj hij
      have hi' : i < ys.size := by simpa using hi
      have hj' : j < ys.size := by simpa using hj
      have := HQ.out i j (Nat.zero_le _) hij (by omega)
      rw [ltI, getElem!_pos ys j hj', getElem!_pos ys i hi'] at this
      simpa using this
theorem sort_levels {q : List Int} {k : Nat} {l : List ByteArray} (h : l.Pairwise ltB) {ys : List S24} (hp : ys.Perm (l.filterMap (nearI q k))) (hs : ys.Pairwise (fun a b => lessP b a = false)) : ys = levels q l 0 (k + 1) := by
  have hn : ys.Nodup := hp.nodup_iff.2 (nearI_nodup h)
  refine sorted_eq ((hs.and hn).imp fun {a b} hab => lessP_total (Bool.eq_false_iff.1 hab.1) (fun e => hab.2 e.symm)) (levels_sorted q h _ 0) fun x => ?_
  rw [hp.mem_iff, mem_nearI]
/-! rank.All -/
set_option maxHeartbeats 8000000 in
set_option maxRecDepth 100000 in
theorem rankAll_calls (A : Option Addr) (c : Nat) (l : List ByteArray) (s : ByteArray) (k : Nat) (w : World) (hs : s.size ≤ 100) (hsm : ∀ x ∈ l, x.size ≤ 100) (hk : k ≤ 4) (ha : isAsked s) (hg : GoodW l) (hr : Kd.C Kd.string w A l.length l) (hc : l.length ≤ c) :
    Calls Try.prog 30 #[.slice A l.length c, .string s, .int .i64 k] w fun e w' => ∃ v, e = .returned v ∧ Kd.R k24 24 w' w.heap.size (fun _ => True) v (levels (runes s 0) l 0 (k + 1)) ∧ Below w.heap.size w w' := by
  have HR := Aside0.mk hr
  have HC := Aside0.mk hc
  have HG := Aside0.mk hg
  have HSM := Aside0.mk hsm
  have HA := Aside0.mk ha
  have hl := hg.len
  clear hr hc hg hsm ha
  go_enter Try.func30, Try.ntmps30
  go_wp2_with fail
  go_loopg [7, 9, 10, 11, 14] l.length (fun kq v7 v9 v10 v11 v14 W => ∃ (i : Nat) (acc : List S24), v14 = .int .i64 i ∧ Aside0 (i + kq = l.length) ∧ Aside0 (acc = (l.take i).filterMap (nearI (runes s 0) k)) ∧ Aside0 (Kd.R k24 24 W w.heap.size (fun _ => True) v7 acc) ∧ Aside0 (Below w.heap.size w W))
  case atStart => exact ⟨0, [], rfl, ⟨by omega⟩, ⟨by simp⟩, ⟨Kd.R_nil _ _ _ _ _⟩, ⟨Below.refl _ _⟩⟩
  case round =>
    obtain ⟨i, acc, rfl, HI, HACC, HO, HW⟩ := hrel
    have HR0 := Aside0.mk (Kd.C_below HR.out HW.out)
    have hi := HI.out
    have hacc : acc.length ≤ l.length := by
      rw [HACC.out]
      exact Nat.le_trans (List.length_filterMap_le _ _) (by rw [List.length_take]; omega)
    cases gk with
    | zero =>
      obtain rfl : i = l.length := by omega
      have hlt2 : decide ((l.length : Int) < (l.length : Int)) = false := decide_eq_false (by omega)
      obtain ⟨A3, c3, e3⟩ := Kd.R_slice HO.out
      subst e3
      have HCC := Aside0.mk (rankSort_calls A3 c3 acc wr (by omega) (Kd.R_reads' HO.out).2.2 (Kd.R_reads' HO.out).2.1)
      go_wp2_with ((with_reducible refine gate_callee (f := 47) rfl ?_); (try (refine gate_guard (by rfl) ?_; dsimp only)); refine goesL_ (some 34) rfl rfl Try.func47 (by kernel_rfl) rfl #[.slice A3 acc.length c3] rfl (by (try simp only [List.map_toArray, List.map_cons, List.map_nil]); first | done | rfl) ?_; (with_reducible refine HCC.out.mono ?_); rintro e w2 ⟨v, ys, rfl, ho, hp, hb⟩; refine ⟨_, rfl, ?_⟩; have HO2 := Aside0.mk ho; have HP2 := Aside0.mk hp; have HW2 := Aside0.mk (below_step HW.out hb); clear ho hp hb)
      go_ret
      refine ⟨_, rfl, ?_, HW2.out⟩
      have e := HACC.out
      rw [List.take_length] at e
      have hp := HP2.out.1
      rw [e] at hp
      rw [← sort_levels HG.out.sorted hp HP2.out.2]
      exact Kd.R_lower HO2.out HW.out.size
    | succ ko =>
      have hil : i < l.length := by omega
      have hil2 : decide ((i : Int) < (l.length : Int)) = true := decide_eq_true (by omega)
      have hh0 : (0 : Int) ≤ (i : Int) := by omega
      have hh1 : (i : Int) < (l.length : Int) := by omega
      obtain ⟨ad, e101, hx⟩ := Kd.at_string HR0.out (i : Int) (by omega) (by omega)
      cases e101
      rw [Int.toNat_natCast, rdOf_nat _ _ _ hil] at hx
      obtain ⟨y, hy⟩ : ∃ y, l[i]'hil = y := ⟨_, rfl⟩
      have hym : y ∈ l := by rw [← hy]; exact List.getElem_mem hil
      rw [hy] at hx
      obtain ⟨K, hK⟩ := (near_ev (Nat.le_trans hs (by omega)) (Nat.le_trans (HSM.out y hym) (by omega)) HA.out (HG.out.words y hym) k hk)
      have HN := Aside0.mk (show band_Near.f K s y (k : Int) = _ from hK K (Nat.le_refl _))
      clear hK hym
      have hnew : (l.take (i + 1)).filterMap (nearI (runes s 0) k) = acc ++ [y].filterMap (nearI (runes s 0) k) := by
        rw [List.take_add_one, List.getElem?_eq_getElem hil, hy, List.filterMap_append, HACC.out]
        rfl
      have HNW := Aside0.mk hnew
      clear hnew hy
      by_cases hle : far (runes s 0) (runes y 0) ≤ k
      · obtain ⟨d, hd⟩ : ∃ d, far (runes s 0) (runes y 0) = d := ⟨_, rfl⟩
        have HN1 := Aside0.mk (show band_Near.f K s y (k : Int) = some ((d : Int), true) by rw [HN.out, if_pos hle, hd])
        have HNW1 := Aside0.mk (show (l.take (i + 1)).filterMap (nearI (runes s 0) k) = acc ++ [(⟨(d : Int), y⟩ : S24)] by
          rw [HNW.out]
          congr 1
          show List.filterMap _ [y] = _
          rw [List.filterMap_cons]
          unfold nearI
          rw [if_pos hle, hd]
          rfl)
        clear HN HNW hle hd
        go_wp2_with (first | ((with_reducible refine gate_callee (f := 46) rfl ?_); (try (refine gate_guard (by rfl) ?_; dsimp only)); refine goesL_ (some 22) rfl rfl Try.func46 (by kernel_rfl) rfl #[.string s, .string y, .int .i64 k] rfl (by (try simp only [List.map_toArray, List.map_cons, List.map_nil]); first | done | rfl) ?_; (with_reducible refine (band_Near.calls K s y k (d : Int) true _ HN1.out).mono ?_); rintro e w2 ⟨rfl, hb⟩; refine ⟨_, rfl, ?_⟩; have HO2 := Aside0.mk (Kd.R_below HO.out hb); have HW2 := Aside0.mk (below_step HW.out hb); clear hb HO HW HR0 hx) | ((with_reducible refine gate_builtin (b := .append) (xs := #[.tmp 26, .tmp 30]) rfl ?_); at_builtin; refine Kd.R_append k24 (w0 := w) w.heap.size rfl (.tmp 26) (.tmp 30) 31 24 (.agg #[(.int .i64 0), (.string ⟨#[]⟩)]) 24 rfl Try.underlying31 info24 rfl (by decide) (by omega) u7 acc (⟨(d : Int), y⟩ : S24) [.int .i64 (d : Int), .string y] (fun _ => True) (fun _ => False) rfl rfl ?aP (fun _ hk => hk.elim) (fun _ _ => trivial) HO2.out HW2.out HW2.out.size (by omega) ?_; (case aP => exact k24_mkM _ _ _ (⟨(d : Int), y⟩ : S24)); intro v1 w1 ho hb hg hat; have HO3 := Aside0.mk ho; have HW3 := Aside0.mk hb; clear ho hb hg hat HO2 HW2))
        go_roundg ko
        case measure => omega
        case rel => exact ⟨i + 1, _, by go_num, ⟨by omega⟩, ⟨HNW1.out.symm⟩, HO3, HW3⟩
      · have HN1 := Aside0.mk (show band_Near.f K s y (k : Int) = some (0, false) by rw [HN.out, if_neg hle])
        have HNW1 := Aside0.mk (show (l.take (i + 1)).filterMap (nearI (runes s 0) k) = acc by
          rw [HNW.out]
          show acc ++ List.filterMap _ [y] = _
          rw [List.filterMap_cons]
          unfold nearI
          rw [if_neg hle]
          simp)
        clear HN HNW hle
        go_wp2_with ((with_reducible refine gate_callee (f := 46) rfl ?_); (try (refine gate_guard (by rfl) ?_; dsimp only)); refine goesL_ (some 22) rfl rfl Try.func46 (by kernel_rfl) rfl #[.string s, .string y, .int .i64 k] rfl (by (try simp only [List.map_toArray, List.map_cons, List.map_nil]); first | done | rfl) ?_; (with_reducible refine (band_Near.calls K s y k 0 false _ HN1.out).mono ?_); rintro e w2 ⟨rfl, hb⟩; refine ⟨_, rfl, ?_⟩; have HO2 := Aside0.mk (Kd.R_below HO.out hb); have HW2 := Aside0.mk (below_step HW.out hb); clear hb HO HW HR0 hx)
        go_roundg ko
        case measure => omega
        case rel => exact ⟨i + 1, acc, by go_num, ⟨by omega⟩, ⟨HNW1.out.symm⟩, HO2, HW2⟩
end Go.Proofs.Ytklidannncajiaa.OW

namespace Go.Proofs.Ytklidannncajiaa.OW
open Go.RowKit Go.Proofs.YtklidannncajiaaW.PrintWords Go.Proofs.YtklidannncajiaaW.PrintLast Go.Proofs.YtklidannncajiaaW.PrintMore Go.Proofs.Ytklidannncajiaa.Am
set_option linter.unusedVariables false
set_option linter.unusedSimpArgs false

theorem low_ev (a : Int) (n : Nat) (h0 : 0 < n) (hn : n < 1000) : ∃ r : Nat, inkhornlaw0_Low.f a (n : Int) = some (r : Int) ∧ r < n := by
  have e1 : IntKind.u64.wrap (n : Int) = n := by show (n : Int) % 18446744073709551616 = n; omega
  have e2 : 0 ≤ IntKind.u64.wrap a := by show 0 ≤ a % 18446744073709551616; omega
  unfold inkhornlaw0_Low.f
  rw [e1, if_neg (by omega), Int.tmod_eq_emod_of_nonneg e2]
  have h2 := Int.emod_nonneg (IntKind.u64.wrap a) (b := (n : Int)) (by omega)
  have h3 := Int.emod_lt_of_pos (IntKind.u64.wrap a) (b := (n : Int)) (by omega)
  exact ⟨(IntKind.u64.wrap a % (n : Int)).toNat, by rw [wr64 _ (by omega) (by omega), Int.toNat_of_nonneg h2], by omega⟩
theorem may_eq (q0 : ByteArray) (h : q0.size ≤ 1000000) (q1 q2 : Int) : ∃ b, rank_May.f q0 q1 q2 = some b := by
  unfold rank_May.f
  rw [asked_eq h, Option.bind_some]
  repeat' split
  all_goals exact ⟨_, rfl⟩
end Go.Proofs.Ytklidannncajiaa.OW

namespace Go.Proofs.Ytklidannncajiaa.OW
open Go.RowKit Go.Proofs.YtklidannncajiaaW.PrintWords Go.Proofs.YtklidannncajiaaW.PrintLast Go.Proofs.YtklidannncajiaaW.PrintMore Go.Proofs.Ytklidannncajiaa.Am
attribute [local go_sem] max2_int min2_int max_two min_two
set_option linter.unusedVariables false
set_option linter.unusedSimpArgs false

theorem may_true {q0 : ByteArray} {q1 q2 : Int} (h : q0.size ≤ 1000000) (hm : rank_May.f q0 q1 q2 = some true) : isAsked q0 ∧ ∃ k : Nat, q1 = (k : Int) ∧ k ≤ 4 := by
  unfold rank_May.f at hm
  rw [asked_eq h, Option.bind_some] at hm
  by_cases ha : isAsked q0
  · refine ⟨ha, ?_⟩
    rw [if_pos (decide_eq_true ha)] at hm
    by_cases h1 : q1 ≥ 0
    · rw [if_pos h1] at hm
      by_cases h2 : q1 ≤ 4
      · exact ⟨q1.toNat, by omega, by omega⟩
      · rw [if_neg h2] at hm; cases hm
    · rw [if_neg h1] at hm; cases hm
  · rw [if_neg (by simpa using ha)] at hm; cases hm
/-- All near words, as the machine's functions tell them. -/
def allL (q0 : ByteArray) (k : Nat) (l : List ByteArray) : List S24 := levels (runes q0 0) l 0 (k + 1)
theorem filter_first (af : S24) (L : List S24) : L.filter (keepP true af) = L := List.filter_eq_self.2 (fun x _ => rfl)
theorem rest_first {q0 : ByteArray} {k : Nat} {l : List ByteArray} (ha : isAsked q0) (hk : k ≤ 4) (af : S24) : restP q0 (k : Int) l true af = allL q0 k l := by
  unfold restP allP
  rw [if_pos ⟨ha, by omega, by omega⟩]
  rw [filter_first]
  rfl
theorem same_calls' (K : Nat) (A : Option Addr) (c : Nat) (x : List S24) (n : Nat) (B : Option Addr) (cb : Nat) (y : List S24) (m : Nat) (hn : x.length = n) (hm : y.length = m) (r : Bool) (w : World) (hx : Kd.C k24 w A n x) (hc : n ≤ c) (hy : Kd.C k24 w B m y) (hcb : m ≤ cb) (h : inkhornlaw0_SameItems.f K x y = some r) :
    Calls Try.prog 17 #[.slice A n c, .slice B m cb] w fun e w' => e = .returned (.bool r) ∧ Drawn0 w w' := by
  subst hn; subst hm
  exact inkhornlaw0_SameItems.calls K A c x B cb y r w hx hc hy hcb h
end Go.Proofs.Ytklidannncajiaa.OW
