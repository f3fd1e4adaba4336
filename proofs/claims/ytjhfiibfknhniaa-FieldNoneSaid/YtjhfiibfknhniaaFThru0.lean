/- The law's own look at what goes through the cells, where no cell lives and none is wanted. -/
import Derived.Test.YtjhfiibfknhniaaFBox
set_option linter.unusedVariables false
set_option linter.unusedSimpArgs false
namespace Go.Proofs.Ytjhfiibfknhniaa
open Go.RowKit Go.Shelf Go.Viv
attribute [local go_sem] Oper.semAt_some

def ThrI (n₀ B0 B1 B2 B3 : Nat) (lt : TypeId) (w : World) (pre : List Cel) (W : World) : Prop :=
  W.heap[B0]? = some (.cells #[.slice none 0 0] lt (0, 0)) ∧ W.heap[B1]? = some (.cells #[.int .i64 (-1)] 3 (0, 0)) ∧ W.heap[B2]? = some (.cells #[.int .i64 0] 3 (0, 0)) ∧ W.heap[B3]? = some (.cells #[.bool true] 4 (0, 0)) ∧ Below n₀ w W
theorem thrI_own {n₀ B0 B1 B2 B3 B : Nat} {lt : TypeId} {w : World} (h1 : n₀ ≤ w.heap.size) (h2 : n₀ ≤ B) : OwnFrom B (ThrI n₀ B0 B1 B2 B3 lt w) :=
  OwnFrom.and ((blk_own _ _ _).from _) (OwnFrom.and ((blk_own _ _ _).from _) (OwnFrom.and ((blk_own _ _ _).from _) (OwnFrom.and ((blk_own _ _ _).from _) (ownFrom_below h1 h2))))

set_option maxRecDepth 100000 in
set_option maxHeartbeats 4000000 in
theorem through0 {g : Nat} {lb : Array Value} {S : Nat → Prop} {w : World} (eg : ∀ args w, (callFunc g args).run Try.prog w = .ok (.enter g args) w)
    (h : Iter g lb S [] w) : Calls Try.prog 29 #[.func (.func g) #[] lb, .slice none 0 0, .int .i64 (-1)] w fun e w' => e = .returned (.bool true) ∧ Below w.heap.size w w' := by
  refine (callsIn_wide (n := 8)).1 ?_
  refine callsIn_of_wp_marks Try.func29 rfl trivial ?_ rfl
  simp only [Try.ntmps29, List.size_toArray, List.length_cons, List.length_nil, Nat.reduceAdd, Nat.reduceSub, Array.replicate_succ, Array.replicate_zero, List.push_toArray, List.append_toArray, List.nil_append, List.cons_append]
  gi_wp2
  have K3 := bk_newn (((w.alloc (.cells #[.slice none 0 0] 76)).alloc (.cells #[.int .i64 (-1)] 3)).alloc (.cells #[.int .i64 0] 3)) (.cells #[.bool true] 4) (w.heap.size + 1 + 1 + 1) (by simp)
  have K2 := bk_alloc (bk_newn ((w.alloc (.cells #[.slice none 0 0] 76)).alloc (.cells #[.int .i64 (-1)] 3)) (.cells #[.int .i64 0] 3) (w.heap.size + 1 + 1) (by simp)) (.cells #[.bool true] 4)
  have K1 := bk_alloc (bk_alloc (bk_newn (w.alloc (.cells #[.slice none 0 0] 76)) (.cells #[.int .i64 (-1)] 3) (w.heap.size + 1) (by simp)) (.cells #[.int .i64 0] 3)) (.cells #[.bool true] 4)
  have K0 := bk_alloc (bk_alloc (bk_alloc (bk_newn w (.cells #[.slice none 0 0] 76) w.heap.size rfl) (.cells #[.int .i64 (-1)] 3)) (.cells #[.int .i64 0] 3)) (.cells #[.bool true] 4)
  have hBw : Below w.heap.size w ((((w.alloc (.cells #[.slice none 0 0] 76)).alloc (.cells #[.int .i64 (-1)] 3)).alloc (.cells #[.int .i64 0] 3)).alloc (.cells #[.bool true] 4)) := ((((boxed w _).alloc (by simp) _).alloc (by simp; omega) _).alloc (by simp; omega) _)
  generalize ((((w.alloc (.cells #[.slice none 0 0] 76)).alloc (.cells #[.int .i64 (-1)] 3)).alloc (.cells #[.int .i64 0] 3)).alloc (.cells #[.bool true] 4)) = W0 at *
  generalize w.heap.size + 1 + 1 + 1 = B3 at *
  generalize w.heap.size + 1 + 1 = B2 at *
  generalize w.heap.size + 1 = B1 at *
  have hb0 := hBw.size
  refine wpIn_rangeFunc_ownH rfl (by omega) (gf := g) (lb := lb) rfl trivial eg
    (h.2 7 (by omega)) keepsOn_t (keepsOn_b (fun b hb => Nat.lt_of_lt_of_le (h.1 b hb) hb0)) hBw (fun _ => rfl)
    (ThrI w.heap.size w.heap.size B1 B2 B3 76 w) (fun _ _ _ => False) (thrI_own (Nat.le_refl _) hb0) (fun _ _ _ _ _ hs _ _ => hs)
    ⟨K0, K1, K2, K3, hBw⟩ (fun _ _ _ => True) (fun x a' _ _ _ _ _ _ _ => trivial) ?assign ?body ?done ?stop
  case assign =>
    intro l pre x W K hi hK
    obtain ⟨K0, K1, K2, K3, hB⟩ := id hi
    simp [celV]
    gi_wp2
    refine hK _ _ ((KeepsOthers.alloc _ _).from _) (fun b hb => Below.heap_alloc _ _ _ ?_) ⟨bk_alloc K0 _, bk_alloc K1 _, bk_alloc K2 _, bk_alloc K3 _, hB.alloc hB.size _⟩ trivial
    exact Nat.lt_of_lt_of_le (h.1 b hb) hB.size
  case body =>
    rintro l pre x a' W hl _ _ _ hlt
    simp at hlt
  case done =>
    rintro D ys W hD rfl ⟨K0, K1, K2, K3, hB⟩ hK
    have hc0 := bk_cell K0
    have hc1 := bk_cell K1; have hc2 := bk_cell K2; have hc3 := bk_cell K3
    gi_wp2
    refine ⟨by simp, .inl ⟨_, _, rfl, run_takeDeferred hK, ?_⟩⟩
    exact ⟨_, results_tmp rfl _ _ _, rfl, hB.trans (belowK_b (w := w) (Nat.le_refl _) W D _ _ (by omega) hK rfl rfl)⟩
  case stop =>
    rintro D c pre W _ _ h _
    exact h.elim
end Go.Proofs.Ytjhfiibfknhniaa
