/- BlockNone: the walk. -/
import Derived.Test.YtdpcmpfhjhbicaaBkN
set_option linter.unusedVariables false
set_option linter.unusedSimpArgs false
namespace Go.Proofs.Ytdpcmpfhjhbicaa
open Go.RowKit Go.Viv

set_option maxRecDepth 20000 in
set_option maxHeartbeats 8000000 in
theorem BlockNone_walk (w : World) {b : List Int} {k W H t s n : Int} (hb : Arr16 b) (bk : 0 ≤ k ∧ k ≤ 255) (bW : -9223372036854775808 ≤ W ∧ W ≤ 9223372036854775807) (bH : -9223372036854775808 ≤ H ∧ H ≤ 9223372036854775807) (bt : 0 ≤ t ∧ t ≤ 255) (bs : -9223372036854775808 ≤ s ∧ s ≤ 9223372036854775807) (bn : -9223372036854775808 ≤ n ∧ n ≤ 9223372036854775807) :
    Calls Try.prog 4 #[.agg (arr b), topoV k W H t s, .int .i64 n] w (Ret (.bool true) w) := by
  have KO := askW_K (b := b) (k := k) (W := W) (H := H) (t := t) (s := s) (w := w)
  have KT := askW_T (b := b) (k := k) (W := W) (H := H) (t := t) (s := s) (w := w)
  have hB := askW_B (b := b) (k := k) (W := W) (H := H) (t := t) (s := s) (w := w)
  unfold askW at KO KT hB
  have hi := arr_info hb.len
  have hl := Lib.hid hb.len
  have HKO := Lib.hid KO; have HKT := Lib.hid KT; have HB := Lib.hid hB
  have CN1 := Lib.hid (fun w' => Run_none (b := b) (k := k) (W := W) (H := H) (t := t) (s := s) (gen := n) (n := n) (w := w') hb.len (.inl rfl))
  have CN2 : Hid (∀ w' : World, Calls Try.prog 15 #[.agg (arr b), topoV k W H t s, .pointer (some ⟨w'.heap.size, 0, none⟩), .int .i64 n, .int .i64 n] (w'.alloc (.cells #[.int .i64 0, .int .i64 0, .int .i64 0, .bool false, .nilIface] 38)) (Ret (.tuple #[.pointer none, .int .i64 1]) (w'.alloc (.cells #[.int .i64 0, .int .i64 0, .int .i64 0, .bool false, .nilIface] 38)))) := fun w' => Run_none hb.len (.inr ⟨_, rfl, bk_new _ _⟩)
  clear hb bk bW bH bt bs bn KO KT hB
  go_enter Try.func4, Try.ntmps4
  go_wp2_with (first | (go_at_call 12; ((with_reducible refine (alive29 _).mono ?_); rintro e w1 ⟨rfl, hb1⟩; have K1 := Lib.hid (bk_below HKO.out hb1); have T1 := Lib.hid (bk_below HKT.out hb1); have hcT1 := bk_cell T1.out)) | (refine wpList_load_row (by rfl) 23 _ (by rfl) w.heap.size (by rfl) 23 _ (0, 0) _ K1.out Try.underlying23 rfl hi ?_) | (go_at_call 15; ((with_reducible refine (CN1.out _).mono ?_); rintro e w2 ⟨rfl, hb2⟩; have K2 := Lib.hid (bk_below K1.out hb2); have T2 := Lib.hid (bk_below T1.out hb2); have hcT2 := bk_cell T2.out)) | (refine wpList_load_row (by rfl) 23 _ (by rfl) w.heap.size (by rfl) 23 _ (0, 0) _ K2.out Try.underlying23 rfl hi ?_) | (go_at_call 15; ((with_reducible refine (CN2.out w2).mono ?_); rintro e w3 ⟨rfl, hb3⟩)))
  go_ret
  exact Ret.of rfl (next (next (next HB.out hb1) hb2) (next (boxed _ _) hb3))
end Go.Proofs.Ytdpcmpfhjhbicaa
