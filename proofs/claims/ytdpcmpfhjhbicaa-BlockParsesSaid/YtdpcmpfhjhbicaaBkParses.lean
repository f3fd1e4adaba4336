/- BlockParses: the walk. -/
import Derived.Test.YtdpcmpfhjhbicaaBkRp
set_option linter.unusedVariables false
set_option linter.unusedSimpArgs false
namespace Go.Proofs.Ytdpcmpfhjhbicaa
open Go.RowKit Go.Viv

set_option maxRecDepth 20000 in
set_option maxHeartbeats 1000000 in
theorem BlockParses_walk (w : World) (s : ByteArray) (hs : s.size ≤ 9223372036854775807) : Calls Try.prog 3 #[.string s] w (Ret (.bool true) w) := by
  have C1 := Lib.hid (fun w => Parse_calls s hs w)
  have C2 := Lib.hid (fun w => rParse_calls s hs w)
  obtain ⟨L, N, E, hL, hl⟩ : ∃ L N E, parseV s = .tuple #[.agg (arr L), .int .i64 N, .int .i64 E] ∧ L.length = 16 := ⟨_, _, _, rfl, parseL_length s⟩
  rw [hL] at C1 C2
  have hi := arr_info hl
  have hEE : (E == E) = true := beq_self_eq_true E
  have hNN : (N == N) = true := beq_self_eq_true N
  have heq : ∀ w, (binOp .eql 23 (.agg (arr L)) (.agg (arr L))).run Try.prog w = .ok (.bool true) w := fun w => by
    have := arr_eql hl hl w; simpa using this
  have hz16 : Hid ((arr (List.replicate 16 0)).size = (arr L).size) := by show _ = _; rw [arr_size, arr_size, hl]; rfl
  have hone := Lib.hid (arr_one L)
  obtain ⟨a0, a1, a2, a3, a4, a5, a6, a7, a8, a9, a10, a11, a12, a13, a14, a15, hLe⟩ := list16 hl
  have hLA : Hid (arr L = #[.int .u8 a0, .int .u8 a1, .int .u8 a2, .int .u8 a3, .int .u8 a4, .int .u8 a5, .int .u8 a6, .int .u8 a7, .int .u8 a8, .int .u8 a9, .int .u8 a10, .int .u8 a11, .int .u8 a12, .int .u8 a13, .int .u8 a14, .int .u8 a15]) := by show _ = _; rw [hLe]; rfl
  have heq2 : ∀ w, (binOp .eql 23 (.agg #[.int .u8 a0, .int .u8 a1, .int .u8 a2, .int .u8 a3, .int .u8 a4, .int .u8 a5, .int .u8 a6, .int .u8 a7, .int .u8 a8, .int .u8 a9, .int .u8 a10, .int .u8 a11, .int .u8 a12, .int .u8 a13, .int .u8 a14, .int .u8 a15]) (.agg #[.int .u8 a0, .int .u8 a1, .int .u8 a2, .int .u8 a3, .int .u8 a4, .int .u8 a5, .int .u8 a6, .int .u8 a7, .int .u8 a8, .int .u8 a9, .int .u8 a10, .int .u8 a11, .int .u8 a12, .int .u8 a13, .int .u8 a14, .int .u8 a15])).run Try.prog w = .ok (.bool true) w := by rw [← hLA.out]; exact heq
  clear hL hl hLe heq
  go_enter Try.func3, Try.ntmps3
  go_wp2_with (first | (go_at_call 12; ((with_reducible refine (alive29 _).mono ?_); rintro e w1 ⟨rfl, hb1⟩)) | (go_at_call 13; ((with_reducible refine (C1.out _).mono ?_); rintro e w2 ⟨rfl, hb2⟩)) | (refine wpList_store_row (by rfl) 23 _ _ (by rfl) w2.heap.size (arr L) (by rfl) (by rfl) 23 _ (bk_new w2 _) hi hz16.out hone.out ?_; rw [World.setRow_alloc_new]; have K2 := bk_new w2 (.cells (arr L) 23); have hB2 := (next hb1 hb2).alloc (next hb1 hb2).size (.cells (arr L) 23); generalize (w2.alloc (.cells (arr L) 23)) = w3 at *) | (go_at_call 14; ((with_reducible refine (C2.out _).mono ?_); rintro e w4 ⟨rfl, hb4⟩; have K4 := bk_below K2 hb4)) | (refine wpList_store_row (by rfl) 23 _ _ (by rfl) w4.heap.size (arr L) (by rfl) (by rfl) 23 _ (bk_new w4 _) hi hz16.out hone.out ?_; rw [World.setRow_alloc_new]; have K5 := bk_new w4 (.cells (arr L) 23); have K6 := bk_alloc K4 (.cells (arr L) 23); have hB5 := (next hB2 hb4).alloc (next hB2 hb4).size (.cells (arr L) 23); generalize (w4.alloc (.cells (arr L) 23)) = w5 at *; have hc5 := bk_cell (bk_eq K5 hLA.out); have hc6 := bk_cell (bk_eq K6 hLA.out); clear K5 K6))
  go_ret
  exact Ret.of rfl hB5
end Go.Proofs.Ytdpcmpfhjhbicaa
