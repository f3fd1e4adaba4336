/- The walks of the laws FoldCell and FoldRing. -/
import Derived.Test.YtfdehecekghlmaaAwake
import Derived.Test.YtfdehecekghlmaaRefPart
import Derived.Test.YtfdehecekghlmaaLawKit
set_option linter.unusedVariables false
set_option linter.unusedSimpArgs false
namespace Go.Proofs.Ytfdehecekghlmaa
open Go.RowKit Go.Viv Go.Proofs.Ytfdehecekghlmaa.PFoldRing

set_option maxHeartbeats 4000000 in
theorem FoldCell_walk {k W H t s x y : Int} (w : World) (bk : 0 ≤ k ∧ k ≤ 255) (bW : -9223372036854775808 ≤ W ∧ W ≤ 9223372036854775807) (bH : -9223372036854775808 ≤ H ∧ H ≤ 9223372036854775807) (bt : 0 ≤ t ∧ t ≤ 255) (bs : -9223372036854775808 ≤ s ∧ s ≤ 9223372036854775807) (bx : -9223372036854775808 ≤ x ∧ x ≤ 9223372036854775807) (by_ : -9223372036854775808 ≤ y ∧ y ≤ 9223372036854775807) :
    Calls Try.prog 3 #[topoV k W H t s, pt x y] w (Ret (.bool true) w) := by
  have c1 := fun w => CellF_calls k W H t s x y w bt.1
  have c2 := fun w => refCell_calls k W H t s x y w bt.1
  have c3 := fun w => Part_calls k W H t s x y w bt.1
  have c4 := fun w => rPart_calls k W H t s x y w bt.1
  obtain ⟨X, hX⟩ : ∃ X, cellX k W H t s x y = X := ⟨_, rfl⟩
  obtain ⟨Y, hY⟩ : ∃ Y, cellY k W H t s x y = Y := ⟨_, rfl⟩
  obtain ⟨E, hE⟩ : ∃ E, cellE k W H t s x y = E := ⟨_, rfl⟩
  obtain ⟨N, hN⟩ : ∃ N, partN k W H t s x y = N := ⟨_, rfl⟩
  rw [hX, hY, hE] at c1 c2
  rw [hN, hE] at c3 c4
  have C1 := Lib.hid c1; have C2 := Lib.hid c2; have C3 := Lib.hid c3; have C4 := Lib.hid c4
  clear c1 c2 c3 c4 hX hY hE hN bk bW bH bt bs bx by_
  have K1 : ((w.alloc (.cells #[.int .u8 k, .int .i64 W, .int .i64 H, .int .u8 t, .int .i64 s] 23)).alloc (.cells #[.int .i64 x, .int .i64 y] 25)).heap[w.heap.size]? = some (.cells #[.int .u8 k, .int .i64 W, .int .i64 H, .int .u8 t, .int .i64 s] 23 (0, 0)) := (bk_alloc (bk_new _ _) _)
  have K2 : ((w.alloc (.cells #[.int .u8 k, .int .i64 W, .int .i64 H, .int .u8 t, .int .i64 s] 23)).alloc (.cells #[.int .i64 x, .int .i64 y] 25)).heap[w.heap.size + 1]? = some (.cells #[.int .i64 x, .int .i64 y] 25 (0, 0)) := (by have := bk_new (w.alloc (.cells #[.int .u8 k, .int .i64 W, .int .i64 H, .int .u8 t, .int .i64 s] 23)) (.cells #[.int .i64 x, .int .i64 y] 25); simpa only [World.size_alloc] using this)
  have hBw : Below w.heap.size w ((w.alloc (.cells #[.int .u8 k, .int .i64 W, .int .i64 H, .int .u8 t, .int .i64 s] 23)).alloc (.cells #[.int .i64 x, .int .i64 y] 25)) := (boxed _ _).alloc (by simp) _
  go_enter Try.func3, Try.ntmps3
  go_wp2_with (first | fail)
  generalize hW0 : ((w.alloc (.cells #[.int .u8 k, .int .i64 W, .int .i64 H, .int .u8 t, .int .i64 s] 23)).alloc (.cells #[.int .i64 x, .int .i64 y] 25)) = W0 at *
  clear hW0
  have hB := same W0
  have K10 := K1
  have K20 := K2
  refine (awake_calls _).mono ?_
  rintro e w1 ⟨rfl, hb1⟩
  replace hB := next hB hb1; replace K1 := bk_below K1 hb1; have hcK1 := bk_cell K1; have hfK1 := bk_free K1; have hlK1 := bk_lt K1; replace K2 := bk_below K2 hb1; have hcK2 := bk_cell K2; have hfK2 := bk_free K2; have hlK2 := bk_lt K2
  go_wp2_with (first | fail)
  refine (C1.out _).mono ?_
  rintro e w2 ⟨rfl, hb1⟩
  replace hB := next hB hb1; replace K1 := bk_below K1 hb1; have hcK1 := bk_cell K1; have hfK1 := bk_free K1; have hlK1 := bk_lt K1; replace K2 := bk_below K2 hb1; have hcK2 := bk_cell K2; have hfK2 := bk_free K2; have hlK2 := bk_lt K2
  have KA := bk_new w2 (.cells #[.int .i64 X, .int .i64 Y] 25)
  go_wp2_with (first | fail)
  refine (C2.out _).mono ?_
  rintro e w3 ⟨rfl, hb1⟩
  replace hB := next hB (box hb1); replace K1 := bk_below K1 (box hb1); have hcK1 := bk_cell K1; have hfK1 := bk_free K1; have hlK1 := bk_lt K1; replace K2 := bk_below K2 (box hb1); have hcK2 := bk_cell K2; have hfK2 := bk_free K2; have hlK2 := bk_lt K2
  replace KA := bk_below KA hb1; have hcA := bk_cell KA; have hlA := bk_lt KA
  have KB := bk_new w3 (.cells #[.int .i64 X, .int .i64 Y] 25)
  go_wp2_with (first | fail)
  refine (C3.out _).mono ?_
  rintro e w4 ⟨rfl, hb1⟩
  replace hB := next hB (box hb1); replace K1 := bk_below K1 (box hb1); have hcK1 := bk_cell K1; have hfK1 := bk_free K1; have hlK1 := bk_lt K1; replace K2 := bk_below K2 (box hb1); have hcK2 := bk_cell K2; have hfK2 := bk_free K2; have hlK2 := bk_lt K2
  replace KA := bk_below KA (box hb1); have hcA := bk_cell KA; have hlA := bk_lt KA
  replace KB := bk_below KB hb1; have hcB := bk_cell KB; have hlB := bk_lt KB
  go_wp2_with (first | fail)
  refine (C4.out _).mono ?_
  rintro e w5 ⟨rfl, hb1⟩
  replace hB := next hB hb1; replace K1 := bk_below K1 hb1; have hcK1 := bk_cell K1; have hfK1 := bk_free K1; have hlK1 := bk_lt K1; replace K2 := bk_below K2 hb1; have hcK2 := bk_cell K2; have hfK2 := bk_free K2; have hlK2 := bk_lt K2
  replace KA := bk_below KA hb1; have hcA := bk_cell KA; have hlA := bk_lt KA
  replace KB := bk_below KB hb1; have hcB := bk_cell KB; have hlB := bk_lt KB
  go_wp2
  go_ret
  exact Ret.of (by simp) (by repeat (with_reducible (first | exact hBw.trans (hB.mono hBw.size) | refine Below.setCell ?_ (by have h1_ := hBw.size; have h2_ := hB.size; (try simp) <;> omega) _ | refine Below.drew ?_ | refine Below.alloc ?_ (by have h1_ := hBw.size; have h2_ := hB.size; (try simp) <;> omega) _)))

set_option maxHeartbeats 4000000 in
theorem FoldRing_walk {k W H t s x y : Int} (w : World) (bk : 0 ≤ k ∧ k ≤ 255) (bW : -9223372036854775808 ≤ W ∧ W ≤ 9223372036854775807) (bH : -9223372036854775808 ≤ H ∧ H ≤ 9223372036854775807) (bt : 0 ≤ t ∧ t ≤ 255) (bs : -9223372036854775808 ≤ s ∧ s ≤ 9223372036854775807) (bx : -9223372036854775808 ≤ x ∧ x ≤ 9223372036854775807) (by_ : -9223372036854775808 ≤ y ∧ y ≤ 9223372036854775807) :
    Calls Try.prog 4 #[topoV k W H t s, pt x y] w (Ret (.bool true) w) := by
  have c1 := fun w => Ring_calls k W H t s x y w bt.1
  have c2 := fun w => refRing_calls k W H t s x y w bt.1
  obtain ⟨X, hX⟩ : ∃ X, ringX k W H t s x y = X := ⟨_, rfl⟩
  obtain ⟨Y, hY⟩ : ∃ Y, ringY k W H t s x y = Y := ⟨_, rfl⟩
  obtain ⟨E, hE⟩ : ∃ E, ringE k W H t s x y = E := ⟨_, rfl⟩
  obtain ⟨N, hN⟩ : ∃ N, ringB k W H t s x y = N := ⟨_, rfl⟩
  rw [hX, hY, hE, hN] at c1 c2
  have C1 := Lib.hid c1; have C2 := Lib.hid c2
  clear c1 c2 hX hY hE hN bk bW bH bt bs bx by_
  have K1 : ((w.alloc (.cells #[.int .u8 k, .int .i64 W, .int .i64 H, .int .u8 t, .int .i64 s] 23)).alloc (.cells #[.int .i64 x, .int .i64 y] 25)).heap[w.heap.size]? = some (.cells #[.int .u8 k, .int .i64 W, .int .i64 H, .int .u8 t, .int .i64 s] 23 (0, 0)) := (bk_alloc (bk_new _ _) _)
  have K2 : ((w.alloc (.cells #[.int .u8 k, .int .i64 W, .int .i64 H, .int .u8 t, .int .i64 s] 23)).alloc (.cells #[.int .i64 x, .int .i64 y] 25)).heap[w.heap.size + 1]? = some (.cells #[.int .i64 x, .int .i64 y] 25 (0, 0)) := (by have := bk_new (w.alloc (.cells #[.int .u8 k, .int .i64 W, .int .i64 H, .int .u8 t, .int .i64 s] 23)) (.cells #[.int .i64 x, .int .i64 y] 25); simpa only [World.size_alloc] using this)
  have hBw : Below w.heap.size w ((w.alloc (.cells #[.int .u8 k, .int .i64 W, .int .i64 H, .int .u8 t, .int .i64 s] 23)).alloc (.cells #[.int .i64 x, .int .i64 y] 25)) := (boxed _ _).alloc (by simp) _
  go_enter Try.func4, Try.ntmps4
  go_wp2_with (first | fail)
  generalize hW0 : ((w.alloc (.cells #[.int .u8 k, .int .i64 W, .int .i64 H, .int .u8 t, .int .i64 s] 23)).alloc (.cells #[.int .i64 x, .int .i64 y] 25)) = W0 at *
  clear hW0
  have hB := same W0
  have K10 := K1
  have K20 := K2
  refine (awake_calls _).mono ?_
  rintro e w1 ⟨rfl, hb1⟩
  replace hB := next hB hb1; replace K1 := bk_below K1 hb1; have hcK1 := bk_cell K1; have hfK1 := bk_free K1; have hlK1 := bk_lt K1; replace K2 := bk_below K2 hb1; have hcK2 := bk_cell K2; have hfK2 := bk_free K2; have hlK2 := bk_lt K2
  go_wp2_with (first | fail)
  refine (C1.out _).mono ?_
  rintro e w2 ⟨rfl, hb1⟩
  replace hB := next hB hb1; replace K1 := bk_below K1 hb1; have hcK1 := bk_cell K1; have hfK1 := bk_free K1; have hlK1 := bk_lt K1; replace K2 := bk_below K2 hb1; have hcK2 := bk_cell K2; have hfK2 := bk_free K2; have hlK2 := bk_lt K2
  have KA := bk_new w2 (.cells #[.int .i64 X, .int .i64 Y] 25)
  go_wp2_with (first | fail)
  refine (C2.out _).mono ?_
  rintro e w3 ⟨rfl, hb1⟩
  replace hB := next hB (box hb1); replace K1 := bk_below K1 (box hb1); have hcK1 := bk_cell K1; have hfK1 := bk_free K1; have hlK1 := bk_lt K1; replace K2 := bk_below K2 (box hb1); have hcK2 := bk_cell K2; have hfK2 := bk_free K2; have hlK2 := bk_lt K2
  replace KA := bk_below KA hb1; have hcA := bk_cell KA; have hlA := bk_lt KA
  have KB := bk_new w3 (.cells #[.int .i64 X, .int .i64 Y] 25)
  go_wp2
  go_ret
  exact Ret.of (by simp) (by repeat (with_reducible (first | exact hBw.trans (hB.mono hBw.size) | refine Below.setCell ?_ (by have h1_ := hBw.size; have h2_ := hB.size; (try simp) <;> omega) _ | refine Below.drew ?_ | refine Below.alloc ?_ (by have h1_ := hBw.size; have h2_ := hB.size; (try simp) <;> omega) _)))

end Go.Proofs.Ytfdehecekghlmaa
