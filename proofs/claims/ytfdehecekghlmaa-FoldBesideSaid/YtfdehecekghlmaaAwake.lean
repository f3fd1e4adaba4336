/- The walk of the chapter's examples (vivariumlaw06.awake). -/
import Derived.Test.YtfdehecekghlmaaPartA
set_option linter.unusedVariables false
set_option linter.unusedSimpArgs false
namespace Go.Proofs.Ytfdehecekghlmaa
open Go.RowKit Go.Viv

theorem aw1 (w : World) : Calls Try.prog 12 #[topoV 3 3 2 1 1, pt 0 (-2)] w (Ret (.tuple #[pt 1 0, .int .i64 0]) w) := by
  have h := CellF_calls 3 3 2 1 1 0 (-2) w (by decide)
  rw [show cellX 3 3 2 1 1 0 (-2) = 1 by decide, show cellY 3 3 2 1 1 0 (-2) = 0 by decide, show cellE 3 3 2 1 1 0 (-2) = 0 by decide] at h
  exact h
theorem aw2 (w : World) : Calls Try.prog 16 #[topoV 5 2 2 0 0, pt (-2) 0] w (Ret (.tuple #[pt 0 (-1), .bool true, .int .i64 0]) w) := by
  have h := Ring_calls 5 2 2 0 0 (-2) 0 w (by decide)
  rw [show ringX 5 2 2 0 0 (-2) 0 = 0 by decide, show ringY 5 2 2 0 0 (-2) 0 = -1 by decide, show ringB 5 2 2 0 0 (-2) 0 = true by decide, show ringE 5 2 2 0 0 (-2) 0 = 0 by decide] at h
  exact h
theorem aw3 (w : World) : Calls Try.prog 16 #[topoV 1 3 2 0 0, pt 2 0] w (Ret (.tuple #[pt 0 0, .bool false, .int .i64 0]) w) := by
  have h := Ring_calls 1 3 2 0 0 2 0 w (by decide)
  rw [show ringX 1 3 2 0 0 2 0 = 0 by decide, show ringY 1 3 2 0 0 2 0 = 0 by decide, show ringB 1 3 2 0 0 2 0 = false by decide, show ringE 1 3 2 0 0 2 0 = 0 by decide] at h
  exact h
theorem aw5 (w : World) : Calls Try.prog 14 #[topoV 3 3 2 1 1, pt 0 1] w (Ret (.tuple #[.int .i64 6, .int .i64 0]) w) := by
  have h := Part_calls 3 3 2 1 1 0 1 w (by decide)
  rw [show partN 3 3 2 1 1 0 1 = 6 by decide, show cellE 3 3 2 1 1 0 1 = 0 by decide] at h
  exact h
theorem aw4 (w : World) : Calls Try.prog 19 #[topoV 3 3 2 1 1] w (fun e w' => ∃ g c, e = .returned (.tuple #[.slice (some ⟨g, 0, none⟩) 2 c, .int .i64 0]) ∧ Below w.heap.size w w') := by
  refine (Glue_calls 3 3 2 1 1 w (by decide)).mono ?_
  rintro e w' ⟨v, rfl, hb, ho⟩
  have hl : (glueL 3 3 2 1 1).length = 2 := by decide
  rw [hl] at ho
  obtain ⟨g, c, rfl⟩ := own_form ho (by decide)
  exact ⟨g, c, by rw [show glueE 3 3 2 1 1 = 0 by decide], hb⟩

set_option maxHeartbeats 2000000 in
theorem awake_calls (w : World) : Calls Try.prog 11 #[] w (Ret (.bool true) w) := by
  have K1 : ((w.alloc (.cells #[.int .u8 3, .int .i64 3, .int .i64 2, .int .u8 1, .int .i64 1] 23)).alloc (.cells #[.int .u8 5, .int .i64 2, .int .i64 2, .int .u8 0, .int .i64 0] 23)).heap[w.heap.size]? = some (.cells #[.int .u8 3, .int .i64 3, .int .i64 2, .int .u8 1, .int .i64 1] 23 (0, 0)) := (bk_alloc (bk_new _ _) _)
  have K2 : ((w.alloc (.cells #[.int .u8 3, .int .i64 3, .int .i64 2, .int .u8 1, .int .i64 1] 23)).alloc (.cells #[.int .u8 5, .int .i64 2, .int .i64 2, .int .u8 0, .int .i64 0] 23)).heap[w.heap.size + 1]? = some (.cells #[.int .u8 5, .int .i64 2, .int .i64 2, .int .u8 0, .int .i64 0] 23 (0, 0)) := (by have := bk_new (w.alloc (.cells #[.int .u8 3, .int .i64 3, .int .i64 2, .int .u8 1, .int .i64 1] 23)) (.cells #[.int .u8 5, .int .i64 2, .int .i64 2, .int .u8 0, .int .i64 0] 23); simpa only [World.size_alloc] using this)
  have hBw : Below w.heap.size w ((w.alloc (.cells #[.int .u8 3, .int .i64 3, .int .i64 2, .int .u8 1, .int .i64 1] 23)).alloc (.cells #[.int .u8 5, .int .i64 2, .int .i64 2, .int .u8 0, .int .i64 0] 23)) := (boxed _ _).alloc (by simp) _
  go_enter Try.func11, Try.ntmps11
  go_wp2_with (first | fail)
  generalize hW0 : ((w.alloc (.cells #[.int .u8 3, .int .i64 3, .int .i64 2, .int .u8 1, .int .i64 1] 23)).alloc (.cells #[.int .u8 5, .int .i64 2, .int .i64 2, .int .u8 0, .int .i64 0] 23)) = W0 at *
  clear hW0
  have hB := same W0
  have K10 := K1
  have K20 := K2
  refine (aw1 _).mono ?_
  rintro e w1 ⟨rfl, hb1⟩
  replace hB := next hB hb1; replace K1 := bk_below K1 hb1; have hcK1 := bk_cell K1; have hfK1 := bk_free K1; have hlK1 := bk_lt K1; replace K2 := bk_below K2 hb1; have hcK2 := bk_cell K2; have hfK2 := bk_free K2; have hlK2 := bk_lt K2
  have KA := bk_new w1 (.cells #[.int .i64 1, .int .i64 0] 25)
  go_wp2_with (first | fail)
  refine (aw2 _).mono ?_
  rintro e w2 ⟨rfl, hb1⟩
  replace hB := next hB (box hb1); replace K1 := bk_below K1 (box hb1); have hcK1 := bk_cell K1; have hfK1 := bk_free K1; have hlK1 := bk_lt K1; replace K2 := bk_below K2 (box hb1); have hcK2 := bk_cell K2; have hfK2 := bk_free K2; have hlK2 := bk_lt K2
  replace KA := bk_below KA hb1; have hcA := bk_cell KA; have hlA := bk_lt KA
  have KB := bk_new w2 (.cells #[.int .i64 0, .int .i64 (-1)] 25)
  go_wp2_with (first | fail)
  refine (aw3 _).mono ?_
  rintro e w3 ⟨rfl, hb1⟩
  replace hB := next hB (box hb1); replace K1 := bk_below K1 (box hb1); have hcK1 := bk_cell K1; have hfK1 := bk_free K1; have hlK1 := bk_lt K1; replace K2 := bk_below K2 (box hb1); have hcK2 := bk_cell K2; have hfK2 := bk_free K2; have hlK2 := bk_lt K2
  replace KA := bk_below KA (box hb1); have hcA := bk_cell KA; have hlA := bk_lt KA
  replace KB := bk_below KB hb1; have hcB := bk_cell KB; have hlB := bk_lt KB
  go_wp2_with (first | fail)
  refine (aw4 _).mono ?_
  rintro e w4 ⟨gl, gc, rfl, hb1⟩
  replace hB := next hB (box hb1); replace K1 := bk_below K1 (box hb1); have hcK1 := bk_cell K1; have hfK1 := bk_free K1; have hlK1 := bk_lt K1; replace K2 := bk_below K2 (box hb1); have hcK2 := bk_cell K2; have hfK2 := bk_free K2; have hlK2 := bk_lt K2
  replace KA := bk_below KA (box hb1); have hcA := bk_cell KA; have hlA := bk_lt KA
  replace KB := bk_below KB (box hb1); have hcB := bk_cell KB; have hlB := bk_lt KB
  go_wp2_with (first | fail)
  refine (aw5 _).mono ?_
  rintro e w5 ⟨rfl, hb1⟩
  replace hB := next hB hb1; replace K1 := bk_below K1 hb1; have hcK1 := bk_cell K1; have hfK1 := bk_free K1; have hlK1 := bk_lt K1; replace K2 := bk_below K2 hb1; have hcK2 := bk_cell K2; have hfK2 := bk_free K2; have hlK2 := bk_lt K2
  replace KA := bk_below KA hb1; have hcA := bk_cell KA; have hlA := bk_lt KA
  replace KB := bk_below KB hb1; have hcB := bk_cell KB; have hlB := bk_lt KB
  go_wp2
  go_ret
  exact Ret.of rfl (by repeat (with_reducible (first | exact hBw.trans (hB.mono hBw.size) | refine Below.setCell ?_ (by have h1_ := hBw.size; have h2_ := hB.size; (try simp) <;> omega) _ | refine Below.drew ?_ | refine Below.alloc ?_ (by have h1_ := hBw.size; have h2_ := hB.size; (try simp) <;> omega) _)))

end Go.Proofs.Ytfdehecekghlmaa
