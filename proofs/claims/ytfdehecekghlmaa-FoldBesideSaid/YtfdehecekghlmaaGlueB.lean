/- The walk of fold.Glue. -/
import Derived.Test.YtfdehecekghlmaaGlueA
import Derived.Test.YtfdehecekghlmaaPartM
import Derived.Test.YtfdehecekghlmaaB0
set_option linter.unusedVariables false
set_option linter.unusedSimpArgs false
namespace Go.Proofs.Ytfdehecekghlmaa
open Go.RowKit Go.Viv
attribute [local go_sem] run_store_complex run_store_float

/-- maps of one's own come back -/
def GlueP (l : List Mv) (E : Int) (w : World) (e : Ending) (w' : World) : Prop :=
  ∃ v, e = .returned (.tuple #[v, .int .i64 E]) ∧ Below w.heap.size w w' ∧ w'.ownsRow w.heap.size 41 3 v l.length (l.flatMap mvCells)
theorem iso_info : (Try.prog.info? 41).map (fun i => (i.zero, i.size, i.bytes)) = some (some (.agg #[.complex .f64 0 0, .bool false, .complex .f64 0 0]), 3, 40) := by kernel_rfl

set_option maxHeartbeats 1000000 in
theorem Glue_bad (k W H t s : Int) (w : World) (t0 : 0 ≤ t) (h : checkE k W H t s ≠ 0) :
    Calls Try.prog 19 #[topoV k W H t s] w (GlueP [] 9 w) := by
  have K1 : (w.alloc (.cells #[.int .u8 k, .int .i64 W, .int .i64 H, .int .u8 t, .int .i64 s] 23)).heap[w.heap.size]? = some (.cells #[.int .u8 k, .int .i64 W, .int .i64 H, .int .u8 t, .int .i64 s] 23 (0, 0)) := (bk_new _ _)
  have hBw : Below w.heap.size w (w.alloc (.cells #[.int .u8 k, .int .i64 W, .int .i64 H, .int .u8 t, .int .i64 s] 23)) := boxed _ _
  go_enter Try.func19, Try.ntmps19
  go_wp2_with (first | fail)
  generalize hW0 : (w.alloc (.cells #[.int .u8 k, .int .i64 W, .int .i64 H, .int .u8 t, .int .i64 s] 23)) = W0 at *
  clear hW0
  have hB := same W0
  have K10 := K1
  refine (of_bad _ _ _ _ _ _ _ t0 h).mono ?_
  rintro e w1 ⟨rfl, hb1⟩
  replace hB := next hB hb1; replace K1 := bk_below K1 hb1; have hcK1 := bk_cell K1; have hfK1 := bk_free K1; have hlK1 := bk_lt K1
  go_wp2
  go_ret2
  exact ⟨_, rfl, (by repeat (with_reducible (first | exact hBw.trans (hB.mono hBw.size) | refine Below.setCell ?_ (by have h1_ := hBw.size; have h2_ := hB.size; (try simp) <;> omega) _ | refine Below.drew ?_ | refine Below.alloc ?_ (by have h1_ := hBw.size; have h2_ := hB.size; (try simp) <;> omega) _))), World.ownsRow_nil _ _ _ _⟩

set_option maxHeartbeats 1000000 in
theorem Glue_none (k W H t s : Int) (w : World) (t0 : 0 ≤ t) (h : checkE k W H t s = 0) (hg : gluedI k = false) :
    Calls Try.prog 19 #[topoV k W H t s] w (GlueP [] 0 w) := by
  have h1 := (topoOk t0 h).k1; have h5 := (topoOk t0 h).k5
  have HG := Lib.hid hg; clear hg
  have HK := Lib.hid h; clear h
  have K1 : (w.alloc (.cells #[.int .u8 k, .int .i64 W, .int .i64 H, .int .u8 t, .int .i64 s] 23)).heap[w.heap.size]? = some (.cells #[.int .u8 k, .int .i64 W, .int .i64 H, .int .u8 t, .int .i64 s] 23 (0, 0)) := (bk_new _ _)
  have hBw : Below w.heap.size w (w.alloc (.cells #[.int .u8 k, .int .i64 W, .int .i64 H, .int .u8 t, .int .i64 s] 23)) := boxed _ _
  go_enter Try.func19, Try.ntmps19
  go_wp2_with (first | fail)
  generalize hW0 : (w.alloc (.cells #[.int .u8 k, .int .i64 W, .int .i64 H, .int .u8 t, .int .i64 s] 23)) = W0 at *
  clear hW0
  have hB := same W0
  have K10 := K1
  refine (of_nil _ _ _ _ _ _ t0 HK.out).mono ?_
  rintro e w1 ⟨rfl, hb1⟩
  replace hB := next hB hb1; replace K1 := bk_below K1 hb1; have hcK1 := bk_cell K1; have hfK1 := bk_free K1; have hlK1 := bk_lt K1
  go_wp2_with (first | fail)
  refine (glued_calls _ _ _ _ _ _ _ _ h1 h5).mono ?_
  rintro e w2 ⟨rfl, hb1⟩
  rw [HG.out]
  replace hB := next hB (box hb1)
  go_wp2
  go_ret2
  exact ⟨_, rfl, (by repeat (with_reducible (first | exact hBw.trans (hB.mono hBw.size) | refine Below.setCell ?_ (by have h1_ := hBw.size; have h2_ := hB.size; (try simp) <;> omega) _ | refine Below.drew ?_ | refine Below.alloc ?_ (by have h1_ := hBw.size; have h2_ := hB.size; (try simp) <;> omega) _))), World.ownsRow_nil _ _ _ _⟩

set_option maxHeartbeats 4000000 in
theorem Glue_2011 (W H s : Int) (w : World) (h : checkE 2 W H 0 s = 0) (hW : 0 < W) (hH : 0 < H) :
    Calls Try.prog 19 #[topoV 2 W H 0 s] w (GlueP [(⟨0, false, W, 0⟩ : Mv), (⟨0, false, 0, H⟩ : Mv)] 0 w) := by
  have h0 := topoOk (by decide) h
  have w0 := h0.w0; have w1_ := h0.w1; have h0_ := h0.h0; have h1_ := h0.h1
  obtain ⟨s1, s2⟩ := h0.sh
  obtain ⟨f1, f2⟩ := first_b w0 w1_
  obtain ⟨f3, f4⟩ := first_b h0_ h1_
  clear h0
  have HK := Lib.hid h; clear h
  have hcv := conv_fl
  have f00 := fl_zero
  have K1 : (w.alloc (.cells #[.int .u8 2, .int .i64 W, .int .i64 H, .int .u8 0, .int .i64 s] 23)).heap[w.heap.size]? = some (.cells #[.int .u8 2, .int .i64 W, .int .i64 H, .int .u8 0, .int .i64 s] 23 (0, 0)) := (bk_new _ _)
  have hBw : Below w.heap.size w (w.alloc (.cells #[.int .u8 2, .int .i64 W, .int .i64 H, .int .u8 0, .int .i64 s] 23)) := boxed _ _
  go_enter Try.func19, Try.ntmps19
  go_wp2_with (first | fail)
  generalize hW0 : (w.alloc (.cells #[.int .u8 2, .int .i64 W, .int .i64 H, .int .u8 0, .int .i64 s] 23)) = W0 at *
  clear hW0
  have hB := same W0
  have K10 := K1
  refine (of_nil _ _ _ _ _ _ (by decide) HK.out).mono ?_
  rintro e w1 ⟨rfl, hb1⟩
  replace hB := next hB hb1; replace K1 := bk_below K1 hb1; have hcK1 := bk_cell K1; have hfK1 := bk_free K1; have hlK1 := bk_lt K1
  go_wp2_with (first | fail)
  have KG := bk_new w1 (.cells #[.int .u8 2, .int .i64 W, .int .i64 H, .int .u8 0, .int .i64 s, .int .i64 (first W), .int .i64 (first H)] 64)
  replace hB := next hB (boxed w1 (.cells #[.int .u8 2, .int .i64 W, .int .i64 H, .int .u8 0, .int .i64 s, .int .i64 (first W), .int .i64 (first H)] 64))
  generalize hWG : w1.alloc (.cells #[.int .u8 2, .int .i64 W, .int .i64 H, .int .u8 0, .int .i64 s, .int .i64 (first W), .int .i64 (first H)] 64) = WG at *
  clear hWG
  generalize w1.heap.size = g at *
  refine (glued_calls _ _ _ _ _ _ _ _ (by decide) (by decide)).mono ?_
  rintro e w2 ⟨rfl, hb1⟩
  rw [show gluedI 2 = true from rfl]
  replace hB := next hB hb1
  replace KG := bk_below KG hb1
  have hcG := bk_cell KG; have hlG := bk_lt KG
  have hwb := hBw.size; have hwb2 := hB.size
  go_wp2_with (first | (at_builtin; (refine app_nil rfl (.tmp 71) (.tmp 73) 35 rfl w.heap.size 41 _ 3 40 Try.underlying35 iso_info rfl (by decide) (by decide) (by rfl) _ _ #[.complex .f64 4607182418800017408 0, .bool false, .complex .f64 (fl W) 0] (by rfl) (by exact bk_newn _ _ _ (by first | rfl | simp)) rfl (by simp [Value.oneCell']) (by have h1_ := hBw.size; have h2_ := hB.size; (try simp) <;> omega) ?_); intro v0 wv0 hown hbv; (replace hB := next (w := W0) (by repeat (with_reducible (first | exact hB | refine Below.setCell ?_ (by have h2_ := hB.size; (try simp) <;> omega) _ | refine Below.drew ?_ | refine Below.alloc ?_ (by have h2_ := hB.size; (try simp) <;> omega) _))) hbv); (replace KG := bk_below (g := g) (o := .cells #[.int .u8 2, .int .i64 W, .int .i64 H, .int .u8 0, .int .i64 s, .int .i64 (first W), .int .i64 (first H)] 64 (0, 0)) (by repeat (with_reducible (first | exact KG | apply bk_set | refine bk_drew ?_ | refine bk_drewN ?_ _ | refine bk_alloc ?_ _ | refine bk_far ?_ (by simp; try omega) _))) hbv); have hC := same wv0; have hcG := bk_cell KG; have hlG := bk_lt KG) | (at_builtin; (refine app_own rfl (.tmp 124) (.tmp 126) 35 rfl w.heap.size 41 _ 3 40 Try.underlying35 iso_info rfl (by decide) (by decide) _ _ _ (by rfl) (by exact own_below hown (by repeat (with_reducible (first | exact hC | refine Below.setCell ?_ (by have h2_ := hC.size; (try simp) <;> omega) _ | refine Below.drew ?_ | refine Below.alloc ?_ (by have h2_ := hC.size; (try simp) <;> omega) _)))) (by decide) _ _ #[.complex .f64 4607182418800017408 0, .bool false, .complex .f64 0 (fl H)] (by rfl) (by exact bk_newn _ _ _ (by first | rfl | simp)) rfl (by simp [Value.oneCell']) (by have h1_ := hBw.size; have h2_ := hB.size; (try simp) <;> omega) ?_); intro v1 wv1 hown2 hbv2 _) | fail)
  go_ret2
  refine ⟨_, rfl, (hBw.trans (Below.mono (by repeat (with_reducible (first | exact hB | refine Below.setCell ?_ (by have h2_ := hB.size; (try simp) <;> omega) _ | refine Below.drew ?_ | refine Below.alloc ?_ (by have h2_ := hB.size; (try simp) <;> omega) _))) hBw.size)).trans hbv2, ?_⟩
  simpa [mvCells, mvR, fl_zero] using hown2

set_option maxHeartbeats 4000000 in
theorem Glue_2010 (W H s : Int) (w : World) (h : checkE 2 W H 0 s = 0) (hW : 0 < W) (hH : ¬ 0 < H) :
    Calls Try.prog 19 #[topoV 2 W H 0 s] w (GlueP [(⟨0, false, W, 0⟩ : Mv)] 0 w) := by
  have h0 := topoOk (by decide) h
  have w0 := h0.w0; have w1_ := h0.w1; have h0_ := h0.h0; have h1_ := h0.h1
  obtain ⟨s1, s2⟩ := h0.sh
  obtain ⟨f1, f2⟩ := first_b w0 w1_
  obtain ⟨f3, f4⟩ := first_b h0_ h1_
  clear h0
  have HK := Lib.hid h; clear h
  have hcv := conv_fl
  have f00 := fl_zero
  have K1 : (w.alloc (.cells #[.int .u8 2, .int .i64 W, .int .i64 H, .int .u8 0, .int .i64 s] 23)).heap[w.heap.size]? = some (.cells #[.int .u8 2, .int .i64 W, .int .i64 H, .int .u8 0, .int .i64 s] 23 (0, 0)) := (bk_new _ _)
  have hBw : Below w.heap.size w (w.alloc (.cells #[.int .u8 2, .int .i64 W, .int .i64 H, .int .u8 0, .int .i64 s] 23)) := boxed _ _
  go_enter Try.func19, Try.ntmps19
  go_wp2_with (first | fail)
  generalize hW0 : (w.alloc (.cells #[.int .u8 2, .int .i64 W, .int .i64 H, .int .u8 0, .int .i64 s] 23)) = W0 at *
  clear hW0
  have hB := same W0
  have K10 := K1
  refine (of_nil _ _ _ _ _ _ (by decide) HK.out).mono ?_
  rintro e w1 ⟨rfl, hb1⟩
  replace hB := next hB hb1; replace K1 := bk_below K1 hb1; have hcK1 := bk_cell K1; have hfK1 := bk_free K1; have hlK1 := bk_lt K1
  go_wp2_with (first | fail)
  have KG := bk_new w1 (.cells #[.int .u8 2, .int .i64 W, .int .i64 H, .int .u8 0, .int .i64 s, .int .i64 (first W), .int .i64 (first H)] 64)
  replace hB := next hB (boxed w1 (.cells #[.int .u8 2, .int .i64 W, .int .i64 H, .int .u8 0, .int .i64 s, .int .i64 (first W), .int .i64 (first H)] 64))
  generalize hWG : w1.alloc (.cells #[.int .u8 2, .int .i64 W, .int .i64 H, .int .u8 0, .int .i64 s, .int .i64 (first W), .int .i64 (first H)] 64) = WG at *
  clear hWG
  generalize w1.heap.size = g at *
  refine (glued_calls _ _ _ _ _ _ _ _ (by decide) (by decide)).mono ?_
  rintro e w2 ⟨rfl, hb1⟩
  rw [show gluedI 2 = true from rfl]
  replace hB := next hB hb1
  replace KG := bk_below KG hb1
  have hcG := bk_cell KG; have hlG := bk_lt KG
  have hwb := hBw.size; have hwb2 := hB.size
  go_wp2_with (first | (at_builtin; (refine app_nil rfl (.tmp 71) (.tmp 73) 35 rfl w.heap.size 41 _ 3 40 Try.underlying35 iso_info rfl (by decide) (by decide) (by rfl) _ _ #[.complex .f64 4607182418800017408 0, .bool false, .complex .f64 (fl W) 0] (by rfl) (by exact bk_newn _ _ _ (by first | rfl | simp)) rfl (by simp [Value.oneCell']) (by have h1_ := hBw.size; have h2_ := hB.size; (try simp) <;> omega) ?_); intro v0 wv0 hown hbv; (replace hB := next (w := W0) (by repeat (with_reducible (first | exact hB | refine Below.setCell ?_ (by have h2_ := hB.size; (try simp) <;> omega) _ | refine Below.drew ?_ | refine Below.alloc ?_ (by have h2_ := hB.size; (try simp) <;> omega) _))) hbv); (replace KG := bk_below (g := g) (o := .cells #[.int .u8 2, .int .i64 W, .int .i64 H, .int .u8 0, .int .i64 s, .int .i64 (first W), .int .i64 (first H)] 64 (0, 0)) (by repeat (with_reducible (first | exact KG | apply bk_set | refine bk_drew ?_ | refine bk_drewN ?_ _ | refine bk_alloc ?_ _ | refine bk_far ?_ (by simp; try omega) _))) hbv); have hC := same wv0; have hcG := bk_cell KG; have hlG := bk_lt KG) | fail)
  go_ret2
  refine ⟨_, rfl, hBw.trans (hB.mono hBw.size), ?_⟩
  simpa [mvCells, mvR, fl_zero] using hown

set_option maxHeartbeats 4000000 in
theorem Glue_2001 (W H s : Int) (w : World) (h : checkE 2 W H 0 s = 0) (hW : ¬ 0 < W) (hH : 0 < H) :
    Calls Try.prog 19 #[topoV 2 W H 0 s] w (GlueP [(⟨0, false, 0, H⟩ : Mv)] 0 w) := by
  have h0 := topoOk (by decide) h
  have w0 := h0.w0; have w1_ := h0.w1; have h0_ := h0.h0; have h1_ := h0.h1
  obtain ⟨s1, s2⟩ := h0.sh
  obtain ⟨f1, f2⟩ := first_b w0 w1_
  obtain ⟨f3, f4⟩ := first_b h0_ h1_
  clear h0
  have HK := Lib.hid h; clear h
  have hcv := conv_fl
  have f00 := fl_zero
  have K1 : (w.alloc (.cells #[.int .u8 2, .int .i64 W, .int .i64 H, .int .u8 0, .int .i64 s] 23)).heap[w.heap.size]? = some (.cells #[.int .u8 2, .int .i64 W, .int .i64 H, .int .u8 0, .int .i64 s] 23 (0, 0)) := (bk_new _ _)
  have hBw : Below w.heap.size w (w.alloc (.cells #[.int .u8 2, .int .i64 W, .int .i64 H, .int .u8 0, .int .i64 s] 23)) := boxed _ _
  go_enter Try.func19, Try.ntmps19
  go_wp2_with (first | fail)
  generalize hW0 : (w.alloc (.cells #[.int .u8 2, .int .i64 W, .int .i64 H, .int .u8 0, .int .i64 s] 23)) = W0 at *
  clear hW0
  have hB := same W0
  have K10 := K1
  refine (of_nil _ _ _ _ _ _ (by decide) HK.out).mono ?_
  rintro e w1 ⟨rfl, hb1⟩
  replace hB := next hB hb1; replace K1 := bk_below K1 hb1; have hcK1 := bk_cell K1; have hfK1 := bk_free K1; have hlK1 := bk_lt K1
  go_wp2_with (first | fail)
  have KG := bk_new w1 (.cells #[.int .u8 2, .int .i64 W, .int .i64 H, .int .u8 0, .int .i64 s, .int .i64 (first W), .int .i64 (first H)] 64)
  replace hB := next hB (boxed w1 (.cells #[.int .u8 2, .int .i64 W, .int .i64 H, .int .u8 0, .int .i64 s, .int .i64 (first W), .int .i64 (first H)] 64))
  generalize hWG : w1.alloc (.cells #[.int .u8 2, .int .i64 W, .int .i64 H, .int .u8 0, .int .i64 s, .int .i64 (first W), .int .i64 (first H)] 64) = WG at *
  clear hWG
  generalize w1.heap.size = g at *
  refine (glued_calls _ _ _ _ _ _ _ _ (by decide) (by decide)).mono ?_
  rintro e w2 ⟨rfl, hb1⟩
  rw [show gluedI 2 = true from rfl]
  replace hB := next hB hb1
  replace KG := bk_below KG hb1
  have hcG := bk_cell KG; have hlG := bk_lt KG
  have hwb := hBw.size; have hwb2 := hB.size
  go_wp2_with (first | (at_builtin; (refine app_nil rfl (.tmp 124) (.tmp 126) 35 rfl w.heap.size 41 _ 3 40 Try.underlying35 iso_info rfl (by decide) (by decide) (by rfl) _ _ #[.complex .f64 4607182418800017408 0, .bool false, .complex .f64 0 (fl H)] (by rfl) (by exact bk_newn _ _ _ (by first | rfl | simp)) rfl (by simp [Value.oneCell']) (by have h1_ := hBw.size; have h2_ := hB.size; (try simp) <;> omega) ?_); intro v1 wv1 hown hbv; (replace hB := next (w := W0) (by repeat (with_reducible (first | exact hB | refine Below.setCell ?_ (by have h2_ := hB.size; (try simp) <;> omega) _ | refine Below.drew ?_ | refine Below.alloc ?_ (by have h2_ := hB.size; (try simp) <;> omega) _))) hbv); (replace KG := bk_below (g := g) (o := .cells #[.int .u8 2, .int .i64 W, .int .i64 H, .int .u8 0, .int .i64 s, .int .i64 (first W), .int .i64 (first H)] 64 (0, 0)) (by repeat (with_reducible (first | exact KG | apply bk_set | refine bk_drew ?_ | refine bk_drewN ?_ _ | refine bk_alloc ?_ _ | refine bk_far ?_ (by simp; try omega) _))) hbv); have hC := same wv1; have hcG := bk_cell KG; have hlG := bk_lt KG) | fail)
  go_ret2
  refine ⟨_, rfl, hBw.trans (hB.mono hBw.size), ?_⟩
  simpa [mvCells, mvR, fl_zero] using hown

set_option maxHeartbeats 4000000 in
theorem Glue_2000 (W H s : Int) (w : World) (h : checkE 2 W H 0 s = 0) (hW : ¬ 0 < W) (hH : ¬ 0 < H) :
    Calls Try.prog 19 #[topoV 2 W H 0 s] w (GlueP [] 0 w) := by
  have h0 := topoOk (by decide) h
  have w0 := h0.w0; have w1_ := h0.w1; have h0_ := h0.h0; have h1_ := h0.h1
  obtain ⟨s1, s2⟩ := h0.sh
  obtain ⟨f1, f2⟩ := first_b w0 w1_
  obtain ⟨f3, f4⟩ := first_b h0_ h1_
  clear h0
  have HK := Lib.hid h; clear h
  have hcv := conv_fl
  have f00 := fl_zero
  have K1 : (w.alloc (.cells #[.int .u8 2, .int .i64 W, .int .i64 H, .int .u8 0, .int .i64 s] 23)).heap[w.heap.size]? = some (.cells #[.int .u8 2, .int .i64 W, .int .i64 H, .int .u8 0, .int .i64 s] 23 (0, 0)) := (bk_new _ _)
  have hBw : Below w.heap.size w (w.alloc (.cells #[.int .u8 2, .int .i64 W, .int .i64 H, .int .u8 0, .int .i64 s] 23)) := boxed _ _
  go_enter Try.func19, Try.ntmps19
  go_wp2_with (first | fail)
  generalize hW0 : (w.alloc (.cells #[.int .u8 2, .int .i64 W, .int .i64 H, .int .u8 0, .int .i64 s] 23)) = W0 at *
  clear hW0
  have hB := same W0
  have K10 := K1
  refine (of_nil _ _ _ _ _ _ (by decide) HK.out).mono ?_
  rintro e w1 ⟨rfl, hb1⟩
  replace hB := next hB hb1; replace K1 := bk_below K1 hb1; have hcK1 := bk_cell K1; have hfK1 := bk_free K1; have hlK1 := bk_lt K1
  go_wp2_with (first | fail)
  have KG := bk_new w1 (.cells #[.int .u8 2, .int .i64 W, .int .i64 H, .int .u8 0, .int .i64 s, .int .i64 (first W), .int .i64 (first H)] 64)
  replace hB := next hB (boxed w1 (.cells #[.int .u8 2, .int .i64 W, .int .i64 H, .int .u8 0, .int .i64 s, .int .i64 (first W), .int .i64 (first H)] 64))
  generalize hWG : w1.alloc (.cells #[.int .u8 2, .int .i64 W, .int .i64 H, .int .u8 0, .int .i64 s, .int .i64 (first W), .int .i64 (first H)] 64) = WG at *
  clear hWG
  generalize w1.heap.size = g at *
  refine (glued_calls _ _ _ _ _ _ _ _ (by decide) (by decide)).mono ?_
  rintro e w2 ⟨rfl, hb1⟩
  rw [show gluedI 2 = true from rfl]
  replace hB := next hB hb1
  replace KG := bk_below KG hb1
  have hcG := bk_cell KG; have hlG := bk_lt KG
  have hwb := hBw.size; have hwb2 := hB.size
  go_wp2_with (first | fail)
  go_ret2
  exact ⟨_, rfl, (by repeat (with_reducible (first | exact hBw.trans (hB.mono hBw.size) | refine Below.setCell ?_ (by have h1_ := hBw.size; have h2_ := hB.size; (try simp) <;> omega) _ | refine Below.drew ?_ | refine Below.alloc ?_ (by have h1_ := hBw.size; have h2_ := hB.size; (try simp) <;> omega) _))), World.ownsRow_nil _ _ _ _⟩

set_option maxHeartbeats 4000000 in
theorem Glue_2111 (W H s : Int) (w : World) (h : checkE 2 W H 1 s = 0) (hW : 0 < W) (hH : 0 < H) :
    Calls Try.prog 19 #[topoV 2 W H 1 s] w (GlueP [(⟨0, false, W, 0⟩ : Mv), (⟨0, false, s, H⟩ : Mv)] 0 w) := by
  have h0 := topoOk (by decide) h
  have w0 := h0.w0; have w1_ := h0.w1; have h0_ := h0.h0; have h1_ := h0.h1
  obtain ⟨s1, s2⟩ := h0.sh
  obtain ⟨f1, f2⟩ := first_b w0 w1_
  obtain ⟨f3, f4⟩ := first_b h0_ h1_
  clear h0
  have HK := Lib.hid h; clear h
  have hcv := conv_fl
  have f00 := fl_zero
  have K1 : (w.alloc (.cells #[.int .u8 2, .int .i64 W, .int .i64 H, .int .u8 1, .int .i64 s] 23)).heap[w.heap.size]? = some (.cells #[.int .u8 2, .int .i64 W, .int .i64 H, .int .u8 1, .int .i64 s] 23 (0, 0)) := (bk_new _ _)
  have hBw : Below w.heap.size w (w.alloc (.cells #[.int .u8 2, .int .i64 W, .int .i64 H, .int .u8 1, .int .i64 s] 23)) := boxed _ _
  go_enter Try.func19, Try.ntmps19
  go_wp2_with (first | fail)
  generalize hW0 : (w.alloc (.cells #[.int .u8 2, .int .i64 W, .int .i64 H, .int .u8 1, .int .i64 s] 23)) = W0 at *
  clear hW0
  have hB := same W0
  have K10 := K1
  refine (of_nil _ _ _ _ _ _ (by decide) HK.out).mono ?_
  rintro e w1 ⟨rfl, hb1⟩
  replace hB := next hB hb1; replace K1 := bk_below K1 hb1; have hcK1 := bk_cell K1; have hfK1 := bk_free K1; have hlK1 := bk_lt K1
  go_wp2_with (first | fail)
  have KG := bk_new w1 (.cells #[.int .u8 2, .int .i64 W, .int .i64 H, .int .u8 1, .int .i64 s, .int .i64 (first W), .int .i64 (first H)] 64)
  replace hB := next hB (boxed w1 (.cells #[.int .u8 2, .int .i64 W, .int .i64 H, .int .u8 1, .int .i64 s, .int .i64 (first W), .int .i64 (first H)] 64))
  generalize hWG : w1.alloc (.cells #[.int .u8 2, .int .i64 W, .int .i64 H, .int .u8 1, .int .i64 s, .int .i64 (first W), .int .i64 (first H)] 64) = WG at *
  clear hWG
  generalize w1.heap.size = g at *
  refine (glued_calls _ _ _ _ _ _ _ _ (by decide) (by decide)).mono ?_
  rintro e w2 ⟨rfl, hb1⟩
  rw [show gluedI 2 = true from rfl]
  replace hB := next hB hb1
  replace KG := bk_below KG hb1
  have hcG := bk_cell KG; have hlG := bk_lt KG
  have hwb := hBw.size; have hwb2 := hB.size
  go_wp2_with (first | (at_builtin; (refine app_nil rfl (.tmp 71) (.tmp 73) 35 rfl w.heap.size 41 _ 3 40 Try.underlying35 iso_info rfl (by decide) (by decide) (by rfl) _ _ #[.complex .f64 4607182418800017408 0, .bool false, .complex .f64 (fl W) 0] (by rfl) (by exact bk_newn _ _ _ (by first | rfl | simp)) rfl (by simp [Value.oneCell']) (by have h1_ := hBw.size; have h2_ := hB.size; (try simp) <;> omega) ?_); intro v0 wv0 hown hbv; (replace hB := next (w := W0) (by repeat (with_reducible (first | exact hB | refine Below.setCell ?_ (by have h2_ := hB.size; (try simp) <;> omega) _ | refine Below.drew ?_ | refine Below.alloc ?_ (by have h2_ := hB.size; (try simp) <;> omega) _))) hbv); (replace KG := bk_below (g := g) (o := .cells #[.int .u8 2, .int .i64 W, .int .i64 H, .int .u8 1, .int .i64 s, .int .i64 (first W), .int .i64 (first H)] 64 (0, 0)) (by repeat (with_reducible (first | exact KG | apply bk_set | refine bk_drew ?_ | refine bk_drewN ?_ _ | refine bk_alloc ?_ _ | refine bk_far ?_ (by simp; try omega) _))) hbv); have hC := same wv0; have hcG := bk_cell KG; have hlG := bk_lt KG) | (at_builtin; (refine app_own rfl (.tmp 124) (.tmp 126) 35 rfl w.heap.size 41 _ 3 40 Try.underlying35 iso_info rfl (by decide) (by decide) _ _ _ (by rfl) (by exact own_below hown (by repeat (with_reducible (first | exact hC | refine Below.setCell ?_ (by have h2_ := hC.size; (try simp) <;> omega) _ | refine Below.drew ?_ | refine Below.alloc ?_ (by have h2_ := hC.size; (try simp) <;> omega) _)))) (by decide) _ _ #[.complex .f64 4607182418800017408 0, .bool false, .complex .f64 (fl s) (fl H)] (by rfl) (by exact bk_newn _ _ _ (by first | rfl | simp)) rfl (by simp [Value.oneCell']) (by have h1_ := hBw.size; have h2_ := hB.size; (try simp) <;> omega) ?_); intro v1 wv1 hown2 hbv2 _) | fail)
  go_ret2
  refine ⟨_, rfl, (hBw.trans (Below.mono (by repeat (with_reducible (first | exact hB | refine Below.setCell ?_ (by have h2_ := hB.size; (try simp) <;> omega) _ | refine Below.drew ?_ | refine Below.alloc ?_ (by have h2_ := hB.size; (try simp) <;> omega) _))) hBw.size)).trans hbv2, ?_⟩
  simpa [mvCells, mvR, fl_zero] using hown2

set_option maxHeartbeats 4000000 in
theorem Glue_2211 (W H s : Int) (w : World) (h : checkE 2 W H 2 s = 0) (hW : 0 < W) (hH : 0 < H) :
    Calls Try.prog 19 #[topoV 2 W H 2 s] w (GlueP [(⟨0, false, W, s⟩ : Mv), (⟨0, false, 0, H⟩ : Mv)] 0 w) := by
  have h0 := topoOk (by decide) h
  have w0 := h0.w0; have w1_ := h0.w1; have h0_ := h0.h0; have h1_ := h0.h1
  obtain ⟨s1, s2⟩ := h0.sh
  obtain ⟨f1, f2⟩ := first_b w0 w1_
  obtain ⟨f3, f4⟩ := first_b h0_ h1_
  clear h0
  have HK := Lib.hid h; clear h
  have hcv := conv_fl
  have f00 := fl_zero
  have K1 : (w.alloc (.cells #[.int .u8 2, .int .i64 W, .int .i64 H, .int .u8 2, .int .i64 s] 23)).heap[w.heap.size]? = some (.cells #[.int .u8 2, .int .i64 W, .int .i64 H, .int .u8 2, .int .i64 s] 23 (0, 0)) := (bk_new _ _)
  have hBw : Below w.heap.size w (w.alloc (.cells #[.int .u8 2, .int .i64 W, .int .i64 H, .int .u8 2, .int .i64 s] 23)) := boxed _ _
  go_enter Try.func19, Try.ntmps19
  go_wp2_with (first | fail)
  generalize hW0 : (w.alloc (.cells #[.int .u8 2, .int .i64 W, .int .i64 H, .int .u8 2, .int .i64 s] 23)) = W0 at *
  clear hW0
  have hB := same W0
  have K10 := K1
  refine (of_nil _ _ _ _ _ _ (by decide) HK.out).mono ?_
  rintro e w1 ⟨rfl, hb1⟩
  replace hB := next hB hb1; replace K1 := bk_below K1 hb1; have hcK1 := bk_cell K1; have hfK1 := bk_free K1; have hlK1 := bk_lt K1
  go_wp2_with (first | fail)
  have KG := bk_new w1 (.cells #[.int .u8 2, .int .i64 W, .int .i64 H, .int .u8 2, .int .i64 s, .int .i64 (first W), .int .i64 (first H)] 64)
  replace hB := next hB (boxed w1 (.cells #[.int .u8 2, .int .i64 W, .int .i64 H, .int .u8 2, .int .i64 s, .int .i64 (first W), .int .i64 (first H)] 64))
  generalize hWG : w1.alloc (.cells #[.int .u8 2, .int .i64 W, .int .i64 H, .int .u8 2, .int .i64 s, .int .i64 (first W), .int .i64 (first H)] 64) = WG at *
  clear hWG
  generalize w1.heap.size = g at *
  refine (glued_calls _ _ _ _ _ _ _ _ (by decide) (by decide)).mono ?_
  rintro e w2 ⟨rfl, hb1⟩
  rw [show gluedI 2 = true from rfl]
  replace hB := next hB hb1
  replace KG := bk_below KG hb1
  have hcG := bk_cell KG; have hlG := bk_lt KG
  have hwb := hBw.size; have hwb2 := hB.size
  go_wp2_with (first | (at_builtin; (refine app_nil rfl (.tmp 71) (.tmp 73) 35 rfl w.heap.size 41 _ 3 40 Try.underlying35 iso_info rfl (by decide) (by decide) (by rfl) _ _ #[.complex .f64 4607182418800017408 0, .bool false, .complex .f64 (fl W) (fl s)] (by rfl) (by exact bk_newn _ _ _ (by first | rfl | simp)) rfl (by simp [Value.oneCell']) (by have h1_ := hBw.size; have h2_ := hB.size; (try simp) <;> omega) ?_); intro v0 wv0 hown hbv; (replace hB := next (w := W0) (by repeat (with_reducible (first | exact hB | refine Below.setCell ?_ (by have h2_ := hB.size; (try simp) <;> omega) _ | refine Below.drew ?_ | refine Below.alloc ?_ (by have h2_ := hB.size; (try simp) <;> omega) _))) hbv); (replace KG := bk_below (g := g) (o := .cells #[.int .u8 2, .int .i64 W, .int .i64 H, .int .u8 2, .int .i64 s, .int .i64 (first W), .int .i64 (first H)] 64 (0, 0)) (by repeat (with_reducible (first | exact KG | apply bk_set | refine bk_drew ?_ | refine bk_drewN ?_ _ | refine bk_alloc ?_ _ | refine bk_far ?_ (by simp; try omega) _))) hbv); have hC := same wv0; have hcG := bk_cell KG; have hlG := bk_lt KG) | (at_builtin; (refine app_own rfl (.tmp 124) (.tmp 126) 35 rfl w.heap.size 41 _ 3 40 Try.underlying35 iso_info rfl (by decide) (by decide) _ _ _ (by rfl) (by exact own_below hown (by repeat (with_reducible (first | exact hC | refine Below.setCell ?_ (by have h2_ := hC.size; (try simp) <;> omega) _ | refine Below.drew ?_ | refine Below.alloc ?_ (by have h2_ := hC.size; (try simp) <;> omega) _)))) (by decide) _ _ #[.complex .f64 4607182418800017408 0, .bool false, .complex .f64 0 (fl H)] (by rfl) (by exact bk_newn _ _ _ (by first | rfl | simp)) rfl (by simp [Value.oneCell']) (by have h1_ := hBw.size; have h2_ := hB.size; (try simp) <;> omega) ?_); intro v1 wv1 hown2 hbv2 _) | fail)
  go_ret2
  refine ⟨_, rfl, (hBw.trans (Below.mono (by repeat (with_reducible (first | exact hB | refine Below.setCell ?_ (by have h2_ := hB.size; (try simp) <;> omega) _ | refine Below.drew ?_ | refine Below.alloc ?_ (by have h2_ := hB.size; (try simp) <;> omega) _))) hBw.size)).trans hbv2, ?_⟩
  simpa [mvCells, mvR, fl_zero] using hown2

set_option maxHeartbeats 4000000 in
theorem Glue_3111 (W H s : Int) (w : World) (h : checkE 3 W H 1 s = 0) (hW : 0 < W) (hH : 0 < H) :
    Calls Try.prog 19 #[topoV 3 W H 1 s] w (GlueP [(⟨0, false, W, 0⟩ : Mv), (⟨2, true, 2 * first W + W - 1 + s, H⟩ : Mv)] 0 w) := by
  have h0 := topoOk (by decide) h
  have w0 := h0.w0; have w1_ := h0.w1; have h0_ := h0.h0; have h1_ := h0.h1
  obtain ⟨s1, s2⟩ := h0.sh
  obtain ⟨f1, f2⟩ := first_b w0 w1_
  obtain ⟨f3, f4⟩ := first_b h0_ h1_
  clear h0
  have HK := Lib.hid h; clear h
  have hcv := conv_fl
  have f00 := fl_zero
  have K1 : (w.alloc (.cells #[.int .u8 3, .int .i64 W, .int .i64 H, .int .u8 1, .int .i64 s] 23)).heap[w.heap.size]? = some (.cells #[.int .u8 3, .int .i64 W, .int .i64 H, .int .u8 1, .int .i64 s] 23 (0, 0)) := (bk_new _ _)
  have hBw : Below w.heap.size w (w.alloc (.cells #[.int .u8 3, .int .i64 W, .int .i64 H, .int .u8 1, .int .i64 s] 23)) := boxed _ _
  go_enter Try.func19, Try.ntmps19
  go_wp2_with (first | fail)
  generalize hW0 : (w.alloc (.cells #[.int .u8 3, .int .i64 W, .int .i64 H, .int .u8 1, .int .i64 s] 23)) = W0 at *
  clear hW0
  have hB := same W0
  have K10 := K1
  refine (of_nil _ _ _ _ _ _ (by decide) HK.out).mono ?_
  rintro e w1 ⟨rfl, hb1⟩
  replace hB := next hB hb1; replace K1 := bk_below K1 hb1; have hcK1 := bk_cell K1; have hfK1 := bk_free K1; have hlK1 := bk_lt K1
  go_wp2_with (first | fail)
  have KG := bk_new w1 (.cells #[.int .u8 3, .int .i64 W, .int .i64 H, .int .u8 1, .int .i64 s, .int .i64 (first W), .int .i64 (first H)] 64)
  replace hB := next hB (boxed w1 (.cells #[.int .u8 3, .int .i64 W, .int .i64 H, .int .u8 1, .int .i64 s, .int .i64 (first W), .int .i64 (first H)] 64))
  generalize hWG : w1.alloc (.cells #[.int .u8 3, .int .i64 W, .int .i64 H, .int .u8 1, .int .i64 s, .int .i64 (first W), .int .i64 (first H)] 64) = WG at *
  clear hWG
  generalize w1.heap.size = g at *
  refine (glued_calls _ _ _ _ _ _ _ _ (by decide) (by decide)).mono ?_
  rintro e w2 ⟨rfl, hb1⟩
  rw [show gluedI 3 = true from rfl]
  replace hB := next hB hb1
  replace KG := bk_below KG hb1
  have hcG := bk_cell KG; have hlG := bk_lt KG
  have hwb := hBw.size; have hwb2 := hB.size
  go_wp2_with (first | (at_builtin; (refine app_nil rfl (.tmp 71) (.tmp 73) 35 rfl w.heap.size 41 _ 3 40 Try.underlying35 iso_info rfl (by decide) (by decide) (by rfl) _ _ #[.complex .f64 4607182418800017408 0, .bool false, .complex .f64 (fl W) 0] (by rfl) (by exact bk_newn _ _ _ (by first | rfl | simp)) rfl (by simp [Value.oneCell']) (by have h1_ := hBw.size; have h2_ := hB.size; (try simp) <;> omega) ?_); intro v0 wv0 hown hbv; (replace hB := next (w := W0) (by repeat (with_reducible (first | exact hB | refine Below.setCell ?_ (by have h2_ := hB.size; (try simp) <;> omega) _ | refine Below.drew ?_ | refine Below.alloc ?_ (by have h2_ := hB.size; (try simp) <;> omega) _))) hbv); (replace KG := bk_below (g := g) (o := .cells #[.int .u8 3, .int .i64 W, .int .i64 H, .int .u8 1, .int .i64 s, .int .i64 (first W), .int .i64 (first H)] 64 (0, 0)) (by repeat (with_reducible (first | exact KG | apply bk_set | refine bk_drew ?_ | refine bk_drewN ?_ _ | refine bk_alloc ?_ _ | refine bk_far ?_ (by simp; try omega) _))) hbv); have hC := same wv0; have hcG := bk_cell KG; have hlG := bk_lt KG) | (at_builtin; (refine app_own rfl (.tmp 124) (.tmp 126) 35 rfl w.heap.size 41 _ 3 40 Try.underlying35 iso_info rfl (by decide) (by decide) _ _ _ (by rfl) (by exact own_below hown (by repeat (with_reducible (first | exact hC | refine Below.setCell ?_ (by have h2_ := hC.size; (try simp) <;> omega) _ | refine Below.drew ?_ | refine Below.alloc ?_ (by have h2_ := hC.size; (try simp) <;> omega) _)))) (by decide) _ _ #[.complex .f64 13830554455654793216 0, .bool true, .complex .f64 (fl (2 * first W + W - 1 + s)) (fl H)] (by rfl) (by exact bk_newn _ _ _ (by first | rfl | simp)) rfl (by simp [Value.oneCell']) (by have h1_ := hBw.size; have h2_ := hB.size; (try simp) <;> omega) ?_); intro v1 wv1 hown2 hbv2 _) | fail)
  have KA1 := bk_new wv0 (.cells #[.complex .f64 4607182418800017408 0, .bool false, .complex .f64 (fl s) (fl H)] 41)
  have hga1 := hB.size
  have hgl1 := bk_lt KG
  replace hB := next hB (boxed wv0 (.cells #[.complex .f64 4607182418800017408 0, .bool false, .complex .f64 (fl s) (fl H)] 41))
  replace KG := bk_alloc KG (.cells #[.complex .f64 4607182418800017408 0, .bool false, .complex .f64 (fl s) (fl H)] 41)
  have hgc1 := hC.size
  replace hC := next hC (boxed wv0 (.cells #[.complex .f64 4607182418800017408 0, .bool false, .complex .f64 (fl s) (fl H)] 41))
  generalize hWA1 : wv0.alloc (.cells #[.complex .f64 4607182418800017408 0, .bool false, .complex .f64 (fl s) (fl H)] 41) = WA1 at *
  clear hWA1

  refine (glide_true _ _ _).mono ?_
  rintro e wg1 ⟨rfl, hb1⟩
  replace hB := next hB hb1
  replace KG := bk_below KG hb1
  replace KA1 := bk_below KA1 hb1
  replace hC := next hC hb1
  have hcG := bk_cell KG; have hlG := bk_lt KG
  have hcA1 := bk_cell KA1; have hlA1 := bk_lt KA1; have hfA1 := bk_free KA1
  have hwb3 := hB.size
  go_wp2_with (first | (at_builtin; (refine app_nil rfl (.tmp 71) (.tmp 73) 35 rfl w.heap.size 41 _ 3 40 Try.underlying35 iso_info rfl (by decide) (by decide) (by rfl) _ _ #[.complex .f64 4607182418800017408 0, .bool false, .complex .f64 (fl W) 0] (by rfl) (by exact bk_newn _ _ _ (by first | rfl | simp)) rfl (by simp [Value.oneCell']) (by have h1_ := hBw.size; have h2_ := hB.size; (try simp) <;> omega) ?_); intro v0 wv0 hown hbv; (replace hB := next (w := W0) (by repeat (with_reducible (first | exact hB | refine Below.setCell ?_ (by have h2_ := hB.size; (try simp) <;> omega) _ | refine Below.drew ?_ | refine Below.alloc ?_ (by have h2_ := hB.size; (try simp) <;> omega) _))) hbv); (replace KG := bk_below (g := g) (o := .cells #[.int .u8 3, .int .i64 W, .int .i64 H, .int .u8 1, .int .i64 s, .int .i64 (first W), .int .i64 (first H)] 64 (0, 0)) (by repeat (with_reducible (first | exact KG | apply bk_set | refine bk_drew ?_ | refine bk_drewN ?_ _ | refine bk_alloc ?_ _ | refine bk_far ?_ (by simp; try omega) _))) hbv); have hC := same wv0; have hcG := bk_cell KG; have hlG := bk_lt KG) | (at_builtin; (refine app_own rfl (.tmp 124) (.tmp 126) 35 rfl w.heap.size 41 _ 3 40 Try.underlying35 iso_info rfl (by decide) (by decide) _ _ _ (by rfl) (by exact own_below hown (by repeat (with_reducible (first | exact hC | refine Below.setCell ?_ (by have h2_ := hC.size; (try simp) <;> omega) _ | refine Below.drew ?_ | refine Below.alloc ?_ (by have h2_ := hC.size; (try simp) <;> omega) _)))) (by decide) _ _ #[.complex .f64 13830554455654793216 0, .bool true, .complex .f64 (fl (2 * first W + W - 1 + s)) (fl H)] (by rfl) (by exact bk_newn _ _ _ (by first | rfl | simp)) rfl (by simp [Value.oneCell']) (by have h1_ := hBw.size; have h2_ := hB.size; (try simp) <;> omega) ?_); intro v1 wv1 hown2 hbv2 _) | fail)
  go_ret2
  refine ⟨_, rfl, (hBw.trans (Below.mono (by repeat (with_reducible (first | exact hB | refine Below.setCell ?_ (by have h2_ := hB.size; (try simp) <;> omega) _ | refine Below.drew ?_ | refine Below.alloc ?_ (by have h2_ := hB.size; (try simp) <;> omega) _))) hBw.size)).trans hbv2, ?_⟩
  simpa [mvCells, mvR, fl_zero] using hown2

set_option maxHeartbeats 4000000 in
theorem Glue_3211 (W H s : Int) (w : World) (h : checkE 3 W H 2 s = 0) (hW : 0 < W) (hH : 0 < H) :
    Calls Try.prog 19 #[topoV 3 W H 2 s] w (GlueP [(⟨0, true, W, 2 * first H + H - 1 + s⟩ : Mv), (⟨0, false, 0, H⟩ : Mv)] 0 w) := by
  have h0 := topoOk (by decide) h
  have w0 := h0.w0; have w1_ := h0.w1; have h0_ := h0.h0; have h1_ := h0.h1
  obtain ⟨s1, s2⟩ := h0.sh
  obtain ⟨f1, f2⟩ := first_b w0 w1_
  obtain ⟨f3, f4⟩ := first_b h0_ h1_
  clear h0
  have HK := Lib.hid h; clear h
  have hcv := conv_fl
  have f00 := fl_zero
  have K1 : (w.alloc (.cells #[.int .u8 3, .int .i64 W, .int .i64 H, .int .u8 2, .int .i64 s] 23)).heap[w.heap.size]? = some (.cells #[.int .u8 3, .int .i64 W, .int .i64 H, .int .u8 2, .int .i64 s] 23 (0, 0)) := (bk_new _ _)
  have hBw : Below w.heap.size w (w.alloc (.cells #[.int .u8 3, .int .i64 W, .int .i64 H, .int .u8 2, .int .i64 s] 23)) := boxed _ _
  go_enter Try.func19, Try.ntmps19
  go_wp2_with (first | fail)
  generalize hW0 : (w.alloc (.cells #[.int .u8 3, .int .i64 W, .int .i64 H, .int .u8 2, .int .i64 s] 23)) = W0 at *
  clear hW0
  have hB := same W0
  have K10 := K1
  refine (of_nil _ _ _ _ _ _ (by decide) HK.out).mono ?_
  rintro e w1 ⟨rfl, hb1⟩
  replace hB := next hB hb1; replace K1 := bk_below K1 hb1; have hcK1 := bk_cell K1; have hfK1 := bk_free K1; have hlK1 := bk_lt K1
  go_wp2_with (first | fail)
  have KG := bk_new w1 (.cells #[.int .u8 3, .int .i64 W, .int .i64 H, .int .u8 2, .int .i64 s, .int .i64 (first W), .int .i64 (first H)] 64)
  replace hB := next hB (boxed w1 (.cells #[.int .u8 3, .int .i64 W, .int .i64 H, .int .u8 2, .int .i64 s, .int .i64 (first W), .int .i64 (first H)] 64))
  generalize hWG : w1.alloc (.cells #[.int .u8 3, .int .i64 W, .int .i64 H, .int .u8 2, .int .i64 s, .int .i64 (first W), .int .i64 (first H)] 64) = WG at *
  clear hWG
  generalize w1.heap.size = g at *
  refine (glued_calls _ _ _ _ _ _ _ _ (by decide) (by decide)).mono ?_
  rintro e w2 ⟨rfl, hb1⟩
  rw [show gluedI 3 = true from rfl]
  replace hB := next hB hb1
  replace KG := bk_below KG hb1
  have hcG := bk_cell KG; have hlG := bk_lt KG
  have hwb := hBw.size; have hwb2 := hB.size
  go_wp2_with (first | (at_builtin; (refine app_nil rfl (.tmp 71) (.tmp 73) 35 rfl w.heap.size 41 _ 3 40 Try.underlying35 iso_info rfl (by decide) (by decide) (by rfl) _ _ #[.complex .f64 4607182418800017408 0, .bool true, .complex .f64 (fl W) (fl (2 * first H + H - 1 + s))] (by rfl) (by exact bk_newn _ _ _ (by first | rfl | simp)) rfl (by simp [Value.oneCell']) (by have h1_ := hBw.size; have h2_ := hB.size; (try simp) <;> omega) ?_); intro v0 wv0 hown hbv; (replace hB := next (w := W0) (by repeat (with_reducible (first | exact hB | refine Below.setCell ?_ (by have h2_ := hB.size; (try simp) <;> omega) _ | refine Below.drew ?_ | refine Below.alloc ?_ (by have h2_ := hB.size; (try simp) <;> omega) _))) hbv); (replace KG := bk_below (g := g) (o := .cells #[.int .u8 3, .int .i64 W, .int .i64 H, .int .u8 2, .int .i64 s, .int .i64 (first W), .int .i64 (first H)] 64 (0, 0)) (by repeat (with_reducible (first | exact KG | apply bk_set | refine bk_drew ?_ | refine bk_drewN ?_ _ | refine bk_alloc ?_ _ | refine bk_far ?_ (by simp; try omega) _))) hbv); have hC := same wv0; have hcG := bk_cell KG; have hlG := bk_lt KG) | (at_builtin; (refine app_own rfl (.tmp 124) (.tmp 126) 35 rfl w.heap.size 41 _ 3 40 Try.underlying35 iso_info rfl (by decide) (by decide) _ _ _ (by rfl) (by exact own_below hown (by repeat (with_reducible (first | exact hC | refine Below.setCell ?_ (by have h2_ := hC.size; (try simp) <;> omega) _ | refine Below.drew ?_ | refine Below.alloc ?_ (by have h2_ := hC.size; (try simp) <;> omega) _)))) (by decide) _ _ #[.complex .f64 4607182418800017408 0, .bool false, .complex .f64 0 (fl H)] (by rfl) (by exact bk_newn _ _ _ (by first | rfl | simp)) rfl (by simp [Value.oneCell']) (by have h1_ := hBw.size; have h2_ := hB.size; (try simp) <;> omega) ?_); intro v1 wv1 hown2 hbv2 _) | fail)
  have KA0 := bk_new w2 (.cells #[.complex .f64 4607182418800017408 0, .bool false, .complex .f64 (fl W) (fl s)] 41)
  have hga0 := hB.size
  have hgl0 := bk_lt KG
  replace hB := next hB (boxed w2 (.cells #[.complex .f64 4607182418800017408 0, .bool false, .complex .f64 (fl W) (fl s)] 41))
  replace KG := bk_alloc KG (.cells #[.complex .f64 4607182418800017408 0, .bool false, .complex .f64 (fl W) (fl s)] 41)
  generalize hWA0 : w2.alloc (.cells #[.complex .f64 4607182418800017408 0, .bool false, .complex .f64 (fl W) (fl s)] 41) = WA0 at *
  clear hWA0
  generalize w2.heap.size = ga0 at *
  refine (glide_false _ _ _).mono ?_
  rintro e wg0 ⟨rfl, hb1⟩
  replace hB := next hB hb1
  replace KG := bk_below KG hb1
  replace KA0 := bk_below KA0 hb1
  have hcG := bk_cell KG; have hlG := bk_lt KG
  have hcA0 := bk_cell KA0; have hlA0 := bk_lt KA0; have hfA0 := bk_free KA0
  have hwb3 := hB.size
  go_wp2_with (first | (at_builtin; (refine app_nil rfl (.tmp 71) (.tmp 73) 35 rfl w.heap.size 41 _ 3 40 Try.underlying35 iso_info rfl (by decide) (by decide) (by rfl) _ _ #[.complex .f64 4607182418800017408 0, .bool true, .complex .f64 (fl W) (fl (2 * first H + H - 1 + s))] (by rfl) (by exact bk_newn _ _ _ (by first | rfl | simp)) rfl (by simp [Value.oneCell']) (by have h1_ := hBw.size; have h2_ := hB.size; (try simp) <;> omega) ?_); intro v0 wv0 hown hbv; (replace hB := next (w := W0) (by repeat (with_reducible (first | exact hB | refine Below.setCell ?_ (by have h2_ := hB.size; (try simp) <;> omega) _ | refine Below.drew ?_ | refine Below.alloc ?_ (by have h2_ := hB.size; (try simp) <;> omega) _))) hbv); (replace KG := bk_below (g := g) (o := .cells #[.int .u8 3, .int .i64 W, .int .i64 H, .int .u8 2, .int .i64 s, .int .i64 (first W), .int .i64 (first H)] 64 (0, 0)) (by repeat (with_reducible (first | exact KG | apply bk_set | refine bk_drew ?_ | refine bk_drewN ?_ _ | refine bk_alloc ?_ _ | refine bk_far ?_ (by simp; try omega) _))) hbv); have hC := same wv0; have hcG := bk_cell KG; have hlG := bk_lt KG) | (at_builtin; (refine app_own rfl (.tmp 124) (.tmp 126) 35 rfl w.heap.size 41 _ 3 40 Try.underlying35 iso_info rfl (by decide) (by decide) _ _ _ (by rfl) (by exact own_below hown (by repeat (with_reducible (first | exact hC | refine Below.setCell ?_ (by have h2_ := hC.size; (try simp) <;> omega) _ | refine Below.drew ?_ | refine Below.alloc ?_ (by have h2_ := hC.size; (try simp) <;> omega) _)))) (by decide) _ _ #[.complex .f64 4607182418800017408 0, .bool false, .complex .f64 0 (fl H)] (by rfl) (by exact bk_newn _ _ _ (by first | rfl | simp)) rfl (by simp [Value.oneCell']) (by have h1_ := hBw.size; have h2_ := hB.size; (try simp) <;> omega) ?_); intro v1 wv1 hown2 hbv2 _) | fail)
  go_ret2
  refine ⟨_, rfl, (hBw.trans (Below.mono (by repeat (with_reducible (first | exact hB | refine Below.setCell ?_ (by have h2_ := hB.size; (try simp) <;> omega) _ | refine Below.drew ?_ | refine Below.alloc ?_ (by have h2_ := hB.size; (try simp) <;> omega) _))) hBw.size)).trans hbv2, ?_⟩
  simpa [mvCells, mvR, fl_zero] using hown2

set_option maxHeartbeats 4000000 in
theorem Glue_4011 (W H s : Int) (w : World) (h : checkE 4 W H 0 s = 0) (hW : 0 < W) (hH : 0 < H) :
    Calls Try.prog 19 #[topoV 4 W H 0 s] w (GlueP [(⟨0, true, W, 2 * first H + H - 1⟩ : Mv), (⟨2, true, 2 * first W + W - 1, H⟩ : Mv)] 0 w) := by
  have h0 := topoOk (by decide) h
  have w0 := h0.w0; have w1_ := h0.w1; have h0_ := h0.h0; have h1_ := h0.h1
  obtain ⟨s1, s2⟩ := h0.sh
  obtain ⟨f1, f2⟩ := first_b w0 w1_
  obtain ⟨f3, f4⟩ := first_b h0_ h1_
  clear h0
  have HK := Lib.hid h; clear h
  have hcv := conv_fl
  have f00 := fl_zero
  have K1 : (w.alloc (.cells #[.int .u8 4, .int .i64 W, .int .i64 H, .int .u8 0, .int .i64 s] 23)).heap[w.heap.size]? = some (.cells #[.int .u8 4, .int .i64 W, .int .i64 H, .int .u8 0, .int .i64 s] 23 (0, 0)) := (bk_new _ _)
  have hBw : Below w.heap.size w (w.alloc (.cells #[.int .u8 4, .int .i64 W, .int .i64 H, .int .u8 0, .int .i64 s] 23)) := boxed _ _
  go_enter Try.func19, Try.ntmps19
  go_wp2_with (first | fail)
  generalize hW0 : (w.alloc (.cells #[.int .u8 4, .int .i64 W, .int .i64 H, .int .u8 0, .int .i64 s] 23)) = W0 at *
  clear hW0
  have hB := same W0
  have K10 := K1
  refine (of_nil _ _ _ _ _ _ (by decide) HK.out).mono ?_
  rintro e w1 ⟨rfl, hb1⟩
  replace hB := next hB hb1; replace K1 := bk_below K1 hb1; have hcK1 := bk_cell K1; have hfK1 := bk_free K1; have hlK1 := bk_lt K1
  go_wp2_with (first | fail)
  have KG := bk_new w1 (.cells #[.int .u8 4, .int .i64 W, .int .i64 H, .int .u8 0, .int .i64 s, .int .i64 (first W), .int .i64 (first H)] 64)
  replace hB := next hB (boxed w1 (.cells #[.int .u8 4, .int .i64 W, .int .i64 H, .int .u8 0, .int .i64 s, .int .i64 (first W), .int .i64 (first H)] 64))
  generalize hWG : w1.alloc (.cells #[.int .u8 4, .int .i64 W, .int .i64 H, .int .u8 0, .int .i64 s, .int .i64 (first W), .int .i64 (first H)] 64) = WG at *
  clear hWG
  generalize w1.heap.size = g at *
  refine (glued_calls _ _ _ _ _ _ _ _ (by decide) (by decide)).mono ?_
  rintro e w2 ⟨rfl, hb1⟩
  rw [show gluedI 4 = true from rfl]
  replace hB := next hB hb1
  replace KG := bk_below KG hb1
  have hcG := bk_cell KG; have hlG := bk_lt KG
  have hwb := hBw.size; have hwb2 := hB.size
  go_wp2_with (first | (at_builtin; (refine app_nil rfl (.tmp 71) (.tmp 73) 35 rfl w.heap.size 41 _ 3 40 Try.underlying35 iso_info rfl (by decide) (by decide) (by rfl) _ _ #[.complex .f64 4607182418800017408 0, .bool true, .complex .f64 (fl W) (fl (2 * first H + H - 1))] (by rfl) (by exact bk_newn _ _ _ (by first | rfl | simp)) rfl (by simp [Value.oneCell']) (by have h1_ := hBw.size; have h2_ := hB.size; (try simp) <;> omega) ?_); intro v0 wv0 hown hbv; (replace hB := next (w := W0) (by repeat (with_reducible (first | exact hB | refine Below.setCell ?_ (by have h2_ := hB.size; (try simp) <;> omega) _ | refine Below.drew ?_ | refine Below.alloc ?_ (by have h2_ := hB.size; (try simp) <;> omega) _))) hbv); (replace KG := bk_below (g := g) (o := .cells #[.int .u8 4, .int .i64 W, .int .i64 H, .int .u8 0, .int .i64 s, .int .i64 (first W), .int .i64 (first H)] 64 (0, 0)) (by repeat (with_reducible (first | exact KG | apply bk_set | refine bk_drew ?_ | refine bk_drewN ?_ _ | refine bk_alloc ?_ _ | refine bk_far ?_ (by simp; try omega) _))) hbv); have hC := same wv0; have hcG := bk_cell KG; have hlG := bk_lt KG) | (at_builtin; (refine app_own rfl (.tmp 124) (.tmp 126) 35 rfl w.heap.size 41 _ 3 40 Try.underlying35 iso_info rfl (by decide) (by decide) _ _ _ (by rfl) (by exact own_below hown (by repeat (with_reducible (first | exact hC | refine Below.setCell ?_ (by have h2_ := hC.size; (try simp) <;> omega) _ | refine Below.drew ?_ | refine Below.alloc ?_ (by have h2_ := hC.size; (try simp) <;> omega) _)))) (by decide) _ _ #[.complex .f64 13830554455654793216 0, .bool true, .complex .f64 (fl (2 * first W + W - 1)) (fl H)] (by rfl) (by exact bk_newn _ _ _ (by first | rfl | simp)) rfl (by simp [Value.oneCell']) (by have h1_ := hBw.size; have h2_ := hB.size; (try simp) <;> omega) ?_); intro v1 wv1 hown2 hbv2 _) | fail)
  have KA0 := bk_new w2 (.cells #[.complex .f64 4607182418800017408 0, .bool false, .complex .f64 (fl W) 0] 41)
  have hga0 := hB.size
  have hgl0 := bk_lt KG
  replace hB := next hB (boxed w2 (.cells #[.complex .f64 4607182418800017408 0, .bool false, .complex .f64 (fl W) 0] 41))
  replace KG := bk_alloc KG (.cells #[.complex .f64 4607182418800017408 0, .bool false, .complex .f64 (fl W) 0] 41)
  generalize hWA0 : w2.alloc (.cells #[.complex .f64 4607182418800017408 0, .bool false, .complex .f64 (fl W) 0] 41) = WA0 at *
  clear hWA0
  generalize w2.heap.size = ga0 at *
  refine (glide_false _ _ _).mono ?_
  rintro e wg0 ⟨rfl, hb1⟩
  replace hB := next hB hb1
  replace KG := bk_below KG hb1
  replace KA0 := bk_below KA0 hb1
  have hcG := bk_cell KG; have hlG := bk_lt KG
  have hcA0 := bk_cell KA0; have hlA0 := bk_lt KA0; have hfA0 := bk_free KA0
  have hwb3 := hB.size
  go_wp2_with (first | (at_builtin; (refine app_nil rfl (.tmp 71) (.tmp 73) 35 rfl w.heap.size 41 _ 3 40 Try.underlying35 iso_info rfl (by decide) (by decide) (by rfl) _ _ #[.complex .f64 4607182418800017408 0, .bool true, .complex .f64 (fl W) (fl (2 * first H + H - 1))] (by rfl) (by exact bk_newn _ _ _ (by first | rfl | simp)) rfl (by simp [Value.oneCell']) (by have h1_ := hBw.size; have h2_ := hB.size; (try simp) <;> omega) ?_); intro v0 wv0 hown hbv; (replace hB := next (w := W0) (by repeat (with_reducible (first | exact hB | refine Below.setCell ?_ (by have h2_ := hB.size; (try simp) <;> omega) _ | refine Below.drew ?_ | refine Below.alloc ?_ (by have h2_ := hB.size; (try simp) <;> omega) _))) hbv); (replace KG := bk_below (g := g) (o := .cells #[.int .u8 4, .int .i64 W, .int .i64 H, .int .u8 0, .int .i64 s, .int .i64 (first W), .int .i64 (first H)] 64 (0, 0)) (by repeat (with_reducible (first | exact KG | apply bk_set | refine bk_drew ?_ | refine bk_drewN ?_ _ | refine bk_alloc ?_ _ | refine bk_far ?_ (by simp; try omega) _))) hbv); have hC := same wv0; have hcG := bk_cell KG; have hlG := bk_lt KG) | (at_builtin; (refine app_own rfl (.tmp 124) (.tmp 126) 35 rfl w.heap.size 41 _ 3 40 Try.underlying35 iso_info rfl (by decide) (by decide) _ _ _ (by rfl) (by exact own_below hown (by repeat (with_reducible (first | exact hC | refine Below.setCell ?_ (by have h2_ := hC.size; (try simp) <;> omega) _ | refine Below.drew ?_ | refine Below.alloc ?_ (by have h2_ := hC.size; (try simp) <;> omega) _)))) (by decide) _ _ #[.complex .f64 13830554455654793216 0, .bool true, .complex .f64 (fl (2 * first W + W - 1)) (fl H)] (by rfl) (by exact bk_newn _ _ _ (by first | rfl | simp)) rfl (by simp [Value.oneCell']) (by have h1_ := hBw.size; have h2_ := hB.size; (try simp) <;> omega) ?_); intro v1 wv1 hown2 hbv2 _) | fail)
  have KA1 := bk_new wv0 (.cells #[.complex .f64 4607182418800017408 0, .bool false, .complex .f64 0 (fl H)] 41)
  have hga1 := hB.size
  have hgl1 := bk_lt KG
  replace hB := next hB (boxed wv0 (.cells #[.complex .f64 4607182418800017408 0, .bool false, .complex .f64 0 (fl H)] 41))
  replace KG := bk_alloc KG (.cells #[.complex .f64 4607182418800017408 0, .bool false, .complex .f64 0 (fl H)] 41)
  have hgc1 := hC.size
  replace hC := next hC (boxed wv0 (.cells #[.complex .f64 4607182418800017408 0, .bool false, .complex .f64 0 (fl H)] 41))
  generalize hWA1 : wv0.alloc (.cells #[.complex .f64 4607182418800017408 0, .bool false, .complex .f64 0 (fl H)] 41) = WA1 at *
  clear hWA1

  refine (glide_true _ _ _).mono ?_
  rintro e wg1 ⟨rfl, hb1⟩
  replace hB := next hB hb1
  replace KG := bk_below KG hb1
  replace KA1 := bk_below KA1 hb1
  replace hC := next hC hb1
  have hcG := bk_cell KG; have hlG := bk_lt KG
  have hcA1 := bk_cell KA1; have hlA1 := bk_lt KA1; have hfA1 := bk_free KA1
  have hwb3 := hB.size
  go_wp2_with (first | (at_builtin; (refine app_nil rfl (.tmp 71) (.tmp 73) 35 rfl w.heap.size 41 _ 3 40 Try.underlying35 iso_info rfl (by decide) (by decide) (by rfl) _ _ #[.complex .f64 4607182418800017408 0, .bool true, .complex .f64 (fl W) (fl (2 * first H + H - 1))] (by rfl) (by exact bk_newn _ _ _ (by first | rfl | simp)) rfl (by simp [Value.oneCell']) (by have h1_ := hBw.size; have h2_ := hB.size; (try simp) <;> omega) ?_); intro v0 wv0 hown hbv; (replace hB := next (w := W0) (by repeat (with_reducible (first | exact hB | refine Below.setCell ?_ (by have h2_ := hB.size; (try simp) <;> omega) _ | refine Below.drew ?_ | refine Below.alloc ?_ (by have h2_ := hB.size; (try simp) <;> omega) _))) hbv); (replace KG := bk_below (g := g) (o := .cells #[.int .u8 4, .int .i64 W, .int .i64 H, .int .u8 0, .int .i64 s, .int .i64 (first W), .int .i64 (first H)] 64 (0, 0)) (by repeat (with_reducible (first | exact KG | apply bk_set | refine bk_drew ?_ | refine bk_drewN ?_ _ | refine bk_alloc ?_ _ | refine bk_far ?_ (by simp; try omega) _))) hbv); have hC := same wv0; have hcG := bk_cell KG; have hlG := bk_lt KG) | (at_builtin; (refine app_own rfl (.tmp 124) (.tmp 126) 35 rfl w.heap.size 41 _ 3 40 Try.underlying35 iso_info rfl (by decide) (by decide) _ _ _ (by rfl) (by exact own_below hown (by repeat (with_reducible (first | exact hC | refine Below.setCell ?_ (by have h2_ := hC.size; (try simp) <;> omega) _ | refine Below.drew ?_ | refine Below.alloc ?_ (by have h2_ := hC.size; (try simp) <;> omega) _)))) (by decide) _ _ #[.complex .f64 13830554455654793216 0, .bool true, .complex .f64 (fl (2 * first W + W - 1)) (fl H)] (by rfl) (by exact bk_newn _ _ _ (by first | rfl | simp)) rfl (by simp [Value.oneCell']) (by have h1_ := hBw.size; have h2_ := hB.size; (try simp) <;> omega) ?_); intro v1 wv1 hown2 hbv2 _) | fail)
  go_ret2
  refine ⟨_, rfl, (hBw.trans (Below.mono (by repeat (with_reducible (first | exact hB | refine Below.setCell ?_ (by have h2_ := hB.size; (try simp) <;> omega) _ | refine Below.drew ?_ | refine Below.alloc ?_ (by have h2_ := hB.size; (try simp) <;> omega) _))) hBw.size)).trans hbv2, ?_⟩
  simpa [mvCells, mvR, fl_zero] using hown2

theorem Glue_calls (k W H t s : Int) (w : World) (t0 : 0 ≤ t) : Calls Try.prog 19 #[topoV k W H t s] w (GlueP (glueL k W H t s) (glueE k W H t s) w) := by
  by_cases h : checkE k W H t s = 0
  · have e0 : glueE k W H t s = 0 := if_neg (by simp [h])
    rw [e0]
    have hk := topoOk t0 h
    cases hg : gluedI k with
    | false =>
      have e1 : glueL k W H t s = [] := by unfold glueL; rw [if_pos (Or.inr hg)]
      rw [e1]
      exact Glue_none k W H t s w t0 h hg
    | true =>
      have e1 : glueL k W H t s = (if 0 < W then [glueX k W H t s] else []) ++ (if 0 < H then [glueY k W H t s] else []) := by
        unfold glueL; rw [if_neg (by simp [h, hg])]
      rw [e1]
      have hk3 : k = 2 ∨ k = 3 ∨ k = 4 := by unfold gluedI at hg; simp at hg; omega
      have t2 := hk.t2
      have ht3 : t = 0 ∨ t = 1 ∨ t = 2 := by omega
      rcases hk3 with rfl | rfl | rfl
      · rcases ht3 with rfl | rfl | rfl
        · by_cases hW : 0 < W <;> by_cases hH : 0 < H
          · have := Glue_2011 W H s w h hW hH
            simpa [hW, hH, glueX, glueY] using this
          · have := Glue_2010 W H s w h hW hH
            simpa [hW, hH, glueX, glueY] using this
          · have := Glue_2001 W H s w h hW hH
            simpa [hW, hH, glueX, glueY] using this
          · have := Glue_2000 W H s w h hW hH
            simpa [hW, hH, glueX, glueY] using this
        · obtain ⟨_, hW, hH⟩ := hk.torus rfl (by decide)
          have := Glue_2111 W H s w h hW hH
          simpa [hW, hH, glueX, glueY] using this
        · obtain ⟨_, hW, hH⟩ := hk.torus rfl (by decide)
          have := Glue_2211 W H s w h hW hH
          simpa [hW, hH, glueX, glueY] using this
      · obtain ⟨hW, hH⟩ := hk.ends (by decide)
        rcases ht3 with rfl | rfl | rfl
        · exact absurd rfl (hk.klein rfl)
        · have := Glue_3111 W H s w h hW hH
          simpa [hW, hH, glueX, glueY] using this
        · have := Glue_3211 W H s w h hW hH
          simpa [hW, hH, glueX, glueY] using this
      · obtain ⟨hW, hH⟩ := hk.ends (by decide)
        obtain rfl : t = 0 := hk.none (by decide) (by decide)
        have := Glue_4011 W H s w h hW hH
        simpa [hW, hH, glueX, glueY] using this
  · have e0 : glueE k W H t s = 9 := if_pos h
    have e1 : glueL k W H t s = [] := by unfold glueL; rw [if_pos (Or.inl h)]
    rw [e0, e1]
    exact Glue_bad k W H t s w t0 h

end Go.Proofs.Ytfdehecekghlmaa
