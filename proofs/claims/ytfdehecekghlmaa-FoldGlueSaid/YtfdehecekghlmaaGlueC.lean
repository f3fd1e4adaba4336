/- The walk of the document's gluing maps (vivariumref06.Glue). -/
import Derived.Test.YtfdehecekghlmaaGlueB
import Derived.Test.YtfdehecekghlmaaRefEq
import Derived.Deep.RegionHeld3
set_option linter.unusedVariables false
set_option linter.unusedSimpArgs false
namespace Go.Proofs.Ytfdehecekghlmaa
open Go.RowKit Go.Viv Go.Proofs.Ytfdehecekghlmaa.PFoldRing
attribute [local go_sem] run_store_complex run_store_float

theorem first_same (W : Int) (w : World) (h0 : 0 ≤ W) (h1 : W ≤ 65536) : Calls Try.prog 40 #[.int .i64 W] w (fun e w' => e = .returned (.int .i64 (first W)) ∧ w' = w) := by
  have hd : W.tdiv 2 = W / 2 := Int.tdiv_eq_ediv_of_nonneg h0
  go_enter Try.func40, Try.ntmps40
  go_wp2
  go_ret
  exact ⟨by unfold first; simp [hd], rfl⟩

set_option maxHeartbeats 1000000 in
theorem plain_calls (x y : Int) (w : World) : Calls Try.prog 53 #[.int .i64 x, .int .i64 y] w (Ret (isoV 4607182418800017408 0 false (fl x) (fl y)) w) := by
  have hcv := conv_fl
  go_enter Try.func53, Try.ntmps53
  go_wp2
  refine end_c (w.heap.size) 41 rfl rfl rfl Try.underlying41 rfl ?_
  exact ⟨_, bk_new _ _, by kernel_rfl, Ret.of rfl (boxed _ _)⟩

set_option maxHeartbeats 1000000 in
theorem lying_calls (x y : Int) (w : World) : Calls Try.prog 54 #[.int .i64 x, .int .i64 y] w (Ret (isoV 4607182418800017408 0 true (fl x) (fl y)) w) := by
  have hcv := conv_fl
  go_enter Try.func54, Try.ntmps54
  go_wp2
  refine end_c (w.heap.size) 41 rfl rfl rfl Try.underlying41 rfl ?_
  exact ⟨_, bk_new _ _, by kernel_rfl, Ret.of rfl (boxed _ _)⟩

set_option maxHeartbeats 1000000 in
theorem upright_calls (x y : Int) (w : World) : Calls Try.prog 55 #[.int .i64 x, .int .i64 y] w (Ret (isoV 13830554455654793216 0 true (fl x) (fl y)) w) := by
  have hcv := conv_fl
  go_enter Try.func55, Try.ntmps55
  go_wp2
  refine end_c (w.heap.size) 41 rfl rfl rfl Try.underlying41 rfl ?_
  exact ⟨_, bk_new _ _, by kernel_rfl, Ret.of rfl (boxed _ _)⟩

def HeldT (W0 : World) (b : Nat) (W H s : Int) (w' : World) : Prop :=
  w'.cell? ⟨b, 1, none⟩ = some (.int .i64 W) ∧ w'.cell? ⟨b, 2, none⟩ = some (.int .i64 H) ∧ w'.cell? ⟨b, 4, none⟩ = some (.int .i64 s) ∧ Below W0.heap.size W0 w'
theorem keepT {W0 w' : World} {b tt : Nat} {k t W H s : Int} (hk : W0.heap[b]? = some (.cells #[.int .u8 k, .int .i64 W, .int .i64 H, .int .u8 t, .int .i64 s] tt (0, 0))) (hB : Below W0.heap.size W0 w') : HeldT W0 b W H s w' := by
  have h1 := bk_below hk hB
  exact ⟨(bk_cell h1 1).trans rfl, (bk_cell h1 2).trans rfl, (bk_cell h1 4).trans rfl, hB⟩
theorem keepTn {W0 w' w2 : World} {b tt : Nat} {k t W H s : Int} (hk : W0.heap[b]? = some (.cells #[.int .u8 k, .int .i64 W, .int .i64 H, .int .u8 t, .int .i64 s] tt (0, 0))) (h : HeldT W0 b W H s w') (h2 : Below w'.heap.size w' w2) : HeldT W0 b W H s w2 := keepT hk (next h.2.2.2 h2)
theorem keepTs {W0 w' : World} {b tt : Nat} {k t W H s : Int} (hk : W0.heap[b]? = some (.cells #[.int .u8 k, .int .i64 W, .int .i64 H, .int .u8 t, .int .i64 s] tt (0, 0))) (h : HeldT W0 b W H s w') {p : Addr} (hp : W0.heap.size ≤ p.block) (u : Value) : HeldT W0 b W H s (w'.setCell p u) := keepT hk (h.2.2.2.setCell hp u)

set_option maxHeartbeats 1000000 in
theorem rGlue_bad (k W H t s : Int) (w : World) (t0 : 0 ≤ t) (h : checkE k W H t s ≠ 0) :
    Calls Try.prog 18 #[topoV k W H t s] w (GlueP [] 9 w) := by
  have hne : (checkE k W H t s != 0) = true := by simpa using h
  clear h
  have K1 : (w.alloc (.cells #[.int .u8 k, .int .i64 W, .int .i64 H, .int .u8 t, .int .i64 s] 23)).heap[w.heap.size]? = some (.cells #[.int .u8 k, .int .i64 W, .int .i64 H, .int .u8 t, .int .i64 s] 23 (0, 0)) := (bk_new _ _)
  have hBw : Below w.heap.size w (w.alloc (.cells #[.int .u8 k, .int .i64 W, .int .i64 H, .int .u8 t, .int .i64 s] 23)) := boxed _ _
  go_enter Try.func18, Try.ntmps18
  go_wp2_with (first | fail)
  generalize hW0 : (w.alloc (.cells #[.int .u8 k, .int .i64 W, .int .i64 H, .int .u8 t, .int .i64 s] 23)) = W0 at *
  clear hW0
  have hB := same W0
  have K10 := K1
  refine (refCheck_calls _ _ _ _ _ _ t0).mono ?_
  rintro e w1 ⟨rfl, hb1⟩
  replace hB := next hB hb1; replace K1 := bk_below K1 hb1; have hcK1 := bk_cell K1; have hfK1 := bk_free K1; have hlK1 := bk_lt K1
  go_wp2
  go_ret2
  exact ⟨_, rfl, (by repeat (with_reducible (first | exact hBw.trans (hB.mono hBw.size) | refine Below.setCell ?_ (by have h1_ := hBw.size; have h2_ := hB.size; (try simp) <;> omega) _ | refine Below.drew ?_ | refine Below.alloc ?_ (by have h1_ := hBw.size; have h2_ := hB.size; (try simp) <;> omega) _))), World.ownsRow_nil _ _ _ _⟩

set_option maxHeartbeats 1000000 in
theorem rGlue_none (k W H t s : Int) (w : World) (t0 : 0 ≤ t) (h : checkE k W H t s = 0) (hg : gluedI k = false) :
    Calls Try.prog 18 #[topoV k W H t s] w (GlueP [] 0 w) := by
  have HG := Lib.hid hg; clear hg
  have HK := Lib.hid h; clear h
  have K1 : (w.alloc (.cells #[.int .u8 k, .int .i64 W, .int .i64 H, .int .u8 t, .int .i64 s] 23)).heap[w.heap.size]? = some (.cells #[.int .u8 k, .int .i64 W, .int .i64 H, .int .u8 t, .int .i64 s] 23 (0, 0)) := (bk_new _ _)
  have hBw : Below w.heap.size w (w.alloc (.cells #[.int .u8 k, .int .i64 W, .int .i64 H, .int .u8 t, .int .i64 s] 23)) := boxed _ _
  go_enter Try.func18, Try.ntmps18
  go_wp2_with (first | fail)
  generalize hW0 : (w.alloc (.cells #[.int .u8 k, .int .i64 W, .int .i64 H, .int .u8 t, .int .i64 s] 23)) = W0 at *
  clear hW0
  have hB := same W0
  have K10 := K1
  refine (refCheck_calls _ _ _ _ _ _ t0).mono ?_
  rintro e w1 ⟨rfl, hb1⟩
  rw [HK.out]
  replace hB := next hB hb1; replace K1 := bk_below K1 hb1; have hcK1 := bk_cell K1; have hfK1 := bk_free K1; have hlK1 := bk_lt K1
  go_wp2_with (first | fail)
  refine (refGlued_calls _ _ _ _ _ _).mono ?_
  rintro e w2 ⟨rfl, hb1⟩
  rw [HG.out]
  replace hB := next hB hb1; replace K1 := bk_below K1 hb1; have hcK1 := bk_cell K1; have hfK1 := bk_free K1; have hlK1 := bk_lt K1
  go_wp2
  go_ret2
  exact ⟨_, rfl, (by repeat (with_reducible (first | exact hBw.trans (hB.mono hBw.size) | refine Below.setCell ?_ (by have h1_ := hBw.size; have h2_ := hB.size; (try simp) <;> omega) _ | refine Below.drew ?_ | refine Below.alloc ?_ (by have h1_ := hBw.size; have h2_ := hB.size; (try simp) <;> omega) _))), World.ownsRow_nil _ _ _ _⟩

set_option maxHeartbeats 4000000 in
theorem rGlue_2011 (W H s : Int) (w : World) (h : checkE 2 W H 0 s = 0) (hW : 0 < W) (hH : 0 < H) :
    Calls Try.prog 18 #[topoV 2 W H 0 s] w (GlueP [(⟨0, false, W, 0⟩ : Mv), (⟨0, false, 0, H⟩ : Mv)] 0 w) := by
  have h0 := topoOk (by decide) h
  have w0 := h0.w0; have w1_ := h0.w1; have h0_ := h0.h0; have h1_ := h0.h1
  obtain ⟨s1, s2⟩ := h0.sh
  obtain ⟨f1, f2⟩ := first_b w0 w1_
  obtain ⟨f3, f4⟩ := first_b h0_ h1_
  clear h0
  have HK := Lib.hid h; clear h
  have f00 := fl_zero
  have K1 : (w.alloc (.cells #[.int .u8 2, .int .i64 W, .int .i64 H, .int .u8 0, .int .i64 s] 23)).heap[w.heap.size]? = some (.cells #[.int .u8 2, .int .i64 W, .int .i64 H, .int .u8 0, .int .i64 s] 23 (0, 0)) := (bk_new _ _)
  have hBw : Below w.heap.size w (w.alloc (.cells #[.int .u8 2, .int .i64 W, .int .i64 H, .int .u8 0, .int .i64 s] 23)) := boxed _ _
  go_enter Try.func18, Try.ntmps18
  go_wp2_with (first | fail)
  generalize hW0 : (w.alloc (.cells #[.int .u8 2, .int .i64 W, .int .i64 H, .int .u8 0, .int .i64 s] 23)) = W0 at *
  clear hW0
  have hB := same W0
  have K10 := K1
  refine (refCheck_calls _ _ _ _ _ _ (by decide)).mono ?_
  rintro e w1 ⟨rfl, hb1⟩
  rw [HK.out]
  replace hB := next hB hb1; replace K1 := bk_below K1 hb1; have hcK1 := bk_cell K1; have hfK1 := bk_free K1; have hlK1 := bk_lt K1
  go_wp2_with (first | fail)
  refine (refGlued_calls _ _ _ _ _ _).mono ?_
  rintro e w2 ⟨rfl, hb1⟩
  rw [show gluedI 2 = true from rfl]
  replace hB := next hB hb1; replace K1 := bk_below K1 hb1; have hcK1 := bk_cell K1; have hfK1 := bk_free K1; have hlK1 := bk_lt K1
  have KG := K1
  have hwb := hBw.size; have hwb2 := hB.size
  go_wp2_with (first | (at_builtin; (refine app_nil rfl (.tmp 71) (.tmp 73) 35 rfl w.heap.size 41 _ 3 40 Try.underlying35 iso_info rfl (by decide) (by decide) (by rfl) _ _ #[.complex .f64 4607182418800017408 0, .bool false, .complex .f64 (fl W) 0] (by rfl) (by exact bk_newn _ _ _ (by first | rfl | simp)) rfl (by simp [Value.oneCell']) (by have h1_ := hBw.size; have h2_ := hB.size; (try simp) <;> omega) ?_); intro v0 wv0 hown hbv; (replace hB := next (w := W0) (by repeat (with_reducible (first | exact hB | refine Below.setCell ?_ (by have h2_ := hB.size; (try simp) <;> omega) _ | refine Below.drew ?_ | refine Below.alloc ?_ (by have h2_ := hB.size; (try simp) <;> omega) _))) hbv); (replace KG := bk_below (g := w.heap.size) (o := .cells #[.int .u8 2, .int .i64 W, .int .i64 H, .int .u8 0, .int .i64 s] 23 (0, 0)) (by repeat (with_reducible (first | exact KG | apply bk_set | refine bk_drew ?_ | refine bk_drewN ?_ _ | refine bk_alloc ?_ _ | refine bk_far ?_ (by simp; try omega) _))) hbv); have hC := same wv0; have hcG := bk_cell KG; have hlG := bk_lt KG) | (at_builtin; (refine app_own rfl (.tmp 133) (.tmp 135) 35 rfl w.heap.size 41 _ 3 40 Try.underlying35 iso_info rfl (by decide) (by decide) _ _ _ (by rfl) (by exact own_below hown (by repeat (with_reducible (first | exact hC | refine Below.setCell ?_ (by have h2_ := hC.size; (try simp) <;> omega) _ | refine Below.drew ?_ | refine Below.alloc ?_ (by have h2_ := hC.size; (try simp) <;> omega) _)))) (by decide) _ _ #[.complex .f64 4607182418800017408 0, .bool false, .complex .f64 0 (fl H)] (by rfl) (by exact bk_newn _ _ _ (by first | rfl | simp)) rfl (by simp [Value.oneCell']) (by have h1_ := hBw.size; have h2_ := hB.size; (try simp) <;> omega) ?_); intro v1 wv1 hown2 hbv2 _) | fail)
  refine (plain_calls _ _ _).mono ?_
  rintro e wp0 ⟨rfl, hb1⟩
  replace hB := next hB hb1
  replace KG := bk_below KG hb1
  have hcG := bk_cell KG; have hlG := bk_lt KG; have hwb3 := hB.size
  go_wp2_with (first | (at_builtin; (refine app_nil rfl (.tmp 71) (.tmp 73) 35 rfl w.heap.size 41 _ 3 40 Try.underlying35 iso_info rfl (by decide) (by decide) (by rfl) _ _ #[.complex .f64 4607182418800017408 0, .bool false, .complex .f64 (fl W) 0] (by rfl) (by exact bk_newn _ _ _ (by first | rfl | simp)) rfl (by simp [Value.oneCell']) (by have h1_ := hBw.size; have h2_ := hB.size; (try simp) <;> omega) ?_); intro v0 wv0 hown hbv; (replace hB := next (w := W0) (by repeat (with_reducible (first | exact hB | refine Below.setCell ?_ (by have h2_ := hB.size; (try simp) <;> omega) _ | refine Below.drew ?_ | refine Below.alloc ?_ (by have h2_ := hB.size; (try simp) <;> omega) _))) hbv); (replace KG := bk_below (g := w.heap.size) (o := .cells #[.int .u8 2, .int .i64 W, .int .i64 H, .int .u8 0, .int .i64 s] 23 (0, 0)) (by repeat (with_reducible (first | exact KG | apply bk_set | refine bk_drew ?_ | refine bk_drewN ?_ _ | refine bk_alloc ?_ _ | refine bk_far ?_ (by simp; try omega) _))) hbv); have hC := same wv0; have hcG := bk_cell KG; have hlG := bk_lt KG) | (at_builtin; (refine app_own rfl (.tmp 133) (.tmp 135) 35 rfl w.heap.size 41 _ 3 40 Try.underlying35 iso_info rfl (by decide) (by decide) _ _ _ (by rfl) (by exact own_below hown (by repeat (with_reducible (first | exact hC | refine Below.setCell ?_ (by have h2_ := hC.size; (try simp) <;> omega) _ | refine Below.drew ?_ | refine Below.alloc ?_ (by have h2_ := hC.size; (try simp) <;> omega) _)))) (by decide) _ _ #[.complex .f64 4607182418800017408 0, .bool false, .complex .f64 0 (fl H)] (by rfl) (by exact bk_newn _ _ _ (by first | rfl | simp)) rfl (by simp [Value.oneCell']) (by have h1_ := hBw.size; have h2_ := hB.size; (try simp) <;> omega) ?_); intro v1 wv1 hown2 hbv2 _) | fail)
  refine (plain_calls _ _ _).mono ?_
  rintro e wp1 ⟨rfl, hb1⟩
  replace hB := next hB hb1
  replace KG := bk_below KG hb1
  replace hC := next hC hb1
  have hcG := bk_cell KG; have hlG := bk_lt KG; have hwb3 := hB.size
  go_wp2_with (first | (at_builtin; (refine app_nil rfl (.tmp 71) (.tmp 73) 35 rfl w.heap.size 41 _ 3 40 Try.underlying35 iso_info rfl (by decide) (by decide) (by rfl) _ _ #[.complex .f64 4607182418800017408 0, .bool false, .complex .f64 (fl W) 0] (by rfl) (by exact bk_newn _ _ _ (by first | rfl | simp)) rfl (by simp [Value.oneCell']) (by have h1_ := hBw.size; have h2_ := hB.size; (try simp) <;> omega) ?_); intro v0 wv0 hown hbv; (replace hB := next (w := W0) (by repeat (with_reducible (first | exact hB | refine Below.setCell ?_ (by have h2_ := hB.size; (try simp) <;> omega) _ | refine Below.drew ?_ | refine Below.alloc ?_ (by have h2_ := hB.size; (try simp) <;> omega) _))) hbv); (replace KG := bk_below (g := w.heap.size) (o := .cells #[.int .u8 2, .int .i64 W, .int .i64 H, .int .u8 0, .int .i64 s] 23 (0, 0)) (by repeat (with_reducible (first | exact KG | apply bk_set | refine bk_drew ?_ | refine bk_drewN ?_ _ | refine bk_alloc ?_ _ | refine bk_far ?_ (by simp; try omega) _))) hbv); have hC := same wv0; have hcG := bk_cell KG; have hlG := bk_lt KG) | (at_builtin; (refine app_own rfl (.tmp 133) (.tmp 135) 35 rfl w.heap.size 41 _ 3 40 Try.underlying35 iso_info rfl (by decide) (by decide) _ _ _ (by rfl) (by exact own_below hown (by repeat (with_reducible (first | exact hC | refine Below.setCell ?_ (by have h2_ := hC.size; (try simp) <;> omega) _ | refine Below.drew ?_ | refine Below.alloc ?_ (by have h2_ := hC.size; (try simp) <;> omega) _)))) (by decide) _ _ #[.complex .f64 4607182418800017408 0, .bool false, .complex .f64 0 (fl H)] (by rfl) (by exact bk_newn _ _ _ (by first | rfl | simp)) rfl (by simp [Value.oneCell']) (by have h1_ := hBw.size; have h2_ := hB.size; (try simp) <;> omega) ?_); intro v1 wv1 hown2 hbv2 _) | fail)
  go_ret2
  refine ⟨_, rfl, (hBw.trans (Below.mono (by repeat (with_reducible (first | exact hB | refine Below.setCell ?_ (by have h2_ := hB.size; (try simp) <;> omega) _ | refine Below.drew ?_ | refine Below.alloc ?_ (by have h2_ := hB.size; (try simp) <;> omega) _))) hBw.size)).trans hbv2, ?_⟩
  simpa [mvCells, mvR, fl_zero] using hown2

set_option maxHeartbeats 4000000 in
theorem rGlue_2010 (W H s : Int) (w : World) (h : checkE 2 W H 0 s = 0) (hW : 0 < W) (hH : ¬ 0 < H) :
    Calls Try.prog 18 #[topoV 2 W H 0 s] w (GlueP [(⟨0, false, W, 0⟩ : Mv)] 0 w) := by
  have h0 := topoOk (by decide) h
  have w0 := h0.w0; have w1_ := h0.w1; have h0_ := h0.h0; have h1_ := h0.h1
  obtain ⟨s1, s2⟩ := h0.sh
  obtain ⟨f1, f2⟩ := first_b w0 w1_
  obtain ⟨f3, f4⟩ := first_b h0_ h1_
  clear h0
  have HK := Lib.hid h; clear h
  have f00 := fl_zero
  have K1 : (w.alloc (.cells #[.int .u8 2, .int .i64 W, .int .i64 H, .int .u8 0, .int .i64 s] 23)).heap[w.heap.size]? = some (.cells #[.int .u8 2, .int .i64 W, .int .i64 H, .int .u8 0, .int .i64 s] 23 (0, 0)) := (bk_new _ _)
  have hBw : Below w.heap.size w (w.alloc (.cells #[.int .u8 2, .int .i64 W, .int .i64 H, .int .u8 0, .int .i64 s] 23)) := boxed _ _
  go_enter Try.func18, Try.ntmps18
  go_wp2_with (first | fail)
  generalize hW0 : (w.alloc (.cells #[.int .u8 2, .int .i64 W, .int .i64 H, .int .u8 0, .int .i64 s] 23)) = W0 at *
  clear hW0
  have hB := same W0
  have K10 := K1
  refine (refCheck_calls _ _ _ _ _ _ (by decide)).mono ?_
  rintro e w1 ⟨rfl, hb1⟩
  rw [HK.out]
  replace hB := next hB hb1; replace K1 := bk_below K1 hb1; have hcK1 := bk_cell K1; have hfK1 := bk_free K1; have hlK1 := bk_lt K1
  go_wp2_with (first | fail)
  refine (refGlued_calls _ _ _ _ _ _).mono ?_
  rintro e w2 ⟨rfl, hb1⟩
  rw [show gluedI 2 = true from rfl]
  replace hB := next hB hb1; replace K1 := bk_below K1 hb1; have hcK1 := bk_cell K1; have hfK1 := bk_free K1; have hlK1 := bk_lt K1
  have KG := K1
  have hwb := hBw.size; have hwb2 := hB.size
  go_wp2_with (first | (at_builtin; (refine app_nil rfl (.tmp 71) (.tmp 73) 35 rfl w.heap.size 41 _ 3 40 Try.underlying35 iso_info rfl (by decide) (by decide) (by rfl) _ _ #[.complex .f64 4607182418800017408 0, .bool false, .complex .f64 (fl W) 0] (by rfl) (by exact bk_newn _ _ _ (by first | rfl | simp)) rfl (by simp [Value.oneCell']) (by have h1_ := hBw.size; have h2_ := hB.size; (try simp) <;> omega) ?_); intro v0 wv0 hown hbv; (replace hB := next (w := W0) (by repeat (with_reducible (first | exact hB | refine Below.setCell ?_ (by have h2_ := hB.size; (try simp) <;> omega) _ | refine Below.drew ?_ | refine Below.alloc ?_ (by have h2_ := hB.size; (try simp) <;> omega) _))) hbv); (replace KG := bk_below (g := w.heap.size) (o := .cells #[.int .u8 2, .int .i64 W, .int .i64 H, .int .u8 0, .int .i64 s] 23 (0, 0)) (by repeat (with_reducible (first | exact KG | apply bk_set | refine bk_drew ?_ | refine bk_drewN ?_ _ | refine bk_alloc ?_ _ | refine bk_far ?_ (by simp; try omega) _))) hbv); have hC := same wv0; have hcG := bk_cell KG; have hlG := bk_lt KG) | fail)
  refine (plain_calls _ _ _).mono ?_
  rintro e wp0 ⟨rfl, hb1⟩
  replace hB := next hB hb1
  replace KG := bk_below KG hb1
  have hcG := bk_cell KG; have hlG := bk_lt KG; have hwb3 := hB.size
  go_wp2_with (first | (at_builtin; (refine app_nil rfl (.tmp 71) (.tmp 73) 35 rfl w.heap.size 41 _ 3 40 Try.underlying35 iso_info rfl (by decide) (by decide) (by rfl) _ _ #[.complex .f64 4607182418800017408 0, .bool false, .complex .f64 (fl W) 0] (by rfl) (by exact bk_newn _ _ _ (by first | rfl | simp)) rfl (by simp [Value.oneCell']) (by have h1_ := hBw.size; have h2_ := hB.size; (try simp) <;> omega) ?_); intro v0 wv0 hown hbv; (replace hB := next (w := W0) (by repeat (with_reducible (first | exact hB | refine Below.setCell ?_ (by have h2_ := hB.size; (try simp) <;> omega) _ | refine Below.drew ?_ | refine Below.alloc ?_ (by have h2_ := hB.size; (try simp) <;> omega) _))) hbv); (replace KG := bk_below (g := w.heap.size) (o := .cells #[.int .u8 2, .int .i64 W, .int .i64 H, .int .u8 0, .int .i64 s] 23 (0, 0)) (by repeat (with_reducible (first | exact KG | apply bk_set | refine bk_drew ?_ | refine bk_drewN ?_ _ | refine bk_alloc ?_ _ | refine bk_far ?_ (by simp; try omega) _))) hbv); have hC := same wv0; have hcG := bk_cell KG; have hlG := bk_lt KG) | fail)
  go_ret2
  refine ⟨_, rfl, hBw.trans (hB.mono hBw.size), ?_⟩
  simpa [mvCells, mvR, fl_zero] using hown

set_option maxHeartbeats 4000000 in
theorem rGlue_2001 (W H s : Int) (w : World) (h : checkE 2 W H 0 s = 0) (hW : ¬ 0 < W) (hH : 0 < H) :
    Calls Try.prog 18 #[topoV 2 W H 0 s] w (GlueP [(⟨0, false, 0, H⟩ : Mv)] 0 w) := by
  have h0 := topoOk (by decide) h
  have w0 := h0.w0; have w1_ := h0.w1; have h0_ := h0.h0; have h1_ := h0.h1
  obtain ⟨s1, s2⟩ := h0.sh
  obtain ⟨f1, f2⟩ := first_b w0 w1_
  obtain ⟨f3, f4⟩ := first_b h0_ h1_
  clear h0
  have HK := Lib.hid h; clear h
  have f00 := fl_zero
  have K1 : (w.alloc (.cells #[.int .u8 2, .int .i64 W, .int .i64 H, .int .u8 0, .int .i64 s] 23)).heap[w.heap.size]? = some (.cells #[.int .u8 2, .int .i64 W, .int .i64 H, .int .u8 0, .int .i64 s] 23 (0, 0)) := (bk_new _ _)
  have hBw : Below w.heap.size w (w.alloc (.cells #[.int .u8 2, .int .i64 W, .int .i64 H, .int .u8 0, .int .i64 s] 23)) := boxed _ _
  go_enter Try.func18, Try.ntmps18
  go_wp2_with (first | fail)
  generalize hW0 : (w.alloc (.cells #[.int .u8 2, .int .i64 W, .int .i64 H, .int .u8 0, .int .i64 s] 23)) = W0 at *
  clear hW0
  have hB := same W0
  have K10 := K1
  refine (refCheck_calls _ _ _ _ _ _ (by decide)).mono ?_
  rintro e w1 ⟨rfl, hb1⟩
  rw [HK.out]
  replace hB := next hB hb1; replace K1 := bk_below K1 hb1; have hcK1 := bk_cell K1; have hfK1 := bk_free K1; have hlK1 := bk_lt K1
  go_wp2_with (first | fail)
  refine (refGlued_calls _ _ _ _ _ _).mono ?_
  rintro e w2 ⟨rfl, hb1⟩
  rw [show gluedI 2 = true from rfl]
  replace hB := next hB hb1; replace K1 := bk_below K1 hb1; have hcK1 := bk_cell K1; have hfK1 := bk_free K1; have hlK1 := bk_lt K1
  have KG := K1
  have hwb := hBw.size; have hwb2 := hB.size
  go_wp2_with (first | (at_builtin; (refine app_nil rfl (.tmp 133) (.tmp 135) 35 rfl w.heap.size 41 _ 3 40 Try.underlying35 iso_info rfl (by decide) (by decide) (by rfl) _ _ #[.complex .f64 4607182418800017408 0, .bool false, .complex .f64 0 (fl H)] (by rfl) (by exact bk_newn _ _ _ (by first | rfl | simp)) rfl (by simp [Value.oneCell']) (by have h1_ := hBw.size; have h2_ := hB.size; (try simp) <;> omega) ?_); intro v1 wv1 hown hbv; (replace hB := next (w := W0) (by repeat (with_reducible (first | exact hB | refine Below.setCell ?_ (by have h2_ := hB.size; (try simp) <;> omega) _ | refine Below.drew ?_ | refine Below.alloc ?_ (by have h2_ := hB.size; (try simp) <;> omega) _))) hbv); (replace KG := bk_below (g := w.heap.size) (o := .cells #[.int .u8 2, .int .i64 W, .int .i64 H, .int .u8 0, .int .i64 s] 23 (0, 0)) (by repeat (with_reducible (first | exact KG | apply bk_set | refine bk_drew ?_ | refine bk_drewN ?_ _ | refine bk_alloc ?_ _ | refine bk_far ?_ (by simp; try omega) _))) hbv); have hC := same wv1; have hcG := bk_cell KG; have hlG := bk_lt KG) | fail)
  refine (plain_calls _ _ _).mono ?_
  rintro e wp1 ⟨rfl, hb1⟩
  replace hB := next hB hb1
  replace KG := bk_below KG hb1
  have hcG := bk_cell KG; have hlG := bk_lt KG; have hwb3 := hB.size
  go_wp2_with (first | (at_builtin; (refine app_nil rfl (.tmp 133) (.tmp 135) 35 rfl w.heap.size 41 _ 3 40 Try.underlying35 iso_info rfl (by decide) (by decide) (by rfl) _ _ #[.complex .f64 4607182418800017408 0, .bool false, .complex .f64 0 (fl H)] (by rfl) (by exact bk_newn _ _ _ (by first | rfl | simp)) rfl (by simp [Value.oneCell']) (by have h1_ := hBw.size; have h2_ := hB.size; (try simp) <;> omega) ?_); intro v1 wv1 hown hbv; (replace hB := next (w := W0) (by repeat (with_reducible (first | exact hB | refine Below.setCell ?_ (by have h2_ := hB.size; (try simp) <;> omega) _ | refine Below.drew ?_ | refine Below.alloc ?_ (by have h2_ := hB.size; (try simp) <;> omega) _))) hbv); (replace KG := bk_below (g := w.heap.size) (o := .cells #[.int .u8 2, .int .i64 W, .int .i64 H, .int .u8 0, .int .i64 s] 23 (0, 0)) (by repeat (with_reducible (first | exact KG | apply bk_set | refine bk_drew ?_ | refine bk_drewN ?_ _ | refine bk_alloc ?_ _ | refine bk_far ?_ (by simp; try omega) _))) hbv); have hC := same wv1; have hcG := bk_cell KG; have hlG := bk_lt KG) | fail)
  go_ret2
  refine ⟨_, rfl, hBw.trans (hB.mono hBw.size), ?_⟩
  simpa [mvCells, mvR, fl_zero] using hown

set_option maxHeartbeats 4000000 in
theorem rGlue_2000 (W H s : Int) (w : World) (h : checkE 2 W H 0 s = 0) (hW : ¬ 0 < W) (hH : ¬ 0 < H) :
    Calls Try.prog 18 #[topoV 2 W H 0 s] w (GlueP [] 0 w) := by
  have h0 := topoOk (by decide) h
  have w0 := h0.w0; have w1_ := h0.w1; have h0_ := h0.h0; have h1_ := h0.h1
  obtain ⟨s1, s2⟩ := h0.sh
  obtain ⟨f1, f2⟩ := first_b w0 w1_
  obtain ⟨f3, f4⟩ := first_b h0_ h1_
  clear h0
  have HK := Lib.hid h; clear h
  have f00 := fl_zero
  have K1 : (w.alloc (.cells #[.int .u8 2, .int .i64 W, .int .i64 H, .int .u8 0, .int .i64 s] 23)).heap[w.heap.size]? = some (.cells #[.int .u8 2, .int .i64 W, .int .i64 H, .int .u8 0, .int .i64 s] 23 (0, 0)) := (bk_new _ _)
  have hBw : Below w.heap.size w (w.alloc (.cells #[.int .u8 2, .int .i64 W, .int .i64 H, .int .u8 0, .int .i64 s] 23)) := boxed _ _
  go_enter Try.func18, Try.ntmps18
  go_wp2_with (first | fail)
  generalize hW0 : (w.alloc (.cells #[.int .u8 2, .int .i64 W, .int .i64 H, .int .u8 0, .int .i64 s] 23)) = W0 at *
  clear hW0
  have hB := same W0
  have K10 := K1
  refine (refCheck_calls _ _ _ _ _ _ (by decide)).mono ?_
  rintro e w1 ⟨rfl, hb1⟩
  rw [HK.out]
  replace hB := next hB hb1; replace K1 := bk_below K1 hb1; have hcK1 := bk_cell K1; have hfK1 := bk_free K1; have hlK1 := bk_lt K1
  go_wp2_with (first | fail)
  refine (refGlued_calls _ _ _ _ _ _).mono ?_
  rintro e w2 ⟨rfl, hb1⟩
  rw [show gluedI 2 = true from rfl]
  replace hB := next hB hb1; replace K1 := bk_below K1 hb1; have hcK1 := bk_cell K1; have hfK1 := bk_free K1; have hlK1 := bk_lt K1
  have KG := K1
  have hwb := hBw.size; have hwb2 := hB.size
  go_wp2_with (first | fail)
  go_ret2
  exact ⟨_, rfl, (by repeat (with_reducible (first | exact hBw.trans (hB.mono hBw.size) | refine Below.setCell ?_ (by have h1_ := hBw.size; have h2_ := hB.size; (try simp) <;> omega) _ | refine Below.drew ?_ | refine Below.alloc ?_ (by have h1_ := hBw.size; have h2_ := hB.size; (try simp) <;> omega) _))), World.ownsRow_nil _ _ _ _⟩

set_option maxHeartbeats 4000000 in
theorem rGlue_2111 (W H s : Int) (w : World) (h : checkE 2 W H 1 s = 0) (hW : 0 < W) (hH : 0 < H) :
    Calls Try.prog 18 #[topoV 2 W H 1 s] w (GlueP [(⟨0, false, W, 0⟩ : Mv), (⟨0, false, s, H⟩ : Mv)] 0 w) := by
  have h0 := topoOk (by decide) h
  have w0 := h0.w0; have w1_ := h0.w1; have h0_ := h0.h0; have h1_ := h0.h1
  obtain ⟨s1, s2⟩ := h0.sh
  obtain ⟨f1, f2⟩ := first_b w0 w1_
  obtain ⟨f3, f4⟩ := first_b h0_ h1_
  clear h0
  have HK := Lib.hid h; clear h
  have f00 := fl_zero
  have K1 : (w.alloc (.cells #[.int .u8 2, .int .i64 W, .int .i64 H, .int .u8 1, .int .i64 s] 23)).heap[w.heap.size]? = some (.cells #[.int .u8 2, .int .i64 W, .int .i64 H, .int .u8 1, .int .i64 s] 23 (0, 0)) := (bk_new _ _)
  have hBw : Below w.heap.size w (w.alloc (.cells #[.int .u8 2, .int .i64 W, .int .i64 H, .int .u8 1, .int .i64 s] 23)) := boxed _ _
  go_enter Try.func18, Try.ntmps18
  go_wp2_with (first | fail)
  generalize hW0 : (w.alloc (.cells #[.int .u8 2, .int .i64 W, .int .i64 H, .int .u8 1, .int .i64 s] 23)) = W0 at *
  clear hW0
  have hB := same W0
  have K10 := K1
  refine (refCheck_calls _ _ _ _ _ _ (by decide)).mono ?_
  rintro e w1 ⟨rfl, hb1⟩
  rw [HK.out]
  replace hB := next hB hb1; replace K1 := bk_below K1 hb1; have hcK1 := bk_cell K1; have hfK1 := bk_free K1; have hlK1 := bk_lt K1
  go_wp2_with (first | fail)
  refine (refGlued_calls _ _ _ _ _ _).mono ?_
  rintro e w2 ⟨rfl, hb1⟩
  rw [show gluedI 2 = true from rfl]
  replace hB := next hB hb1; replace K1 := bk_below K1 hb1; have hcK1 := bk_cell K1; have hfK1 := bk_free K1; have hlK1 := bk_lt K1
  have KG := K1
  have hwb := hBw.size; have hwb2 := hB.size
  go_wp2_with (first | (at_builtin; (refine app_nil rfl (.tmp 71) (.tmp 73) 35 rfl w.heap.size 41 _ 3 40 Try.underlying35 iso_info rfl (by decide) (by decide) (by rfl) _ _ #[.complex .f64 4607182418800017408 0, .bool false, .complex .f64 (fl W) 0] (by rfl) (by exact bk_newn _ _ _ (by first | rfl | simp)) rfl (by simp [Value.oneCell']) (by have h1_ := hBw.size; have h2_ := hB.size; (try simp) <;> omega) ?_); intro v0 wv0 hown hbv; (replace hB := next (w := W0) (by repeat (with_reducible (first | exact hB | refine Below.setCell ?_ (by have h2_ := hB.size; (try simp) <;> omega) _ | refine Below.drew ?_ | refine Below.alloc ?_ (by have h2_ := hB.size; (try simp) <;> omega) _))) hbv); (replace KG := bk_below (g := w.heap.size) (o := .cells #[.int .u8 2, .int .i64 W, .int .i64 H, .int .u8 1, .int .i64 s] 23 (0, 0)) (by repeat (with_reducible (first | exact KG | apply bk_set | refine bk_drew ?_ | refine bk_drewN ?_ _ | refine bk_alloc ?_ _ | refine bk_far ?_ (by simp; try omega) _))) hbv); have hC := same wv0; have hcG := bk_cell KG; have hlG := bk_lt KG) | (at_builtin; (refine app_own rfl (.tmp 133) (.tmp 135) 35 rfl w.heap.size 41 _ 3 40 Try.underlying35 iso_info rfl (by decide) (by decide) _ _ _ (by rfl) (by exact own_below hown (by repeat (with_reducible (first | exact hC | refine Below.setCell ?_ (by have h2_ := hC.size; (try simp) <;> omega) _ | refine Below.drew ?_ | refine Below.alloc ?_ (by have h2_ := hC.size; (try simp) <;> omega) _)))) (by decide) _ _ #[.complex .f64 4607182418800017408 0, .bool false, .complex .f64 (fl s) (fl H)] (by rfl) (by exact bk_newn _ _ _ (by first | rfl | simp)) rfl (by simp [Value.oneCell']) (by have h1_ := hBw.size; have h2_ := hB.size; (try simp) <;> omega) ?_); intro v1 wv1 hown2 hbv2 _) | fail)
  refine (plain_calls _ _ _).mono ?_
  rintro e wp0 ⟨rfl, hb1⟩
  replace hB := next hB hb1
  replace KG := bk_below KG hb1
  have hcG := bk_cell KG; have hlG := bk_lt KG; have hwb3 := hB.size
  go_wp2_with (first | (at_builtin; (refine app_nil rfl (.tmp 71) (.tmp 73) 35 rfl w.heap.size 41 _ 3 40 Try.underlying35 iso_info rfl (by decide) (by decide) (by rfl) _ _ #[.complex .f64 4607182418800017408 0, .bool false, .complex .f64 (fl W) 0] (by rfl) (by exact bk_newn _ _ _ (by first | rfl | simp)) rfl (by simp [Value.oneCell']) (by have h1_ := hBw.size; have h2_ := hB.size; (try simp) <;> omega) ?_); intro v0 wv0 hown hbv; (replace hB := next (w := W0) (by repeat (with_reducible (first | exact hB | refine Below.setCell ?_ (by have h2_ := hB.size; (try simp) <;> omega) _ | refine Below.drew ?_ | refine Below.alloc ?_ (by have h2_ := hB.size; (try simp) <;> omega) _))) hbv); (replace KG := bk_below (g := w.heap.size) (o := .cells #[.int .u8 2, .int .i64 W, .int .i64 H, .int .u8 1, .int .i64 s] 23 (0, 0)) (by repeat (with_reducible (first | exact KG | apply bk_set | refine bk_drew ?_ | refine bk_drewN ?_ _ | refine bk_alloc ?_ _ | refine bk_far ?_ (by simp; try omega) _))) hbv); have hC := same wv0; have hcG := bk_cell KG; have hlG := bk_lt KG) | (at_builtin; (refine app_own rfl (.tmp 133) (.tmp 135) 35 rfl w.heap.size 41 _ 3 40 Try.underlying35 iso_info rfl (by decide) (by decide) _ _ _ (by rfl) (by exact own_below hown (by repeat (with_reducible (first | exact hC | refine Below.setCell ?_ (by have h2_ := hC.size; (try simp) <;> omega) _ | refine Below.drew ?_ | refine Below.alloc ?_ (by have h2_ := hC.size; (try simp) <;> omega) _)))) (by decide) _ _ #[.complex .f64 4607182418800017408 0, .bool false, .complex .f64 (fl s) (fl H)] (by rfl) (by exact bk_newn _ _ _ (by first | rfl | simp)) rfl (by simp [Value.oneCell']) (by have h1_ := hBw.size; have h2_ := hB.size; (try simp) <;> omega) ?_); intro v1 wv1 hown2 hbv2 _) | fail)
  refine (plain_calls _ _ _).mono ?_
  rintro e wp1 ⟨rfl, hb1⟩
  replace hB := next hB hb1
  replace KG := bk_below KG hb1
  replace hC := next hC hb1
  have hcG := bk_cell KG; have hlG := bk_lt KG; have hwb3 := hB.size
  go_wp2_with (first | (at_builtin; (refine app_nil rfl (.tmp 71) (.tmp 73) 35 rfl w.heap.size 41 _ 3 40 Try.underlying35 iso_info rfl (by decide) (by decide) (by rfl) _ _ #[.complex .f64 4607182418800017408 0, .bool false, .complex .f64 (fl W) 0] (by rfl) (by exact bk_newn _ _ _ (by first | rfl | simp)) rfl (by simp [Value.oneCell']) (by have h1_ := hBw.size; have h2_ := hB.size; (try simp) <;> omega) ?_); intro v0 wv0 hown hbv; (replace hB := next (w := W0) (by repeat (with_reducible (first | exact hB | refine Below.setCell ?_ (by have h2_ := hB.size; (try simp) <;> omega) _ | refine Below.drew ?_ | refine Below.alloc ?_ (by have h2_ := hB.size; (try simp) <;> omega) _))) hbv); (replace KG := bk_below (g := w.heap.size) (o := .cells #[.int .u8 2, .int .i64 W, .int .i64 H, .int .u8 1, .int .i64 s] 23 (0, 0)) (by repeat (with_reducible (first | exact KG | apply bk_set | refine bk_drew ?_ | refine bk_drewN ?_ _ | refine bk_alloc ?_ _ | refine bk_far ?_ (by simp; try omega) _))) hbv); have hC := same wv0; have hcG := bk_cell KG; have hlG := bk_lt KG) | (at_builtin; (refine app_own rfl (.tmp 133) (.tmp 135) 35 rfl w.heap.size 41 _ 3 40 Try.underlying35 iso_info rfl (by decide) (by decide) _ _ _ (by rfl) (by exact own_below hown (by repeat (with_reducible (first | exact hC | refine Below.setCell ?_ (by have h2_ := hC.size; (try simp) <;> omega) _ | refine Below.drew ?_ | refine Below.alloc ?_ (by have h2_ := hC.size; (try simp) <;> omega) _)))) (by decide) _ _ #[.complex .f64 4607182418800017408 0, .bool false, .complex .f64 (fl s) (fl H)] (by rfl) (by exact bk_newn _ _ _ (by first | rfl | simp)) rfl (by simp [Value.oneCell']) (by have h1_ := hBw.size; have h2_ := hB.size; (try simp) <;> omega) ?_); intro v1 wv1 hown2 hbv2 _) | fail)
  have KA1 := bk_new wp1 (.cells #[.complex .f64 4607182418800017408 0, .bool false, .complex .f64 0 (fl H)] 41)
  have hga1 := hB.size
  have hgl1 := bk_lt KG
  replace hB := next hB (boxed wp1 (.cells #[.complex .f64 4607182418800017408 0, .bool false, .complex .f64 0 (fl H)] 41))
  replace KG := bk_alloc KG (.cells #[.complex .f64 4607182418800017408 0, .bool false, .complex .f64 0 (fl H)] 41)
  have hgc1 := hC.size
  replace hC := next hC (boxed wp1 (.cells #[.complex .f64 4607182418800017408 0, .bool false, .complex .f64 0 (fl H)] 41))
  generalize hWA1 : wp1.alloc (.cells #[.complex .f64 4607182418800017408 0, .bool false, .complex .f64 0 (fl H)] 41) = WA1 at *
  clear hWA1
  generalize wp1.heap.size = ga1 at *
  refine (plain_calls _ _ _).mono ?_
  rintro e wg1 ⟨rfl, hb1⟩
  replace hB := next hB hb1
  replace KG := bk_below KG hb1
  replace KA1 := bk_below KA1 hb1
  replace hC := next hC hb1
  have hcG := bk_cell KG; have hlG := bk_lt KG
  have hcA1 := bk_cell KA1; have hlA1 := bk_lt KA1; have hfA1 := bk_free KA1
  have hwb3 := hB.size
  go_wp2_with (first | (at_builtin; (refine app_nil rfl (.tmp 71) (.tmp 73) 35 rfl w.heap.size 41 _ 3 40 Try.underlying35 iso_info rfl (by decide) (by decide) (by rfl) _ _ #[.complex .f64 4607182418800017408 0, .bool false, .complex .f64 (fl W) 0] (by rfl) (by exact bk_newn _ _ _ (by first | rfl | simp)) rfl (by simp [Value.oneCell']) (by have h1_ := hBw.size; have h2_ := hB.size; (try simp) <;> omega) ?_); intro v0 wv0 hown hbv; (replace hB := next (w := W0) (by repeat (with_reducible (first | exact hB | refine Below.setCell ?_ (by have h2_ := hB.size; (try simp) <;> omega) _ | refine Below.drew ?_ | refine Below.alloc ?_ (by have h2_ := hB.size; (try simp) <;> omega) _))) hbv); (replace KG := bk_below (g := w.heap.size) (o := .cells #[.int .u8 2, .int .i64 W, .int .i64 H, .int .u8 1, .int .i64 s] 23 (0, 0)) (by repeat (with_reducible (first | exact KG | apply bk_set | refine bk_drew ?_ | refine bk_drewN ?_ _ | refine bk_alloc ?_ _ | refine bk_far ?_ (by simp; try omega) _))) hbv); have hC := same wv0; have hcG := bk_cell KG; have hlG := bk_lt KG) | (at_builtin; (refine app_own rfl (.tmp 133) (.tmp 135) 35 rfl w.heap.size 41 _ 3 40 Try.underlying35 iso_info rfl (by decide) (by decide) _ _ _ (by rfl) (by exact own_below hown (by repeat (with_reducible (first | exact hC | refine Below.setCell ?_ (by have h2_ := hC.size; (try simp) <;> omega) _ | refine Below.drew ?_ | refine Below.alloc ?_ (by have h2_ := hC.size; (try simp) <;> omega) _)))) (by decide) _ _ #[.complex .f64 4607182418800017408 0, .bool false, .complex .f64 (fl s) (fl H)] (by rfl) (by exact bk_newn _ _ _ (by first | rfl | simp)) rfl (by simp [Value.oneCell']) (by have h1_ := hBw.size; have h2_ := hB.size; (try simp) <;> omega) ?_); intro v1 wv1 hown2 hbv2 _) | fail)
  go_ret2
  refine ⟨_, rfl, (hBw.trans (Below.mono (by repeat (with_reducible (first | exact hB | refine Below.setCell ?_ (by have h2_ := hB.size; (try simp) <;> omega) _ | refine Below.drew ?_ | refine Below.alloc ?_ (by have h2_ := hB.size; (try simp) <;> omega) _))) hBw.size)).trans hbv2, ?_⟩
  simpa [mvCells, mvR, fl_zero] using hown2

set_option maxHeartbeats 4000000 in
theorem rGlue_2211 (W H s : Int) (w : World) (h : checkE 2 W H 2 s = 0) (hW : 0 < W) (hH : 0 < H) :
    Calls Try.prog 18 #[topoV 2 W H 2 s] w (GlueP [(⟨0, false, W, s⟩ : Mv), (⟨0, false, 0, H⟩ : Mv)] 0 w) := by
  have h0 := topoOk (by decide) h
  have w0 := h0.w0; have w1_ := h0.w1; have h0_ := h0.h0; have h1_ := h0.h1
  obtain ⟨s1, s2⟩ := h0.sh
  obtain ⟨f1, f2⟩ := first_b w0 w1_
  obtain ⟨f3, f4⟩ := first_b h0_ h1_
  clear h0
  have HK := Lib.hid h; clear h
  have f00 := fl_zero
  have K1 : (w.alloc (.cells #[.int .u8 2, .int .i64 W, .int .i64 H, .int .u8 2, .int .i64 s] 23)).heap[w.heap.size]? = some (.cells #[.int .u8 2, .int .i64 W, .int .i64 H, .int .u8 2, .int .i64 s] 23 (0, 0)) := (bk_new _ _)
  have hBw : Below w.heap.size w (w.alloc (.cells #[.int .u8 2, .int .i64 W, .int .i64 H, .int .u8 2, .int .i64 s] 23)) := boxed _ _
  go_enter Try.func18, Try.ntmps18
  go_wp2_with (first | fail)
  generalize hW0 : (w.alloc (.cells #[.int .u8 2, .int .i64 W, .int .i64 H, .int .u8 2, .int .i64 s] 23)) = W0 at *
  clear hW0
  have hB := same W0
  have K10 := K1
  refine (refCheck_calls _ _ _ _ _ _ (by decide)).mono ?_
  rintro e w1 ⟨rfl, hb1⟩
  rw [HK.out]
  replace hB := next hB hb1; replace K1 := bk_below K1 hb1; have hcK1 := bk_cell K1; have hfK1 := bk_free K1; have hlK1 := bk_lt K1
  go_wp2_with (first | fail)
  refine (refGlued_calls _ _ _ _ _ _).mono ?_
  rintro e w2 ⟨rfl, hb1⟩
  rw [show gluedI 2 = true from rfl]
  replace hB := next hB hb1; replace K1 := bk_below K1 hb1; have hcK1 := bk_cell K1; have hfK1 := bk_free K1; have hlK1 := bk_lt K1
  have KG := K1
  have hwb := hBw.size; have hwb2 := hB.size
  go_wp2_with (first | (at_builtin; (refine app_nil rfl (.tmp 71) (.tmp 73) 35 rfl w.heap.size 41 _ 3 40 Try.underlying35 iso_info rfl (by decide) (by decide) (by rfl) _ _ #[.complex .f64 4607182418800017408 0, .bool false, .complex .f64 (fl W) (fl s)] (by rfl) (by exact bk_newn _ _ _ (by first | rfl | simp)) rfl (by simp [Value.oneCell']) (by have h1_ := hBw.size; have h2_ := hB.size; (try simp) <;> omega) ?_); intro v0 wv0 hown hbv; (replace hB := next (w := W0) (by repeat (with_reducible (first | exact hB | refine Below.setCell ?_ (by have h2_ := hB.size; (try simp) <;> omega) _ | refine Below.drew ?_ | refine Below.alloc ?_ (by have h2_ := hB.size; (try simp) <;> omega) _))) hbv); (replace KG := bk_below (g := w.heap.size) (o := .cells #[.int .u8 2, .int .i64 W, .int .i64 H, .int .u8 2, .int .i64 s] 23 (0, 0)) (by repeat (with_reducible (first | exact KG | apply bk_set | refine bk_drew ?_ | refine bk_drewN ?_ _ | refine bk_alloc ?_ _ | refine bk_far ?_ (by simp; try omega) _))) hbv); have hC := same wv0; have hcG := bk_cell KG; have hlG := bk_lt KG) | (at_builtin; (refine app_own rfl (.tmp 133) (.tmp 135) 35 rfl w.heap.size 41 _ 3 40 Try.underlying35 iso_info rfl (by decide) (by decide) _ _ _ (by rfl) (by exact own_below hown (by repeat (with_reducible (first | exact hC | refine Below.setCell ?_ (by have h2_ := hC.size; (try simp) <;> omega) _ | refine Below.drew ?_ | refine Below.alloc ?_ (by have h2_ := hC.size; (try simp) <;> omega) _)))) (by decide) _ _ #[.complex .f64 4607182418800017408 0, .bool false, .complex .f64 0 (fl H)] (by rfl) (by exact bk_newn _ _ _ (by first | rfl | simp)) rfl (by simp [Value.oneCell']) (by have h1_ := hBw.size; have h2_ := hB.size; (try simp) <;> omega) ?_); intro v1 wv1 hown2 hbv2 _) | fail)
  refine (plain_calls _ _ _).mono ?_
  rintro e wp0 ⟨rfl, hb1⟩
  replace hB := next hB hb1
  replace KG := bk_below KG hb1
  have hcG := bk_cell KG; have hlG := bk_lt KG; have hwb3 := hB.size
  go_wp2_with (first | (at_builtin; (refine app_nil rfl (.tmp 71) (.tmp 73) 35 rfl w.heap.size 41 _ 3 40 Try.underlying35 iso_info rfl (by decide) (by decide) (by rfl) _ _ #[.complex .f64 4607182418800017408 0, .bool false, .complex .f64 (fl W) (fl s)] (by rfl) (by exact bk_newn _ _ _ (by first | rfl | simp)) rfl (by simp [Value.oneCell']) (by have h1_ := hBw.size; have h2_ := hB.size; (try simp) <;> omega) ?_); intro v0 wv0 hown hbv; (replace hB := next (w := W0) (by repeat (with_reducible (first | exact hB | refine Below.setCell ?_ (by have h2_ := hB.size; (try simp) <;> omega) _ | refine Below.drew ?_ | refine Below.alloc ?_ (by have h2_ := hB.size; (try simp) <;> omega) _))) hbv); (replace KG := bk_below (g := w.heap.size) (o := .cells #[.int .u8 2, .int .i64 W, .int .i64 H, .int .u8 2, .int .i64 s] 23 (0, 0)) (by repeat (with_reducible (first | exact KG | apply bk_set | refine bk_drew ?_ | refine bk_drewN ?_ _ | refine bk_alloc ?_ _ | refine bk_far ?_ (by simp; try omega) _))) hbv); have hC := same wv0; have hcG := bk_cell KG; have hlG := bk_lt KG) | (at_builtin; (refine app_own rfl (.tmp 133) (.tmp 135) 35 rfl w.heap.size 41 _ 3 40 Try.underlying35 iso_info rfl (by decide) (by decide) _ _ _ (by rfl) (by exact own_below hown (by repeat (with_reducible (first | exact hC | refine Below.setCell ?_ (by have h2_ := hC.size; (try simp) <;> omega) _ | refine Below.drew ?_ | refine Below.alloc ?_ (by have h2_ := hC.size; (try simp) <;> omega) _)))) (by decide) _ _ #[.complex .f64 4607182418800017408 0, .bool false, .complex .f64 0 (fl H)] (by rfl) (by exact bk_newn _ _ _ (by first | rfl | simp)) rfl (by simp [Value.oneCell']) (by have h1_ := hBw.size; have h2_ := hB.size; (try simp) <;> omega) ?_); intro v1 wv1 hown2 hbv2 _) | fail)
  have KA0 := bk_new wp0 (.cells #[.complex .f64 4607182418800017408 0, .bool false, .complex .f64 (fl W) 0] 41)
  have hga0 := hB.size
  have hgl0 := bk_lt KG
  replace hB := next hB (boxed wp0 (.cells #[.complex .f64 4607182418800017408 0, .bool false, .complex .f64 (fl W) 0] 41))
  replace KG := bk_alloc KG (.cells #[.complex .f64 4607182418800017408 0, .bool false, .complex .f64 (fl W) 0] 41)
  generalize hWA0 : wp0.alloc (.cells #[.complex .f64 4607182418800017408 0, .bool false, .complex .f64 (fl W) 0] 41) = WA0 at *
  clear hWA0
  generalize wp0.heap.size = ga0 at *
  refine (plain_calls _ _ _).mono ?_
  rintro e wg0 ⟨rfl, hb1⟩
  replace hB := next hB hb1
  replace KG := bk_below KG hb1
  replace KA0 := bk_below KA0 hb1
  have hcG := bk_cell KG; have hlG := bk_lt KG
  have hcA0 := bk_cell KA0; have hlA0 := bk_lt KA0; have hfA0 := bk_free KA0
  have hwb3 := hB.size
  go_wp2_with (first | (at_builtin; (refine app_nil rfl (.tmp 71) (.tmp 73) 35 rfl w.heap.size 41 _ 3 40 Try.underlying35 iso_info rfl (by decide) (by decide) (by rfl) _ _ #[.complex .f64 4607182418800017408 0, .bool false, .complex .f64 (fl W) (fl s)] (by rfl) (by exact bk_newn _ _ _ (by first | rfl | simp)) rfl (by simp [Value.oneCell']) (by have h1_ := hBw.size; have h2_ := hB.size; (try simp) <;> omega) ?_); intro v0 wv0 hown hbv; (replace hB := next (w := W0) (by repeat (with_reducible (first | exact hB | refine Below.setCell ?_ (by have h2_ := hB.size; (try simp) <;> omega) _ | refine Below.drew ?_ | refine Below.alloc ?_ (by have h2_ := hB.size; (try simp) <;> omega) _))) hbv); (replace KG := bk_below (g := w.heap.size) (o := .cells #[.int .u8 2, .int .i64 W, .int .i64 H, .int .u8 2, .int .i64 s] 23 (0, 0)) (by repeat (with_reducible (first | exact KG | apply bk_set | refine bk_drew ?_ | refine bk_drewN ?_ _ | refine bk_alloc ?_ _ | refine bk_far ?_ (by simp; try omega) _))) hbv); have hC := same wv0; have hcG := bk_cell KG; have hlG := bk_lt KG) | (at_builtin; (refine app_own rfl (.tmp 133) (.tmp 135) 35 rfl w.heap.size 41 _ 3 40 Try.underlying35 iso_info rfl (by decide) (by decide) _ _ _ (by rfl) (by exact own_below hown (by repeat (with_reducible (first | exact hC | refine Below.setCell ?_ (by have h2_ := hC.size; (try simp) <;> omega) _ | refine Below.drew ?_ | refine Below.alloc ?_ (by have h2_ := hC.size; (try simp) <;> omega) _)))) (by decide) _ _ #[.complex .f64 4607182418800017408 0, .bool false, .complex .f64 0 (fl H)] (by rfl) (by exact bk_newn _ _ _ (by first | rfl | simp)) rfl (by simp [Value.oneCell']) (by have h1_ := hBw.size; have h2_ := hB.size; (try simp) <;> omega) ?_); intro v1 wv1 hown2 hbv2 _) | fail)
  refine (plain_calls _ _ _).mono ?_
  rintro e wp1 ⟨rfl, hb1⟩
  replace hB := next hB hb1
  replace KG := bk_below KG hb1
  replace hC := next hC hb1
  have hcG := bk_cell KG; have hlG := bk_lt KG; have hwb3 := hB.size
  go_wp2_with (first | (at_builtin; (refine app_nil rfl (.tmp 71) (.tmp 73) 35 rfl w.heap.size 41 _ 3 40 Try.underlying35 iso_info rfl (by decide) (by decide) (by rfl) _ _ #[.complex .f64 4607182418800017408 0, .bool false, .complex .f64 (fl W) (fl s)] (by rfl) (by exact bk_newn _ _ _ (by first | rfl | simp)) rfl (by simp [Value.oneCell']) (by have h1_ := hBw.size; have h2_ := hB.size; (try simp) <;> omega) ?_); intro v0 wv0 hown hbv; (replace hB := next (w := W0) (by repeat (with_reducible (first | exact hB | refine Below.setCell ?_ (by have h2_ := hB.size; (try simp) <;> omega) _ | refine Below.drew ?_ | refine Below.alloc ?_ (by have h2_ := hB.size; (try simp) <;> omega) _))) hbv); (replace KG := bk_below (g := w.heap.size) (o := .cells #[.int .u8 2, .int .i64 W, .int .i64 H, .int .u8 2, .int .i64 s] 23 (0, 0)) (by repeat (with_reducible (first | exact KG | apply bk_set | refine bk_drew ?_ | refine bk_drewN ?_ _ | refine bk_alloc ?_ _ | refine bk_far ?_ (by simp; try omega) _))) hbv); have hC := same wv0; have hcG := bk_cell KG; have hlG := bk_lt KG) | (at_builtin; (refine app_own rfl (.tmp 133) (.tmp 135) 35 rfl w.heap.size 41 _ 3 40 Try.underlying35 iso_info rfl (by decide) (by decide) _ _ _ (by rfl) (by exact own_below hown (by repeat (with_reducible (first | exact hC | refine Below.setCell ?_ (by have h2_ := hC.size; (try simp) <;> omega) _ | refine Below.drew ?_ | refine Below.alloc ?_ (by have h2_ := hC.size; (try simp) <;> omega) _)))) (by decide) _ _ #[.complex .f64 4607182418800017408 0, .bool false, .complex .f64 0 (fl H)] (by rfl) (by exact bk_newn _ _ _ (by first | rfl | simp)) rfl (by simp [Value.oneCell']) (by have h1_ := hBw.size; have h2_ := hB.size; (try simp) <;> omega) ?_); intro v1 wv1 hown2 hbv2 _) | fail)
  go_ret2
  refine ⟨_, rfl, (hBw.trans (Below.mono (by repeat (with_reducible (first | exact hB | refine Below.setCell ?_ (by have h2_ := hB.size; (try simp) <;> omega) _ | refine Below.drew ?_ | refine Below.alloc ?_ (by have h2_ := hB.size; (try simp) <;> omega) _))) hBw.size)).trans hbv2, ?_⟩
  simpa [mvCells, mvR, fl_zero] using hown2

set_option maxHeartbeats 4000000 in
theorem rGlue_3111 (W H s : Int) (w : World) (h : checkE 3 W H 1 s = 0) (hW : 0 < W) (hH : 0 < H) :
    Calls Try.prog 18 #[topoV 3 W H 1 s] w (GlueP [(⟨0, false, W, 0⟩ : Mv), (⟨2, true, 2 * first W + W - 1 + s, H⟩ : Mv)] 0 w) := by
  have h0 := topoOk (by decide) h
  have w0 := h0.w0; have w1_ := h0.w1; have h0_ := h0.h0; have h1_ := h0.h1
  obtain ⟨s1, s2⟩ := h0.sh
  obtain ⟨f1, f2⟩ := first_b w0 w1_
  obtain ⟨f3, f4⟩ := first_b h0_ h1_
  clear h0
  have HK := Lib.hid h; clear h
  have f00 := fl_zero
  have K1 : (w.alloc (.cells #[.int .u8 3, .int .i64 W, .int .i64 H, .int .u8 1, .int .i64 s] 23)).heap[w.heap.size]? = some (.cells #[.int .u8 3, .int .i64 W, .int .i64 H, .int .u8 1, .int .i64 s] 23 (0, 0)) := (bk_new _ _)
  have hBw : Below w.heap.size w (w.alloc (.cells #[.int .u8 3, .int .i64 W, .int .i64 H, .int .u8 1, .int .i64 s] 23)) := boxed _ _
  go_enter Try.func18, Try.ntmps18
  go_wp2_with (first | fail)
  generalize hW0 : (w.alloc (.cells #[.int .u8 3, .int .i64 W, .int .i64 H, .int .u8 1, .int .i64 s] 23)) = W0 at *
  clear hW0
  have hB := same W0
  have K10 := K1
  refine (refCheck_calls _ _ _ _ _ _ (by decide)).mono ?_
  rintro e w1 ⟨rfl, hb1⟩
  rw [HK.out]
  replace hB := next hB hb1; replace K1 := bk_below K1 hb1; have hcK1 := bk_cell K1; have hfK1 := bk_free K1; have hlK1 := bk_lt K1
  go_wp2_with (first | fail)
  refine (refGlued_calls _ _ _ _ _ _).mono ?_
  rintro e w2 ⟨rfl, hb1⟩
  rw [show gluedI 3 = true from rfl]
  replace hB := next hB hb1; replace K1 := bk_below K1 hb1; have hcK1 := bk_cell K1; have hfK1 := bk_free K1; have hlK1 := bk_lt K1
  have KG := K1
  have hwb := hBw.size; have hwb2 := hB.size
  go_wp2_with (first | (at_builtin; (refine app_nil rfl (.tmp 71) (.tmp 73) 35 rfl w.heap.size 41 _ 3 40 Try.underlying35 iso_info rfl (by decide) (by decide) (by rfl) _ _ #[.complex .f64 4607182418800017408 0, .bool false, .complex .f64 (fl W) 0] (by rfl) (by exact bk_newn _ _ _ (by first | rfl | simp)) rfl (by simp [Value.oneCell']) (by have h1_ := hBw.size; have h2_ := hB.size; (try simp) <;> omega) ?_); intro v0 wv0 hown hbv; (replace hB := next (w := W0) (by repeat (with_reducible (first | exact hB | refine Below.setCell ?_ (by have h2_ := hB.size; (try simp) <;> omega) _ | refine Below.drew ?_ | refine Below.alloc ?_ (by have h2_ := hB.size; (try simp) <;> omega) _))) hbv); (replace KG := bk_below (g := w.heap.size) (o := .cells #[.int .u8 3, .int .i64 W, .int .i64 H, .int .u8 1, .int .i64 s] 23 (0, 0)) (by repeat (with_reducible (first | exact KG | apply bk_set | refine bk_drew ?_ | refine bk_drewN ?_ _ | refine bk_alloc ?_ _ | refine bk_far ?_ (by simp; try omega) _))) hbv); have hC := same wv0; have hcG := bk_cell KG; have hlG := bk_lt KG) | (at_builtin; (refine app_own rfl (.tmp 133) (.tmp 135) 35 rfl w.heap.size 41 _ 3 40 Try.underlying35 iso_info rfl (by decide) (by decide) _ _ _ (by rfl) (by exact own_below hown (by repeat (with_reducible (first | exact hC | refine Below.setCell ?_ (by have h2_ := hC.size; (try simp) <;> omega) _ | refine Below.drew ?_ | refine Below.alloc ?_ (by have h2_ := hC.size; (try simp) <;> omega) _)))) (by decide) _ _ #[.complex .f64 13830554455654793216 0, .bool true, .complex .f64 (fl (2 * first W + W - 1 + s)) (fl H)] (by rfl) (by exact bk_newn _ _ _ (by first | rfl | simp)) rfl (by simp [Value.oneCell']) (by have h1_ := hBw.size; have h2_ := hB.size; (try simp) <;> omega) ?_); intro v1 wv1 hown2 hbv2 _) | fail)
  refine (plain_calls _ _ _).mono ?_
  rintro e wp0 ⟨rfl, hb1⟩
  replace hB := next hB hb1
  replace KG := bk_below KG hb1
  have hcG := bk_cell KG; have hlG := bk_lt KG; have hwb3 := hB.size
  go_wp2_with (first | (at_builtin; (refine app_nil rfl (.tmp 71) (.tmp 73) 35 rfl w.heap.size 41 _ 3 40 Try.underlying35 iso_info rfl (by decide) (by decide) (by rfl) _ _ #[.complex .f64 4607182418800017408 0, .bool false, .complex .f64 (fl W) 0] (by rfl) (by exact bk_newn _ _ _ (by first | rfl | simp)) rfl (by simp [Value.oneCell']) (by have h1_ := hBw.size; have h2_ := hB.size; (try simp) <;> omega) ?_); intro v0 wv0 hown hbv; (replace hB := next (w := W0) (by repeat (with_reducible (first | exact hB | refine Below.setCell ?_ (by have h2_ := hB.size; (try simp) <;> omega) _ | refine Below.drew ?_ | refine Below.alloc ?_ (by have h2_ := hB.size; (try simp) <;> omega) _))) hbv); (replace KG := bk_below (g := w.heap.size) (o := .cells #[.int .u8 3, .int .i64 W, .int .i64 H, .int .u8 1, .int .i64 s] 23 (0, 0)) (by repeat (with_reducible (first | exact KG | apply bk_set | refine bk_drew ?_ | refine bk_drewN ?_ _ | refine bk_alloc ?_ _ | refine bk_far ?_ (by simp; try omega) _))) hbv); have hC := same wv0; have hcG := bk_cell KG; have hlG := bk_lt KG) | (at_builtin; (refine app_own rfl (.tmp 133) (.tmp 135) 35 rfl w.heap.size 41 _ 3 40 Try.underlying35 iso_info rfl (by decide) (by decide) _ _ _ (by rfl) (by exact own_below hown (by repeat (with_reducible (first | exact hC | refine Below.setCell ?_ (by have h2_ := hC.size; (try simp) <;> omega) _ | refine Below.drew ?_ | refine Below.alloc ?_ (by have h2_ := hC.size; (try simp) <;> omega) _)))) (by decide) _ _ #[.complex .f64 13830554455654793216 0, .bool true, .complex .f64 (fl (2 * first W + W - 1 + s)) (fl H)] (by rfl) (by exact bk_newn _ _ _ (by first | rfl | simp)) rfl (by simp [Value.oneCell']) (by have h1_ := hBw.size; have h2_ := hB.size; (try simp) <;> omega) ?_); intro v1 wv1 hown2 hbv2 _) | fail)
  refine (plain_calls _ _ _).mono ?_
  rintro e wp1 ⟨rfl, hb1⟩
  replace hB := next hB hb1
  replace KG := bk_below KG hb1
  replace hC := next hC hb1
  have hcG := bk_cell KG; have hlG := bk_lt KG; have hwb3 := hB.size
  go_wp2_with (first | (at_builtin; (refine app_nil rfl (.tmp 71) (.tmp 73) 35 rfl w.heap.size 41 _ 3 40 Try.underlying35 iso_info rfl (by decide) (by decide) (by rfl) _ _ #[.complex .f64 4607182418800017408 0, .bool false, .complex .f64 (fl W) 0] (by rfl) (by exact bk_newn _ _ _ (by first | rfl | simp)) rfl (by simp [Value.oneCell']) (by have h1_ := hBw.size; have h2_ := hB.size; (try simp) <;> omega) ?_); intro v0 wv0 hown hbv; (replace hB := next (w := W0) (by repeat (with_reducible (first | exact hB | refine Below.setCell ?_ (by have h2_ := hB.size; (try simp) <;> omega) _ | refine Below.drew ?_ | refine Below.alloc ?_ (by have h2_ := hB.size; (try simp) <;> omega) _))) hbv); (replace KG := bk_below (g := w.heap.size) (o := .cells #[.int .u8 3, .int .i64 W, .int .i64 H, .int .u8 1, .int .i64 s] 23 (0, 0)) (by repeat (with_reducible (first | exact KG | apply bk_set | refine bk_drew ?_ | refine bk_drewN ?_ _ | refine bk_alloc ?_ _ | refine bk_far ?_ (by simp; try omega) _))) hbv); have hC := same wv0; have hcG := bk_cell KG; have hlG := bk_lt KG) | (at_builtin; (refine app_own rfl (.tmp 133) (.tmp 135) 35 rfl w.heap.size 41 _ 3 40 Try.underlying35 iso_info rfl (by decide) (by decide) _ _ _ (by rfl) (by exact own_below hown (by repeat (with_reducible (first | exact hC | refine Below.setCell ?_ (by have h2_ := hC.size; (try simp) <;> omega) _ | refine Below.drew ?_ | refine Below.alloc ?_ (by have h2_ := hC.size; (try simp) <;> omega) _)))) (by decide) _ _ #[.complex .f64 13830554455654793216 0, .bool true, .complex .f64 (fl (2 * first W + W - 1 + s)) (fl H)] (by rfl) (by exact bk_newn _ _ _ (by first | rfl | simp)) rfl (by simp [Value.oneCell']) (by have h1_ := hBw.size; have h2_ := hB.size; (try simp) <;> omega) ?_); intro v1 wv1 hown2 hbv2 _) | fail)
  have KA1 := bk_new wp1 (.cells #[.complex .f64 4607182418800017408 0, .bool false, .complex .f64 0 (fl H)] 41)
  have hga1 := hB.size
  have hgl1 := bk_lt KG
  replace hB := next hB (boxed wp1 (.cells #[.complex .f64 4607182418800017408 0, .bool false, .complex .f64 0 (fl H)] 41))
  replace KG := bk_alloc KG (.cells #[.complex .f64 4607182418800017408 0, .bool false, .complex .f64 0 (fl H)] 41)
  have hgc1 := hC.size
  replace hC := next hC (boxed wp1 (.cells #[.complex .f64 4607182418800017408 0, .bool false, .complex .f64 0 (fl H)] 41))
  generalize hWA1 : wp1.alloc (.cells #[.complex .f64 4607182418800017408 0, .bool false, .complex .f64 0 (fl H)] 41) = WA1 at *
  clear hWA1
  generalize wp1.heap.size = ga1 at *
  have KTS := K10; have hBS := hB; have KGS := KG; have KAS := KA1
  have hcG := bk_cell KG; have hlG := bk_lt KG
  have hcA1 := bk_cell KA1; have hlA1 := bk_lt KA1; have hfA1 := bk_free KA1
  have hCS := hC
  go_region_held3 (fun w' => w'.cell? ⟨w.heap.size, 1, none⟩ = some (.int .i64 W) ∧ w'.cell? ⟨w.heap.size, 2, none⟩ = some (.int .i64 H) ∧ w'.cell? ⟨w.heap.size, 4, none⟩ = some (.int .i64 s) ∧ Below W0.heap.size W0 w')
    (first | exact keepT KTS (Below.drew hBS) | exact keepTn KTS (by assumption) hb1 | exact keepTs KTS (keepTs KTS (keepTs KTS (by assumption) (by dsimp only; omega) _) (by dsimp only; omega) _) (by dsimp only; omega) _)
    (first | (go_at_call 40; ((with_reducible refine (first_same _ _ w0 w1_).mono ?_); rintro e w4 ⟨rfl, rfl⟩)) | (go_at_call 55; ((with_reducible refine (upright_calls _ _ _).mono ?_); rintro e wg1 ⟨rfl, hb1⟩; have hbd := hb1; have KAd := bk_below (bk_drew KAS) hb1; have KGd := bk_below (bk_drew KGS) hb1; have hcd := bk_cell KAd; have hfd := bk_free KAd; have hld := bk_lt KAd)))
  rename_i hH
  clear hH
  replace hB := next (Below.drew hBS) hbd
  replace KG := KGd
  replace KA1 := KAd
  replace hC := next (Below.drew hCS) hbd
  go_wp2_with (first | (at_builtin; (refine app_nil rfl (.tmp 71) (.tmp 73) 35 rfl w.heap.size 41 _ 3 40 Try.underlying35 iso_info rfl (by decide) (by decide) (by rfl) _ _ #[.complex .f64 4607182418800017408 0, .bool false, .complex .f64 (fl W) 0] (by rfl) (by exact bk_newn _ _ _ (by first | rfl | simp)) rfl (by simp [Value.oneCell']) (by have h1_ := hBw.size; have h2_ := hB.size; (try simp) <;> omega) ?_); intro v0 wv0 hown hbv; (replace hB := next (w := W0) (by repeat (with_reducible (first | exact hB | refine Below.setCell ?_ (by have h2_ := hB.size; (try simp) <;> omega) _ | refine Below.drew ?_ | refine Below.alloc ?_ (by have h2_ := hB.size; (try simp) <;> omega) _))) hbv); (replace KG := bk_below (g := w.heap.size) (o := .cells #[.int .u8 3, .int .i64 W, .int .i64 H, .int .u8 1, .int .i64 s] 23 (0, 0)) (by repeat (with_reducible (first | exact KG | apply bk_set | refine bk_drew ?_ | refine bk_drewN ?_ _ | refine bk_alloc ?_ _ | refine bk_far ?_ (by simp; try omega) _))) hbv); have hC := same wv0; have hcG := bk_cell KG; have hlG := bk_lt KG) | (at_builtin; (refine app_own rfl (.tmp 133) (.tmp 135) 35 rfl w.heap.size 41 _ 3 40 Try.underlying35 iso_info rfl (by decide) (by decide) _ _ _ (by rfl) (by exact own_below hown (by repeat (with_reducible (first | exact hC | refine Below.setCell ?_ (by have h2_ := hC.size; (try simp) <;> omega) _ | refine Below.drew ?_ | refine Below.alloc ?_ (by have h2_ := hC.size; (try simp) <;> omega) _)))) (by decide) _ _ #[.complex .f64 13830554455654793216 0, .bool true, .complex .f64 (fl (2 * first W + W - 1 + s)) (fl H)] (by rfl) (by exact bk_newn _ _ _ (by first | rfl | simp)) rfl (by simp [Value.oneCell']) (by have h1_ := hBw.size; have h2_ := hB.size; (try simp) <;> omega) ?_); intro v1 wv1 hown2 hbv2 _) | fail)
  go_ret2
  refine ⟨_, rfl, (hBw.trans (Below.mono (by repeat (with_reducible (first | exact hB | refine Below.setCell ?_ (by have h2_ := hB.size; (try simp) <;> omega) _ | refine Below.drew ?_ | refine Below.alloc ?_ (by have h2_ := hB.size; (try simp) <;> omega) _))) hBw.size)).trans hbv2, ?_⟩
  simpa [mvCells, mvR, fl_zero] using hown2

set_option maxHeartbeats 4000000 in
theorem rGlue_3211 (W H s : Int) (w : World) (h : checkE 3 W H 2 s = 0) (hW : 0 < W) (hH : 0 < H) :
    Calls Try.prog 18 #[topoV 3 W H 2 s] w (GlueP [(⟨0, true, W, 2 * first H + H - 1 + s⟩ : Mv), (⟨0, false, 0, H⟩ : Mv)] 0 w) := by
  have h0 := topoOk (by decide) h
  have w0 := h0.w0; have w1_ := h0.w1; have h0_ := h0.h0; have h1_ := h0.h1
  obtain ⟨s1, s2⟩ := h0.sh
  obtain ⟨f1, f2⟩ := first_b w0 w1_
  obtain ⟨f3, f4⟩ := first_b h0_ h1_
  clear h0
  have HK := Lib.hid h; clear h
  have f00 := fl_zero
  have K1 : (w.alloc (.cells #[.int .u8 3, .int .i64 W, .int .i64 H, .int .u8 2, .int .i64 s] 23)).heap[w.heap.size]? = some (.cells #[.int .u8 3, .int .i64 W, .int .i64 H, .int .u8 2, .int .i64 s] 23 (0, 0)) := (bk_new _ _)
  have hBw : Below w.heap.size w (w.alloc (.cells #[.int .u8 3, .int .i64 W, .int .i64 H, .int .u8 2, .int .i64 s] 23)) := boxed _ _
  go_enter Try.func18, Try.ntmps18
  go_wp2_with (first | fail)
  generalize hW0 : (w.alloc (.cells #[.int .u8 3, .int .i64 W, .int .i64 H, .int .u8 2, .int .i64 s] 23)) = W0 at *
  clear hW0
  have hB := same W0
  have K10 := K1
  refine (refCheck_calls _ _ _ _ _ _ (by decide)).mono ?_
  rintro e w1 ⟨rfl, hb1⟩
  rw [HK.out]
  replace hB := next hB hb1; replace K1 := bk_below K1 hb1; have hcK1 := bk_cell K1; have hfK1 := bk_free K1; have hlK1 := bk_lt K1
  go_wp2_with (first | fail)
  refine (refGlued_calls _ _ _ _ _ _).mono ?_
  rintro e w2 ⟨rfl, hb1⟩
  rw [show gluedI 3 = true from rfl]
  replace hB := next hB hb1; replace K1 := bk_below K1 hb1; have hcK1 := bk_cell K1; have hfK1 := bk_free K1; have hlK1 := bk_lt K1
  have KG := K1
  have hwb := hBw.size; have hwb2 := hB.size
  go_wp2_with (first | (at_builtin; (refine app_nil rfl (.tmp 71) (.tmp 73) 35 rfl w.heap.size 41 _ 3 40 Try.underlying35 iso_info rfl (by decide) (by decide) (by rfl) _ _ #[.complex .f64 4607182418800017408 0, .bool true, .complex .f64 (fl W) (fl (2 * first H + H - 1 + s))] (by rfl) (by exact bk_newn _ _ _ (by first | rfl | simp)) rfl (by simp [Value.oneCell']) (by have h1_ := hBw.size; have h2_ := hB.size; (try simp) <;> omega) ?_); intro v0 wv0 hown hbv; (replace hB := next (w := W0) (by repeat (with_reducible (first | exact hB | refine Below.setCell ?_ (by have h2_ := hB.size; (try simp) <;> omega) _ | refine Below.drew ?_ | refine Below.alloc ?_ (by have h2_ := hB.size; (try simp) <;> omega) _))) hbv); (replace KG := bk_below (g := w.heap.size) (o := .cells #[.int .u8 3, .int .i64 W, .int .i64 H, .int .u8 2, .int .i64 s] 23 (0, 0)) (by repeat (with_reducible (first | exact KG | apply bk_set | refine bk_drew ?_ | refine bk_drewN ?_ _ | refine bk_alloc ?_ _ | refine bk_far ?_ (by simp; try omega) _))) hbv); have hC := same wv0; have hcG := bk_cell KG; have hlG := bk_lt KG) | (at_builtin; (refine app_own rfl (.tmp 133) (.tmp 135) 35 rfl w.heap.size 41 _ 3 40 Try.underlying35 iso_info rfl (by decide) (by decide) _ _ _ (by rfl) (by exact own_below hown (by repeat (with_reducible (first | exact hC | refine Below.setCell ?_ (by have h2_ := hC.size; (try simp) <;> omega) _ | refine Below.drew ?_ | refine Below.alloc ?_ (by have h2_ := hC.size; (try simp) <;> omega) _)))) (by decide) _ _ #[.complex .f64 4607182418800017408 0, .bool false, .complex .f64 0 (fl H)] (by rfl) (by exact bk_newn _ _ _ (by first | rfl | simp)) rfl (by simp [Value.oneCell']) (by have h1_ := hBw.size; have h2_ := hB.size; (try simp) <;> omega) ?_); intro v1 wv1 hown2 hbv2 _) | fail)
  refine (plain_calls _ _ _).mono ?_
  rintro e wp0 ⟨rfl, hb1⟩
  replace hB := next hB hb1
  replace KG := bk_below KG hb1
  have hcG := bk_cell KG; have hlG := bk_lt KG; have hwb3 := hB.size
  go_wp2_with (first | (at_builtin; (refine app_nil rfl (.tmp 71) (.tmp 73) 35 rfl w.heap.size 41 _ 3 40 Try.underlying35 iso_info rfl (by decide) (by decide) (by rfl) _ _ #[.complex .f64 4607182418800017408 0, .bool true, .complex .f64 (fl W) (fl (2 * first H + H - 1 + s))] (by rfl) (by exact bk_newn _ _ _ (by first | rfl | simp)) rfl (by simp [Value.oneCell']) (by have h1_ := hBw.size; have h2_ := hB.size; (try simp) <;> omega) ?_); intro v0 wv0 hown hbv; (replace hB := next (w := W0) (by repeat (with_reducible (first | exact hB | refine Below.setCell ?_ (by have h2_ := hB.size; (try simp) <;> omega) _ | refine Below.drew ?_ | refine Below.alloc ?_ (by have h2_ := hB.size; (try simp) <;> omega) _))) hbv); (replace KG := bk_below (g := w.heap.size) (o := .cells #[.int .u8 3, .int .i64 W, .int .i64 H, .int .u8 2, .int .i64 s] 23 (0, 0)) (by repeat (with_reducible (first | exact KG | apply bk_set | refine bk_drew ?_ | refine bk_drewN ?_ _ | refine bk_alloc ?_ _ | refine bk_far ?_ (by simp; try omega) _))) hbv); have hC := same wv0; have hcG := bk_cell KG; have hlG := bk_lt KG) | (at_builtin; (refine app_own rfl (.tmp 133) (.tmp 135) 35 rfl w.heap.size 41 _ 3 40 Try.underlying35 iso_info rfl (by decide) (by decide) _ _ _ (by rfl) (by exact own_below hown (by repeat (with_reducible (first | exact hC | refine Below.setCell ?_ (by have h2_ := hC.size; (try simp) <;> omega) _ | refine Below.drew ?_ | refine Below.alloc ?_ (by have h2_ := hC.size; (try simp) <;> omega) _)))) (by decide) _ _ #[.complex .f64 4607182418800017408 0, .bool false, .complex .f64 0 (fl H)] (by rfl) (by exact bk_newn _ _ _ (by first | rfl | simp)) rfl (by simp [Value.oneCell']) (by have h1_ := hBw.size; have h2_ := hB.size; (try simp) <;> omega) ?_); intro v1 wv1 hown2 hbv2 _) | fail)
  have KA0 := bk_new wp0 (.cells #[.complex .f64 4607182418800017408 0, .bool false, .complex .f64 (fl W) 0] 41)
  have hga0 := hB.size
  have hgl0 := bk_lt KG
  replace hB := next hB (boxed wp0 (.cells #[.complex .f64 4607182418800017408 0, .bool false, .complex .f64 (fl W) 0] 41))
  replace KG := bk_alloc KG (.cells #[.complex .f64 4607182418800017408 0, .bool false, .complex .f64 (fl W) 0] 41)
  generalize hWA0 : wp0.alloc (.cells #[.complex .f64 4607182418800017408 0, .bool false, .complex .f64 (fl W) 0] 41) = WA0 at *
  clear hWA0
  generalize wp0.heap.size = ga0 at *
  have KTS := K10; have hBS := hB; have KGS := KG; have KAS := KA0
  have hcG := bk_cell KG; have hlG := bk_lt KG
  have hcA0 := bk_cell KA0; have hlA0 := bk_lt KA0; have hfA0 := bk_free KA0
  go_region_held3 (fun w' => w'.cell? ⟨w.heap.size, 1, none⟩ = some (.int .i64 W) ∧ w'.cell? ⟨w.heap.size, 2, none⟩ = some (.int .i64 H) ∧ w'.cell? ⟨w.heap.size, 4, none⟩ = some (.int .i64 s) ∧ Below W0.heap.size W0 w')
    (first | exact keepT KTS (Below.drew hBS) | exact keepTn KTS (by assumption) hb1 | exact keepTs KTS (keepTs KTS (keepTs KTS (by assumption) (by dsimp only; omega) _) (by dsimp only; omega) _) (by dsimp only; omega) _)
    (first | (go_at_call 40; ((with_reducible refine (first_same _ _ h0_ h1_).mono ?_); rintro e w4 ⟨rfl, rfl⟩)) | (go_at_call 54; ((with_reducible refine (lying_calls _ _ _).mono ?_); rintro e wg0 ⟨rfl, hb1⟩; have hbd := hb1; have KAd := bk_below (bk_drew KAS) hb1; have KGd := bk_below (bk_drew KGS) hb1; have hcd := bk_cell KAd; have hfd := bk_free KAd; have hld := bk_lt KAd)))
  rename_i hH
  clear hH
  replace hB := next (Below.drew hBS) hbd
  replace KG := KGd
  replace KA0 := KAd
  go_wp2_with (first | (at_builtin; (refine app_nil rfl (.tmp 71) (.tmp 73) 35 rfl w.heap.size 41 _ 3 40 Try.underlying35 iso_info rfl (by decide) (by decide) (by rfl) _ _ #[.complex .f64 4607182418800017408 0, .bool true, .complex .f64 (fl W) (fl (2 * first H + H - 1 + s))] (by rfl) (by exact bk_newn _ _ _ (by first | rfl | simp)) rfl (by simp [Value.oneCell']) (by have h1_ := hBw.size; have h2_ := hB.size; (try simp) <;> omega) ?_); intro v0 wv0 hown hbv; (replace hB := next (w := W0) (by repeat (with_reducible (first | exact hB | refine Below.setCell ?_ (by have h2_ := hB.size; (try simp) <;> omega) _ | refine Below.drew ?_ | refine Below.alloc ?_ (by have h2_ := hB.size; (try simp) <;> omega) _))) hbv); (replace KG := bk_below (g := w.heap.size) (o := .cells #[.int .u8 3, .int .i64 W, .int .i64 H, .int .u8 2, .int .i64 s] 23 (0, 0)) (by repeat (with_reducible (first | exact KG | apply bk_set | refine bk_drew ?_ | refine bk_drewN ?_ _ | refine bk_alloc ?_ _ | refine bk_far ?_ (by simp; try omega) _))) hbv); have hC := same wv0; have hcG := bk_cell KG; have hlG := bk_lt KG) | (at_builtin; (refine app_own rfl (.tmp 133) (.tmp 135) 35 rfl w.heap.size 41 _ 3 40 Try.underlying35 iso_info rfl (by decide) (by decide) _ _ _ (by rfl) (by exact own_below hown (by repeat (with_reducible (first | exact hC | refine Below.setCell ?_ (by have h2_ := hC.size; (try simp) <;> omega) _ | refine Below.drew ?_ | refine Below.alloc ?_ (by have h2_ := hC.size; (try simp) <;> omega) _)))) (by decide) _ _ #[.complex .f64 4607182418800017408 0, .bool false, .complex .f64 0 (fl H)] (by rfl) (by exact bk_newn _ _ _ (by first | rfl | simp)) rfl (by simp [Value.oneCell']) (by have h1_ := hBw.size; have h2_ := hB.size; (try simp) <;> omega) ?_); intro v1 wv1 hown2 hbv2 _) | fail)
  refine (plain_calls _ _ _).mono ?_
  rintro e wp1 ⟨rfl, hb1⟩
  replace hB := next hB hb1
  replace KG := bk_below KG hb1
  replace hC := next hC hb1
  have hcG := bk_cell KG; have hlG := bk_lt KG; have hwb3 := hB.size
  go_wp2_with (first | (at_builtin; (refine app_nil rfl (.tmp 71) (.tmp 73) 35 rfl w.heap.size 41 _ 3 40 Try.underlying35 iso_info rfl (by decide) (by decide) (by rfl) _ _ #[.complex .f64 4607182418800017408 0, .bool true, .complex .f64 (fl W) (fl (2 * first H + H - 1 + s))] (by rfl) (by exact bk_newn _ _ _ (by first | rfl | simp)) rfl (by simp [Value.oneCell']) (by have h1_ := hBw.size; have h2_ := hB.size; (try simp) <;> omega) ?_); intro v0 wv0 hown hbv; (replace hB := next (w := W0) (by repeat (with_reducible (first | exact hB | refine Below.setCell ?_ (by have h2_ := hB.size; (try simp) <;> omega) _ | refine Below.drew ?_ | refine Below.alloc ?_ (by have h2_ := hB.size; (try simp) <;> omega) _))) hbv); (replace KG := bk_below (g := w.heap.size) (o := .cells #[.int .u8 3, .int .i64 W, .int .i64 H, .int .u8 2, .int .i64 s] 23 (0, 0)) (by repeat (with_reducible (first | exact KG | apply bk_set | refine bk_drew ?_ | refine bk_drewN ?_ _ | refine bk_alloc ?_ _ | refine bk_far ?_ (by simp; try omega) _))) hbv); have hC := same wv0; have hcG := bk_cell KG; have hlG := bk_lt KG) | (at_builtin; (refine app_own rfl (.tmp 133) (.tmp 135) 35 rfl w.heap.size 41 _ 3 40 Try.underlying35 iso_info rfl (by decide) (by decide) _ _ _ (by rfl) (by exact own_below hown (by repeat (with_reducible (first | exact hC | refine Below.setCell ?_ (by have h2_ := hC.size; (try simp) <;> omega) _ | refine Below.drew ?_ | refine Below.alloc ?_ (by have h2_ := hC.size; (try simp) <;> omega) _)))) (by decide) _ _ #[.complex .f64 4607182418800017408 0, .bool false, .complex .f64 0 (fl H)] (by rfl) (by exact bk_newn _ _ _ (by first | rfl | simp)) rfl (by simp [Value.oneCell']) (by have h1_ := hBw.size; have h2_ := hB.size; (try simp) <;> omega) ?_); intro v1 wv1 hown2 hbv2 _) | fail)
  go_ret2
  refine ⟨_, rfl, (hBw.trans (Below.mono (by repeat (with_reducible (first | exact hB | refine Below.setCell ?_ (by have h2_ := hB.size; (try simp) <;> omega) _ | refine Below.drew ?_ | refine Below.alloc ?_ (by have h2_ := hB.size; (try simp) <;> omega) _))) hBw.size)).trans hbv2, ?_⟩
  simpa [mvCells, mvR, fl_zero] using hown2

set_option maxHeartbeats 4000000 in
theorem rGlue_4011 (W H s : Int) (w : World) (h : checkE 4 W H 0 s = 0) (hW : 0 < W) (hH : 0 < H) :
    Calls Try.prog 18 #[topoV 4 W H 0 s] w (GlueP [(⟨0, true, W, 2 * first H + H - 1⟩ : Mv), (⟨2, true, 2 * first W + W - 1, H⟩ : Mv)] 0 w) := by
  have h0 := topoOk (by decide) h
  have w0 := h0.w0; have w1_ := h0.w1; have h0_ := h0.h0; have h1_ := h0.h1
  obtain ⟨s1, s2⟩ := h0.sh
  obtain ⟨f1, f2⟩ := first_b w0 w1_
  obtain ⟨f3, f4⟩ := first_b h0_ h1_
  clear h0
  have HK := Lib.hid h; clear h
  have f00 := fl_zero
  have K1 : (w.alloc (.cells #[.int .u8 4, .int .i64 W, .int .i64 H, .int .u8 0, .int .i64 s] 23)).heap[w.heap.size]? = some (.cells #[.int .u8 4, .int .i64 W, .int .i64 H, .int .u8 0, .int .i64 s] 23 (0, 0)) := (bk_new _ _)
  have hBw : Below w.heap.size w (w.alloc (.cells #[.int .u8 4, .int .i64 W, .int .i64 H, .int .u8 0, .int .i64 s] 23)) := boxed _ _
  go_enter Try.func18, Try.ntmps18
  go_wp2_with (first | fail)
  generalize hW0 : (w.alloc (.cells #[.int .u8 4, .int .i64 W, .int .i64 H, .int .u8 0, .int .i64 s] 23)) = W0 at *
  clear hW0
  have hB := same W0
  have K10 := K1
  refine (refCheck_calls _ _ _ _ _ _ (by decide)).mono ?_
  rintro e w1 ⟨rfl, hb1⟩
  rw [HK.out]
  replace hB := next hB hb1; replace K1 := bk_below K1 hb1; have hcK1 := bk_cell K1; have hfK1 := bk_free K1; have hlK1 := bk_lt K1
  go_wp2_with (first | fail)
  refine (refGlued_calls _ _ _ _ _ _).mono ?_
  rintro e w2 ⟨rfl, hb1⟩
  rw [show gluedI 4 = true from rfl]
  replace hB := next hB hb1; replace K1 := bk_below K1 hb1; have hcK1 := bk_cell K1; have hfK1 := bk_free K1; have hlK1 := bk_lt K1
  have KG := K1
  have hwb := hBw.size; have hwb2 := hB.size
  go_wp2_with (first | (at_builtin; (refine app_nil rfl (.tmp 71) (.tmp 73) 35 rfl w.heap.size 41 _ 3 40 Try.underlying35 iso_info rfl (by decide) (by decide) (by rfl) _ _ #[.complex .f64 4607182418800017408 0, .bool true, .complex .f64 (fl W) (fl (2 * first H + H - 1))] (by rfl) (by exact bk_newn _ _ _ (by first | rfl | simp)) rfl (by simp [Value.oneCell']) (by have h1_ := hBw.size; have h2_ := hB.size; (try simp) <;> omega) ?_); intro v0 wv0 hown hbv; (replace hB := next (w := W0) (by repeat (with_reducible (first | exact hB | refine Below.setCell ?_ (by have h2_ := hB.size; (try simp) <;> omega) _ | refine Below.drew ?_ | refine Below.alloc ?_ (by have h2_ := hB.size; (try simp) <;> omega) _))) hbv); (replace KG := bk_below (g := w.heap.size) (o := .cells #[.int .u8 4, .int .i64 W, .int .i64 H, .int .u8 0, .int .i64 s] 23 (0, 0)) (by repeat (with_reducible (first | exact KG | apply bk_set | refine bk_drew ?_ | refine bk_drewN ?_ _ | refine bk_alloc ?_ _ | refine bk_far ?_ (by simp; try omega) _))) hbv); have hC := same wv0; have hcG := bk_cell KG; have hlG := bk_lt KG) | (at_builtin; (refine app_own rfl (.tmp 133) (.tmp 135) 35 rfl w.heap.size 41 _ 3 40 Try.underlying35 iso_info rfl (by decide) (by decide) _ _ _ (by rfl) (by exact own_below hown (by repeat (with_reducible (first | exact hC | refine Below.setCell ?_ (by have h2_ := hC.size; (try simp) <;> omega) _ | refine Below.drew ?_ | refine Below.alloc ?_ (by have h2_ := hC.size; (try simp) <;> omega) _)))) (by decide) _ _ #[.complex .f64 13830554455654793216 0, .bool true, .complex .f64 (fl (2 * first W + W - 1)) (fl H)] (by rfl) (by exact bk_newn _ _ _ (by first | rfl | simp)) rfl (by simp [Value.oneCell']) (by have h1_ := hBw.size; have h2_ := hB.size; (try simp) <;> omega) ?_); intro v1 wv1 hown2 hbv2 _) | fail)
  refine (plain_calls _ _ _).mono ?_
  rintro e wp0 ⟨rfl, hb1⟩
  replace hB := next hB hb1
  replace KG := bk_below KG hb1
  have hcG := bk_cell KG; have hlG := bk_lt KG; have hwb3 := hB.size
  go_wp2_with (first | (at_builtin; (refine app_nil rfl (.tmp 71) (.tmp 73) 35 rfl w.heap.size 41 _ 3 40 Try.underlying35 iso_info rfl (by decide) (by decide) (by rfl) _ _ #[.complex .f64 4607182418800017408 0, .bool true, .complex .f64 (fl W) (fl (2 * first H + H - 1))] (by rfl) (by exact bk_newn _ _ _ (by first | rfl | simp)) rfl (by simp [Value.oneCell']) (by have h1_ := hBw.size; have h2_ := hB.size; (try simp) <;> omega) ?_); intro v0 wv0 hown hbv; (replace hB := next (w := W0) (by repeat (with_reducible (first | exact hB | refine Below.setCell ?_ (by have h2_ := hB.size; (try simp) <;> omega) _ | refine Below.drew ?_ | refine Below.alloc ?_ (by have h2_ := hB.size; (try simp) <;> omega) _))) hbv); (replace KG := bk_below (g := w.heap.size) (o := .cells #[.int .u8 4, .int .i64 W, .int .i64 H, .int .u8 0, .int .i64 s] 23 (0, 0)) (by repeat (with_reducible (first | exact KG | apply bk_set | refine bk_drew ?_ | refine bk_drewN ?_ _ | refine bk_alloc ?_ _ | refine bk_far ?_ (by simp; try omega) _))) hbv); have hC := same wv0; have hcG := bk_cell KG; have hlG := bk_lt KG) | (at_builtin; (refine app_own rfl (.tmp 133) (.tmp 135) 35 rfl w.heap.size 41 _ 3 40 Try.underlying35 iso_info rfl (by decide) (by decide) _ _ _ (by rfl) (by exact own_below hown (by repeat (with_reducible (first | exact hC | refine Below.setCell ?_ (by have h2_ := hC.size; (try simp) <;> omega) _ | refine Below.drew ?_ | refine Below.alloc ?_ (by have h2_ := hC.size; (try simp) <;> omega) _)))) (by decide) _ _ #[.complex .f64 13830554455654793216 0, .bool true, .complex .f64 (fl (2 * first W + W - 1)) (fl H)] (by rfl) (by exact bk_newn _ _ _ (by first | rfl | simp)) rfl (by simp [Value.oneCell']) (by have h1_ := hBw.size; have h2_ := hB.size; (try simp) <;> omega) ?_); intro v1 wv1 hown2 hbv2 _) | fail)
  have KA0 := bk_new wp0 (.cells #[.complex .f64 4607182418800017408 0, .bool false, .complex .f64 (fl W) 0] 41)
  have hga0 := hB.size
  have hgl0 := bk_lt KG
  replace hB := next hB (boxed wp0 (.cells #[.complex .f64 4607182418800017408 0, .bool false, .complex .f64 (fl W) 0] 41))
  replace KG := bk_alloc KG (.cells #[.complex .f64 4607182418800017408 0, .bool false, .complex .f64 (fl W) 0] 41)
  generalize hWA0 : wp0.alloc (.cells #[.complex .f64 4607182418800017408 0, .bool false, .complex .f64 (fl W) 0] 41) = WA0 at *
  clear hWA0
  generalize wp0.heap.size = ga0 at *
  have KTS := K10; have hBS := hB; have KGS := KG; have KAS := KA0
  have hcG := bk_cell KG; have hlG := bk_lt KG
  have hcA0 := bk_cell KA0; have hlA0 := bk_lt KA0; have hfA0 := bk_free KA0
  go_region_held3 (fun w' => w'.cell? ⟨w.heap.size, 1, none⟩ = some (.int .i64 W) ∧ w'.cell? ⟨w.heap.size, 2, none⟩ = some (.int .i64 H) ∧ w'.cell? ⟨w.heap.size, 4, none⟩ = some (.int .i64 s) ∧ Below W0.heap.size W0 w')
    (first | exact keepT KTS (Below.drew hBS) | exact keepTn KTS (by assumption) hb1 | exact keepTs KTS (keepTs KTS (keepTs KTS (by assumption) (by dsimp only; omega) _) (by dsimp only; omega) _) (by dsimp only; omega) _)
    (first | (go_at_call 40; ((with_reducible refine (first_same _ _ h0_ h1_).mono ?_); rintro e w4 ⟨rfl, rfl⟩)) | (go_at_call 54; ((with_reducible refine (lying_calls _ _ _).mono ?_); rintro e wg0 ⟨rfl, hb1⟩; have hbd := hb1; have KAd := bk_below (bk_drew KAS) hb1; have KGd := bk_below (bk_drew KGS) hb1; have hcd := bk_cell KAd; have hfd := bk_free KAd; have hld := bk_lt KAd)))
  rename_i hH
  clear hH
  replace hB := next (Below.drew hBS) hbd
  replace KG := KGd
  replace KA0 := KAd
  go_wp2_with (first | (at_builtin; (refine app_nil rfl (.tmp 71) (.tmp 73) 35 rfl w.heap.size 41 _ 3 40 Try.underlying35 iso_info rfl (by decide) (by decide) (by rfl) _ _ #[.complex .f64 4607182418800017408 0, .bool true, .complex .f64 (fl W) (fl (2 * first H + H - 1))] (by rfl) (by exact bk_newn _ _ _ (by first | rfl | simp)) rfl (by simp [Value.oneCell']) (by have h1_ := hBw.size; have h2_ := hB.size; (try simp) <;> omega) ?_); intro v0 wv0 hown hbv; (replace hB := next (w := W0) (by repeat (with_reducible (first | exact hB | refine Below.setCell ?_ (by have h2_ := hB.size; (try simp) <;> omega) _ | refine Below.drew ?_ | refine Below.alloc ?_ (by have h2_ := hB.size; (try simp) <;> omega) _))) hbv); (replace KG := bk_below (g := w.heap.size) (o := .cells #[.int .u8 4, .int .i64 W, .int .i64 H, .int .u8 0, .int .i64 s] 23 (0, 0)) (by repeat (with_reducible (first | exact KG | apply bk_set | refine bk_drew ?_ | refine bk_drewN ?_ _ | refine bk_alloc ?_ _ | refine bk_far ?_ (by simp; try omega) _))) hbv); have hC := same wv0; have hcG := bk_cell KG; have hlG := bk_lt KG) | (at_builtin; (refine app_own rfl (.tmp 133) (.tmp 135) 35 rfl w.heap.size 41 _ 3 40 Try.underlying35 iso_info rfl (by decide) (by decide) _ _ _ (by rfl) (by exact own_below hown (by repeat (with_reducible (first | exact hC | refine Below.setCell ?_ (by have h2_ := hC.size; (try simp) <;> omega) _ | refine Below.drew ?_ | refine Below.alloc ?_ (by have h2_ := hC.size; (try simp) <;> omega) _)))) (by decide) _ _ #[.complex .f64 13830554455654793216 0, .bool true, .complex .f64 (fl (2 * first W + W - 1)) (fl H)] (by rfl) (by exact bk_newn _ _ _ (by first | rfl | simp)) rfl (by simp [Value.oneCell']) (by have h1_ := hBw.size; have h2_ := hB.size; (try simp) <;> omega) ?_); intro v1 wv1 hown2 hbv2 _) | fail)
  refine (plain_calls _ _ _).mono ?_
  rintro e wp1 ⟨rfl, hb1⟩
  replace hB := next hB hb1
  replace KG := bk_below KG hb1
  replace hC := next hC hb1
  have hcG := bk_cell KG; have hlG := bk_lt KG; have hwb3 := hB.size
  go_wp2_with (first | (at_builtin; (refine app_nil rfl (.tmp 71) (.tmp 73) 35 rfl w.heap.size 41 _ 3 40 Try.underlying35 iso_info rfl (by decide) (by decide) (by rfl) _ _ #[.complex .f64 4607182418800017408 0, .bool true, .complex .f64 (fl W) (fl (2 * first H + H - 1))] (by rfl) (by exact bk_newn _ _ _ (by first | rfl | simp)) rfl (by simp [Value.oneCell']) (by have h1_ := hBw.size; have h2_ := hB.size; (try simp) <;> omega) ?_); intro v0 wv0 hown hbv; (replace hB := next (w := W0) (by repeat (with_reducible (first | exact hB | refine Below.setCell ?_ (by have h2_ := hB.size; (try simp) <;> omega) _ | refine Below.drew ?_ | refine Below.alloc ?_ (by have h2_ := hB.size; (try simp) <;> omega) _))) hbv); (replace KG := bk_below (g := w.heap.size) (o := .cells #[.int .u8 4, .int .i64 W, .int .i64 H, .int .u8 0, .int .i64 s] 23 (0, 0)) (by repeat (with_reducible (first | exact KG | apply bk_set | refine bk_drew ?_ | refine bk_drewN ?_ _ | refine bk_alloc ?_ _ | refine bk_far ?_ (by simp; try omega) _))) hbv); have hC := same wv0; have hcG := bk_cell KG; have hlG := bk_lt KG) | (at_builtin; (refine app_own rfl (.tmp 133) (.tmp 135) 35 rfl w.heap.size 41 _ 3 40 Try.underlying35 iso_info rfl (by decide) (by decide) _ _ _ (by rfl) (by exact own_below hown (by repeat (with_reducible (first | exact hC | refine Below.setCell ?_ (by have h2_ := hC.size; (try simp) <;> omega) _ | refine Below.drew ?_ | refine Below.alloc ?_ (by have h2_ := hC.size; (try simp) <;> omega) _)))) (by decide) _ _ #[.complex .f64 13830554455654793216 0, .bool true, .complex .f64 (fl (2 * first W + W - 1)) (fl H)] (by rfl) (by exact bk_newn _ _ _ (by first | rfl | simp)) rfl (by simp [Value.oneCell']) (by have h1_ := hBw.size; have h2_ := hB.size; (try simp) <;> omega) ?_); intro v1 wv1 hown2 hbv2 _) | fail)
  have KA1 := bk_new wp1 (.cells #[.complex .f64 4607182418800017408 0, .bool false, .complex .f64 0 (fl H)] 41)
  have hga1 := hB.size
  have hgl1 := bk_lt KG
  replace hB := next hB (boxed wp1 (.cells #[.complex .f64 4607182418800017408 0, .bool false, .complex .f64 0 (fl H)] 41))
  replace KG := bk_alloc KG (.cells #[.complex .f64 4607182418800017408 0, .bool false, .complex .f64 0 (fl H)] 41)
  have hgc1 := hC.size
  replace hC := next hC (boxed wp1 (.cells #[.complex .f64 4607182418800017408 0, .bool false, .complex .f64 0 (fl H)] 41))
  generalize hWA1 : wp1.alloc (.cells #[.complex .f64 4607182418800017408 0, .bool false, .complex .f64 0 (fl H)] 41) = WA1 at *
  clear hWA1
  generalize wp1.heap.size = ga1 at *
  have KTS := K10; have hBS := hB; have KGS := KG; have KAS := KA1
  have hcG := bk_cell KG; have hlG := bk_lt KG
  have hcA1 := bk_cell KA1; have hlA1 := bk_lt KA1; have hfA1 := bk_free KA1
  have hCS := hC
  go_region_held3 (fun w' => w'.cell? ⟨w.heap.size, 1, none⟩ = some (.int .i64 W) ∧ w'.cell? ⟨w.heap.size, 2, none⟩ = some (.int .i64 H) ∧ w'.cell? ⟨w.heap.size, 4, none⟩ = some (.int .i64 s) ∧ Below W0.heap.size W0 w')
    (first | exact keepT KTS (Below.drew hBS) | exact keepTn KTS (by assumption) hb1 | exact keepTs KTS (keepTs KTS (keepTs KTS (by assumption) (by dsimp only; omega) _) (by dsimp only; omega) _) (by dsimp only; omega) _)
    (first | (go_at_call 40; ((with_reducible refine (first_same _ _ w0 w1_).mono ?_); rintro e w4 ⟨rfl, rfl⟩)) | (go_at_call 55; ((with_reducible refine (upright_calls _ _ _).mono ?_); rintro e wg1 ⟨rfl, hb1⟩; have hbd := hb1; have KAd := bk_below (bk_drew KAS) hb1; have KGd := bk_below (bk_drew KGS) hb1; have hcd := bk_cell KAd; have hfd := bk_free KAd; have hld := bk_lt KAd)))
  rename_i hH
  clear hH
  replace hB := next (Below.drew hBS) hbd
  replace KG := KGd
  replace KA1 := KAd
  replace hC := next (Below.drew hCS) hbd
  go_wp2_with (first | (at_builtin; (refine app_nil rfl (.tmp 71) (.tmp 73) 35 rfl w.heap.size 41 _ 3 40 Try.underlying35 iso_info rfl (by decide) (by decide) (by rfl) _ _ #[.complex .f64 4607182418800017408 0, .bool true, .complex .f64 (fl W) (fl (2 * first H + H - 1))] (by rfl) (by exact bk_newn _ _ _ (by first | rfl | simp)) rfl (by simp [Value.oneCell']) (by have h1_ := hBw.size; have h2_ := hB.size; (try simp) <;> omega) ?_); intro v0 wv0 hown hbv; (replace hB := next (w := W0) (by repeat (with_reducible (first | exact hB | refine Below.setCell ?_ (by have h2_ := hB.size; (try simp) <;> omega) _ | refine Below.drew ?_ | refine Below.alloc ?_ (by have h2_ := hB.size; (try simp) <;> omega) _))) hbv); (replace KG := bk_below (g := w.heap.size) (o := .cells #[.int .u8 4, .int .i64 W, .int .i64 H, .int .u8 0, .int .i64 s] 23 (0, 0)) (by repeat (with_reducible (first | exact KG | apply bk_set | refine bk_drew ?_ | refine bk_drewN ?_ _ | refine bk_alloc ?_ _ | refine bk_far ?_ (by simp; try omega) _))) hbv); have hC := same wv0; have hcG := bk_cell KG; have hlG := bk_lt KG) | (at_builtin; (refine app_own rfl (.tmp 133) (.tmp 135) 35 rfl w.heap.size 41 _ 3 40 Try.underlying35 iso_info rfl (by decide) (by decide) _ _ _ (by rfl) (by exact own_below hown (by repeat (with_reducible (first | exact hC | refine Below.setCell ?_ (by have h2_ := hC.size; (try simp) <;> omega) _ | refine Below.drew ?_ | refine Below.alloc ?_ (by have h2_ := hC.size; (try simp) <;> omega) _)))) (by decide) _ _ #[.complex .f64 13830554455654793216 0, .bool true, .complex .f64 (fl (2 * first W + W - 1)) (fl H)] (by rfl) (by exact bk_newn _ _ _ (by first | rfl | simp)) rfl (by simp [Value.oneCell']) (by have h1_ := hBw.size; have h2_ := hB.size; (try simp) <;> omega) ?_); intro v1 wv1 hown2 hbv2 _) | fail)
  go_ret2
  refine ⟨_, rfl, (hBw.trans (Below.mono (by repeat (with_reducible (first | exact hB | refine Below.setCell ?_ (by have h2_ := hB.size; (try simp) <;> omega) _ | refine Below.drew ?_ | refine Below.alloc ?_ (by have h2_ := hB.size; (try simp) <;> omega) _))) hBw.size)).trans hbv2, ?_⟩
  simpa [mvCells, mvR, fl_zero] using hown2

theorem rGlue_calls (k W H t s : Int) (w : World) (t0 : 0 ≤ t) : Calls Try.prog 18 #[topoV k W H t s] w (GlueP (glueL k W H t s) (glueE k W H t s) w) := by
  by_cases h : checkE k W H t s = 0
  · have e0 : glueE k W H t s = 0 := if_neg (by simp [h])
    rw [e0]
    have hk := topoOk t0 h
    cases hg : gluedI k with
    | false =>
      have e1 : glueL k W H t s = [] := by unfold glueL; rw [if_pos (Or.inr hg)]
      rw [e1]
      exact rGlue_none k W H t s w t0 h hg
    | true =>
      have e1 : glueL k W H t s = (if 0 < W then [glueX k W H t s] else []) ++ (if 0 < H then [glueY k W H t s] else []) := by
        unfold glueL; rw [if_neg (by simp [h, hg])]
      rw [e1]
      have hk3 : k = 2 ∨ k = 3 ∨ k = 4 := by unfold gluedI at hg; simp at hg; omega
      have t2 := hk.t2
      have ht3 : t = 0 ∨ t = 1 ∨ t = 2 := by omega
      rcases hk3 with rfl | rfl | rfl
      · rcases ht3 with rfl | rfl | rfl
        · by_cases hW : 0 < W <;> by_cases hH : 0 < H
          · have := rGlue_2011 W H s w h hW hH
            simpa [hW, hH, glueX, glueY] using this
          · have := rGlue_2010 W H s w h hW hH
            simpa [hW, hH, glueX, glueY] using this
          · have := rGlue_2001 W H s w h hW hH
            simpa [hW, hH, glueX, glueY] using this
          · have := rGlue_2000 W H s w h hW hH
            simpa [hW, hH, glueX, glueY] using this
        · obtain ⟨_, hW, hH⟩ := hk.torus rfl (by decide)
          have := rGlue_2111 W H s w h hW hH
          simpa [hW, hH, glueX, glueY] using this
        · obtain ⟨_, hW, hH⟩ := hk.torus rfl (by decide)
          have := rGlue_2211 W H s w h hW hH
          simpa [hW, hH, glueX, glueY] using this
      · obtain ⟨hW, hH⟩ := hk.ends (by decide)
        rcases ht3 with rfl | rfl | rfl
        · exact absurd rfl (hk.klein rfl)
        · have := rGlue_3111 W H s w h hW hH
          simpa [hW, hH, glueX, glueY] using this
        · have := rGlue_3211 W H s w h hW hH
          simpa [hW, hH, glueX, glueY] using this
      · obtain ⟨hW, hH⟩ := hk.ends (by decide)
        obtain rfl : t = 0 := hk.none (by decide) (by decide)
        have := rGlue_4011 W H s w h hW hH
        simpa [hW, hH, glueX, glueY] using this
  · have e0 : glueE k W H t s = 9 := if_pos h
    have e1 : glueL k W H t s = [] := by unfold glueL; rw [if_pos (Or.inl h)]
    rw [e0, e1]
    exact rGlue_bad k W H t s w t0 h

end Go.Proofs.Ytfdehecekghlmaa
