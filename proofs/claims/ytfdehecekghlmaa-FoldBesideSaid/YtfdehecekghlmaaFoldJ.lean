/- The walks of fold's calls, on: Ring. -/
import Derived.Test.YtfdehecekghlmaaMb
set_option linter.unusedVariables false
set_option linter.unusedSimpArgs false
namespace Go.Proofs.Ytfdehecekghlmaa
open Go.RowKit Go.Viv

/-- does a home number lie on the side or one step outside of it? -/
def ringI (u W : Int) : Bool := decide (W ≤ 0 ∨ (-1 ≤ u ∧ u ≤ W))
def ringE (k W H t s x y : Int) : Int :=
  if checkE k W H t s ≠ 0 then 9
  else if (nearI x && nearI y) = false then 5
  else if (ringI (x - first W) W && ringI (y - first H) H) = true then 0 else 60
def ringB (k W H t s x y : Int) : Bool :=
  decide (ringE k W H t s x y = 0) && (decide (k ≠ 1) || (onI (x - first W) W && onI (y - first H) H))
def ringX (k W H t s x y : Int) : Int :=
  if ringB k W H t s x y = false then 0
  else if gluedI k = true then cellU k W H t s (x - first W) (y - first H) + first W
  else if k = 5 then ballU W (x - first W) (y - first H) + first W else x
def ringY (k W H t s x y : Int) : Int :=
  if ringB k W H t s x y = false then 0
  else if gluedI k = true then cellV k W H t s (x - first W) (y - first H) + first H
  else if k = 5 then ballV W (x - first W) (y - first H) + first H else y

theorem ball_bounds {n u v : Int} (h : 1 ≤ n) (u1 : -1 ≤ u) (u2 : u ≤ n) (v1 : -1 ≤ v) (v2 : v ≤ n) : (0 ≤ ballU n u v ∧ ballU n u v < n) ∧ (0 ≤ ballV n u v ∧ ballV n u v < n) := by
  have e : (onI u n && onI v n) = true → (0 ≤ u ∧ u < n) ∧ (0 ≤ v ∧ v < n) := by intro h; simp only [onI, Bool.and_eq_true, decide_eq_true_eq] at h; omega
  have e2 : ¬ (onI u n && onI v n) = true → ¬ ((0 ≤ u ∧ u < n) ∧ (0 ≤ v ∧ v < n)) := by intro h h'; apply h; simp only [onI, Bool.and_eq_true, decide_eq_true_eq]; omega
  unfold ballU ballV
  by_cases hin : (onI u n && onI v n) = true
  · rw [if_pos hin, if_pos hin]; exact e hin
  · have := e2 hin
    rw [if_neg hin, if_neg hin]
    (repeat' split) <;> omega

/-- what the grid's own box holds, and that nothing else has changed -/
theorem keep7' {W0 w' : World} {b t : Nat} {v0 v1 v2 v3 v4 v5 v6 : Value} (hk : W0.heap[b]? = some (.cells #[v0, v1, v2, v3, v4, v5, v6] t (0, 0))) (hB : Below W0.heap.size W0 w') : Held7 W0 b v0 v1 v2 v3 v4 v5 v6 w' := keep7 hk hB

set_option maxHeartbeats 4000000 in
theorem Ring_bad (k W H t s x y : Int) (w : World) (t0 : 0 ≤ t) (h : checkE k W H t s ≠ 0) :
    Calls Try.prog 16 #[topoV k W H t s, pt x y] w (Ret (.tuple #[pt 0 0, .bool false, .int .i64 9]) w) := by
  have KP : ((((w.alloc (.cells #[.int .u8 k, .int .i64 W, .int .i64 H, .int .u8 t, .int .i64 s] 23)).alloc (.cells #[.int .i64 x, .int .i64 y] 25)).alloc (.cells #[.int .i64 0, .int .i64 0] 25)).alloc (.cells #[.int .i64 x, .int .i64 y] 25)).heap[w.heap.size + 1]? = some (.cells #[.int .i64 x, .int .i64 y] 25 (0, 0)) := (bk_alloc (bk_alloc (by have := bk_new (w.alloc (.cells #[.int .u8 k, .int .i64 W, .int .i64 H, .int .u8 t, .int .i64 s] 23)) (.cells #[.int .i64 x, .int .i64 y] 25); simpa only [World.size_alloc] using this) _) _)
  have KR : ((((w.alloc (.cells #[.int .u8 k, .int .i64 W, .int .i64 H, .int .u8 t, .int .i64 s] 23)).alloc (.cells #[.int .i64 x, .int .i64 y] 25)).alloc (.cells #[.int .i64 0, .int .i64 0] 25)).alloc (.cells #[.int .i64 x, .int .i64 y] 25)).heap[w.heap.size + 1 + 1]? = some (.cells #[.int .i64 0, .int .i64 0] 25 (0, 0)) := (bk_alloc (by have := bk_new ((w.alloc (.cells #[.int .u8 k, .int .i64 W, .int .i64 H, .int .u8 t, .int .i64 s] 23)).alloc (.cells #[.int .i64 x, .int .i64 y] 25)) (.cells #[.int .i64 0, .int .i64 0] 25); simpa only [World.size_alloc] using this) _)
  have KS : ((((w.alloc (.cells #[.int .u8 k, .int .i64 W, .int .i64 H, .int .u8 t, .int .i64 s] 23)).alloc (.cells #[.int .i64 x, .int .i64 y] 25)).alloc (.cells #[.int .i64 0, .int .i64 0] 25)).alloc (.cells #[.int .i64 x, .int .i64 y] 25)).heap[w.heap.size + 1 + 1 + 1]? = some (.cells #[.int .i64 x, .int .i64 y] 25 (0, 0)) := (by have := bk_new (((w.alloc (.cells #[.int .u8 k, .int .i64 W, .int .i64 H, .int .u8 t, .int .i64 s] 23)).alloc (.cells #[.int .i64 x, .int .i64 y] 25)).alloc (.cells #[.int .i64 0, .int .i64 0] 25)) (.cells #[.int .i64 x, .int .i64 y] 25); simpa only [World.size_alloc] using this)
  have hBw : Below w.heap.size w ((((w.alloc (.cells #[.int .u8 k, .int .i64 W, .int .i64 H, .int .u8 t, .int .i64 s] 23)).alloc (.cells #[.int .i64 x, .int .i64 y] 25)).alloc (.cells #[.int .i64 0, .int .i64 0] 25)).alloc (.cells #[.int .i64 x, .int .i64 y] 25)) := (((boxed _ _).alloc (by simp) _).alloc (by simp; try omega) _).alloc (by simp; try omega) _
  go_enter Try.func16, Try.ntmps16
  go_wp2_with (first | fail)
  generalize hW0 : ((((w.alloc (.cells #[.int .u8 k, .int .i64 W, .int .i64 H, .int .u8 t, .int .i64 s] 23)).alloc (.cells #[.int .i64 x, .int .i64 y] 25)).alloc (.cells #[.int .i64 0, .int .i64 0] 25)).alloc (.cells #[.int .i64 x, .int .i64 y] 25)) = W0 at *
  clear hW0
  have hB := same W0
  have KP0 := KP
  have KR0 := KR
  have KS0 := KS
  have HP := Lib.hid (pts_one KS); clear KS0
  go_wp2_with (first | (go_at_call 36; ((with_reducible refine (of_bad _ _ _ _ _ _ _ t0 h).mono ?_); rintro e w1 ⟨rfl, hb1⟩; replace hB := next hB hb1; replace KP := bk_below KP hb1; have hcKP := bk_cell KP; have hfKP := bk_free KP; have hlKP := bk_lt KP; replace KR := bk_below KR hb1; have hcKR := bk_cell KR; have hfKR := bk_free KR; have hlKR := bk_lt KR)))
  refine end_ctt (w.heap.size + 1 + 1) 25 rfl rfl rfl Try.underlying25 rfl ?_
  apply Exists.intro
  refine ⟨(by repeat (with_reducible (first | exact KR | apply bk_set | refine bk_drew ?_ | refine bk_drewN ?_ _ | refine bk_alloc ?_ _ | refine bk_far ?_ (by simp; try omega) _))), by kernel_rfl, ?_⟩
  exact Ret.of rfl (by repeat (with_reducible (first | exact hBw.trans (hB.mono hBw.size) | refine Below.setCell ?_ (by have h1_ := hBw.size; have h2_ := hB.size; (try simp) <;> omega) _ | refine Below.drew ?_ | refine Below.alloc ?_ (by have h1_ := hBw.size; have h2_ := hB.size; (try simp) <;> omega) _)))

set_option maxHeartbeats 4000000 in
theorem Ring_far (k W H t s x y : Int) (w : World) (t0 : 0 ≤ t) (h : checkE k W H t s = 0) (hn : (nearI x && nearI y) = false) :
    Calls Try.prog 16 #[topoV k W H t s, pt x y] w (Ret (.tuple #[pt 0 0, .bool false, .int .i64 5]) w) := by
  have h := Lib.hid h
  have HA : Hid ([(x, y)].all nearP = false) := by show [(x, y)].all nearP = false; simpa [nearP] using hn
  clear hn
  have KP : ((((w.alloc (.cells #[.int .u8 k, .int .i64 W, .int .i64 H, .int .u8 t, .int .i64 s] 23)).alloc (.cells #[.int .i64 x, .int .i64 y] 25)).alloc (.cells #[.int .i64 0, .int .i64 0] 25)).alloc (.cells #[.int .i64 x, .int .i64 y] 25)).heap[w.heap.size + 1]? = some (.cells #[.int .i64 x, .int .i64 y] 25 (0, 0)) := (bk_alloc (bk_alloc (by have := bk_new (w.alloc (.cells #[.int .u8 k, .int .i64 W, .int .i64 H, .int .u8 t, .int .i64 s] 23)) (.cells #[.int .i64 x, .int .i64 y] 25); simpa only [World.size_alloc] using this) _) _)
  have KR : ((((w.alloc (.cells #[.int .u8 k, .int .i64 W, .int .i64 H, .int .u8 t, .int .i64 s] 23)).alloc (.cells #[.int .i64 x, .int .i64 y] 25)).alloc (.cells #[.int .i64 0, .int .i64 0] 25)).alloc (.cells #[.int .i64 x, .int .i64 y] 25)).heap[w.heap.size + 1 + 1]? = some (.cells #[.int .i64 0, .int .i64 0] 25 (0, 0)) := (bk_alloc (by have := bk_new ((w.alloc (.cells #[.int .u8 k, .int .i64 W, .int .i64 H, .int .u8 t, .int .i64 s] 23)).alloc (.cells #[.int .i64 x, .int .i64 y] 25)) (.cells #[.int .i64 0, .int .i64 0] 25); simpa only [World.size_alloc] using this) _)
  have KS : ((((w.alloc (.cells #[.int .u8 k, .int .i64 W, .int .i64 H, .int .u8 t, .int .i64 s] 23)).alloc (.cells #[.int .i64 x, .int .i64 y] 25)).alloc (.cells #[.int .i64 0, .int .i64 0] 25)).alloc (.cells #[.int .i64 x, .int .i64 y] 25)).heap[w.heap.size + 1 + 1 + 1]? = some (.cells #[.int .i64 x, .int .i64 y] 25 (0, 0)) := (by have := bk_new (((w.alloc (.cells #[.int .u8 k, .int .i64 W, .int .i64 H, .int .u8 t, .int .i64 s] 23)).alloc (.cells #[.int .i64 x, .int .i64 y] 25)).alloc (.cells #[.int .i64 0, .int .i64 0] 25)) (.cells #[.int .i64 x, .int .i64 y] 25); simpa only [World.size_alloc] using this)
  have hBw : Below w.heap.size w ((((w.alloc (.cells #[.int .u8 k, .int .i64 W, .int .i64 H, .int .u8 t, .int .i64 s] 23)).alloc (.cells #[.int .i64 x, .int .i64 y] 25)).alloc (.cells #[.int .i64 0, .int .i64 0] 25)).alloc (.cells #[.int .i64 x, .int .i64 y] 25)) := (((boxed _ _).alloc (by simp) _).alloc (by simp; try omega) _).alloc (by simp; try omega) _
  go_enter Try.func16, Try.ntmps16
  go_wp2_with (first | fail)
  generalize hW0 : ((((w.alloc (.cells #[.int .u8 k, .int .i64 W, .int .i64 H, .int .u8 t, .int .i64 s] 23)).alloc (.cells #[.int .i64 x, .int .i64 y] 25)).alloc (.cells #[.int .i64 0, .int .i64 0] 25)).alloc (.cells #[.int .i64 x, .int .i64 y] 25)) = W0 at *
  clear hW0
  have hB := same W0
  have KP0 := KP
  have KR0 := KR
  have KS0 := KS
  have HP := Lib.hid (pts_one KS); clear KS0
  go_wp2_with (first | (go_at_call 36; ((with_reducible refine (of_pts _ _ _ _ _ _ _ 1 _ [(x, y)] _ t0 h.out rfl (by decide) HP.out).mono ?_); rintro e w1 ⟨rfl, hb1⟩; replace hB := next hB hb1; replace KP := bk_below KP hb1; have hcKP := bk_cell KP; have hfKP := bk_free KP; have hlKP := bk_lt KP; replace KR := bk_below KR hb1; have hcKR := bk_cell KR; have hfKR := bk_free KR; have hlKR := bk_lt KR; rw [HA.out]; simp only [Bool.false_eq_true, ↓reduceIte])))
  refine end_ctt (w.heap.size + 1 + 1) 25 rfl rfl rfl Try.underlying25 rfl ?_
  apply Exists.intro
  refine ⟨(by repeat (with_reducible (first | exact KR | apply bk_set | refine bk_drew ?_ | refine bk_drewN ?_ _ | refine bk_alloc ?_ _ | refine bk_far ?_ (by simp; try omega) _))), by kernel_rfl, ?_⟩
  exact Ret.of rfl (by repeat (with_reducible (first | exact hBw.trans (hB.mono hBw.size) | refine Below.setCell ?_ (by have h1_ := hBw.size; have h2_ := hB.size; (try simp) <;> omega) _ | refine Below.drew ?_ | refine Below.alloc ?_ (by have h1_ := hBw.size; have h2_ := hB.size; (try simp) <;> omega) _)))

set_option maxHeartbeats 4000000 in
theorem Ring_out (k W H t s x y : Int) (w : World) (t0 : 0 ≤ t) (h : checkE k W H t s = 0) (hn : (nearI x && nearI y) = true) (hr : (ringI (x - first W) W && ringI (y - first H) H) = false) :
    Calls Try.prog 16 #[topoV k W H t s, pt x y] w (Ret (.tuple #[pt 0 0, .bool false, .int .i64 60]) w) := by
  have ok := topoOk t0 h
  have w0 := ok.w0; have w3 := ok.w1; have h0 := ok.h0; have h3 := ok.h1
  have h := Lib.hid h
  have HA : Hid ([(x, y)].all nearP = true) := by show [(x, y)].all nearP = true; simpa [nearP] using hn
  simp only [Bool.and_eq_true] at hn
  obtain ⟨x1, x2⟩ := nearI_iff.1 hn.1
  obtain ⟨y1, y2⟩ := nearI_iff.1 hn.2
  clear hn
  obtain ⟨fw1, fw2⟩ := first_bounds W w0 w3
  obtain ⟨fh1, fh2⟩ := first_bounds H h0 h3
  have EU := Lib.hid (gluedU (x := x) w0); have EV := Lib.hid (gluedU (x := y) h0)
  obtain ⟨l, hl⟩ : ∃ l, first W = l := ⟨_, rfl⟩
  obtain ⟨q, hq⟩ : ∃ q, first H = q := ⟨_, rfl⟩
  rw [hl] at fw1 fw2 EU hr
  rw [hq] at fh1 fh2 EV hr
  have HR := Lib.hid hr; clear hr
  have HL := Lib.hid hl; have HQ := Lib.hid hq; clear hl hq
  have KP : ((((w.alloc (.cells #[.int .u8 k, .int .i64 W, .int .i64 H, .int .u8 t, .int .i64 s] 23)).alloc (.cells #[.int .i64 x, .int .i64 y] 25)).alloc (.cells #[.int .i64 0, .int .i64 0] 25)).alloc (.cells #[.int .i64 x, .int .i64 y] 25)).heap[w.heap.size + 1]? = some (.cells #[.int .i64 x, .int .i64 y] 25 (0, 0)) := (bk_alloc (bk_alloc (by have := bk_new (w.alloc (.cells #[.int .u8 k, .int .i64 W, .int .i64 H, .int .u8 t, .int .i64 s] 23)) (.cells #[.int .i64 x, .int .i64 y] 25); simpa only [World.size_alloc] using this) _) _)
  have KR : ((((w.alloc (.cells #[.int .u8 k, .int .i64 W, .int .i64 H, .int .u8 t, .int .i64 s] 23)).alloc (.cells #[.int .i64 x, .int .i64 y] 25)).alloc (.cells #[.int .i64 0, .int .i64 0] 25)).alloc (.cells #[.int .i64 x, .int .i64 y] 25)).heap[w.heap.size + 1 + 1]? = some (.cells #[.int .i64 0, .int .i64 0] 25 (0, 0)) := (bk_alloc (by have := bk_new ((w.alloc (.cells #[.int .u8 k, .int .i64 W, .int .i64 H, .int .u8 t, .int .i64 s] 23)).alloc (.cells #[.int .i64 x, .int .i64 y] 25)) (.cells #[.int .i64 0, .int .i64 0] 25); simpa only [World.size_alloc] using this) _)
  have KS : ((((w.alloc (.cells #[.int .u8 k, .int .i64 W, .int .i64 H, .int .u8 t, .int .i64 s] 23)).alloc (.cells #[.int .i64 x, .int .i64 y] 25)).alloc (.cells #[.int .i64 0, .int .i64 0] 25)).alloc (.cells #[.int .i64 x, .int .i64 y] 25)).heap[w.heap.size + 1 + 1 + 1]? = some (.cells #[.int .i64 x, .int .i64 y] 25 (0, 0)) := (by have := bk_new (((w.alloc (.cells #[.int .u8 k, .int .i64 W, .int .i64 H, .int .u8 t, .int .i64 s] 23)).alloc (.cells #[.int .i64 x, .int .i64 y] 25)).alloc (.cells #[.int .i64 0, .int .i64 0] 25)) (.cells #[.int .i64 x, .int .i64 y] 25); simpa only [World.size_alloc] using this)
  have hBw : Below w.heap.size w ((((w.alloc (.cells #[.int .u8 k, .int .i64 W, .int .i64 H, .int .u8 t, .int .i64 s] 23)).alloc (.cells #[.int .i64 x, .int .i64 y] 25)).alloc (.cells #[.int .i64 0, .int .i64 0] 25)).alloc (.cells #[.int .i64 x, .int .i64 y] 25)) := (((boxed _ _).alloc (by simp) _).alloc (by simp; try omega) _).alloc (by simp; try omega) _
  go_enter Try.func16, Try.ntmps16
  go_wp2_with (first | fail)
  generalize hW0 : ((((w.alloc (.cells #[.int .u8 k, .int .i64 W, .int .i64 H, .int .u8 t, .int .i64 s] 23)).alloc (.cells #[.int .i64 x, .int .i64 y] 25)).alloc (.cells #[.int .i64 0, .int .i64 0] 25)).alloc (.cells #[.int .i64 x, .int .i64 y] 25)) = W0 at *
  clear hW0
  have hB := same W0
  have KP0 := KP
  have KR0 := KR
  have KS0 := KS
  have HP := Lib.hid (pts_one KS); clear KS0
  refine (of_pts _ _ _ _ _ _ _ 1 _ [(x, y)] _ t0 h.out rfl (by decide) HP.out).mono ?_
  rintro e w1 ⟨rfl, hb1⟩; replace hB := next hB hb1; replace KP := bk_below KP hb1; have hcKP := bk_cell KP; have hfKP := bk_free KP; have hlKP := bk_lt KP; replace KR := bk_below KR hb1; have hcKR := bk_cell KR; have hfKR := bk_free KR; have hlKR := bk_lt KR; rw [HA.out]; simp only [↓reduceIte]
  go_wp2_with (first | fail)
  rw [HL.out, HQ.out]
  refine (home_calls _ _ _ _ _ _ _ _ _ _ fw1 fw2 fh1 fh2 x1 x2 y1 y2).mono ?_
  rintro e w2 ⟨rfl, hb1⟩; rw [EU.out, EV.out]; have KG := bk_below (bk_new _ _) hb1; have hcG := bk_cell KG; have hlG := bk_lt KG; replace hB := next hB (box hb1); replace KP := bk_below KP (box hb1); have hcKP := bk_cell KP; have hfKP := bk_free KP; have hlKP := bk_lt KP; replace KR := bk_below KR (box hb1); have hcKR := bk_cell KR; have hfKR := bk_free KR; have hlKR := bk_lt KR
  go_wp2_with (first | fail)
  all_goals first
    | (refine end_ctt (w.heap.size + 1 + 1) 25 rfl rfl rfl Try.underlying25 rfl ?_
       apply Exists.intro
       refine ⟨(by repeat (with_reducible (first | exact KR | apply bk_set | refine bk_drew ?_ | refine bk_drewN ?_ _ | refine bk_alloc ?_ _ | refine bk_far ?_ (by simp; try omega) _))), by kernel_rfl, ?_⟩
       exact Ret.of rfl (by repeat (with_reducible (first | exact hBw.trans (hB.mono hBw.size) | refine Below.setCell ?_ (by have h1_ := hBw.size; have h2_ := hB.size; (try simp) <;> omega) _ | refine Below.drew ?_ | refine Below.alloc ?_ (by have h1_ := hBw.size; have h2_ := hB.size; (try simp) <;> omega) _))))
    | (exfalso; have hr := HR.out; clear HR; unfold ringI at hr; simp only [beq_iff_eq, beq_eq_false_iff_ne, ne_eq, bne_iff_ne, bne_eq_false_iff_eq, Bool.and_eq_true, Bool.or_eq_true, Bool.not_eq_true', Bool.not_eq_false', decide_eq_true_eq, decide_eq_false_iff_not, Bool.and_eq_false_iff, Bool.or_eq_false_iff] at *; omega)

set_option maxHeartbeats 4000000 in
theorem Ring_flat_in (W H t s x y : Int) (w : World) (t0 : 0 ≤ t) (h : checkE 1 W H t s = 0) (hn : (nearI x && nearI y) = true) (hr : (ringI (x - first W) W && ringI (y - first H) H) = true) (ho : (onI (x - first W) W && onI (y - first H) H) = true) :
    Calls Try.prog 16 #[topoV 1 W H t s, pt x y] w (Ret (.tuple #[pt x y, .bool true, .int .i64 0]) w) := by
  have ok := topoOk t0 h
  have w0 := ok.w0; have w3 := ok.w1; have h0 := ok.h0; have h3 := ok.h1
  have h := Lib.hid h
  have HA : Hid ([(x, y)].all nearP = true) := by show [(x, y)].all nearP = true; simpa [nearP] using hn
  simp only [Bool.and_eq_true] at hn
  obtain ⟨x1, x2⟩ := nearI_iff.1 hn.1
  obtain ⟨y1, y2⟩ := nearI_iff.1 hn.2
  clear hn
  obtain ⟨fw1, fw2⟩ := first_bounds W w0 w3
  obtain ⟨fh1, fh2⟩ := first_bounds H h0 h3
  have EU := Lib.hid (gluedU (x := x) w0); have EV := Lib.hid (gluedU (x := y) h0)
  obtain ⟨X, hX⟩ : ∃ X, x - first W = X := ⟨_, rfl⟩
  obtain ⟨Y, hY⟩ : ∃ Y, y - first H = Y := ⟨_, rfl⟩
  have hX2 : x = X + first W := by omega
  have hY2 : y = Y + first H := by omega
  have PU := Lib.hid (placeU (x := X) w0); have PV := Lib.hid (placeU (x := Y) h0)
  have hr' := hr
  simp only [ringI, Bool.and_eq_true, decide_eq_true_eq] at hr'
  clear hr
  have HE1 : Hid (X + first W = x) := hX2.symm; have HE2 : Hid (Y + first H = y) := hY2.symm
  clear hX2 hY2
  obtain ⟨l, hl⟩ : ∃ l, first W = l := ⟨_, rfl⟩
  obtain ⟨q, hq⟩ : ∃ q, first H = q := ⟨_, rfl⟩
  have HX : Hid (x - l = X) := by rw [← hl]; exact hX
  have HY : Hid (y - q = Y) := by rw [← hq]; exact hY
  rw [hl] at fw1 fw2 EU PU HE1 hr' ho
  rw [hq] at fh1 fh2 EV PV HE2 hr' ho
  have HO := Lib.hid ho; clear ho hX hY
  have HL := Lib.hid hl; have HQ := Lib.hid hq; clear hl hq
  have HW : Hid ((0 < W → -1 ≤ x - l ∧ x - l ≤ W) ∧ (0 < H → -1 ≤ y - q ∧ y - q ≤ H)) := by show (_ ∧ _); omega
  clear hr'
  have KP : ((((w.alloc (.cells #[.int .u8 1, .int .i64 W, .int .i64 H, .int .u8 t, .int .i64 s] 23)).alloc (.cells #[.int .i64 x, .int .i64 y] 25)).alloc (.cells #[.int .i64 0, .int .i64 0] 25)).alloc (.cells #[.int .i64 x, .int .i64 y] 25)).heap[w.heap.size + 1]? = some (.cells #[.int .i64 x, .int .i64 y] 25 (0, 0)) := (bk_alloc (bk_alloc (by have := bk_new (w.alloc (.cells #[.int .u8 1, .int .i64 W, .int .i64 H, .int .u8 t, .int .i64 s] 23)) (.cells #[.int .i64 x, .int .i64 y] 25); simpa only [World.size_alloc] using this) _) _)
  have KR : ((((w.alloc (.cells #[.int .u8 1, .int .i64 W, .int .i64 H, .int .u8 t, .int .i64 s] 23)).alloc (.cells #[.int .i64 x, .int .i64 y] 25)).alloc (.cells #[.int .i64 0, .int .i64 0] 25)).alloc (.cells #[.int .i64 x, .int .i64 y] 25)).heap[w.heap.size + 1 + 1]? = some (.cells #[.int .i64 0, .int .i64 0] 25 (0, 0)) := (bk_alloc (by have := bk_new ((w.alloc (.cells #[.int .u8 1, .int .i64 W, .int .i64 H, .int .u8 t, .int .i64 s] 23)).alloc (.cells #[.int .i64 x, .int .i64 y] 25)) (.cells #[.int .i64 0, .int .i64 0] 25); simpa only [World.size_alloc] using this) _)
  have KS : ((((w.alloc (.cells #[.int .u8 1, .int .i64 W, .int .i64 H, .int .u8 t, .int .i64 s] 23)).alloc (.cells #[.int .i64 x, .int .i64 y] 25)).alloc (.cells #[.int .i64 0, .int .i64 0] 25)).alloc (.cells #[.int .i64 x, .int .i64 y] 25)).heap[w.heap.size + 1 + 1 + 1]? = some (.cells #[.int .i64 x, .int .i64 y] 25 (0, 0)) := (by have := bk_new (((w.alloc (.cells #[.int .u8 1, .int .i64 W, .int .i64 H, .int .u8 t, .int .i64 s] 23)).alloc (.cells #[.int .i64 x, .int .i64 y] 25)).alloc (.cells #[.int .i64 0, .int .i64 0] 25)) (.cells #[.int .i64 x, .int .i64 y] 25); simpa only [World.size_alloc] using this)
  have hBw : Below w.heap.size w ((((w.alloc (.cells #[.int .u8 1, .int .i64 W, .int .i64 H, .int .u8 t, .int .i64 s] 23)).alloc (.cells #[.int .i64 x, .int .i64 y] 25)).alloc (.cells #[.int .i64 0, .int .i64 0] 25)).alloc (.cells #[.int .i64 x, .int .i64 y] 25)) := (((boxed _ _).alloc (by simp) _).alloc (by simp; try omega) _).alloc (by simp; try omega) _
  go_enter Try.func16, Try.ntmps16
  go_wp2_with (first | fail)
  generalize hW0 : ((((w.alloc (.cells #[.int .u8 1, .int .i64 W, .int .i64 H, .int .u8 t, .int .i64 s] 23)).alloc (.cells #[.int .i64 x, .int .i64 y] 25)).alloc (.cells #[.int .i64 0, .int .i64 0] 25)).alloc (.cells #[.int .i64 x, .int .i64 y] 25)) = W0 at *
  clear hW0
  have hB := same W0
  have KP0 := KP
  have KR0 := KR
  have KS0 := KS
  have HP := Lib.hid (pts_one KS); clear KS0
  refine (of_pts _ _ _ _ _ _ _ 1 _ [(x, y)] _ t0 h.out rfl (by decide) HP.out).mono ?_
  rintro e w1 ⟨rfl, hb1⟩; replace hB := next hB hb1; replace KP := bk_below KP hb1; have hcKP := bk_cell KP; have hfKP := bk_free KP; have hlKP := bk_lt KP; replace KR := bk_below KR hb1; have hcKR := bk_cell KR; have hfKR := bk_free KR; have hlKR := bk_lt KR; rw [HA.out]; simp only [↓reduceIte]
  go_wp2_with (first | fail)
  rw [HL.out, HQ.out]
  refine (home_calls _ _ _ _ _ _ _ _ _ _ fw1 fw2 fh1 fh2 x1 x2 y1 y2).mono ?_
  rintro e w2 ⟨rfl, hb1⟩; rw [EU.out, EV.out]; have KG := bk_below (bk_new _ _) hb1; have hcG := bk_cell KG; have hlG := bk_lt KG; replace hB := next hB (box hb1); replace KP := bk_below KP (box hb1); have hcKP := bk_cell KP; have hfKP := bk_free KP; have hlKP := bk_lt KP; replace KR := bk_below KR (box hb1); have hcKR := bk_cell KR; have hfKR := bk_free KR; have hlKR := bk_lt KR
  have hW1 : W ≤ 0 ∨ (0 < W ∧ -1 ≤ x - l ∧ x - l ≤ W) := by have := HW.out.1; omega
  have hH1 : H ≤ 0 ∨ (0 < H ∧ -1 ≤ y - q ∧ y - q ≤ H) := by have := HW.out.2; omega
  rcases hW1 with hW1 | ⟨c1, hw1, hw2⟩ <;> rcases hH1 with hH1 | ⟨c2, hw3, hw4⟩
  all_goals
    go_wp2_with (first | fail)
    have hB2 := hB; have KGS := KG; have KRS := KR
    go_region_held3 (fun w' => w'.cell? ⟨w1.heap.size, 0, none⟩ = some (.int .u8 1) ∧ w'.cell? ⟨w1.heap.size, 1, none⟩ = some (.int .i64 W) ∧ w'.cell? ⟨w1.heap.size, 2, none⟩ = some (.int .i64 H) ∧ w'.cell? ⟨w1.heap.size, 3, none⟩ = some (.int .u8 t) ∧ w'.cell? ⟨w1.heap.size, 4, none⟩ = some (.int .i64 s) ∧ w'.cell? ⟨w1.heap.size, 5, none⟩ = some (.int .i64 l) ∧ w'.cell? ⟨w1.heap.size, 6, none⟩ = some (.int .i64 q) ∧ Below w2.heap.size w2 w')
      (first | exact keep7 KGS (Below.drew (same w2)) | exact keep7n KGS (by assumption) hb1)
      (first | (go_at_call 49; ((with_reducible refine (way_calls 1 _ (by decide) (by decide)).mono ?_); rintro e wa ⟨rfl, hb1⟩; dsimp only [wayF]; simp only [Int.reduceEq, ↓reduceIte])) | (go_at_call 78; ((with_reducible refine (flat_calls _ _ _ _ _ _ _ _ _ _).mono ?_); rintro e wb ⟨rfl, hb1⟩; rw [HO.out])))
    rename_i hH
    replace hB := hB2.trans (hH.2.2.2.2.2.2.2.mono hB2.size)
    have hB3 := hH.2.2.2.2.2.2.2
    clear hH
    replace KG := bk_below KGS hB3; replace KR := bk_below KRS hB3; have hcG := bk_cell KG; have hcKR := bk_cell KR; have hfKR := bk_free KR
    go_wp2_with (first | (go_at_call 50; ((with_reducible refine (place_calls _ _ _ _ _ _ _ _ _ _ fw1 fw2 fh1 fh2 (by omega) (by omega) (by omega) (by omega)).mono ?_); rintro e w5 ⟨rfl, hb1⟩; replace hB := next hB hb1; replace KR := bk_below KR hb1; have hcKR := bk_cell KR; have hfKR := bk_free KR; rw [HX.out, HY.out, PU.out, PV.out, HE1.out, HE2.out])))
    refine end_ctt (w.heap.size + 1 + 1) 25 rfl rfl rfl Try.underlying25 rfl ?_
    apply Exists.intro
    refine ⟨(by repeat (with_reducible (first | exact KR | apply bk_set | refine bk_drew ?_ | refine bk_drewN ?_ _ | refine bk_alloc ?_ _ | refine bk_far ?_ (by simp; try omega) _))), by kernel_rfl, ?_⟩
    exact Ret.of rfl (by repeat (with_reducible (first | exact hBw.trans (hB.mono hBw.size) | refine Below.setCell ?_ (by have h1_ := hBw.size; have h2_ := hB.size; (try simp) <;> omega) _ | refine Below.drew ?_ | refine Below.alloc ?_ (by have h1_ := hBw.size; have h2_ := hB.size; (try simp) <;> omega) _)))

set_option maxHeartbeats 4000000 in
theorem Ring_flat_no (W H t s x y : Int) (w : World) (t0 : 0 ≤ t) (h : checkE 1 W H t s = 0) (hn : (nearI x && nearI y) = true) (hr : (ringI (x - first W) W && ringI (y - first H) H) = true) (ho : (onI (x - first W) W && onI (y - first H) H) = false) :
    Calls Try.prog 16 #[topoV 1 W H t s, pt x y] w (Ret (.tuple #[pt 0 0, .bool false, .int .i64 0]) w) := by
  have ok := topoOk t0 h
  have w0 := ok.w0; have w3 := ok.w1; have h0 := ok.h0; have h3 := ok.h1
  have h := Lib.hid h
  have HA : Hid ([(x, y)].all nearP = true) := by show [(x, y)].all nearP = true; simpa [nearP] using hn
  simp only [Bool.and_eq_true] at hn
  obtain ⟨x1, x2⟩ := nearI_iff.1 hn.1
  obtain ⟨y1, y2⟩ := nearI_iff.1 hn.2
  clear hn
  obtain ⟨fw1, fw2⟩ := first_bounds W w0 w3
  obtain ⟨fh1, fh2⟩ := first_bounds H h0 h3
  have EU := Lib.hid (gluedU (x := x) w0); have EV := Lib.hid (gluedU (x := y) h0)
  obtain ⟨X, hX⟩ : ∃ X, x - first W = X := ⟨_, rfl⟩
  obtain ⟨Y, hY⟩ : ∃ Y, y - first H = Y := ⟨_, rfl⟩
  have hX2 : x = X + first W := by omega
  have hY2 : y = Y + first H := by omega
  have PU := Lib.hid (placeU (x := X) w0); have PV := Lib.hid (placeU (x := Y) h0)
  have hr' := hr
  simp only [ringI, Bool.and_eq_true, decide_eq_true_eq] at hr'
  clear hr
  have HE1 : Hid (X + first W = x) := hX2.symm; have HE2 : Hid (Y + first H = y) := hY2.symm
  clear hX2 hY2
  obtain ⟨l, hl⟩ : ∃ l, first W = l := ⟨_, rfl⟩
  obtain ⟨q, hq⟩ : ∃ q, first H = q := ⟨_, rfl⟩
  have HX : Hid (x - l = X) := by rw [← hl]; exact hX
  have HY : Hid (y - q = Y) := by rw [← hq]; exact hY
  rw [hl] at fw1 fw2 EU PU HE1 hr' ho
  rw [hq] at fh1 fh2 EV PV HE2 hr' ho
  have HO := Lib.hid ho; clear ho hX hY
  have HL := Lib.hid hl; have HQ := Lib.hid hq; clear hl hq
  have HW : Hid ((0 < W → -1 ≤ x - l ∧ x - l ≤ W) ∧ (0 < H → -1 ≤ y - q ∧ y - q ≤ H)) := by show (_ ∧ _); omega
  clear hr'
  have KP : ((((w.alloc (.cells #[.int .u8 1, .int .i64 W, .int .i64 H, .int .u8 t, .int .i64 s] 23)).alloc (.cells #[.int .i64 x, .int .i64 y] 25)).alloc (.cells #[.int .i64 0, .int .i64 0] 25)).alloc (.cells #[.int .i64 x, .int .i64 y] 25)).heap[w.heap.size + 1]? = some (.cells #[.int .i64 x, .int .i64 y] 25 (0, 0)) := (bk_alloc (bk_alloc (by have := bk_new (w.alloc (.cells #[.int .u8 1, .int .i64 W, .int .i64 H, .int .u8 t, .int .i64 s] 23)) (.cells #[.int .i64 x, .int .i64 y] 25); simpa only [World.size_alloc] using this) _) _)
  have KR : ((((w.alloc (.cells #[.int .u8 1, .int .i64 W, .int .i64 H, .int .u8 t, .int .i64 s] 23)).alloc (.cells #[.int .i64 x, .int .i64 y] 25)).alloc (.cells #[.int .i64 0, .int .i64 0] 25)).alloc (.cells #[.int .i64 x, .int .i64 y] 25)).heap[w.heap.size + 1 + 1]? = some (.cells #[.int .i64 0, .int .i64 0] 25 (0, 0)) := (bk_alloc (by have := bk_new ((w.alloc (.cells #[.int .u8 1, .int .i64 W, .int .i64 H, .int .u8 t, .int .i64 s] 23)).alloc (.cells #[.int .i64 x, .int .i64 y] 25)) (.cells #[.int .i64 0, .int .i64 0] 25); simpa only [World.size_alloc] using this) _)
  have KS : ((((w.alloc (.cells #[.int .u8 1, .int .i64 W, .int .i64 H, .int .u8 t, .int .i64 s] 23)).alloc (.cells #[.int .i64 x, .int .i64 y] 25)).alloc (.cells #[.int .i64 0, .int .i64 0] 25)).alloc (.cells #[.int .i64 x, .int .i64 y] 25)).heap[w.heap.size + 1 + 1 + 1]? = some (.cells #[.int .i64 x, .int .i64 y] 25 (0, 0)) := (by have := bk_new (((w.alloc (.cells #[.int .u8 1, .int .i64 W, .int .i64 H, .int .u8 t, .int .i64 s] 23)).alloc (.cells #[.int .i64 x, .int .i64 y] 25)).alloc (.cells #[.int .i64 0, .int .i64 0] 25)) (.cells #[.int .i64 x, .int .i64 y] 25); simpa only [World.size_alloc] using this)
  have hBw : Below w.heap.size w ((((w.alloc (.cells #[.int .u8 1, .int .i64 W, .int .i64 H, .int .u8 t, .int .i64 s] 23)).alloc (.cells #[.int .i64 x, .int .i64 y] 25)).alloc (.cells #[.int .i64 0, .int .i64 0] 25)).alloc (.cells #[.int .i64 x, .int .i64 y] 25)) := (((boxed _ _).alloc (by simp) _).alloc (by simp; try omega) _).alloc (by simp; try omega) _
  go_enter Try.func16, Try.ntmps16
  go_wp2_with (first | fail)
  generalize hW0 : ((((w.alloc (.cells #[.int .u8 1, .int .i64 W, .int .i64 H, .int .u8 t, .int .i64 s] 23)).alloc (.cells #[.int .i64 x, .int .i64 y] 25)).alloc (.cells #[.int .i64 0, .int .i64 0] 25)).alloc (.cells #[.int .i64 x, .int .i64 y] 25)) = W0 at *
  clear hW0
  have hB := same W0
  have KP0 := KP
  have KR0 := KR
  have KS0 := KS
  have HP := Lib.hid (pts_one KS); clear KS0
  refine (of_pts _ _ _ _ _ _ _ 1 _ [(x, y)] _ t0 h.out rfl (by decide) HP.out).mono ?_
  rintro e w1 ⟨rfl, hb1⟩; replace hB := next hB hb1; replace KP := bk_below KP hb1; have hcKP := bk_cell KP; have hfKP := bk_free KP; have hlKP := bk_lt KP; replace KR := bk_below KR hb1; have hcKR := bk_cell KR; have hfKR := bk_free KR; have hlKR := bk_lt KR; rw [HA.out]; simp only [↓reduceIte]
  go_wp2_with (first | fail)
  rw [HL.out, HQ.out]
  refine (home_calls _ _ _ _ _ _ _ _ _ _ fw1 fw2 fh1 fh2 x1 x2 y1 y2).mono ?_
  rintro e w2 ⟨rfl, hb1⟩; rw [EU.out, EV.out]; have KG := bk_below (bk_new _ _) hb1; have hcG := bk_cell KG; have hlG := bk_lt KG; replace hB := next hB (box hb1); replace KP := bk_below KP (box hb1); have hcKP := bk_cell KP; have hfKP := bk_free KP; have hlKP := bk_lt KP; replace KR := bk_below KR (box hb1); have hcKR := bk_cell KR; have hfKR := bk_free KR; have hlKR := bk_lt KR
  have hW1 : W ≤ 0 ∨ (0 < W ∧ -1 ≤ x - l ∧ x - l ≤ W) := by have := HW.out.1; omega
  have hH1 : H ≤ 0 ∨ (0 < H ∧ -1 ≤ y - q ∧ y - q ≤ H) := by have := HW.out.2; omega
  rcases hW1 with hW1 | ⟨c1, hw1, hw2⟩ <;> rcases hH1 with hH1 | ⟨c2, hw3, hw4⟩
  all_goals
    go_wp2_with (first | fail)
    have hB2 := hB; have KGS := KG; have KRS := KR
    go_region_held3 (fun w' => w'.cell? ⟨w1.heap.size, 0, none⟩ = some (.int .u8 1) ∧ w'.cell? ⟨w1.heap.size, 1, none⟩ = some (.int .i64 W) ∧ w'.cell? ⟨w1.heap.size, 2, none⟩ = some (.int .i64 H) ∧ w'.cell? ⟨w1.heap.size, 3, none⟩ = some (.int .u8 t) ∧ w'.cell? ⟨w1.heap.size, 4, none⟩ = some (.int .i64 s) ∧ w'.cell? ⟨w1.heap.size, 5, none⟩ = some (.int .i64 l) ∧ w'.cell? ⟨w1.heap.size, 6, none⟩ = some (.int .i64 q) ∧ Below w2.heap.size w2 w')
      (first | exact keep7 KGS (Below.drew (same w2)) | exact keep7n KGS (by assumption) hb1)
      (first | (go_at_call 49; ((with_reducible refine (way_calls 1 _ (by decide) (by decide)).mono ?_); rintro e wa ⟨rfl, hb1⟩; dsimp only [wayF]; simp only [Int.reduceEq, ↓reduceIte])) | (go_at_call 78; ((with_reducible refine (flat_calls _ _ _ _ _ _ _ _ _ _).mono ?_); rintro e wb ⟨rfl, hb1⟩; rw [HO.out])))
    rename_i hH
    replace hB := hB2.trans (hH.2.2.2.2.2.2.2.mono hB2.size)
    have hB3 := hH.2.2.2.2.2.2.2
    clear hH
    replace KG := bk_below KGS hB3; replace KR := bk_below KRS hB3; have hcG := bk_cell KG; have hcKR := bk_cell KR; have hfKR := bk_free KR
    go_wp2_with (first | fail)
    refine end_ctt (w.heap.size + 1 + 1) 25 rfl rfl rfl Try.underlying25 rfl ?_
    apply Exists.intro
    refine ⟨(by repeat (with_reducible (first | exact KR | apply bk_set | refine bk_drew ?_ | refine bk_drewN ?_ _ | refine bk_alloc ?_ _ | refine bk_far ?_ (by simp; try omega) _))), by kernel_rfl, ?_⟩
    exact Ret.of rfl (by repeat (with_reducible (first | exact hBw.trans (hB.mono hBw.size) | refine Below.setCell ?_ (by have h1_ := hBw.size; have h2_ := hB.size; (try simp) <;> omega) _ | refine Below.drew ?_ | refine Below.alloc ?_ (by have h1_ := hBw.size; have h2_ := hB.size; (try simp) <;> omega) _)))

end Go.Proofs.Ytfdehecekghlmaa
