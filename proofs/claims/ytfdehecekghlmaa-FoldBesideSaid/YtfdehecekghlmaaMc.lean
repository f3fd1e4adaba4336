/- The walks of fold's calls, on: Ring, 2. The walks of fold's calls, on: Ring, 3. Ring, of any topology and place. -/
import Derived.Test.YtfdehecekghlmaaFoldJ

set_option linter.unusedVariables false
set_option linter.unusedSimpArgs false
namespace Go.Proofs.Ytfdehecekghlmaa
open Go.RowKit Go.Viv

set_option maxHeartbeats 4000000 in
theorem Ring_torus_in (W H t s x y : Int) (w : World) (t0 : 0 ≤ t) (h : checkE 2 W H t s = 0) (hn : (nearI x && nearI y) = true) (hr : (ringI (x - first W) W && ringI (y - first H) H) = true) :
    Calls Try.prog 16 #[topoV 2 W H t s, pt x y] w (Ret (.tuple #[pt (cellU 2 W H t s (x - first W) (y - first H) + first W) (cellV 2 W H t s (x - first W) (y - first H) + first H), .bool true, .int .i64 0]) w) := by
  have ok := topoOk t0 h
  have w0 := ok.w0; have w3 := ok.w1; have h0 := ok.h0; have h3 := ok.h1
  have h := Lib.hid h
  have HA : Hid ([(x, y)].all nearP = true) := by show [(x, y)].all nearP = true; simpa [nearP] using hn
  simp only [Bool.and_eq_true] at hn
  obtain ⟨x1, x2⟩ := nearI_iff.1 hn.1
  obtain ⟨y1, y2⟩ := nearI_iff.1 hn.2
  clear hn
  obtain ⟨fw1, fw2⟩ := first_bounds W w0 w3
  obtain ⟨fh1, fh2⟩ := first_bounds H h0 h3
  have EU := Lib.hid (gluedU (x := x) w0); have EV := Lib.hid (gluedU (x := y) h0)
  obtain ⟨cu1, cu2⟩ := cellU_bounds (u := x - first W) (v := y - first H) ok (by omega) (by omega)
  obtain ⟨cv1, cv2⟩ := cellV_bounds (u := x - first W) (v := y - first H) ok (by omega) (by omega)
  obtain ⟨X, hX⟩ : ∃ X, cellU 2 W H t s (x - first W) (y - first H) = X := ⟨_, rfl⟩
  obtain ⟨Y, hY⟩ : ∃ Y, cellV 2 W H t s (x - first W) (y - first H) = Y := ⟨_, rfl⟩
  rw [hX] at cu1 cu2 ⊢
  rw [hY] at cv1 cv2 ⊢
  have PU := Lib.hid (placeU (x := X) w0); have PV := Lib.hid (placeU (x := Y) h0)
  have hr' := hr
  simp only [ringI, Bool.and_eq_true, decide_eq_true_eq] at hr'
  clear hr
  obtain ⟨l, hl⟩ : ∃ l, first W = l := ⟨_, rfl⟩
  obtain ⟨q, hq⟩ : ∃ q, first H = q := ⟨_, rfl⟩
  rw [hl] at fw1 fw2 EU PU hX hY hr' ⊢
  rw [hq] at fh1 fh2 EV PV hX hY hr' ⊢
  have HX := Lib.hid hX; have HY := Lib.hid hY; clear hX hY
  have HL := Lib.hid hl; have HQ := Lib.hid hq; clear hl hq
  have HW : Hid ((0 < W → -1 ≤ x - l ∧ x - l ≤ W) ∧ (0 < H → -1 ≤ y - q ∧ y - q ≤ H)) := by show (_ ∧ _); omega
  clear hr'
  have KP : ((((w.alloc (.cells #[.int .u8 2, .int .i64 W, .int .i64 H, .int .u8 t, .int .i64 s] 23)).alloc (.cells #[.int .i64 x, .int .i64 y] 25)).alloc (.cells #[.int .i64 0, .int .i64 0] 25)).alloc (.cells #[.int .i64 x, .int .i64 y] 25)).heap[w.heap.size + 1]? = some (.cells #[.int .i64 x, .int .i64 y] 25 (0, 0)) := (bk_alloc (bk_alloc (by have := bk_new (w.alloc (.cells #[.int .u8 2, .int .i64 W, .int .i64 H, .int .u8 t, .int .i64 s] 23)) (.cells #[.int .i64 x, .int .i64 y] 25); simpa only [World.size_alloc] using this) _) _)
  have KR : ((((w.alloc (.cells #[.int .u8 2, .int .i64 W, .int .i64 H, .int .u8 t, .int .i64 s] 23)).alloc (.cells #[.int .i64 x, .int .i64 y] 25)).alloc (.cells #[.int .i64 0, .int .i64 0] 25)).alloc (.cells #[.int .i64 x, .int .i64 y] 25)).heap[w.heap.size + 1 + 1]? = some (.cells #[.int .i64 0, .int .i64 0] 25 (0, 0)) := (bk_alloc (by have := bk_new ((w.alloc (.cells #[.int .u8 2, .int .i64 W, .int .i64 H, .int .u8 t, .int .i64 s] 23)).alloc (.cells #[.int .i64 x, .int .i64 y] 25)) (.cells #[.int .i64 0, .int .i64 0] 25); simpa only [World.size_alloc] using this) _)
  have KS : ((((w.alloc (.cells #[.int .u8 2, .int .i64 W, .int .i64 H, .int .u8 t, .int .i64 s] 23)).alloc (.cells #[.int .i64 x, .int .i64 y] 25)).alloc (.cells #[.int .i64 0, .int .i64 0] 25)).alloc (.cells #[.int .i64 x, .int .i64 y] 25)).heap[w.heap.size + 1 + 1 + 1]? = some (.cells #[.int .i64 x, .int .i64 y] 25 (0, 0)) := (by have := bk_new (((w.alloc (.cells #[.int .u8 2, .int .i64 W, .int .i64 H, .int .u8 t, .int .i64 s] 23)).alloc (.cells #[.int .i64 x, .int .i64 y] 25)).alloc (.cells #[.int .i64 0, .int .i64 0] 25)) (.cells #[.int .i64 x, .int .i64 y] 25); simpa only [World.size_alloc] using this)
  have hBw : Below w.heap.size w ((((w.alloc (.cells #[.int .u8 2, .int .i64 W, .int .i64 H, .int .u8 t, .int .i64 s] 23)).alloc (.cells #[.int .i64 x, .int .i64 y] 25)).alloc (.cells #[.int .i64 0, .int .i64 0] 25)).alloc (.cells #[.int .i64 x, .int .i64 y] 25)) := (((boxed _ _).alloc (by simp) _).alloc (by simp; try omega) _).alloc (by simp; try omega) _
  go_enter Try.func16, Try.ntmps16
  go_wp2_with (first | fail)
  generalize hW0 : ((((w.alloc (.cells #[.int .u8 2, .int .i64 W, .int .i64 H, .int .u8 t, .int .i64 s] 23)).alloc (.cells #[.int .i64 x, .int .i64 y] 25)).alloc (.cells #[.int .i64 0, .int .i64 0] 25)).alloc (.cells #[.int .i64 x, .int .i64 y] 25)) = W0 at *
  clear hW0
  have hB := same W0
  have KP0 := KP
  have KR0 := KR
  have KS0 := KS
  have HP := Lib.hid (pts_one KS); clear KS0
  refine (of_pts _ _ _ _ _ _ _ 1 _ [(x, y)] _ t0 h.out rfl (by decide) HP.out).mono ?_
  rintro e w1 ⟨rfl, hb1⟩; replace hB := next hB hb1; replace KP := bk_below KP hb1; have hcKP := bk_cell KP; have hfKP := bk_free KP; have hlKP := bk_lt KP; replace KR := bk_below KR hb1; have hcKR := bk_cell KR; have hfKR := bk_free KR; have hlKR := bk_lt KR; rw [HA.out]; simp only [↓reduceIte]
  go_wp2_with (first | fail)
  rw [HL.out, HQ.out]
  refine (home_calls _ _ _ _ _ _ _ _ _ _ fw1 fw2 fh1 fh2 x1 x2 y1 y2).mono ?_
  rintro e w2 ⟨rfl, hb1⟩; rw [EU.out, EV.out]; have KG := bk_below (bk_new _ _) hb1; have hcG := bk_cell KG; have hlG := bk_lt KG; replace hB := next hB (box hb1); replace KP := bk_below KP (box hb1); have hcKP := bk_cell KP; have hfKP := bk_free KP; have hlKP := bk_lt KP; replace KR := bk_below KR (box hb1); have hcKR := bk_cell KR; have hfKR := bk_free KR; have hlKR := bk_lt KR
  have hW1 : W ≤ 0 ∨ (0 < W ∧ -1 ≤ x - l ∧ x - l ≤ W) := by have := HW.out.1; omega
  have hH1 : H ≤ 0 ∨ (0 < H ∧ -1 ≤ y - q ∧ y - q ≤ H) := by have := HW.out.2; omega
  rcases hW1 with hW1 | ⟨c1, hw1, hw2⟩ <;> rcases hH1 with hH1 | ⟨c2, hw3, hw4⟩
  all_goals
    go_wp2_with (first | fail)
    have hB2 := hB; have KGS := KG; have KRS := KR
    go_region_held3 (fun w' => w'.cell? ⟨w1.heap.size, 0, none⟩ = some (.int .u8 2) ∧ w'.cell? ⟨w1.heap.size, 1, none⟩ = some (.int .i64 W) ∧ w'.cell? ⟨w1.heap.size, 2, none⟩ = some (.int .i64 H) ∧ w'.cell? ⟨w1.heap.size, 3, none⟩ = some (.int .u8 t) ∧ w'.cell? ⟨w1.heap.size, 4, none⟩ = some (.int .i64 s) ∧ w'.cell? ⟨w1.heap.size, 5, none⟩ = some (.int .i64 l) ∧ w'.cell? ⟨w1.heap.size, 6, none⟩ = some (.int .i64 q) ∧ Below w2.heap.size w2 w')
      (first | exact keep7 KGS (Below.drew (same w2)) | exact keep7n KGS (by assumption) hb1)
      (first | (go_at_call 49; ((with_reducible refine (way_calls 2 _ (by decide) (by decide)).mono ?_); rintro e wa ⟨rfl, hb1⟩; dsimp only [wayF]; simp only [Int.reduceEq, ↓reduceIte])) | (go_at_call 79; ((with_reducible refine (torus_calls _ _ _ _ _ _ _ _ _ ok (by omega) (by omega) (by omega) (by omega)).mono ?_); rintro e wb ⟨rfl, hb1⟩; rw [HX.out, HY.out])))
    rename_i hH
    replace hB := hB2.trans (hH.2.2.2.2.2.2.2.mono hB2.size)
    have hB3 := hH.2.2.2.2.2.2.2
    clear hH
    replace KG := bk_below KGS hB3; replace KR := bk_below KRS hB3; have hcG := bk_cell KG; have hcKR := bk_cell KR; have hfKR := bk_free KR
    go_wp2_with (first | (go_at_call 50; ((with_reducible refine (place_calls _ _ _ _ _ _ _ _ _ _ fw1 fw2 fh1 fh2 (by omega) (by omega) (by omega) (by omega)).mono ?_); rintro e w5 ⟨rfl, hb1⟩; replace hB := next hB hb1; replace KR := bk_below KR hb1; have hcKR := bk_cell KR; have hfKR := bk_free KR; rw [PU.out, PV.out])))
    refine end_ctt (w.heap.size + 1 + 1) 25 rfl rfl rfl Try.underlying25 rfl ?_
    apply Exists.intro
    refine ⟨(by repeat (with_reducible (first | exact KR | apply bk_set | refine bk_drew ?_ | refine bk_drewN ?_ _ | refine bk_alloc ?_ _ | refine bk_far ?_ (by simp; try omega) _))), by kernel_rfl, ?_⟩
    exact Ret.of rfl (by repeat (with_reducible (first | exact hBw.trans (hB.mono hBw.size) | refine Below.setCell ?_ (by have h1_ := hBw.size; have h2_ := hB.size; (try simp) <;> omega) _ | refine Below.drew ?_ | refine Below.alloc ?_ (by have h1_ := hBw.size; have h2_ := hB.size; (try simp) <;> omega) _)))

set_option maxHeartbeats 4000000 in
theorem Ring_klein_in (W H t s x y : Int) (w : World) (t0 : 0 ≤ t) (h : checkE 3 W H t s = 0) (hn : (nearI x && nearI y) = true) (hr : (ringI (x - first W) W && ringI (y - first H) H) = true) :
    Calls Try.prog 16 #[topoV 3 W H t s, pt x y] w (Ret (.tuple #[pt (cellU 3 W H t s (x - first W) (y - first H) + first W) (cellV 3 W H t s (x - first W) (y - first H) + first H), .bool true, .int .i64 0]) w) := by
  have ok := topoOk t0 h
  have w0 := ok.w0; have w3 := ok.w1; have h0 := ok.h0; have h3 := ok.h1
  have h := Lib.hid h
  have HA : Hid ([(x, y)].all nearP = true) := by show [(x, y)].all nearP = true; simpa [nearP] using hn
  simp only [Bool.and_eq_true] at hn
  obtain ⟨x1, x2⟩ := nearI_iff.1 hn.1
  obtain ⟨y1, y2⟩ := nearI_iff.1 hn.2
  clear hn
  obtain ⟨fw1, fw2⟩ := first_bounds W w0 w3
  obtain ⟨fh1, fh2⟩ := first_bounds H h0 h3
  have EU := Lib.hid (gluedU (x := x) w0); have EV := Lib.hid (gluedU (x := y) h0)
  obtain ⟨cu1, cu2⟩ := cellU_bounds (u := x - first W) (v := y - first H) ok (by omega) (by omega)
  obtain ⟨cv1, cv2⟩ := cellV_bounds (u := x - first W) (v := y - first H) ok (by omega) (by omega)
  obtain ⟨X, hX⟩ : ∃ X, cellU 3 W H t s (x - first W) (y - first H) = X := ⟨_, rfl⟩
  obtain ⟨Y, hY⟩ : ∃ Y, cellV 3 W H t s (x - first W) (y - first H) = Y := ⟨_, rfl⟩
  rw [hX] at cu1 cu2 ⊢
  rw [hY] at cv1 cv2 ⊢
  have PU := Lib.hid (placeU (x := X) w0); have PV := Lib.hid (placeU (x := Y) h0)
  have hr' := hr
  simp only [ringI, Bool.and_eq_true, decide_eq_true_eq] at hr'
  clear hr
  obtain ⟨l, hl⟩ : ∃ l, first W = l := ⟨_, rfl⟩
  obtain ⟨q, hq⟩ : ∃ q, first H = q := ⟨_, rfl⟩
  rw [hl] at fw1 fw2 EU PU hX hY hr' ⊢
  rw [hq] at fh1 fh2 EV PV hX hY hr' ⊢
  have HX := Lib.hid hX; have HY := Lib.hid hY; clear hX hY
  have HL := Lib.hid hl; have HQ := Lib.hid hq; clear hl hq
  have HW : Hid ((0 < W → -1 ≤ x - l ∧ x - l ≤ W) ∧ (0 < H → -1 ≤ y - q ∧ y - q ≤ H)) := by show (_ ∧ _); omega
  clear hr'
  have KP : ((((w.alloc (.cells #[.int .u8 3, .int .i64 W, .int .i64 H, .int .u8 t, .int .i64 s] 23)).alloc (.cells #[.int .i64 x, .int .i64 y] 25)).alloc (.cells #[.int .i64 0, .int .i64 0] 25)).alloc (.cells #[.int .i64 x, .int .i64 y] 25)).heap[w.heap.size + 1]? = some (.cells #[.int .i64 x, .int .i64 y] 25 (0, 0)) := (bk_alloc (bk_alloc (by have := bk_new (w.alloc (.cells #[.int .u8 3, .int .i64 W, .int .i64 H, .int .u8 t, .int .i64 s] 23)) (.cells #[.int .i64 x, .int .i64 y] 25); simpa only [World.size_alloc] using this) _) _)
  have KR : ((((w.alloc (.cells #[.int .u8 3, .int .i64 W, .int .i64 H, .int .u8 t, .int .i64 s] 23)).alloc (.cells #[.int .i64 x, .int .i64 y] 25)).alloc (.cells #[.int .i64 0, .int .i64 0] 25)).alloc (.cells #[.int .i64 x, .int .i64 y] 25)).heap[w.heap.size + 1 + 1]? = some (.cells #[.int .i64 0, .int .i64 0] 25 (0, 0)) := (bk_alloc (by have := bk_new ((w.alloc (.cells #[.int .u8 3, .int .i64 W, .int .i64 H, .int .u8 t, .int .i64 s] 23)).alloc (.cells #[.int .i64 x, .int .i64 y] 25)) (.cells #[.int .i64 0, .int .i64 0] 25); simpa only [World.size_alloc] using this) _)
  have KS : ((((w.alloc (.cells #[.int .u8 3, .int .i64 W, .int .i64 H, .int .u8 t, .int .i64 s] 23)).alloc (.cells #[.int .i64 x, .int .i64 y] 25)).alloc (.cells #[.int .i64 0, .int .i64 0] 25)).alloc (.cells #[.int .i64 x, .int .i64 y] 25)).heap[w.heap.size + 1 + 1 + 1]? = some (.cells #[.int .i64 x, .int .i64 y] 25 (0, 0)) := (by have := bk_new (((w.alloc (.cells #[.int .u8 3, .int .i64 W, .int .i64 H, .int .u8 t, .int .i64 s] 23)).alloc (.cells #[.int .i64 x, .int .i64 y] 25)).alloc (.cells #[.int .i64 0, .int .i64 0] 25)) (.cells #[.int .i64 x, .int .i64 y] 25); simpa only [World.size_alloc] using this)
  have hBw : Below w.heap.size w ((((w.alloc (.cells #[.int .u8 3, .int .i64 W, .int .i64 H, .int .u8 t, .int .i64 s] 23)).alloc (.cells #[.int .i64 x, .int .i64 y] 25)).alloc (.cells #[.int .i64 0, .int .i64 0] 25)).alloc (.cells #[.int .i64 x, .int .i64 y] 25)) := (((boxed _ _).alloc (by simp) _).alloc (by simp; try omega) _).alloc (by simp; try omega) _
  go_enter Try.func16, Try.ntmps16
  go_wp2_with (first | fail)
  generalize hW0 : ((((w.alloc (.cells #[.int .u8 3, .int .i64 W, .int .i64 H, .int .u8 t, .int .i64 s] 23)).alloc (.cells #[.int .i64 x, .int .i64 y] 25)).alloc (.cells #[.int .i64 0, .int .i64 0] 25)).alloc (.cells #[.int .i64 x, .int .i64 y] 25)) = W0 at *
  clear hW0
  have hB := same W0
  have KP0 := KP
  have KR0 := KR
  have KS0 := KS
  have HP := Lib.hid (pts_one KS); clear KS0
  refine (of_pts _ _ _ _ _ _ _ 1 _ [(x, y)] _ t0 h.out rfl (by decide) HP.out).mono ?_
  rintro e w1 ⟨rfl, hb1⟩; replace hB := next hB hb1; replace KP := bk_below KP hb1; have hcKP := bk_cell KP; have hfKP := bk_free KP; have hlKP := bk_lt KP; replace KR := bk_below KR hb1; have hcKR := bk_cell KR; have hfKR := bk_free KR; have hlKR := bk_lt KR; rw [HA.out]; simp only [↓reduceIte]
  go_wp2_with (first | fail)
  rw [HL.out, HQ.out]
  refine (home_calls _ _ _ _ _ _ _ _ _ _ fw1 fw2 fh1 fh2 x1 x2 y1 y2).mono ?_
  rintro e w2 ⟨rfl, hb1⟩; rw [EU.out, EV.out]; have KG := bk_below (bk_new _ _) hb1; have hcG := bk_cell KG; have hlG := bk_lt KG; replace hB := next hB (box hb1); replace KP := bk_below KP (box hb1); have hcKP := bk_cell KP; have hfKP := bk_free KP; have hlKP := bk_lt KP; replace KR := bk_below KR (box hb1); have hcKR := bk_cell KR; have hfKR := bk_free KR; have hlKR := bk_lt KR
  have c1 := (ok.ends (by decide)).1; have c2 := (ok.ends (by decide)).2
  obtain ⟨hw1, hw2⟩ := HW.out.1 c1; obtain ⟨hw3, hw4⟩ := HW.out.2 c2
  all_goals
    go_wp2_with (first | fail)
    have hB2 := hB; have KGS := KG; have KRS := KR
    go_region_held3 (fun w' => w'.cell? ⟨w1.heap.size, 0, none⟩ = some (.int .u8 3) ∧ w'.cell? ⟨w1.heap.size, 1, none⟩ = some (.int .i64 W) ∧ w'.cell? ⟨w1.heap.size, 2, none⟩ = some (.int .i64 H) ∧ w'.cell? ⟨w1.heap.size, 3, none⟩ = some (.int .u8 t) ∧ w'.cell? ⟨w1.heap.size, 4, none⟩ = some (.int .i64 s) ∧ w'.cell? ⟨w1.heap.size, 5, none⟩ = some (.int .i64 l) ∧ w'.cell? ⟨w1.heap.size, 6, none⟩ = some (.int .i64 q) ∧ Below w2.heap.size w2 w')
      (first | exact keep7 KGS (Below.drew (same w2)) | exact keep7n KGS (by assumption) hb1)
      (first | (go_at_call 49; ((with_reducible refine (way_calls 3 _ (by decide) (by decide)).mono ?_); rintro e wa ⟨rfl, hb1⟩; dsimp only [wayF]; simp only [Int.reduceEq, ↓reduceIte])) | (go_at_call 80; ((with_reducible refine (klein_calls _ _ _ _ _ _ _ _ _ ok (by omega) (by omega) (by omega) (by omega)).mono ?_); rintro e wb ⟨rfl, hb1⟩; rw [HX.out, HY.out])))
    rename_i hH
    replace hB := hB2.trans (hH.2.2.2.2.2.2.2.mono hB2.size)
    have hB3 := hH.2.2.2.2.2.2.2
    clear hH
    replace KG := bk_below KGS hB3; replace KR := bk_below KRS hB3; have hcG := bk_cell KG; have hcKR := bk_cell KR; have hfKR := bk_free KR
    go_wp2_with (first | (go_at_call 50; ((with_reducible refine (place_calls _ _ _ _ _ _ _ _ _ _ fw1 fw2 fh1 fh2 (by omega) (by omega) (by omega) (by omega)).mono ?_); rintro e w5 ⟨rfl, hb1⟩; replace hB := next hB hb1; replace KR := bk_below KR hb1; have hcKR := bk_cell KR; have hfKR := bk_free KR; rw [PU.out, PV.out])))
    refine end_ctt (w.heap.size + 1 + 1) 25 rfl rfl rfl Try.underlying25 rfl ?_
    apply Exists.intro
    refine ⟨(by repeat (with_reducible (first | exact KR | apply bk_set | refine bk_drew ?_ | refine bk_drewN ?_ _ | refine bk_alloc ?_ _ | refine bk_far ?_ (by simp; try omega) _))), by kernel_rfl, ?_⟩
    exact Ret.of rfl (by repeat (with_reducible (first | exact hBw.trans (hB.mono hBw.size) | refine Below.setCell ?_ (by have h1_ := hBw.size; have h2_ := hB.size; (try simp) <;> omega) _ | refine Below.drew ?_ | refine Below.alloc ?_ (by have h1_ := hBw.size; have h2_ := hB.size; (try simp) <;> omega) _)))

end Go.Proofs.Ytfdehecekghlmaa


set_option linter.unusedVariables false
set_option linter.unusedSimpArgs false
namespace Go.Proofs.Ytfdehecekghlmaa
open Go.RowKit Go.Viv

set_option maxHeartbeats 4000000 in
theorem Ring_cross_in (W H t s x y : Int) (w : World) (t0 : 0 ≤ t) (h : checkE 4 W H t s = 0) (hn : (nearI x && nearI y) = true) (hr : (ringI (x - first W) W && ringI (y - first H) H) = true) :
    Calls Try.prog 16 #[topoV 4 W H t s, pt x y] w (Ret (.tuple #[pt (cellU 4 W H t s (x - first W) (y - first H) + first W) (cellV 4 W H t s (x - first W) (y - first H) + first H), .bool true, .int .i64 0]) w) := by
  have ok := topoOk t0 h
  have w0 := ok.w0; have w3 := ok.w1; have h0 := ok.h0; have h3 := ok.h1
  have h := Lib.hid h
  have HA : Hid ([(x, y)].all nearP = true) := by show [(x, y)].all nearP = true; simpa [nearP] using hn
  simp only [Bool.and_eq_true] at hn
  obtain ⟨x1, x2⟩ := nearI_iff.1 hn.1
  obtain ⟨y1, y2⟩ := nearI_iff.1 hn.2
  clear hn
  obtain ⟨fw1, fw2⟩ := first_bounds W w0 w3
  obtain ⟨fh1, fh2⟩ := first_bounds H h0 h3
  have EU := Lib.hid (gluedU (x := x) w0); have EV := Lib.hid (gluedU (x := y) h0)
  obtain ⟨cu1, cu2⟩ := cellU_bounds (u := x - first W) (v := y - first H) ok (by omega) (by omega)
  obtain ⟨cv1, cv2⟩ := cellV_bounds (u := x - first W) (v := y - first H) ok (by omega) (by omega)
  obtain ⟨X, hX⟩ : ∃ X, cellU 4 W H t s (x - first W) (y - first H) = X := ⟨_, rfl⟩
  obtain ⟨Y, hY⟩ : ∃ Y, cellV 4 W H t s (x - first W) (y - first H) = Y := ⟨_, rfl⟩
  rw [hX] at cu1 cu2 ⊢
  rw [hY] at cv1 cv2 ⊢
  have PU := Lib.hid (placeU (x := X) w0); have PV := Lib.hid (placeU (x := Y) h0)
  have hr' := hr
  simp only [ringI, Bool.and_eq_true, decide_eq_true_eq] at hr'
  clear hr
  obtain ⟨l, hl⟩ : ∃ l, first W = l := ⟨_, rfl⟩
  obtain ⟨q, hq⟩ : ∃ q, first H = q := ⟨_, rfl⟩
  rw [hl] at fw1 fw2 EU PU hX hY hr' ⊢
  rw [hq] at fh1 fh2 EV PV hX hY hr' ⊢
  have HX := Lib.hid hX; have HY := Lib.hid hY; clear hX hY
  have HL := Lib.hid hl; have HQ := Lib.hid hq; clear hl hq
  have HW : Hid ((0 < W → -1 ≤ x - l ∧ x - l ≤ W) ∧ (0 < H → -1 ≤ y - q ∧ y - q ≤ H)) := by show (_ ∧ _); omega
  clear hr'
  have KP : ((((w.alloc (.cells #[.int .u8 4, .int .i64 W, .int .i64 H, .int .u8 t, .int .i64 s] 23)).alloc (.cells #[.int .i64 x, .int .i64 y] 25)).alloc (.cells #[.int .i64 0, .int .i64 0] 25)).alloc (.cells #[.int .i64 x, .int .i64 y] 25)).heap[w.heap.size + 1]? = some (.cells #[.int .i64 x, .int .i64 y] 25 (0, 0)) := (bk_alloc (bk_alloc (by have := bk_new (w.alloc (.cells #[.int .u8 4, .int .i64 W, .int .i64 H, .int .u8 t, .int .i64 s] 23)) (.cells #[.int .i64 x, .int .i64 y] 25); simpa only [World.size_alloc] using this) _) _)
  have KR : ((((w.alloc (.cells #[.int .u8 4, .int .i64 W, .int .i64 H, .int .u8 t, .int .i64 s] 23)).alloc (.cells #[.int .i64 x, .int .i64 y] 25)).alloc (.cells #[.int .i64 0, .int .i64 0] 25)).alloc (.cells #[.int .i64 x, .int .i64 y] 25)).heap[w.heap.size + 1 + 1]? = some (.cells #[.int .i64 0, .int .i64 0] 25 (0, 0)) := (bk_alloc (by have := bk_new ((w.alloc (.cells #[.int .u8 4, .int .i64 W, .int .i64 H, .int .u8 t, .int .i64 s] 23)).alloc (.cells #[.int .i64 x, .int .i64 y] 25)) (.cells #[.int .i64 0, .int .i64 0] 25); simpa only [World.size_alloc] using this) _)
  have KS : ((((w.alloc (.cells #[.int .u8 4, .int .i64 W, .int .i64 H, .int .u8 t, .int .i64 s] 23)).alloc (.cells #[.int .i64 x, .int .i64 y] 25)).alloc (.cells #[.int .i64 0, .int .i64 0] 25)).alloc (.cells #[.int .i64 x, .int .i64 y] 25)).heap[w.heap.size + 1 + 1 + 1]? = some (.cells #[.int .i64 x, .int .i64 y] 25 (0, 0)) := (by have := bk_new (((w.alloc (.cells #[.int .u8 4, .int .i64 W, .int .i64 H, .int .u8 t, .int .i64 s] 23)).alloc (.cells #[.int .i64 x, .int .i64 y] 25)).alloc (.cells #[.int .i64 0, .int .i64 0] 25)) (.cells #[.int .i64 x, .int .i64 y] 25); simpa only [World.size_alloc] using this)
  have hBw : Below w.heap.size w ((((w.alloc (.cells #[.int .u8 4, .int .i64 W, .int .i64 H, .int .u8 t, .int .i64 s] 23)).alloc (.cells #[.int .i64 x, .int .i64 y] 25)).alloc (.cells #[.int .i64 0, .int .i64 0] 25)).alloc (.cells #[.int .i64 x, .int .i64 y] 25)) := (((boxed _ _).alloc (by simp) _).alloc (by simp; try omega) _).alloc (by simp; try omega) _
  go_enter Try.func16, Try.ntmps16
  go_wp2_with (first | fail)
  generalize hW0 : ((((w.alloc (.cells #[.int .u8 4, .int .i64 W, .int .i64 H, .int .u8 t, .int .i64 s] 23)).alloc (.cells #[.int .i64 x, .int .i64 y] 25)).alloc (.cells #[.int .i64 0, .int .i64 0] 25)).alloc (.cells #[.int .i64 x, .int .i64 y] 25)) = W0 at *
  clear hW0
  have hB := same W0
  have KP0 := KP
  have KR0 := KR
  have KS0 := KS
  have HP := Lib.hid (pts_one KS); clear KS0
  refine (of_pts _ _ _ _ _ _ _ 1 _ [(x, y)] _ t0 h.out rfl (by decide) HP.out).mono ?_
  rintro e w1 ⟨rfl, hb1⟩; replace hB := next hB hb1; replace KP := bk_below KP hb1; have hcKP := bk_cell KP; have hfKP := bk_free KP; have hlKP := bk_lt KP; replace KR := bk_below KR hb1; have hcKR := bk_cell KR; have hfKR := bk_free KR; have hlKR := bk_lt KR; rw [HA.out]; simp only [↓reduceIte]
  go_wp2_with (first | fail)
  rw [HL.out, HQ.out]
  refine (home_calls _ _ _ _ _ _ _ _ _ _ fw1 fw2 fh1 fh2 x1 x2 y1 y2).mono ?_
  rintro e w2 ⟨rfl, hb1⟩; rw [EU.out, EV.out]; have KG := bk_below (bk_new _ _) hb1; have hcG := bk_cell KG; have hlG := bk_lt KG; replace hB := next hB (box hb1); replace KP := bk_below KP (box hb1); have hcKP := bk_cell KP; have hfKP := bk_free KP; have hlKP := bk_lt KP; replace KR := bk_below KR (box hb1); have hcKR := bk_cell KR; have hfKR := bk_free KR; have hlKR := bk_lt KR
  have c1 := (ok.ends (by decide)).1; have c2 := (ok.ends (by decide)).2
  obtain ⟨hw1, hw2⟩ := HW.out.1 c1; obtain ⟨hw3, hw4⟩ := HW.out.2 c2
  all_goals
    go_wp2_with (first | fail)
    have hB2 := hB; have KGS := KG; have KRS := KR
    go_region_held3 (fun w' => w'.cell? ⟨w1.heap.size, 0, none⟩ = some (.int .u8 4) ∧ w'.cell? ⟨w1.heap.size, 1, none⟩ = some (.int .i64 W) ∧ w'.cell? ⟨w1.heap.size, 2, none⟩ = some (.int .i64 H) ∧ w'.cell? ⟨w1.heap.size, 3, none⟩ = some (.int .u8 t) ∧ w'.cell? ⟨w1.heap.size, 4, none⟩ = some (.int .i64 s) ∧ w'.cell? ⟨w1.heap.size, 5, none⟩ = some (.int .i64 l) ∧ w'.cell? ⟨w1.heap.size, 6, none⟩ = some (.int .i64 q) ∧ Below w2.heap.size w2 w')
      (first | exact keep7 KGS (Below.drew (same w2)) | exact keep7n KGS (by assumption) hb1)
      (first | (go_at_call 49; ((with_reducible refine (way_calls 4 _ (by decide) (by decide)).mono ?_); rintro e wa ⟨rfl, hb1⟩; dsimp only [wayF]; simp only [Int.reduceEq, ↓reduceIte])) | (go_at_call 81; ((with_reducible refine (cross_calls _ _ _ _ _ _ _ _ _ ok (by omega) (by omega) (by omega) (by omega)).mono ?_); rintro e wb ⟨rfl, hb1⟩; rw [HX.out, HY.out])))
    rename_i hH
    replace hB := hB2.trans (hH.2.2.2.2.2.2.2.mono hB2.size)
    have hB3 := hH.2.2.2.2.2.2.2
    clear hH
    replace KG := bk_below KGS hB3; replace KR := bk_below KRS hB3; have hcG := bk_cell KG; have hcKR := bk_cell KR; have hfKR := bk_free KR
    go_wp2_with (first | (go_at_call 50; ((with_reducible refine (place_calls _ _ _ _ _ _ _ _ _ _ fw1 fw2 fh1 fh2 (by omega) (by omega) (by omega) (by omega)).mono ?_); rintro e w5 ⟨rfl, hb1⟩; replace hB := next hB hb1; replace KR := bk_below KR hb1; have hcKR := bk_cell KR; have hfKR := bk_free KR; rw [PU.out, PV.out])))
    refine end_ctt (w.heap.size + 1 + 1) 25 rfl rfl rfl Try.underlying25 rfl ?_
    apply Exists.intro
    refine ⟨(by repeat (with_reducible (first | exact KR | apply bk_set | refine bk_drew ?_ | refine bk_drewN ?_ _ | refine bk_alloc ?_ _ | refine bk_far ?_ (by simp; try omega) _))), by kernel_rfl, ?_⟩
    exact Ret.of rfl (by repeat (with_reducible (first | exact hBw.trans (hB.mono hBw.size) | refine Below.setCell ?_ (by have h1_ := hBw.size; have h2_ := hB.size; (try simp) <;> omega) _ | refine Below.drew ?_ | refine Below.alloc ?_ (by have h1_ := hBw.size; have h2_ := hB.size; (try simp) <;> omega) _)))

set_option maxHeartbeats 4000000 in
theorem Ring_sphere_in (W H t s x y : Int) (w : World) (t0 : 0 ≤ t) (h : checkE 5 W H t s = 0) (hn : (nearI x && nearI y) = true) (hr : (ringI (x - first W) W && ringI (y - first H) H) = true) :
    Calls Try.prog 16 #[topoV 5 W H t s, pt x y] w (Ret (.tuple #[pt (ballU W (x - first W) (y - first H) + first W) (ballV W (x - first W) (y - first H) + first H), .bool true, .int .i64 0]) w) := by
  have ok := topoOk t0 h
  have w0 := ok.w0; have w3 := ok.w1; have h0 := ok.h0; have h3 := ok.h1
  have h := Lib.hid h
  have HA : Hid ([(x, y)].all nearP = true) := by show [(x, y)].all nearP = true; simpa [nearP] using hn
  simp only [Bool.and_eq_true] at hn
  obtain ⟨x1, x2⟩ := nearI_iff.1 hn.1
  obtain ⟨y1, y2⟩ := nearI_iff.1 hn.2
  clear hn
  obtain ⟨fw1, fw2⟩ := first_bounds W w0 w3
  obtain ⟨fh1, fh2⟩ := first_bounds H h0 h3
  have EU := Lib.hid (gluedU (x := x) w0); have EV := Lib.hid (gluedU (x := y) h0)
  have hs1 : 1 ≤ W := (ok.ends (by decide)).1
  have hsq := ok.sphere rfl
  have hr1 : -1 ≤ x - first W ∧ x - first W ≤ W := by simp only [ringI, Bool.and_eq_true, decide_eq_true_eq] at hr; omega
  have hr2 : -1 ≤ y - first H ∧ y - first H ≤ W := by simp only [ringI, Bool.and_eq_true, decide_eq_true_eq] at hr; omega
  have HSQ := Lib.hid hsq
  clear hsq
  have cu : (0 ≤ ballU W (x - first W) (y - first H) ∧ ballU W (x - first W) (y - first H) < W) ∧ (0 ≤ ballV W (x - first W) (y - first H) ∧ ballV W (x - first W) (y - first H) < W) := ball_bounds hs1 hr1.1 hr1.2 hr2.1 hr2.2
  obtain ⟨X, hX⟩ : ∃ X, ballU W (x - first W) (y - first H) = X := ⟨_, rfl⟩
  obtain ⟨Y, hY⟩ : ∃ Y, ballV W (x - first W) (y - first H) = Y := ⟨_, rfl⟩
  rw [hX] at cu ⊢
  rw [hY] at cu ⊢
  obtain ⟨⟨cu1, cu2⟩, cv1, cv2⟩ := cu
  have PU := Lib.hid (placeU (x := X) w0); have PV := Lib.hid (placeU (x := Y) h0)
  have hr' := hr
  simp only [ringI, Bool.and_eq_true, decide_eq_true_eq] at hr'
  clear hr
  obtain ⟨l, hl⟩ : ∃ l, first W = l := ⟨_, rfl⟩
  obtain ⟨q, hq⟩ : ∃ q, first H = q := ⟨_, rfl⟩
  rw [hl] at fw1 fw2 EU PU hX hY hr' hr1 ⊢
  rw [hq] at fh1 fh2 EV PV hX hY hr' hr2 ⊢
  have HX := Lib.hid hX; have HY := Lib.hid hY; clear hX hY
  have HL := Lib.hid hl; have HQ := Lib.hid hq; clear hl hq
  have HW : Hid ((0 < W → -1 ≤ x - l ∧ x - l ≤ W) ∧ (0 < H → -1 ≤ y - q ∧ y - q ≤ H)) := by show (_ ∧ _); omega
  clear hr'
  have KP : ((((w.alloc (.cells #[.int .u8 5, .int .i64 W, .int .i64 H, .int .u8 t, .int .i64 s] 23)).alloc (.cells #[.int .i64 x, .int .i64 y] 25)).alloc (.cells #[.int .i64 0, .int .i64 0] 25)).alloc (.cells #[.int .i64 x, .int .i64 y] 25)).heap[w.heap.size + 1]? = some (.cells #[.int .i64 x, .int .i64 y] 25 (0, 0)) := (bk_alloc (bk_alloc (by have := bk_new (w.alloc (.cells #[.int .u8 5, .int .i64 W, .int .i64 H, .int .u8 t, .int .i64 s] 23)) (.cells #[.int .i64 x, .int .i64 y] 25); simpa only [World.size_alloc] using this) _) _)
  have KR : ((((w.alloc (.cells #[.int .u8 5, .int .i64 W, .int .i64 H, .int .u8 t, .int .i64 s] 23)).alloc (.cells #[.int .i64 x, .int .i64 y] 25)).alloc (.cells #[.int .i64 0, .int .i64 0] 25)).alloc (.cells #[.int .i64 x, .int .i64 y] 25)).heap[w.heap.size + 1 + 1]? = some (.cells #[.int .i64 0, .int .i64 0] 25 (0, 0)) := (bk_alloc (by have := bk_new ((w.alloc (.cells #[.int .u8 5, .int .i64 W, .int .i64 H, .int .u8 t, .int .i64 s] 23)).alloc (.cells #[.int .i64 x, .int .i64 y] 25)) (.cells #[.int .i64 0, .int .i64 0] 25); simpa only [World.size_alloc] using this) _)
  have KS : ((((w.alloc (.cells #[.int .u8 5, .int .i64 W, .int .i64 H, .int .u8 t, .int .i64 s] 23)).alloc (.cells #[.int .i64 x, .int .i64 y] 25)).alloc (.cells #[.int .i64 0, .int .i64 0] 25)).alloc (.cells #[.int .i64 x, .int .i64 y] 25)).heap[w.heap.size + 1 + 1 + 1]? = some (.cells #[.int .i64 x, .int .i64 y] 25 (0, 0)) := (by have := bk_new (((w.alloc (.cells #[.int .u8 5, .int .i64 W, .int .i64 H, .int .u8 t, .int .i64 s] 23)).alloc (.cells #[.int .i64 x, .int .i64 y] 25)).alloc (.cells #[.int .i64 0, .int .i64 0] 25)) (.cells #[.int .i64 x, .int .i64 y] 25); simpa only [World.size_alloc] using this)
  have hBw : Below w.heap.size w ((((w.alloc (.cells #[.int .u8 5, .int .i64 W, .int .i64 H, .int .u8 t, .int .i64 s] 23)).alloc (.cells #[.int .i64 x, .int .i64 y] 25)).alloc (.cells #[.int .i64 0, .int .i64 0] 25)).alloc (.cells #[.int .i64 x, .int .i64 y] 25)) := (((boxed _ _).alloc (by simp) _).alloc (by simp; try omega) _).alloc (by simp; try omega) _
  go_enter Try.func16, Try.ntmps16
  go_wp2_with (first | fail)
  generalize hW0 : ((((w.alloc (.cells #[.int .u8 5, .int .i64 W, .int .i64 H, .int .u8 t, .int .i64 s] 23)).alloc (.cells #[.int .i64 x, .int .i64 y] 25)).alloc (.cells #[.int .i64 0, .int .i64 0] 25)).alloc (.cells #[.int .i64 x, .int .i64 y] 25)) = W0 at *
  clear hW0
  have hB := same W0
  have KP0 := KP
  have KR0 := KR
  have KS0 := KS
  have HP := Lib.hid (pts_one KS); clear KS0
  refine (of_pts _ _ _ _ _ _ _ 1 _ [(x, y)] _ t0 h.out rfl (by decide) HP.out).mono ?_
  rintro e w1 ⟨rfl, hb1⟩; replace hB := next hB hb1; replace KP := bk_below KP hb1; have hcKP := bk_cell KP; have hfKP := bk_free KP; have hlKP := bk_lt KP; replace KR := bk_below KR hb1; have hcKR := bk_cell KR; have hfKR := bk_free KR; have hlKR := bk_lt KR; rw [HA.out]; simp only [↓reduceIte]
  go_wp2_with (first | fail)
  rw [HL.out, HQ.out]
  refine (home_calls _ _ _ _ _ _ _ _ _ _ fw1 fw2 fh1 fh2 x1 x2 y1 y2).mono ?_
  rintro e w2 ⟨rfl, hb1⟩; rw [EU.out, EV.out]; have KG := bk_below (bk_new _ _) hb1; have hcG := bk_cell KG; have hlG := bk_lt KG; replace hB := next hB (box hb1); replace KP := bk_below KP (box hb1); have hcKP := bk_cell KP; have hfKP := bk_free KP; have hlKP := bk_lt KP; replace KR := bk_below KR (box hb1); have hcKR := bk_cell KR; have hfKR := bk_free KR; have hlKR := bk_lt KR
  have c1 := (ok.ends (by decide)).1; have c2 := (ok.ends (by decide)).2
  obtain ⟨hw1, hw2⟩ := HW.out.1 c1; obtain ⟨hw3, hw4⟩ := HW.out.2 c2
  all_goals
    go_wp2_with (first | fail)
    have hB2 := hB; have KGS := KG; have KRS := KR
    go_region_held3 (fun w' => w'.cell? ⟨w1.heap.size, 0, none⟩ = some (.int .u8 5) ∧ w'.cell? ⟨w1.heap.size, 1, none⟩ = some (.int .i64 W) ∧ w'.cell? ⟨w1.heap.size, 2, none⟩ = some (.int .i64 H) ∧ w'.cell? ⟨w1.heap.size, 3, none⟩ = some (.int .u8 t) ∧ w'.cell? ⟨w1.heap.size, 4, none⟩ = some (.int .i64 s) ∧ w'.cell? ⟨w1.heap.size, 5, none⟩ = some (.int .i64 l) ∧ w'.cell? ⟨w1.heap.size, 6, none⟩ = some (.int .i64 q) ∧ Below w2.heap.size w2 w')
      (first | exact keep7 KGS (Below.drew (same w2)) | exact keep7n KGS (by assumption) hb1)
      (first | (go_at_call 49; ((with_reducible refine (way_calls 5 _ (by decide) (by decide)).mono ?_); rintro e wa ⟨rfl, hb1⟩; dsimp only [wayF]; simp only [Int.reduceEq, ↓reduceIte])) | (go_at_call 82; ((with_reducible refine (sphere_calls _ _ _ _ _ _ _ _ _ hs1 w3 hr1.1 hr1.2 hr2.1 hr2.2).mono ?_); rintro e wb ⟨rfl, hb1⟩; rw [HX.out, HY.out])))
    rename_i hH
    replace hB := hB2.trans (hH.2.2.2.2.2.2.2.mono hB2.size)
    have hB3 := hH.2.2.2.2.2.2.2
    clear hH
    replace KG := bk_below KGS hB3; replace KR := bk_below KRS hB3; have hcG := bk_cell KG; have hcKR := bk_cell KR; have hfKR := bk_free KR
    go_wp2_with (first | (go_at_call 50; ((with_reducible refine (place_calls _ _ _ _ _ _ _ _ _ _ fw1 fw2 fh1 fh2 (by omega) (by omega) (by omega) (by omega)).mono ?_); rintro e w5 ⟨rfl, hb1⟩; replace hB := next hB hb1; replace KR := bk_below KR hb1; have hcKR := bk_cell KR; have hfKR := bk_free KR; rw [PU.out, PV.out])))
    refine end_ctt (w.heap.size + 1 + 1) 25 rfl rfl rfl Try.underlying25 rfl ?_
    apply Exists.intro
    refine ⟨(by repeat (with_reducible (first | exact KR | apply bk_set | refine bk_drew ?_ | refine bk_drewN ?_ _ | refine bk_alloc ?_ _ | refine bk_far ?_ (by simp; try omega) _))), by kernel_rfl, ?_⟩
    exact Ret.of rfl (by repeat (with_reducible (first | exact hBw.trans (hB.mono hBw.size) | refine Below.setCell ?_ (by have h1_ := hBw.size; have h2_ := hB.size; (try simp) <;> omega) _ | refine Below.drew ?_ | refine Below.alloc ?_ (by have h1_ := hBw.size; have h2_ := hB.size; (try simp) <;> omega) _)))

end Go.Proofs.Ytfdehecekghlmaa


set_option linter.unusedVariables false
set_option linter.unusedSimpArgs false
namespace Go.Proofs.Ytfdehecekghlmaa
open Go.RowKit Go.Viv

theorem Ring_calls (k W H t s x y : Int) (w : World) (t0 : 0 ≤ t) :
    Calls Try.prog 16 #[topoV k W H t s, pt x y] w (Ret (.tuple #[pt (ringX k W H t s x y) (ringY k W H t s x y), .bool (ringB k W H t s x y), .int .i64 (ringE k W H t s x y)]) w) := by
  have no : ∀ e : Int, ringE k W H t s x y = e → e ≠ 0 → ringB k W H t s x y = false ∧ ringX k W H t s x y = 0 ∧ ringY k W H t s x y = 0 := by
    intro e he h0
    have hb : ringB k W H t s x y = false := by unfold ringB; rw [he]; simp [h0]
    exact ⟨hb, by unfold ringX; rw [if_pos hb], by unfold ringY; rw [if_pos hb]⟩
  by_cases h : checkE k W H t s = 0
  · cases hn : (nearI x && nearI y) with
    | false =>
      have e : ringE k W H t s x y = 5 := by unfold ringE; rw [if_neg (by simp [h]), if_pos hn]
      obtain ⟨e1, e2, e3⟩ := no 5 e (by decide)
      rw [e, e1, e2, e3]
      exact Ring_far k W H t s x y w t0 h hn
    | true =>
      cases hr : (ringI (x - first W) W && ringI (y - first H) H) with
      | false =>
        have e : ringE k W H t s x y = 60 := by unfold ringE; rw [if_neg (by simp [h]), if_neg (by simp [hn]), if_neg (by simp [hr])]
        obtain ⟨e1, e2, e3⟩ := no 60 e (by decide)
        rw [e, e1, e2, e3]
        exact Ring_out k W H t s x y w t0 h hn hr
      | true =>
        have ok := topoOk t0 h
        have k1 := ok.k1; have k5 := ok.k5
        have e : ringE k W H t s x y = 0 := by unfold ringE; rw [if_neg (by simp [h]), if_neg (by simp [hn]), if_pos hr]
        by_cases hk1 : k = 1
        · subst hk1
          cases ho : (onI (x - first W) W && onI (y - first H) H) with
          | true =>
            have hb : ringB 1 W H t s x y = true := by unfold ringB; rw [e, ho]; rfl
            rw [e, hb, show ringX 1 W H t s x y = x by unfold ringX; rw [if_neg (by simp [hb]), if_neg (by decide), if_neg (by decide)], show ringY 1 W H t s x y = y by unfold ringY; rw [if_neg (by simp [hb]), if_neg (by decide), if_neg (by decide)]]
            exact Ring_flat_in W H t s x y w t0 h hn hr ho
          | false =>
            have hb : ringB 1 W H t s x y = false := by unfold ringB; rw [ho]; simp
            rw [e, hb, show ringX 1 W H t s x y = 0 by unfold ringX; rw [if_pos hb], show ringY 1 W H t s x y = 0 by unfold ringY; rw [if_pos hb]]
            exact Ring_flat_no W H t s x y w t0 h hn hr ho
        · have hb : ringB k W H t s x y = true := by unfold ringB; rw [e]; simp [hk1]
          by_cases hk5 : k = 5
          · subst hk5
            rw [e, hb, show ringX 5 W H t s x y = ballU W (x - first W) (y - first H) + first W by unfold ringX; rw [if_neg (by simp [hb]), if_neg (by decide), if_pos rfl], show ringY 5 W H t s x y = ballV W (x - first W) (y - first H) + first H by unfold ringY; rw [if_neg (by simp [hb]), if_neg (by decide), if_pos rfl]]
            exact Ring_sphere_in W H t s x y w t0 h hn hr
          · have hg : gluedI k = true := by unfold gluedI; simp; omega
            rw [e, hb, show ringX k W H t s x y = cellU k W H t s (x - first W) (y - first H) + first W by unfold ringX; rw [if_neg (by simp [hb]), if_pos hg], show ringY k W H t s x y = cellV k W H t s (x - first W) (y - first H) + first H by unfold ringY; rw [if_neg (by simp [hb]), if_pos hg]]
            have : k = 2 ∨ k = 3 ∨ k = 4 := by omega
            rcases this with rfl | rfl | rfl
            · exact Ring_torus_in W H t s x y w t0 h hn hr
            · exact Ring_klein_in W H t s x y w t0 h hn hr
            · exact Ring_cross_in W H t s x y w t0 h hn hr
  · have e : ringE k W H t s x y = 9 := by unfold ringE; rw [if_pos h]
    obtain ⟨e1, e2, e3⟩ := no 9 e (by decide)
    rw [e, e1, e2, e3]
    exact Ring_bad k W H t s x y w t0 h

end Go.Proofs.Ytfdehecekghlmaa
