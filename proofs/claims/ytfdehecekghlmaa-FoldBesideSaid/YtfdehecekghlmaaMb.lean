/- The walks of fold's calls, on: the grid of a topology, a kind's way, a place's cell. The walks of fold's calls, on: the cell of a place, of a plane or a sphere. The walks of fold's calls, on: the grid of a topology, if the places may be. The walks of fold's calls, on: Cell. The walks of fold's calls, on: Same. -/
import Derived.Test.YtfdehecekghlmaaMa
import Derived.Laws.EntriesVeiled

set_option linter.unusedVariables false
set_option linter.unusedSimpArgs false
namespace Go.Proofs.Ytfdehecekghlmaa
open Go.RowKit Go.Viv

def wayF (k : Int) : Value := .func (.func (if k = 1 then 78 else if k = 2 then 79 else if k = 3 then 80 else if k = 4 then 81 else 82)) #[] #[]

set_option maxHeartbeats 1000000 in
theorem way_calls (k : Int) (w : World) (h1 : 1 ≤ k) (h5 : k ≤ 5) : Calls Try.prog 49 #[.int .u8 k] w (Ret (wayF k) w) := by
  have : k = 1 ∨ k = 2 ∨ k = 3 ∨ k = 4 ∨ k = 5 := by omega
  rcases this with rfl | rfl | rfl | rfl | rfl
  all_goals
    clear h1 h5
    go_enter Try.func49, Try.ntmps49
    go_wp2
    go_ret
    exact Ret.of rfl (by repeat (first | exact Below.refl _ _ | exact boxed _ _ | refine Below.drew ?_ | refine Below.setCell ?_ (by simp) _ | refine Below.alloc ?_ (by simp) _))


set_option maxHeartbeats 1000000 in
theorem glued_calls (k W H t s l p : Int) (w : World) (h1 : 1 ≤ k) (h5 : k ≤ 5) : Calls Try.prog 56 #[grid k W H t s l p] w (Ret (.bool (gluedI k)) w) := by
  have : k = 1 ∨ k = 2 ∨ k = 3 ∨ k = 4 ∨ k = 5 := by omega
  rcases this with rfl | rfl | rfl | rfl | rfl
  all_goals
    clear h1 h5
    go_enter Try.func56, Try.ntmps56
    go_wp2
    go_ret
    exact Ret.of rfl (by repeat (first | exact Below.refl _ _ | exact boxed _ _ | refine Below.drew ?_ | refine Below.setCell ?_ (by simp) _ | refine Below.alloc ?_ (by simp) _))

theorem first_bounds (W : Int) (h0 : 0 ≤ W) (h1 : W ≤ 65536) : -65536 ≤ first W ∧ first W ≤ 65536 := by unfold first; omega
theorem first_zero (W : Int) (h : ¬ 0 < W) (h0 : 0 ≤ W) : first W = 0 := by have : W = 0 := by omega
                                                                            subst this; rfl

/-- the ways, of a topology that may be and is glued -/
theorem glued_way (k W H t s l p u v : Int) (w : World) (h : TopoOk k W H t s) (hg : gluedI k = true) (u1 : -2199023255552 ≤ u) (u2 : u ≤ 2199023255552) (v1 : -2199023255552 ≤ v) (v2 : v ≤ 2199023255552) :
    ∃ f, wayF k = .func (.func f) #[] #[] ∧ Calls Try.prog f #[grid k W H t s l p, .int .i64 u, .int .i64 v] w (Ret (.tuple #[.int .i64 (cellU k W H t s u v), .int .i64 (cellV k W H t s u v), .bool true]) w) := by
  have : k = 2 ∨ k = 3 ∨ k = 4 := by unfold gluedI at hg; simp at hg; omega
  rcases this with rfl | rfl | rfl
  · exact ⟨_, rfl, torus_calls W H t s l p u v w h u1 u2 v1 v2⟩
  · exact ⟨_, rfl, klein_calls W H t s l p u v w h u1 u2 v1 v2⟩
  · exact ⟨_, rfl, cross_calls W H t s l p u v w h u1 u2 v1 v2⟩

/-- what the grid's own box holds, and that nothing else has changed -/
def Held7 (W0 : World) (b : Nat) (v0 v1 v2 v3 v4 v5 v6 : Value) (w' : World) : Prop :=
    w'.cell? ⟨b, 0, none⟩ = some v0 ∧ w'.cell? ⟨b, 1, none⟩ = some v1 ∧ w'.cell? ⟨b, 2, none⟩ = some v2 ∧ w'.cell? ⟨b, 3, none⟩ = some v3 ∧ w'.cell? ⟨b, 4, none⟩ = some v4 ∧ w'.cell? ⟨b, 5, none⟩ = some v5 ∧ w'.cell? ⟨b, 6, none⟩ = some v6 ∧ Below W0.heap.size W0 w'
theorem keep7 {W0 w' : World} {b t : Nat} {v0 v1 v2 v3 v4 v5 v6 : Value} (hk : W0.heap[b]? = some (.cells #[v0, v1, v2, v3, v4, v5, v6] t (0, 0))) (hB : Below W0.heap.size W0 w') : Held7 W0 b v0 v1 v2 v3 v4 v5 v6 w' := by
  have h := bk_below hk hB
  exact ⟨(bk_cell h 0).trans rfl, (bk_cell h 1).trans rfl, (bk_cell h 2).trans rfl, (bk_cell h 3).trans rfl, (bk_cell h 4).trans rfl, (bk_cell h 5).trans rfl, (bk_cell h 6).trans rfl, hB⟩
theorem keep7n {W0 w' w2 : World} {b t : Nat} {v0 v1 v2 v3 v4 v5 v6 : Value} (hk : W0.heap[b]? = some (.cells #[v0, v1, v2, v3, v4, v5, v6] t (0, 0))) (h : Held7 W0 b v0 v1 v2 v3 v4 v5 v6 w') (h2 : Below w'.heap.size w' w2) : Held7 W0 b v0 v1 v2 v3 v4 v5 v6 w2 :=
  keep7 hk (next h.2.2.2.2.2.2.2 h2)

theorem gluedU {W x : Int} (w0 : 0 ≤ W) : (if 0 < W then x - first W else x) = x - first W := by
  split
  · rfl
  · rw [first_zero W (by assumption) w0]; omega
theorem placeU {W x : Int} (w0 : 0 ≤ W) : (if 0 < W then x + first W else x) = x + first W := by
  split
  · rfl
  · rw [first_zero W (by assumption) w0]; omega

theorem cellU_bounds {k W H t s u v : Int} (h : TopoOk k W H t s) (u1 : -2199023255552 ≤ u) (u2 : u ≤ 2199023255552) : -2199023255552 ≤ cellU k W H t s u v ∧ cellU k W H t s u v ≤ 2199023255552 := by
  have w0 := h.w0; have w1 := h.w1
  by_cases hW : W = 0
  · subst hW
    have hk : ¬ 3 ≤ k := fun hk => by have := (h.ends hk).1; omega
    have ht : ¬ (k = 2 ∧ t = 1) := fun ⟨hk, ht⟩ => by have := (h.torus hk (by omega)).2.1; omega
    unfold cellU
    rw [if_neg ht, if_neg (by omega), if_neg (by omega)]
    simp; omega
  · have e : ∀ a : Int, 0 ≤ a % W ∧ a % W < W := fun a => ⟨Int.emod_nonneg a hW, Int.emod_lt_of_pos a (by omega)⟩
    have e1 := e (u - v / H * s)
    have e2 := e (W - 1 - u + s)
    have e3 := e u
    unfold cellU
    (repeat' split) <;> omega
theorem cellV_bounds {k W H t s u v : Int} (h : TopoOk k W H t s) (u1 : -2199023255552 ≤ v) (u2 : v ≤ 2199023255552) : -2199023255552 ≤ cellV k W H t s u v ∧ cellV k W H t s u v ≤ 2199023255552 := by
  have w0 := h.h0; have w1 := h.h1
  by_cases hW : H = 0
  · subst hW
    have hk : ¬ 3 ≤ k := fun hk => by have := (h.ends hk).2; omega
    have ht : ¬ (k = 2 ∧ t = 2) := fun ⟨hk, ht⟩ => by have := (h.torus hk (by omega)).2.2; omega
    unfold cellV
    rw [if_neg ht, if_neg (by omega), if_neg (by omega)]
    simp; omega
  · have e : ∀ a : Int, 0 ≤ a % H ∧ a % H < H := fun a => ⟨Int.emod_nonneg a hW, Int.emod_lt_of_pos a (by omega)⟩
    have e1 := e (v - u / W * s)
    have e2 := e (H - 1 - v + s)
    have e3 := e v
    unfold cellV
    (repeat' split) <;> omega

set_option maxHeartbeats 4000000 in
theorem cell_torus (W H t s x y : Int) (w : World) (h : TopoOk 2 W H t s) (x1 : -1099511627776 ≤ x) (x2 : x ≤ 1099511627776) (y1 : -1099511627776 ≤ y) (y2 : y ≤ 1099511627776) :
    Calls Try.prog 37 #[grid 2 W H t s (first W) (first H), pt x y] w (Ret (.tuple #[pt (cellU 2 W H t s (x - first W) (y - first H) + first W) (cellV 2 W H t s (x - first W) (y - first H) + first H), .int .i64 0]) w) := by
  have w0 := h.w0; have w3 := h.w1; have h0 := h.h0; have h3 := h.h1
  obtain ⟨fw1, fw2⟩ := first_bounds W w0 w3
  obtain ⟨fh1, fh2⟩ := first_bounds H h0 h3
  have EU := Lib.hid (gluedU (x := x) w0); have EV := Lib.hid (gluedU (x := y) h0)
  obtain ⟨cu1, cu2⟩ := cellU_bounds (u := x - first W) (v := y - first H) h (by omega) (by omega)
  obtain ⟨cv1, cv2⟩ := cellV_bounds (u := x - first W) (v := y - first H) h (by omega) (by omega)
  obtain ⟨X, hX⟩ : ∃ X, cellU 2 W H t s (x - first W) (y - first H) = X := ⟨_, rfl⟩
  obtain ⟨Y, hY⟩ : ∃ Y, cellV 2 W H t s (x - first W) (y - first H) = Y := ⟨_, rfl⟩
  rw [hX] at cu1 cu2 ⊢
  rw [hY] at cv1 cv2 ⊢
  have HX := Lib.hid hX; have HY := Lib.hid hY; clear hX hY
  have PU := Lib.hid (placeU (x := X) w0); have PV := Lib.hid (placeU (x := Y) h0)
  obtain ⟨l, hl⟩ : ∃ l, first W = l := ⟨_, rfl⟩
  obtain ⟨q, hq⟩ : ∃ q, first H = q := ⟨_, rfl⟩
  rw [hl] at fw1 fw2 EU HX HY PU ⊢
  rw [hq] at fh1 fh2 EV HX HY PV ⊢
  clear hl hq
  have K1 : (((w.alloc (.cells #[.int .u8 2, .int .i64 W, .int .i64 H, .int .u8 t, .int .i64 s, .int .i64 l, .int .i64 q] 64)).alloc (.cells #[.int .i64 x, .int .i64 y] 25)).alloc (.cells #[.int .i64 0, .int .i64 0] 25)).heap[w.heap.size]? = some (.cells #[.int .u8 2, .int .i64 W, .int .i64 H, .int .u8 t, .int .i64 s, .int .i64 l, .int .i64 q] 64 (0, 0)) := bk_alloc (bk_alloc (bk_new _ _) _) _
  have K2 : (((w.alloc (.cells #[.int .u8 2, .int .i64 W, .int .i64 H, .int .u8 t, .int .i64 s, .int .i64 l, .int .i64 q] 64)).alloc (.cells #[.int .i64 x, .int .i64 y] 25)).alloc (.cells #[.int .i64 0, .int .i64 0] 25)).heap[w.heap.size + 1 + 1]? = some (.cells #[.int .i64 0, .int .i64 0] 25 (0, 0)) := by have := bk_new ((w.alloc (.cells #[.int .u8 2, .int .i64 W, .int .i64 H, .int .u8 t, .int .i64 s, .int .i64 l, .int .i64 q] 64)).alloc (.cells #[.int .i64 x, .int .i64 y] 25)) (.cells #[.int .i64 0, .int .i64 0] 25); simpa only [World.size_alloc] using this
  have hBw : Below w.heap.size w (((w.alloc (.cells #[.int .u8 2, .int .i64 W, .int .i64 H, .int .u8 t, .int .i64 s, .int .i64 l, .int .i64 q] 64)).alloc (.cells #[.int .i64 x, .int .i64 y] 25)).alloc (.cells #[.int .i64 0, .int .i64 0] 25)) := ((boxed _ _).alloc (by simp) _).alloc (by simp; omega) _
  go_enter Try.func37, Try.ntmps37
  go_wp2_with (first | fail)
  generalize hW0 : (((w.alloc (.cells #[.int .u8 2, .int .i64 W, .int .i64 H, .int .u8 t, .int .i64 s, .int .i64 l, .int .i64 q] 64)).alloc (.cells #[.int .i64 x, .int .i64 y] 25)).alloc (.cells #[.int .i64 0, .int .i64 0] 25)) = W0 at *
  clear hW0
  have hB := same W0
  have KS := K1; have KR := K2
  go_wp2_with (first | (go_at_call 42; ((with_reducible refine (home_calls _ _ _ _ _ _ _ _ _ _ fw1 fw2 fh1 fh2 x1 x2 y1 y2).mono ?_); rintro e w1 ⟨rfl, hb1⟩; replace hB := next hB hb1; replace K1 := bk_below K1 hb1; replace K2 := bk_below K2 hb1; have hc1 := bk_cell K1; have hc2 := bk_cell K2; have hf2 := bk_free K2; rw [EU.out, EV.out])) | (go_at_call 56; ((with_reducible refine (glued_calls _ _ _ _ _ _ _ _ (by decide) (by decide)).mono ?_); rintro e w1 ⟨rfl, hb1⟩; replace hB := next hB hb1; replace K1 := bk_below K1 hb1; replace K2 := bk_below K2 hb1; have hc1 := bk_cell K1; have hc2 := bk_cell K2; have hf2 := bk_free K2; rw [show gluedI 2 = true from rfl])))
  go_region_held3 (fun w' => w'.cell? ⟨w.heap.size, 0, none⟩ = some (.int .u8 2) ∧ w'.cell? ⟨w.heap.size, 1, none⟩ = some (.int .i64 W) ∧ w'.cell? ⟨w.heap.size, 2, none⟩ = some (.int .i64 H) ∧ w'.cell? ⟨w.heap.size, 3, none⟩ = some (.int .u8 t) ∧ w'.cell? ⟨w.heap.size, 4, none⟩ = some (.int .i64 s) ∧ w'.cell? ⟨w.heap.size, 5, none⟩ = some (.int .i64 l) ∧ w'.cell? ⟨w.heap.size, 6, none⟩ = some (.int .i64 q) ∧ Below W0.heap.size W0 w')
    (first | exact keep7 KS (Below.drew hB) | exact keep7n KS (by assumption) hb1)
    (first | (go_at_call 49; ((with_reducible refine (way_calls 2 _ (by decide) (by decide)).mono ?_); rintro e w1 ⟨rfl, hb1⟩; dsimp only [wayF]; simp only [Int.reduceEq, ↓reduceIte])) | (go_at_call 79; ((with_reducible refine (torus_calls _ _ _ _ _ _ _ _ _ h (by omega) (by omega) (by omega) (by omega)).mono ?_); rintro e w1 ⟨rfl, hb1⟩; rw [HX.out, HY.out])))
  rename_i hH
  replace hB := hH.2.2.2.2.2.2.2
  clear hH
  replace K1 := bk_below KS hB; replace K2 := bk_below KR hB; have hc1 := bk_cell K1; have hc2 := bk_cell K2; have hf2 := bk_free K2
  go_wp2_with (first | (go_at_call 50; ((with_reducible refine (place_calls _ _ _ _ _ _ _ _ _ _ fw1 fw2 fh1 fh2 cu1 cu2 cv1 cv2).mono ?_); rintro e w1 ⟨rfl, hb1⟩; replace hB := next hB hb1; replace K1 := bk_below K1 hb1; replace K2 := bk_below K2 hb1; have hc1 := bk_cell K1; have hc2 := bk_cell K2; have hf2 := bk_free K2; rw [PU.out, PV.out])))
  refine end_ct (w.heap.size + 1 + 1) 25 rfl rfl rfl Try.underlying25 rfl ?_
  apply Exists.intro
  refine ⟨(by repeat (with_reducible (first | exact K2 | apply bk_set | refine bk_drew ?_ | refine bk_drewN ?_ _ | refine bk_alloc ?_ _ | refine bk_far ?_ (by simp; try omega) _))), by kernel_rfl, ?_⟩
  exact Ret.of rfl (by repeat (first | exact hBw.trans (hB.mono hBw.size) | refine Below.setCell ?_ (by simp; omega) _))

set_option maxHeartbeats 4000000 in
theorem cell_klein (W H t s x y : Int) (w : World) (h : TopoOk 3 W H t s) (x1 : -1099511627776 ≤ x) (x2 : x ≤ 1099511627776) (y1 : -1099511627776 ≤ y) (y2 : y ≤ 1099511627776) :
    Calls Try.prog 37 #[grid 3 W H t s (first W) (first H), pt x y] w (Ret (.tuple #[pt (cellU 3 W H t s (x - first W) (y - first H) + first W) (cellV 3 W H t s (x - first W) (y - first H) + first H), .int .i64 0]) w) := by
  have w0 := h.w0; have w3 := h.w1; have h0 := h.h0; have h3 := h.h1
  obtain ⟨fw1, fw2⟩ := first_bounds W w0 w3
  obtain ⟨fh1, fh2⟩ := first_bounds H h0 h3
  have EU := Lib.hid (gluedU (x := x) w0); have EV := Lib.hid (gluedU (x := y) h0)
  obtain ⟨cu1, cu2⟩ := cellU_bounds (u := x - first W) (v := y - first H) h (by omega) (by omega)
  obtain ⟨cv1, cv2⟩ := cellV_bounds (u := x - first W) (v := y - first H) h (by omega) (by omega)
  obtain ⟨X, hX⟩ : ∃ X, cellU 3 W H t s (x - first W) (y - first H) = X := ⟨_, rfl⟩
  obtain ⟨Y, hY⟩ : ∃ Y, cellV 3 W H t s (x - first W) (y - first H) = Y := ⟨_, rfl⟩
  rw [hX] at cu1 cu2 ⊢
  rw [hY] at cv1 cv2 ⊢
  have HX := Lib.hid hX; have HY := Lib.hid hY; clear hX hY
  have PU := Lib.hid (placeU (x := X) w0); have PV := Lib.hid (placeU (x := Y) h0)
  obtain ⟨l, hl⟩ : ∃ l, first W = l := ⟨_, rfl⟩
  obtain ⟨q, hq⟩ : ∃ q, first H = q := ⟨_, rfl⟩
  rw [hl] at fw1 fw2 EU HX HY PU ⊢
  rw [hq] at fh1 fh2 EV HX HY PV ⊢
  clear hl hq
  have K1 : (((w.alloc (.cells #[.int .u8 3, .int .i64 W, .int .i64 H, .int .u8 t, .int .i64 s, .int .i64 l, .int .i64 q] 64)).alloc (.cells #[.int .i64 x, .int .i64 y] 25)).alloc (.cells #[.int .i64 0, .int .i64 0] 25)).heap[w.heap.size]? = some (.cells #[.int .u8 3, .int .i64 W, .int .i64 H, .int .u8 t, .int .i64 s, .int .i64 l, .int .i64 q] 64 (0, 0)) := bk_alloc (bk_alloc (bk_new _ _) _) _
  have K2 : (((w.alloc (.cells #[.int .u8 3, .int .i64 W, .int .i64 H, .int .u8 t, .int .i64 s, .int .i64 l, .int .i64 q] 64)).alloc (.cells #[.int .i64 x, .int .i64 y] 25)).alloc (.cells #[.int .i64 0, .int .i64 0] 25)).heap[w.heap.size + 1 + 1]? = some (.cells #[.int .i64 0, .int .i64 0] 25 (0, 0)) := by have := bk_new ((w.alloc (.cells #[.int .u8 3, .int .i64 W, .int .i64 H, .int .u8 t, .int .i64 s, .int .i64 l, .int .i64 q] 64)).alloc (.cells #[.int .i64 x, .int .i64 y] 25)) (.cells #[.int .i64 0, .int .i64 0] 25); simpa only [World.size_alloc] using this
  have hBw : Below w.heap.size w (((w.alloc (.cells #[.int .u8 3, .int .i64 W, .int .i64 H, .int .u8 t, .int .i64 s, .int .i64 l, .int .i64 q] 64)).alloc (.cells #[.int .i64 x, .int .i64 y] 25)).alloc (.cells #[.int .i64 0, .int .i64 0] 25)) := ((boxed _ _).alloc (by simp) _).alloc (by simp; omega) _
  go_enter Try.func37, Try.ntmps37
  go_wp2_with (first | fail)
  generalize hW0 : (((w.alloc (.cells #[.int .u8 3, .int .i64 W, .int .i64 H, .int .u8 t, .int .i64 s, .int .i64 l, .int .i64 q] 64)).alloc (.cells #[.int .i64 x, .int .i64 y] 25)).alloc (.cells #[.int .i64 0, .int .i64 0] 25)) = W0 at *
  clear hW0
  have hB := same W0
  have KS := K1; have KR := K2
  go_wp2_with (first | (go_at_call 42; ((with_reducible refine (home_calls _ _ _ _ _ _ _ _ _ _ fw1 fw2 fh1 fh2 x1 x2 y1 y2).mono ?_); rintro e w1 ⟨rfl, hb1⟩; replace hB := next hB hb1; replace K1 := bk_below K1 hb1; replace K2 := bk_below K2 hb1; have hc1 := bk_cell K1; have hc2 := bk_cell K2; have hf2 := bk_free K2; rw [EU.out, EV.out])) | (go_at_call 56; ((with_reducible refine (glued_calls _ _ _ _ _ _ _ _ (by decide) (by decide)).mono ?_); rintro e w1 ⟨rfl, hb1⟩; replace hB := next hB hb1; replace K1 := bk_below K1 hb1; replace K2 := bk_below K2 hb1; have hc1 := bk_cell K1; have hc2 := bk_cell K2; have hf2 := bk_free K2; rw [show gluedI 3 = true from rfl])))
  go_region_held3 (fun w' => w'.cell? ⟨w.heap.size, 0, none⟩ = some (.int .u8 3) ∧ w'.cell? ⟨w.heap.size, 1, none⟩ = some (.int .i64 W) ∧ w'.cell? ⟨w.heap.size, 2, none⟩ = some (.int .i64 H) ∧ w'.cell? ⟨w.heap.size, 3, none⟩ = some (.int .u8 t) ∧ w'.cell? ⟨w.heap.size, 4, none⟩ = some (.int .i64 s) ∧ w'.cell? ⟨w.heap.size, 5, none⟩ = some (.int .i64 l) ∧ w'.cell? ⟨w.heap.size, 6, none⟩ = some (.int .i64 q) ∧ Below W0.heap.size W0 w')
    (first | exact keep7 KS (Below.drew hB) | exact keep7n KS (by assumption) hb1)
    (first | (go_at_call 49; ((with_reducible refine (way_calls 3 _ (by decide) (by decide)).mono ?_); rintro e w1 ⟨rfl, hb1⟩; dsimp only [wayF]; simp only [Int.reduceEq, ↓reduceIte])) | (go_at_call 80; ((with_reducible refine (klein_calls _ _ _ _ _ _ _ _ _ h (by omega) (by omega) (by omega) (by omega)).mono ?_); rintro e w1 ⟨rfl, hb1⟩; rw [HX.out, HY.out])))
  rename_i hH
  replace hB := hH.2.2.2.2.2.2.2
  clear hH
  replace K1 := bk_below KS hB; replace K2 := bk_below KR hB; have hc1 := bk_cell K1; have hc2 := bk_cell K2; have hf2 := bk_free K2
  go_wp2_with (first | (go_at_call 50; ((with_reducible refine (place_calls _ _ _ _ _ _ _ _ _ _ fw1 fw2 fh1 fh2 cu1 cu2 cv1 cv2).mono ?_); rintro e w1 ⟨rfl, hb1⟩; replace hB := next hB hb1; replace K1 := bk_below K1 hb1; replace K2 := bk_below K2 hb1; have hc1 := bk_cell K1; have hc2 := bk_cell K2; have hf2 := bk_free K2; rw [PU.out, PV.out])))
  refine end_ct (w.heap.size + 1 + 1) 25 rfl rfl rfl Try.underlying25 rfl ?_
  apply Exists.intro
  refine ⟨(by repeat (with_reducible (first | exact K2 | apply bk_set | refine bk_drew ?_ | refine bk_drewN ?_ _ | refine bk_alloc ?_ _ | refine bk_far ?_ (by simp; try omega) _))), by kernel_rfl, ?_⟩
  exact Ret.of rfl (by repeat (first | exact hBw.trans (hB.mono hBw.size) | refine Below.setCell ?_ (by simp; omega) _))

set_option maxHeartbeats 4000000 in
theorem cell_cross (W H t s x y : Int) (w : World) (h : TopoOk 4 W H t s) (x1 : -1099511627776 ≤ x) (x2 : x ≤ 1099511627776) (y1 : -1099511627776 ≤ y) (y2 : y ≤ 1099511627776) :
    Calls Try.prog 37 #[grid 4 W H t s (first W) (first H), pt x y] w (Ret (.tuple #[pt (cellU 4 W H t s (x - first W) (y - first H) + first W) (cellV 4 W H t s (x - first W) (y - first H) + first H), .int .i64 0]) w) := by
  have w0 := h.w0; have w3 := h.w1; have h0 := h.h0; have h3 := h.h1
  obtain ⟨fw1, fw2⟩ := first_bounds W w0 w3
  obtain ⟨fh1, fh2⟩ := first_bounds H h0 h3
  have EU := Lib.hid (gluedU (x := x) w0); have EV := Lib.hid (gluedU (x := y) h0)
  obtain ⟨cu1, cu2⟩ := cellU_bounds (u := x - first W) (v := y - first H) h (by omega) (by omega)
  obtain ⟨cv1, cv2⟩ := cellV_bounds (u := x - first W) (v := y - first H) h (by omega) (by omega)
  obtain ⟨X, hX⟩ : ∃ X, cellU 4 W H t s (x - first W) (y - first H) = X := ⟨_, rfl⟩
  obtain ⟨Y, hY⟩ : ∃ Y, cellV 4 W H t s (x - first W) (y - first H) = Y := ⟨_, rfl⟩
  rw [hX] at cu1 cu2 ⊢
  rw [hY] at cv1 cv2 ⊢
  have HX := Lib.hid hX; have HY := Lib.hid hY; clear hX hY
  have PU := Lib.hid (placeU (x := X) w0); have PV := Lib.hid (placeU (x := Y) h0)
  obtain ⟨l, hl⟩ : ∃ l, first W = l := ⟨_, rfl⟩
  obtain ⟨q, hq⟩ : ∃ q, first H = q := ⟨_, rfl⟩
  rw [hl] at fw1 fw2 EU HX HY PU ⊢
  rw [hq] at fh1 fh2 EV HX HY PV ⊢
  clear hl hq
  have K1 : (((w.alloc (.cells #[.int .u8 4, .int .i64 W, .int .i64 H, .int .u8 t, .int .i64 s, .int .i64 l, .int .i64 q] 64)).alloc (.cells #[.int .i64 x, .int .i64 y] 25)).alloc (.cells #[.int .i64 0, .int .i64 0] 25)).heap[w.heap.size]? = some (.cells #[.int .u8 4, .int .i64 W, .int .i64 H, .int .u8 t, .int .i64 s, .int .i64 l, .int .i64 q] 64 (0, 0)) := bk_alloc (bk_alloc (bk_new _ _) _) _
  have K2 : (((w.alloc (.cells #[.int .u8 4, .int .i64 W, .int .i64 H, .int .u8 t, .int .i64 s, .int .i64 l, .int .i64 q] 64)).alloc (.cells #[.int .i64 x, .int .i64 y] 25)).alloc (.cells #[.int .i64 0, .int .i64 0] 25)).heap[w.heap.size + 1 + 1]? = some (.cells #[.int .i64 0, .int .i64 0] 25 (0, 0)) := by have := bk_new ((w.alloc (.cells #[.int .u8 4, .int .i64 W, .int .i64 H, .int .u8 t, .int .i64 s, .int .i64 l, .int .i64 q] 64)).alloc (.cells #[.int .i64 x, .int .i64 y] 25)) (.cells #[.int .i64 0, .int .i64 0] 25); simpa only [World.size_alloc] using this
  have hBw : Below w.heap.size w (((w.alloc (.cells #[.int .u8 4, .int .i64 W, .int .i64 H, .int .u8 t, .int .i64 s, .int .i64 l, .int .i64 q] 64)).alloc (.cells #[.int .i64 x, .int .i64 y] 25)).alloc (.cells #[.int .i64 0, .int .i64 0] 25)) := ((boxed _ _).alloc (by simp) _).alloc (by simp; omega) _
  go_enter Try.func37, Try.ntmps37
  go_wp2_with (first | fail)
  generalize hW0 : (((w.alloc (.cells #[.int .u8 4, .int .i64 W, .int .i64 H, .int .u8 t, .int .i64 s, .int .i64 l, .int .i64 q] 64)).alloc (.cells #[.int .i64 x, .int .i64 y] 25)).alloc (.cells #[.int .i64 0, .int .i64 0] 25)) = W0 at *
  clear hW0
  have hB := same W0
  have KS := K1; have KR := K2
  go_wp2_with (first | (go_at_call 42; ((with_reducible refine (home_calls _ _ _ _ _ _ _ _ _ _ fw1 fw2 fh1 fh2 x1 x2 y1 y2).mono ?_); rintro e w1 ⟨rfl, hb1⟩; replace hB := next hB hb1; replace K1 := bk_below K1 hb1; replace K2 := bk_below K2 hb1; have hc1 := bk_cell K1; have hc2 := bk_cell K2; have hf2 := bk_free K2; rw [EU.out, EV.out])) | (go_at_call 56; ((with_reducible refine (glued_calls _ _ _ _ _ _ _ _ (by decide) (by decide)).mono ?_); rintro e w1 ⟨rfl, hb1⟩; replace hB := next hB hb1; replace K1 := bk_below K1 hb1; replace K2 := bk_below K2 hb1; have hc1 := bk_cell K1; have hc2 := bk_cell K2; have hf2 := bk_free K2; rw [show gluedI 4 = true from rfl])))
  go_region_held3 (fun w' => w'.cell? ⟨w.heap.size, 0, none⟩ = some (.int .u8 4) ∧ w'.cell? ⟨w.heap.size, 1, none⟩ = some (.int .i64 W) ∧ w'.cell? ⟨w.heap.size, 2, none⟩ = some (.int .i64 H) ∧ w'.cell? ⟨w.heap.size, 3, none⟩ = some (.int .u8 t) ∧ w'.cell? ⟨w.heap.size, 4, none⟩ = some (.int .i64 s) ∧ w'.cell? ⟨w.heap.size, 5, none⟩ = some (.int .i64 l) ∧ w'.cell? ⟨w.heap.size, 6, none⟩ = some (.int .i64 q) ∧ Below W0.heap.size W0 w')
    (first | exact keep7 KS (Below.drew hB) | exact keep7n KS (by assumption) hb1)
    (first | (go_at_call 49; ((with_reducible refine (way_calls 4 _ (by decide) (by decide)).mono ?_); rintro e w1 ⟨rfl, hb1⟩; dsimp only [wayF]; simp only [Int.reduceEq, ↓reduceIte])) | (go_at_call 81; ((with_reducible refine (cross_calls _ _ _ _ _ _ _ _ _ h (by omega) (by omega) (by omega) (by omega)).mono ?_); rintro e w1 ⟨rfl, hb1⟩; rw [HX.out, HY.out])))
  rename_i hH
  replace hB := hH.2.2.2.2.2.2.2
  clear hH
  replace K1 := bk_below KS hB; replace K2 := bk_below KR hB; have hc1 := bk_cell K1; have hc2 := bk_cell K2; have hf2 := bk_free K2
  go_wp2_with (first | (go_at_call 50; ((with_reducible refine (place_calls _ _ _ _ _ _ _ _ _ _ fw1 fw2 fh1 fh2 cu1 cu2 cv1 cv2).mono ?_); rintro e w1 ⟨rfl, hb1⟩; replace hB := next hB hb1; replace K1 := bk_below K1 hb1; replace K2 := bk_below K2 hb1; have hc1 := bk_cell K1; have hc2 := bk_cell K2; have hf2 := bk_free K2; rw [PU.out, PV.out])))
  refine end_ct (w.heap.size + 1 + 1) 25 rfl rfl rfl Try.underlying25 rfl ?_
  apply Exists.intro
  refine ⟨(by repeat (with_reducible (first | exact K2 | apply bk_set | refine bk_drew ?_ | refine bk_drewN ?_ _ | refine bk_alloc ?_ _ | refine bk_far ?_ (by simp; try omega) _))), by kernel_rfl, ?_⟩
  exact Ret.of rfl (by repeat (first | exact hBw.trans (hB.mono hBw.size) | refine Below.setCell ?_ (by simp; omega) _))

end Go.Proofs.Ytfdehecekghlmaa


set_option linter.unusedVariables false
set_option linter.unusedSimpArgs false
namespace Go.Proofs.Ytfdehecekghlmaa
open Go.RowKit Go.Viv

set_option maxHeartbeats 4000000 in
theorem cell_flat_in (W H t s x y : Int) (w : World) (h : TopoOk 1 W H t s) (hin : (onI (x - first W) W && onI (y - first H) H) = true) (x1 : -1099511627776 ≤ x) (x2 : x ≤ 1099511627776) (y1 : -1099511627776 ≤ y) (y2 : y ≤ 1099511627776) :
    Calls Try.prog 37 #[grid 1 W H t s (first W) (first H), pt x y] w (Ret (.tuple #[pt x y, .int .i64 0]) w) := by
  have w0 := h.w0; have w3 := h.w1; have h0 := h.h0; have h3 := h.h1
  obtain ⟨fw1, fw2⟩ := first_bounds W w0 w3
  obtain ⟨fh1, fh2⟩ := first_bounds H h0 h3
  have EU := Lib.hid (gluedU (x := x) w0); have EV := Lib.hid (gluedU (x := y) h0)
  have PU := Lib.hid (placeU (x := x - first W) w0); have PV := Lib.hid (placeU (x := y - first H) h0)
  obtain ⟨l, hl⟩ : ∃ l, first W = l := ⟨_, rfl⟩
  obtain ⟨q, hq⟩ : ∃ q, first H = q := ⟨_, rfl⟩
  rw [hl] at fw1 fw2 EU PU hin ⊢
  rw [hq] at fh1 fh2 EV PV hin ⊢
  clear hl hq
  have K1 : (((w.alloc (.cells #[.int .u8 1, .int .i64 W, .int .i64 H, .int .u8 t, .int .i64 s, .int .i64 l, .int .i64 q] 64)).alloc (.cells #[.int .i64 x, .int .i64 y] 25)).alloc (.cells #[.int .i64 0, .int .i64 0] 25)).heap[w.heap.size]? = some (.cells #[.int .u8 1, .int .i64 W, .int .i64 H, .int .u8 t, .int .i64 s, .int .i64 l, .int .i64 q] 64 (0, 0)) := bk_alloc (bk_alloc (bk_new _ _) _) _
  have K2 : (((w.alloc (.cells #[.int .u8 1, .int .i64 W, .int .i64 H, .int .u8 t, .int .i64 s, .int .i64 l, .int .i64 q] 64)).alloc (.cells #[.int .i64 x, .int .i64 y] 25)).alloc (.cells #[.int .i64 0, .int .i64 0] 25)).heap[w.heap.size + 1 + 1]? = some (.cells #[.int .i64 0, .int .i64 0] 25 (0, 0)) := by have := bk_new ((w.alloc (.cells #[.int .u8 1, .int .i64 W, .int .i64 H, .int .u8 t, .int .i64 s, .int .i64 l, .int .i64 q] 64)).alloc (.cells #[.int .i64 x, .int .i64 y] 25)) (.cells #[.int .i64 0, .int .i64 0] 25); simpa only [World.size_alloc] using this
  have hBw : Below w.heap.size w (((w.alloc (.cells #[.int .u8 1, .int .i64 W, .int .i64 H, .int .u8 t, .int .i64 s, .int .i64 l, .int .i64 q] 64)).alloc (.cells #[.int .i64 x, .int .i64 y] 25)).alloc (.cells #[.int .i64 0, .int .i64 0] 25)) := ((boxed _ _).alloc (by simp) _).alloc (by simp; omega) _
  have HI := Lib.hid hin
  have hin1 : onI (x - l) W = true := by simp only [Bool.and_eq_true] at hin; exact hin.1
  have hin2 : onI (y - q) H = true := by simp only [Bool.and_eq_true] at hin; exact hin.2
  clear hin
  go_enter Try.func37, Try.ntmps37
  go_wp2_with (first | fail)
  generalize hW0 : (((w.alloc (.cells #[.int .u8 1, .int .i64 W, .int .i64 H, .int .u8 t, .int .i64 s, .int .i64 l, .int .i64 q] 64)).alloc (.cells #[.int .i64 x, .int .i64 y] 25)).alloc (.cells #[.int .i64 0, .int .i64 0] 25)) = W0 at *
  clear hW0
  have hB := same W0
  have KS := K1; have KR := K2
  go_wp2_with (first | (go_at_call 42; ((with_reducible refine (home_calls _ _ _ _ _ _ _ _ _ _ fw1 fw2 fh1 fh2 x1 x2 y1 y2).mono ?_); rintro e w1 ⟨rfl, hb1⟩; replace hB := next hB hb1; replace K1 := bk_below K1 hb1; replace K2 := bk_below K2 hb1; have hc1 := bk_cell K1; have hc2 := bk_cell K2; have hf2 := bk_free K2; rw [EU.out, EV.out])) | (go_at_call 56; ((with_reducible refine (glued_calls _ _ _ _ _ _ _ _ (by decide) (by decide)).mono ?_); rintro e w1 ⟨rfl, hb1⟩; replace hB := next hB hb1; replace K1 := bk_below K1 hb1; replace K2 := bk_below K2 hb1; have hc1 := bk_cell K1; have hc2 := bk_cell K2; have hf2 := bk_free K2; rw [show gluedI 1 = false from rfl])) | (go_at_call 69; ((with_reducible refine (on_calls _ _ _).mono ?_); rintro e w1 ⟨rfl, hb1⟩; replace hB := next hB hb1; replace K1 := bk_below K1 hb1; replace K2 := bk_below K2 hb1; have hc1 := bk_cell K1; have hc2 := bk_cell K2; have hf2 := bk_free K2)))
  go_region_held3 (fun w' => w'.cell? ⟨w.heap.size, 0, none⟩ = some (.int .u8 1) ∧ w'.cell? ⟨w.heap.size, 1, none⟩ = some (.int .i64 W) ∧ w'.cell? ⟨w.heap.size, 2, none⟩ = some (.int .i64 H) ∧ w'.cell? ⟨w.heap.size, 3, none⟩ = some (.int .u8 t) ∧ w'.cell? ⟨w.heap.size, 4, none⟩ = some (.int .i64 s) ∧ w'.cell? ⟨w.heap.size, 5, none⟩ = some (.int .i64 l) ∧ w'.cell? ⟨w.heap.size, 6, none⟩ = some (.int .i64 q) ∧ Below W0.heap.size W0 w')
    (first | exact keep7 KS (Below.drew hB) | exact keep7n KS (by assumption) hb1)
    (first | (go_at_call 49; ((with_reducible refine (way_calls 1 _ (by decide) (by decide)).mono ?_); rintro e w1 ⟨rfl, hb1⟩; dsimp only [wayF]; simp only [Int.reduceEq, ↓reduceIte])) | (go_at_call 78; ((with_reducible refine (flat_calls _ _ _ _ _ _ _ _ _ _).mono ?_); rintro e w1 ⟨rfl, hb1⟩; rw [HI.out])))
  rename_i hH
  replace hB := hH.2.2.2.2.2.2.2
  clear hH
  replace K1 := bk_below KS hB; replace K2 := bk_below KR hB; have hc1 := bk_cell K1; have hc2 := bk_cell K2; have hf2 := bk_free K2
  go_wp2_with (first | (go_at_call 50; ((with_reducible refine (place_calls _ _ _ _ _ _ _ _ _ _ fw1 fw2 fh1 fh2 (by omega) (by omega) (by omega) (by omega)).mono ?_); rintro e w1 ⟨rfl, hb1⟩; replace hB := next hB hb1; replace K1 := bk_below K1 hb1; replace K2 := bk_below K2 hb1; have hc1 := bk_cell K1; have hc2 := bk_cell K2; have hf2 := bk_free K2; rw [PU.out, PV.out])))
  refine end_ct (w.heap.size + 1 + 1) 25 rfl rfl rfl Try.underlying25 rfl ?_
  apply Exists.intro
  refine ⟨(by repeat (with_reducible (first | exact K2 | apply bk_set | refine bk_drew ?_ | refine bk_drewN ?_ _ | refine bk_alloc ?_ _ | refine bk_far ?_ (by simp; try omega) _))), by kernel_rfl, ?_⟩
  exact Ret.of (by simp) (by repeat (first | exact hBw.trans (hB.mono hBw.size) | refine Below.setCell ?_ (by simp; omega) _))

set_option maxHeartbeats 4000000 in
theorem cell_flat_out (W H t s x y : Int) (w : World) (h : TopoOk 1 W H t s) (hin : (onI (x - first W) W && onI (y - first H) H) = false) (x1 : -1099511627776 ≤ x) (x2 : x ≤ 1099511627776) (y1 : -1099511627776 ≤ y) (y2 : y ≤ 1099511627776) :
    Calls Try.prog 37 #[grid 1 W H t s (first W) (first H), pt x y] w (Ret (.tuple #[pt 0 0, .int .i64 60]) w) := by
  have w0 := h.w0; have w3 := h.w1; have h0 := h.h0; have h3 := h.h1
  obtain ⟨fw1, fw2⟩ := first_bounds W w0 w3
  obtain ⟨fh1, fh2⟩ := first_bounds H h0 h3
  have EU := Lib.hid (gluedU (x := x) w0); have EV := Lib.hid (gluedU (x := y) h0)
  have PU := Lib.hid (placeU (x := x - first W) w0); have PV := Lib.hid (placeU (x := y - first H) h0)
  obtain ⟨l, hl⟩ : ∃ l, first W = l := ⟨_, rfl⟩
  obtain ⟨q, hq⟩ : ∃ q, first H = q := ⟨_, rfl⟩
  rw [hl] at fw1 fw2 EU PU hin ⊢
  rw [hq] at fh1 fh2 EV PV hin ⊢
  clear hl hq
  have K1 : (((w.alloc (.cells #[.int .u8 1, .int .i64 W, .int .i64 H, .int .u8 t, .int .i64 s, .int .i64 l, .int .i64 q] 64)).alloc (.cells #[.int .i64 x, .int .i64 y] 25)).alloc (.cells #[.int .i64 0, .int .i64 0] 25)).heap[w.heap.size]? = some (.cells #[.int .u8 1, .int .i64 W, .int .i64 H, .int .u8 t, .int .i64 s, .int .i64 l, .int .i64 q] 64 (0, 0)) := bk_alloc (bk_alloc (bk_new _ _) _) _
  have K2 : (((w.alloc (.cells #[.int .u8 1, .int .i64 W, .int .i64 H, .int .u8 t, .int .i64 s, .int .i64 l, .int .i64 q] 64)).alloc (.cells #[.int .i64 x, .int .i64 y] 25)).alloc (.cells #[.int .i64 0, .int .i64 0] 25)).heap[w.heap.size + 1 + 1]? = some (.cells #[.int .i64 0, .int .i64 0] 25 (0, 0)) := by have := bk_new ((w.alloc (.cells #[.int .u8 1, .int .i64 W, .int .i64 H, .int .u8 t, .int .i64 s, .int .i64 l, .int .i64 q] 64)).alloc (.cells #[.int .i64 x, .int .i64 y] 25)) (.cells #[.int .i64 0, .int .i64 0] 25); simpa only [World.size_alloc] using this
  have hBw : Below w.heap.size w (((w.alloc (.cells #[.int .u8 1, .int .i64 W, .int .i64 H, .int .u8 t, .int .i64 s, .int .i64 l, .int .i64 q] 64)).alloc (.cells #[.int .i64 x, .int .i64 y] 25)).alloc (.cells #[.int .i64 0, .int .i64 0] 25)) := ((boxed _ _).alloc (by simp) _).alloc (by simp; omega) _
  go_enter Try.func37, Try.ntmps37
  go_wp2_with (first | fail)
  generalize hW0 : (((w.alloc (.cells #[.int .u8 1, .int .i64 W, .int .i64 H, .int .u8 t, .int .i64 s, .int .i64 l, .int .i64 q] 64)).alloc (.cells #[.int .i64 x, .int .i64 y] 25)).alloc (.cells #[.int .i64 0, .int .i64 0] 25)) = W0 at *
  clear hW0
  have hB := same W0
  have KS := K1; have KR := K2
  cases hin1 : onI (x - l) W <;> cases hin2 : onI (y - q) H <;> simp only [hin1, hin2, Bool.and_true, Bool.and_false, Bool.true_and, Bool.false_and, reduceCtorEq, Bool.and_self] at hin
  all_goals
    go_wp2_with (first | (go_at_call 42; ((with_reducible refine (home_calls _ _ _ _ _ _ _ _ _ _ fw1 fw2 fh1 fh2 x1 x2 y1 y2).mono ?_); rintro e w1 ⟨rfl, hb1⟩; replace hB := next hB hb1; replace K1 := bk_below K1 hb1; replace K2 := bk_below K2 hb1; have hc1 := bk_cell K1; have hc2 := bk_cell K2; have hf2 := bk_free K2; rw [EU.out, EV.out])) | (go_at_call 56; ((with_reducible refine (glued_calls _ _ _ _ _ _ _ _ (by decide) (by decide)).mono ?_); rintro e w1 ⟨rfl, hb1⟩; replace hB := next hB hb1; replace K1 := bk_below K1 hb1; replace K2 := bk_below K2 hb1; have hc1 := bk_cell K1; have hc2 := bk_cell K2; have hf2 := bk_free K2; rw [show gluedI 1 = false from rfl])) | (go_at_call 69; ((with_reducible refine (on_calls _ _ _).mono ?_); rintro e w1 ⟨rfl, hb1⟩; replace hB := next hB hb1; replace K1 := bk_below K1 hb1; replace K2 := bk_below K2 hb1; have hc1 := bk_cell K1; have hc2 := bk_cell K2; have hf2 := bk_free K2)))
    refine end_ct (w.heap.size + 1 + 1) 25 rfl rfl rfl Try.underlying25 rfl ?_
    apply Exists.intro
    refine ⟨(by repeat (with_reducible (first | exact K2 | apply bk_set | refine bk_drew ?_ | refine bk_drewN ?_ _ | refine bk_alloc ?_ _ | refine bk_far ?_ (by simp; try omega) _))), by kernel_rfl, ?_⟩
    exact Ret.of rfl (by repeat (first | exact hBw.trans (hB.mono hBw.size) | refine Below.setCell ?_ (by simp; omega) _))

set_option maxHeartbeats 4000000 in
theorem cell_sphere_in (W H t s x y : Int) (w : World) (h : TopoOk 5 W H t s) (hin : (onI (x - first W) W && onI (y - first H) H) = true) (x1 : -1099511627776 ≤ x) (x2 : x ≤ 1099511627776) (y1 : -1099511627776 ≤ y) (y2 : y ≤ 1099511627776) :
    Calls Try.prog 37 #[grid 5 W H t s (first W) (first H), pt x y] w (Ret (.tuple #[pt x y, .int .i64 0]) w) := by
  have hs1 : 1 ≤ W := (h.ends (by decide)).1
  have w0 := h.w0; have w3 := h.w1; have h0 := h.h0; have h3 := h.h1
  obtain ⟨fw1, fw2⟩ := first_bounds W w0 w3
  obtain ⟨fh1, fh2⟩ := first_bounds H h0 h3
  have EU := Lib.hid (gluedU (x := x) w0); have EV := Lib.hid (gluedU (x := y) h0)
  have PU := Lib.hid (placeU (x := x - first W) w0); have PV := Lib.hid (placeU (x := y - first H) h0)
  obtain ⟨l, hl⟩ : ∃ l, first W = l := ⟨_, rfl⟩
  obtain ⟨q, hq⟩ : ∃ q, first H = q := ⟨_, rfl⟩
  rw [hl] at fw1 fw2 EU PU hin ⊢
  rw [hq] at fh1 fh2 EV PV hin ⊢
  clear hl hq
  have K1 : (((w.alloc (.cells #[.int .u8 5, .int .i64 W, .int .i64 H, .int .u8 t, .int .i64 s, .int .i64 l, .int .i64 q] 64)).alloc (.cells #[.int .i64 x, .int .i64 y] 25)).alloc (.cells #[.int .i64 0, .int .i64 0] 25)).heap[w.heap.size]? = some (.cells #[.int .u8 5, .int .i64 W, .int .i64 H, .int .u8 t, .int .i64 s, .int .i64 l, .int .i64 q] 64 (0, 0)) := bk_alloc (bk_alloc (bk_new _ _) _) _
  have K2 : (((w.alloc (.cells #[.int .u8 5, .int .i64 W, .int .i64 H, .int .u8 t, .int .i64 s, .int .i64 l, .int .i64 q] 64)).alloc (.cells #[.int .i64 x, .int .i64 y] 25)).alloc (.cells #[.int .i64 0, .int .i64 0] 25)).heap[w.heap.size + 1 + 1]? = some (.cells #[.int .i64 0, .int .i64 0] 25 (0, 0)) := by have := bk_new ((w.alloc (.cells #[.int .u8 5, .int .i64 W, .int .i64 H, .int .u8 t, .int .i64 s, .int .i64 l, .int .i64 q] 64)).alloc (.cells #[.int .i64 x, .int .i64 y] 25)) (.cells #[.int .i64 0, .int .i64 0] 25); simpa only [World.size_alloc] using this
  have hBw : Below w.heap.size w (((w.alloc (.cells #[.int .u8 5, .int .i64 W, .int .i64 H, .int .u8 t, .int .i64 s, .int .i64 l, .int .i64 q] 64)).alloc (.cells #[.int .i64 x, .int .i64 y] 25)).alloc (.cells #[.int .i64 0, .int .i64 0] 25)) := ((boxed _ _).alloc (by simp) _).alloc (by simp; omega) _
  have hinW : (onI (x - l) W && onI (y - q) W) = true := by have := hin; rw [← h.sphere rfl] at this; exact this
  have hin' := hinW
  simp only [onI, Bool.and_eq_true, decide_eq_true_eq] at hin'
  have HX : Hid (ballU W (x - l) (y - q) = x - l) := by show ballU W (x - l) (y - q) = x - l; unfold ballU; rw [if_pos hinW]
  have HY : Hid (ballV W (x - l) (y - q) = y - q) := by show ballV W (x - l) (y - q) = y - q; unfold ballV; rw [if_pos hinW]
  have hu1 : 0 ≤ x - l ∧ x - l ≤ W ∧ 0 ≤ y - q ∧ y - q ≤ W := by omega
  clear hin' hinW
  have HI := Lib.hid hin
  have hin1 : onI (x - l) W = true := by simp only [Bool.and_eq_true] at hin; exact hin.1
  have hin2 : onI (y - q) H = true := by simp only [Bool.and_eq_true] at hin; exact hin.2
  clear hin
  go_enter Try.func37, Try.ntmps37
  go_wp2_with (first | fail)
  generalize hW0 : (((w.alloc (.cells #[.int .u8 5, .int .i64 W, .int .i64 H, .int .u8 t, .int .i64 s, .int .i64 l, .int .i64 q] 64)).alloc (.cells #[.int .i64 x, .int .i64 y] 25)).alloc (.cells #[.int .i64 0, .int .i64 0] 25)) = W0 at *
  clear hW0
  have hB := same W0
  have KS := K1; have KR := K2
  go_wp2_with (first | (go_at_call 42; ((with_reducible refine (home_calls _ _ _ _ _ _ _ _ _ _ fw1 fw2 fh1 fh2 x1 x2 y1 y2).mono ?_); rintro e w1 ⟨rfl, hb1⟩; replace hB := next hB hb1; replace K1 := bk_below K1 hb1; replace K2 := bk_below K2 hb1; have hc1 := bk_cell K1; have hc2 := bk_cell K2; have hf2 := bk_free K2; rw [EU.out, EV.out])) | (go_at_call 56; ((with_reducible refine (glued_calls _ _ _ _ _ _ _ _ (by decide) (by decide)).mono ?_); rintro e w1 ⟨rfl, hb1⟩; replace hB := next hB hb1; replace K1 := bk_below K1 hb1; replace K2 := bk_below K2 hb1; have hc1 := bk_cell K1; have hc2 := bk_cell K2; have hf2 := bk_free K2; rw [show gluedI 5 = false from rfl])) | (go_at_call 69; ((with_reducible refine (on_calls _ _ _).mono ?_); rintro e w1 ⟨rfl, hb1⟩; replace hB := next hB hb1; replace K1 := bk_below K1 hb1; replace K2 := bk_below K2 hb1; have hc1 := bk_cell K1; have hc2 := bk_cell K2; have hf2 := bk_free K2)))
  go_region_held3 (fun w' => w'.cell? ⟨w.heap.size, 0, none⟩ = some (.int .u8 5) ∧ w'.cell? ⟨w.heap.size, 1, none⟩ = some (.int .i64 W) ∧ w'.cell? ⟨w.heap.size, 2, none⟩ = some (.int .i64 H) ∧ w'.cell? ⟨w.heap.size, 3, none⟩ = some (.int .u8 t) ∧ w'.cell? ⟨w.heap.size, 4, none⟩ = some (.int .i64 s) ∧ w'.cell? ⟨w.heap.size, 5, none⟩ = some (.int .i64 l) ∧ w'.cell? ⟨w.heap.size, 6, none⟩ = some (.int .i64 q) ∧ Below W0.heap.size W0 w')
    (first | exact keep7 KS (Below.drew hB) | exact keep7n KS (by assumption) hb1)
    (first | (go_at_call 49; ((with_reducible refine (way_calls 5 _ (by decide) (by decide)).mono ?_); rintro e w1 ⟨rfl, hb1⟩; dsimp only [wayF]; simp only [Int.reduceEq, ↓reduceIte])) | (go_at_call 82; ((with_reducible refine (sphere_calls _ _ _ _ _ _ _ _ _ hs1 w3 (by omega) (by omega) (by omega) (by omega)).mono ?_); rintro e w1 ⟨rfl, hb1⟩; rw [HX.out, HY.out])))
  rename_i hH
  replace hB := hH.2.2.2.2.2.2.2
  clear hH
  replace K1 := bk_below KS hB; replace K2 := bk_below KR hB; have hc1 := bk_cell K1; have hc2 := bk_cell K2; have hf2 := bk_free K2
  go_wp2_with (first | (go_at_call 50; ((with_reducible refine (place_calls _ _ _ _ _ _ _ _ _ _ fw1 fw2 fh1 fh2 (by omega) (by omega) (by omega) (by omega)).mono ?_); rintro e w1 ⟨rfl, hb1⟩; replace hB := next hB hb1; replace K1 := bk_below K1 hb1; replace K2 := bk_below K2 hb1; have hc1 := bk_cell K1; have hc2 := bk_cell K2; have hf2 := bk_free K2; rw [PU.out, PV.out])))
  refine end_ct (w.heap.size + 1 + 1) 25 rfl rfl rfl Try.underlying25 rfl ?_
  apply Exists.intro
  refine ⟨(by repeat (with_reducible (first | exact K2 | apply bk_set | refine bk_drew ?_ | refine bk_drewN ?_ _ | refine bk_alloc ?_ _ | refine bk_far ?_ (by simp; try omega) _))), by kernel_rfl, ?_⟩
  exact Ret.of (by simp) (by repeat (first | exact hBw.trans (hB.mono hBw.size) | refine Below.setCell ?_ (by simp; omega) _))

set_option maxHeartbeats 4000000 in
theorem cell_sphere_out (W H t s x y : Int) (w : World) (h : TopoOk 5 W H t s) (hin : (onI (x - first W) W && onI (y - first H) H) = false) (x1 : -1099511627776 ≤ x) (x2 : x ≤ 1099511627776) (y1 : -1099511627776 ≤ y) (y2 : y ≤ 1099511627776) :
    Calls Try.prog 37 #[grid 5 W H t s (first W) (first H), pt x y] w (Ret (.tuple #[pt 0 0, .int .i64 60]) w) := by
  have w0 := h.w0; have w3 := h.w1; have h0 := h.h0; have h3 := h.h1
  obtain ⟨fw1, fw2⟩ := first_bounds W w0 w3
  obtain ⟨fh1, fh2⟩ := first_bounds H h0 h3
  have EU := Lib.hid (gluedU (x := x) w0); have EV := Lib.hid (gluedU (x := y) h0)
  have PU := Lib.hid (placeU (x := x - first W) w0); have PV := Lib.hid (placeU (x := y - first H) h0)
  obtain ⟨l, hl⟩ : ∃ l, first W = l := ⟨_, rfl⟩
  obtain ⟨q, hq⟩ : ∃ q, first H = q := ⟨_, rfl⟩
  rw [hl] at fw1 fw2 EU PU hin ⊢
  rw [hq] at fh1 fh2 EV PV hin ⊢
  clear hl hq
  have K1 : (((w.alloc (.cells #[.int .u8 5, .int .i64 W, .int .i64 H, .int .u8 t, .int .i64 s, .int .i64 l, .int .i64 q] 64)).alloc (.cells #[.int .i64 x, .int .i64 y] 25)).alloc (.cells #[.int .i64 0, .int .i64 0] 25)).heap[w.heap.size]? = some (.cells #[.int .u8 5, .int .i64 W, .int .i64 H, .int .u8 t, .int .i64 s, .int .i64 l, .int .i64 q] 64 (0, 0)) := bk_alloc (bk_alloc (bk_new _ _) _) _
  have K2 : (((w.alloc (.cells #[.int .u8 5, .int .i64 W, .int .i64 H, .int .u8 t, .int .i64 s, .int .i64 l, .int .i64 q] 64)).alloc (.cells #[.int .i64 x, .int .i64 y] 25)).alloc (.cells #[.int .i64 0, .int .i64 0] 25)).heap[w.heap.size + 1 + 1]? = some (.cells #[.int .i64 0, .int .i64 0] 25 (0, 0)) := by have := bk_new ((w.alloc (.cells #[.int .u8 5, .int .i64 W, .int .i64 H, .int .u8 t, .int .i64 s, .int .i64 l, .int .i64 q] 64)).alloc (.cells #[.int .i64 x, .int .i64 y] 25)) (.cells #[.int .i64 0, .int .i64 0] 25); simpa only [World.size_alloc] using this
  have hBw : Below w.heap.size w (((w.alloc (.cells #[.int .u8 5, .int .i64 W, .int .i64 H, .int .u8 t, .int .i64 s, .int .i64 l, .int .i64 q] 64)).alloc (.cells #[.int .i64 x, .int .i64 y] 25)).alloc (.cells #[.int .i64 0, .int .i64 0] 25)) := ((boxed _ _).alloc (by simp) _).alloc (by simp; omega) _
  go_enter Try.func37, Try.ntmps37
  go_wp2_with (first | fail)
  generalize hW0 : (((w.alloc (.cells #[.int .u8 5, .int .i64 W, .int .i64 H, .int .u8 t, .int .i64 s, .int .i64 l, .int .i64 q] 64)).alloc (.cells #[.int .i64 x, .int .i64 y] 25)).alloc (.cells #[.int .i64 0, .int .i64 0] 25)) = W0 at *
  clear hW0
  have hB := same W0
  have KS := K1; have KR := K2
  cases hin1 : onI (x - l) W <;> cases hin2 : onI (y - q) H <;> simp only [hin1, hin2, Bool.and_true, Bool.and_false, Bool.true_and, Bool.false_and, reduceCtorEq, Bool.and_self] at hin
  all_goals
    go_wp2_with (first | (go_at_call 42; ((with_reducible refine (home_calls _ _ _ _ _ _ _ _ _ _ fw1 fw2 fh1 fh2 x1 x2 y1 y2).mono ?_); rintro e w1 ⟨rfl, hb1⟩; replace hB := next hB hb1; replace K1 := bk_below K1 hb1; replace K2 := bk_below K2 hb1; have hc1 := bk_cell K1; have hc2 := bk_cell K2; have hf2 := bk_free K2; rw [EU.out, EV.out])) | (go_at_call 56; ((with_reducible refine (glued_calls _ _ _ _ _ _ _ _ (by decide) (by decide)).mono ?_); rintro e w1 ⟨rfl, hb1⟩; replace hB := next hB hb1; replace K1 := bk_below K1 hb1; replace K2 := bk_below K2 hb1; have hc1 := bk_cell K1; have hc2 := bk_cell K2; have hf2 := bk_free K2; rw [show gluedI 5 = false from rfl])) | (go_at_call 69; ((with_reducible refine (on_calls _ _ _).mono ?_); rintro e w1 ⟨rfl, hb1⟩; replace hB := next hB hb1; replace K1 := bk_below K1 hb1; replace K2 := bk_below K2 hb1; have hc1 := bk_cell K1; have hc2 := bk_cell K2; have hf2 := bk_free K2)))
    refine end_ct (w.heap.size + 1 + 1) 25 rfl rfl rfl Try.underlying25 rfl ?_
    apply Exists.intro
    refine ⟨(by repeat (with_reducible (first | exact K2 | apply bk_set | refine bk_drew ?_ | refine bk_drewN ?_ _ | refine bk_alloc ?_ _ | refine bk_far ?_ (by simp; try omega) _))), by kernel_rfl, ?_⟩
    exact Ret.of rfl (by repeat (first | exact hBw.trans (hB.mono hBw.size) | refine Below.setCell ?_ (by simp; omega) _))

end Go.Proofs.Ytfdehecekghlmaa


set_option linter.unusedVariables false
set_option linter.unusedSimpArgs false
namespace Go.Proofs.Ytfdehecekghlmaa
open Go.RowKit Go.Viv

def nearP (p : Int × Int) : Bool := nearI p.1 && nearI p.2

/-- places lie in memory from an address on -/
def PtsAt (w : World) (b o : Nat) (ps : List (Int × Int)) : Prop :=
  ∀ (j : Nat) (p : Int × Int), ps[j]? = some p → w.cell? ⟨b, o + j * 2, none⟩ = some (.int .i64 p.1) ∧ w.cell? ⟨b, o + j * 2 + 1, none⟩ = some (.int .i64 p.2)

theorem PtsAt.below {w w1 : World} {b o : Nat} {ps : List (Int × Int)} (h : PtsAt w b o ps) (hb : Below w.heap.size w w1) : PtsAt w1 b o ps :=
  fun j p hp => ⟨cell_later hb (h j p hp).1, cell_later hb (h j p hp).2⟩

theorem all_false {ps : List (Int × Int)} {j : Nat} {x y : Int} (h : ps[j]? = some (x, y)) (hn : (nearI x && nearI y) = false) : ps.all nearP = false := by
  rw [← Bool.not_eq_true]
  intro ha
  have := List.all_eq_true.1 ha _ (List.mem_of_getElem? h)
  exact absurd this (by unfold nearP; rw [hn]; simp)
theorem all_snoc {ps : List (Int × Int)} {j : Nat} {x y : Int} (ha : (ps.take j).all nearP = true) (h : ps[j]? = some (x, y)) (hn : (nearI x && nearI y) = true) : (ps.take (j + 1)).all nearP = true := by
  rw [List.take_add_one, h]
  simp only [Option.toList_some, List.all_append, ha, Bool.true_and, List.all_cons, List.all_nil, Bool.and_true]
  exact hn

abbrev ofW (k W H t s : Int) (w : World) : World := (w.alloc (.cells #[.int .u8 k, .int .i64 W, .int .i64 H, .int .u8 t, .int .i64 s] 23)).alloc (.cells #[.int .u8 0, .int .i64 0, .int .i64 0, .int .u8 0, .int .i64 0, .int .i64 0, .int .i64 0] 64)

theorem ofW_K1 (k W H t s : Int) (w : World) : (ofW k W H t s w).heap[w.heap.size]? = some (.cells #[.int .u8 k, .int .i64 W, .int .i64 H, .int .u8 t, .int .i64 s] 23 (0, 0)) := bk_alloc (bk_new _ _) _
theorem ofW_K2 (k W H t s : Int) (w : World) : (ofW k W H t s w).heap[w.heap.size + 1]? = some (.cells #[.int .u8 0, .int .i64 0, .int .i64 0, .int .u8 0, .int .i64 0, .int .i64 0, .int .i64 0] 64 (0, 0)) := by
  have := bk_new (w.alloc (.cells #[.int .u8 k, .int .i64 W, .int .i64 H, .int .u8 t, .int .i64 s] 23)) (.cells #[.int .u8 0, .int .i64 0, .int .i64 0, .int .u8 0, .int .i64 0, .int .i64 0, .int .i64 0] 64)
  simpa only [World.size_alloc] using this
theorem ofW_B (k W H t s : Int) (w : World) : Below w.heap.size w (ofW k W H t s w) := (boxed _ _).alloc (by simp) _

set_option maxHeartbeats 4000000 in
theorem of_bad (k W H t s : Int) (v : Value) (w : World) (t0 : 0 ≤ t) (h : checkE k W H t s ≠ 0) :
    Calls Try.prog 36 #[topoV k W H t s, v] w (Ret (.tuple #[grid 0 0 0 0 0 0 0, .int .i64 9]) w) := by
  have K1 := ofW_K1 k W H t s w; have K2 := ofW_K2 k W H t s w; have hBw := ofW_B k W H t s w
  unfold ofW at K1 K2 hBw
  have hne : (checkE k W H t s != 0) = true := by simpa using h
  clear h
  go_enter Try.func36, Try.ntmps36
  go_wp2_with (first | fail)
  generalize hW0 : (w.alloc (.cells #[.int .u8 k, .int .i64 W, .int .i64 H, .int .u8 t, .int .i64 s] 23)).alloc (.cells #[.int .u8 0, .int .i64 0, .int .i64 0, .int .u8 0, .int .i64 0, .int .i64 0, .int .i64 0] 64) = W0 at *
  clear hW0
  have hB := same W0
  have KR := K2
  go_wp2_with (first | (go_at_call 21; ((with_reducible refine (Check_calls _ _ _ _ _ _ t0).mono ?_); rintro e w1 ⟨rfl, hb1⟩; replace hB := next hB hb1; replace K2 := bk_below K2 hb1; have hc2 := bk_cell K2; have hf2 := bk_free K2)))
  refine end_ct (w.heap.size + 1) 64 rfl rfl rfl Try.underlying64 rfl ?_
  apply Exists.intro
  refine ⟨(by repeat (with_reducible (first | exact K2 | apply bk_set | refine bk_drew ?_ | refine bk_drewN ?_ _ | refine bk_alloc ?_ _ | refine bk_far ?_ (by simp; try omega) _))), by kernel_rfl, ?_⟩
  exact Ret.of rfl (by repeat (with_reducible (first | exact hBw.trans (hB.mono hBw.size) | refine Below.setCell ?_ (by have h1_ := hBw.size; have h2_ := hB.size; (try simp) <;> omega) _ | refine Below.drew ?_ | refine Below.alloc ?_ (by have h1_ := hBw.size; have h2_ := hB.size; (try simp) <;> omega) _)))

set_option maxHeartbeats 4000000 in
theorem of_pts (k W H t s : Int) (b o n c : Nat) (ps : List (Int × Int)) (w : World) (t0 : 0 ≤ t) (h : checkE k W H t s = 0) (hn : ps.length = n) (hn2 : n < 1000) (hps : PtsAt w b o ps) :
    Calls Try.prog 36 #[topoV k W H t s, .slice (some ⟨b, o, none⟩) n c] w
      (Ret (if ps.all nearP then .tuple #[grid k W H t s (first W) (first H), .int .i64 0] else .tuple #[grid 0 0 0 0 0 0 0, .int .i64 5]) w) := by
  have K1 := ofW_K1 k W H t s w; have K2 := ofW_K2 k W H t s w; have hBw := ofW_B k W H t s w
  unfold ofW at K1 K2 hBw
  obtain ⟨X, hX⟩ : ∃ X, (if ps.all nearP then Value.tuple #[grid k W H t s (first W) (first H), .int .i64 0] else Value.tuple #[grid 0 0 0 0 0 0 0, .int .i64 5]) = X := ⟨_, rfl⟩
  rw [hX]
  have HX := Lib.hid hX; clear hX
  have hh := Lib.hid h; clear h
  have HN := Lib.hid hn; clear hn
  replace hps := hps.below hBw
  have Hps := Lib.hid hps; clear hps
  go_enter Try.func36, Try.ntmps36
  go_wp2_with (first | fail)
  generalize hW0 : (w.alloc (.cells #[.int .u8 k, .int .i64 W, .int .i64 H, .int .u8 t, .int .i64 s] 23)).alloc (.cells #[.int .u8 0, .int .i64 0, .int .i64 0, .int .u8 0, .int .i64 0, .int .i64 0, .int .i64 0] 64) = W0 at *
  clear hW0
  have hB := same W0
  have KS := K1; have KR := K2
  go_wp2_with (first | (go_at_call 21; ((with_reducible refine (Check_calls _ _ _ _ _ _ t0).mono ?_); rintro e w1 ⟨rfl, hb1⟩; replace hB := next hB hb1; replace K2 := bk_below K2 hb1; have hc2 := bk_cell K2; have hf2 := bk_free K2; rw [hh.out])))
  have hB1 := hB
  go_loopw [16] (fun i wr => ∃ j : Nat, i = .int .i64 j ∧ j ≤ n ∧ Hid ((ps.take j).all nearP = true) ∧ Below W0.heap.size W0 wr) (fun i _ => n - (intOf i).toNat)
  case atStart => exact ⟨0, rfl, Nat.zero_le _, by show _ = _; simp, hB⟩
  case round =>
    obtain ⟨j, rfl, hj, HA, hB⟩ := hrel
    have K1 := bk_below KS hB; have K2 := bk_below KR hB; have hc1 := bk_cell K1; have hc2 := bk_cell K2; have hf2 := bk_free K2
    by_cases hlt : j < n
    · obtain ⟨p, hp⟩ : ∃ p, ps[j]? = some p := ⟨_, List.getElem?_eq_getElem (by rw [HN.out]; exact hlt)⟩
      obtain ⟨px, py⟩ := p
      have hcx : wr.cell? ⟨b, o + j * 2, none⟩ = some (.int .i64 px) := cell_later hB (Hps.out j _ hp).1
      have hcy : wr.cell? ⟨b, o + j * 2 + 1, none⟩ = some (.int .i64 py) := cell_later hB (Hps.out j _ hp).2
      have Hp := Lib.hid hp; clear hp
      cases hnr : (nearI px && nearI py)
      · have hall : ps.all nearP = false := all_false Hp.out hnr
        have HE := Lib.hid (HX.out.symm.trans (by rw [hall]; rfl) : X = .tuple #[grid 0 0 0 0 0 0 0, .int .i64 5])
        clear hall
        have HN2 := Lib.hid hnr; clear hnr
        go_wp2_with (first | (go_at_call 68; ((with_reducible refine (near_calls _ _ _).mono ?_); rintro e w1 ⟨rfl, hb1⟩; replace hB := next hB (box hb1); replace K2 := bk_below K2 (box hb1); have hc2 := bk_cell K2; have hf2 := bk_free K2; rw [HN2.out])))
        refine end_ct (w.heap.size + 1) 64 rfl rfl rfl Try.underlying64 rfl ?_
        apply Exists.intro
        refine ⟨(by repeat (with_reducible (first | exact K2 | apply bk_set | refine bk_drew ?_ | refine bk_drewN ?_ _ | refine bk_alloc ?_ _ | refine bk_far ?_ (by simp; try omega) _))), by kernel_rfl, ?_⟩
        exact Ret.of (HE.out ▸ rfl) (by repeat (with_reducible (first | exact hBw.trans (hB.mono hBw.size) | refine Below.setCell ?_ (by have h1_ := hBw.size; have h2_ := hB.size; (try simp) <;> omega) _ | refine Below.drew ?_ | refine Below.alloc ?_ (by have h1_ := hBw.size; have h2_ := hB.size; (try simp) <;> omega) _)))
      · have hall : Hid ((ps.take (j + 1)).all nearP = true) := all_snoc HA.out Hp.out hnr
        have HN2 := Lib.hid hnr; clear hnr
        go_wp2_with (first | (go_at_call 68; ((with_reducible refine (near_calls _ _ _).mono ?_); rintro e w1 ⟨rfl, hb1⟩; replace hB := next hB (box hb1); replace K2 := bk_below K2 (box hb1); have hc2 := bk_cell K2; have hf2 := bk_free K2; rw [HN2.out])))
        go_roundw
        case rel => exact ⟨j + 1, by go_num, by omega, hall, hB⟩
        case measure => simp [intOf]; omega
    · obtain rfl : j = n := by omega
      have hall : ps.all nearP = true := by have := HA.out; rw [List.take_of_length_le (by rw [HN.out]; exact Nat.le_refl _)] at this; exact this
      have HE := Lib.hid (HX.out.symm.trans (by rw [hall]; rfl) : X = .tuple #[grid k W H t s (first W) (first H), .int .i64 0])
      clear hall
      go_wp2_with (first | (go_at_call 22; ((with_reducible refine (Home_ok _ _ _ _ _ _ t0 hh.out).mono ?_); rintro e w1 ⟨rfl, hb1⟩; replace hB := next hB hb1; replace K1 := bk_below K1 hb1; replace K2 := bk_below K2 hb1; have hc1 := bk_cell K1; have hc2 := bk_cell K2; have hf2 := bk_free K2; have hl1 := bk_lt K1; have hl2 := bk_lt K2)))
      refine end_ct (w.heap.size + 1) 64 rfl rfl rfl Try.underlying64 rfl ?_
      apply Exists.intro
      refine ⟨(by repeat (with_reducible (first | exact K2 | apply bk_set | refine bk_drew ?_ | refine bk_drewN ?_ _ | refine bk_alloc ?_ _ | refine bk_far ?_ (by simp; try omega) _))), by kernel_rfl, ?_⟩
      exact Ret.of (HE.out ▸ rfl) (by repeat (with_reducible (first | exact hBw.trans (hB.mono hBw.size) | refine Below.setCell ?_ (by have h1_ := hBw.size; have h2_ := hB.size; (try simp) <;> omega) _ | refine Below.drew ?_ | refine Below.alloc ?_ (by have h1_ := hBw.size; have h2_ := hB.size; (try simp) <;> omega) _)))

end Go.Proofs.Ytfdehecekghlmaa


set_option linter.unusedVariables false
set_option linter.unusedSimpArgs false
namespace Go.Proofs.Ytfdehecekghlmaa
open Go.RowKit Go.Viv

theorem nearI_iff {x : Int} : nearI x = true ↔ -1099511627776 ≤ x ∧ x ≤ 1099511627776 := by unfold nearI; simp

/-- grid.cell, of a topology that may be and a place that is near -/
theorem cell_calls (k W H t s x y : Int) (w : World) (hk : checkE k W H t s = 0) (t0 : 0 ≤ t) (hx : nearI x = true) (hy : nearI y = true) :
    Calls Try.prog 37 #[grid k W H t s (first W) (first H), pt x y] w (Ret (.tuple #[pt (cellX k W H t s x y) (cellY k W H t s x y), .int .i64 (cellE k W H t s x y)]) w) := by
  have h := topoOk t0 hk
  obtain ⟨x1, x2⟩ := nearI_iff.1 hx
  obtain ⟨y1, y2⟩ := nearI_iff.1 hy
  have k1 := h.k1; have k5 := h.k5
  by_cases hg : gluedI k = true
  · have e0 : cellE k W H t s x y = 0 := by unfold cellE; rw [if_neg (by simp [hk]), if_neg (by simp [hx, hy]), if_pos hg]
    have e1 : cellX k W H t s x y = cellU k W H t s (x - first W) (y - first H) + first W := by unfold cellX; rw [if_neg (by simp [e0]), if_pos hg]
    have e2 : cellY k W H t s x y = cellV k W H t s (x - first W) (y - first H) + first H := by unfold cellY; rw [if_neg (by simp [e0]), if_pos hg]
    rw [e0, e1, e2]
    have : k = 2 ∨ k = 3 ∨ k = 4 := by unfold gluedI at hg; simp at hg; omega
    rcases this with rfl | rfl | rfl
    · exact cell_torus W H t s x y w h x1 x2 y1 y2
    · exact cell_klein W H t s x y w h x1 x2 y1 y2
    · exact cell_cross W H t s x y w h x1 x2 y1 y2
  · have hk15 : k = 1 ∨ k = 5 := by unfold gluedI at hg; simp at hg; omega
    cases hin : (onI (x - first W) W && onI (y - first H) H) with
    | true =>
      have e0 : cellE k W H t s x y = 0 := by unfold cellE; rw [if_neg (by simp [hk]), if_neg (by simp [hx, hy]), if_neg hg, if_pos hin]
      have e1 : cellX k W H t s x y = x := by unfold cellX; rw [if_neg (by simp [e0]), if_neg hg]
      have e2 : cellY k W H t s x y = y := by unfold cellY; rw [if_neg (by simp [e0]), if_neg hg]
      rw [e0, e1, e2]
      rcases hk15 with rfl | rfl
      · exact cell_flat_in W H t s x y w h hin x1 x2 y1 y2
      · exact cell_sphere_in W H t s x y w h hin x1 x2 y1 y2
    | false =>
      have e0 : cellE k W H t s x y = 60 := by unfold cellE; rw [if_neg (by simp [hk]), if_neg (by simp [hx, hy]), if_neg hg, if_neg (by simp [hin])]
      have e1 : cellX k W H t s x y = 0 := by unfold cellX; rw [if_pos (by simp [e0])]
      have e2 : cellY k W H t s x y = 0 := by unfold cellY; rw [if_pos (by simp [e0])]
      rw [e0, e1, e2]
      rcases hk15 with rfl | rfl
      · exact cell_flat_out W H t s x y w h hin x1 x2 y1 y2
      · exact cell_sphere_out W H t s x y w h hin x1 x2 y1 y2

theorem pts_one {w : World} {b : Nat} {x y : Int} {T : Nat} (h : w.heap[b]? = some (.cells #[.int .i64 x, .int .i64 y] T (0, 0))) : PtsAt w b 0 [(x, y)] := by
  intro j p hp
  match j with
  | 0 => simp at hp; subst hp; exact ⟨(bk_cell h 0).trans rfl, (bk_cell h 1).trans rfl⟩
  | j + 1 => simp at hp


set_option maxHeartbeats 4000000 in
theorem CellF_bad (k W H t s x y : Int) (w : World) (t0 : 0 ≤ t) (h : checkE k W H t s ≠ 0) :
    Calls Try.prog 12 #[topoV k W H t s, pt x y] w (Ret (.tuple #[pt 0 0, .int .i64 9]) w) := by
  have K1 : ((((w.alloc (.cells #[.int .u8 k, .int .i64 W, .int .i64 H, .int .u8 t, .int .i64 s] 23)).alloc (.cells #[.int .i64 x, .int .i64 y] 25)).alloc (.cells #[.int .i64 0, .int .i64 0] 25)).alloc (.cells #[.int .i64 x, .int .i64 y] 25)).heap[w.heap.size + 1]? = some (.cells #[.int .i64 x, .int .i64 y] 25 (0, 0)) := bk_alloc (bk_alloc (by have := bk_new (w.alloc (.cells #[.int .u8 k, .int .i64 W, .int .i64 H, .int .u8 t, .int .i64 s] 23)) (.cells #[.int .i64 x, .int .i64 y] 25); simpa only [World.size_alloc] using this) _) _
  have K2 : ((((w.alloc (.cells #[.int .u8 k, .int .i64 W, .int .i64 H, .int .u8 t, .int .i64 s] 23)).alloc (.cells #[.int .i64 x, .int .i64 y] 25)).alloc (.cells #[.int .i64 0, .int .i64 0] 25)).alloc (.cells #[.int .i64 x, .int .i64 y] 25)).heap[w.heap.size + 1 + 1]? = some (.cells #[.int .i64 0, .int .i64 0] 25 (0, 0)) := bk_alloc (by have := bk_new ((w.alloc (.cells #[.int .u8 k, .int .i64 W, .int .i64 H, .int .u8 t, .int .i64 s] 23)).alloc (.cells #[.int .i64 x, .int .i64 y] 25)) (.cells #[.int .i64 0, .int .i64 0] 25); simpa only [World.size_alloc] using this) _
  have K3 : ((((w.alloc (.cells #[.int .u8 k, .int .i64 W, .int .i64 H, .int .u8 t, .int .i64 s] 23)).alloc (.cells #[.int .i64 x, .int .i64 y] 25)).alloc (.cells #[.int .i64 0, .int .i64 0] 25)).alloc (.cells #[.int .i64 x, .int .i64 y] 25)).heap[w.heap.size + 1 + 1 + 1]? = some (.cells #[.int .i64 x, .int .i64 y] 25 (0, 0)) := by have := bk_new (((w.alloc (.cells #[.int .u8 k, .int .i64 W, .int .i64 H, .int .u8 t, .int .i64 s] 23)).alloc (.cells #[.int .i64 x, .int .i64 y] 25)).alloc (.cells #[.int .i64 0, .int .i64 0] 25)) (.cells #[.int .i64 x, .int .i64 y] 25); simpa only [World.size_alloc] using this
  have hBw : Below w.heap.size w ((((w.alloc (.cells #[.int .u8 k, .int .i64 W, .int .i64 H, .int .u8 t, .int .i64 s] 23)).alloc (.cells #[.int .i64 x, .int .i64 y] 25)).alloc (.cells #[.int .i64 0, .int .i64 0] 25)).alloc (.cells #[.int .i64 x, .int .i64 y] 25)) := (((boxed _ _).alloc (by simp) _).alloc (by simp; omega) _).alloc (by simp; omega) _
  go_enter Try.func12, Try.ntmps12
  go_wp2_with (first | fail)
  generalize hW0 : ((((w.alloc (.cells #[.int .u8 k, .int .i64 W, .int .i64 H, .int .u8 t, .int .i64 s] 23)).alloc (.cells #[.int .i64 x, .int .i64 y] 25)).alloc (.cells #[.int .i64 0, .int .i64 0] 25)).alloc (.cells #[.int .i64 x, .int .i64 y] 25)) = W0 at *
  clear hW0
  have hB := same W0
  have KR := K2
  have HP := Lib.hid (pts_one K3); clear K3
  go_wp2_with (first | (go_at_call 36; ((with_reducible refine (of_bad _ _ _ _ _ _ _ t0 h).mono ?_); rintro e w1 ⟨rfl, hb1⟩; replace hB := next hB hb1; replace K1 := bk_below K1 hb1; replace K2 := bk_below K2 hb1; have hc1 := bk_cell K1; have hc2 := bk_cell K2; have hf2 := bk_free K2; have hl1 := bk_lt K1; have hl2 := bk_lt K2)))
  refine end_ct (w.heap.size + 1 + 1) 25 rfl rfl rfl Try.underlying25 rfl ?_
  apply Exists.intro
  refine ⟨(by repeat (with_reducible (first | exact K2 | apply bk_set | refine bk_drew ?_ | refine bk_drewN ?_ _ | refine bk_alloc ?_ _ | refine bk_far ?_ (by simp; try omega) _))), by kernel_rfl, ?_⟩
  exact Ret.of rfl (by repeat (with_reducible (first | exact hBw.trans (hB.mono hBw.size) | refine Below.setCell ?_ (by have h1_ := hBw.size; have h2_ := hB.size; (try simp) <;> omega) _ | refine Below.drew ?_ | refine Below.alloc ?_ (by have h1_ := hBw.size; have h2_ := hB.size; (try simp) <;> omega) _)))

set_option maxHeartbeats 4000000 in
theorem CellF_far (k W H t s x y : Int) (w : World) (t0 : 0 ≤ t) (h : checkE k W H t s = 0) (hn : (nearI x && nearI y) = false) :
    Calls Try.prog 12 #[topoV k W H t s, pt x y] w (Ret (.tuple #[pt 0 0, .int .i64 5]) w) := by
  have h := Lib.hid h
  have HA : Hid ([(x, y)].all nearP = false) := by show [(x, y)].all nearP = false; simpa [nearP] using hn
  clear hn
  have K1 : ((((w.alloc (.cells #[.int .u8 k, .int .i64 W, .int .i64 H, .int .u8 t, .int .i64 s] 23)).alloc (.cells #[.int .i64 x, .int .i64 y] 25)).alloc (.cells #[.int .i64 0, .int .i64 0] 25)).alloc (.cells #[.int .i64 x, .int .i64 y] 25)).heap[w.heap.size + 1]? = some (.cells #[.int .i64 x, .int .i64 y] 25 (0, 0)) := bk_alloc (bk_alloc (by have := bk_new (w.alloc (.cells #[.int .u8 k, .int .i64 W, .int .i64 H, .int .u8 t, .int .i64 s] 23)) (.cells #[.int .i64 x, .int .i64 y] 25); simpa only [World.size_alloc] using this) _) _
  have K2 : ((((w.alloc (.cells #[.int .u8 k, .int .i64 W, .int .i64 H, .int .u8 t, .int .i64 s] 23)).alloc (.cells #[.int .i64 x, .int .i64 y] 25)).alloc (.cells #[.int .i64 0, .int .i64 0] 25)).alloc (.cells #[.int .i64 x, .int .i64 y] 25)).heap[w.heap.size + 1 + 1]? = some (.cells #[.int .i64 0, .int .i64 0] 25 (0, 0)) := bk_alloc (by have := bk_new ((w.alloc (.cells #[.int .u8 k, .int .i64 W, .int .i64 H, .int .u8 t, .int .i64 s] 23)).alloc (.cells #[.int .i64 x, .int .i64 y] 25)) (.cells #[.int .i64 0, .int .i64 0] 25); simpa only [World.size_alloc] using this) _
  have K3 : ((((w.alloc (.cells #[.int .u8 k, .int .i64 W, .int .i64 H, .int .u8 t, .int .i64 s] 23)).alloc (.cells #[.int .i64 x, .int .i64 y] 25)).alloc (.cells #[.int .i64 0, .int .i64 0] 25)).alloc (.cells #[.int .i64 x, .int .i64 y] 25)).heap[w.heap.size + 1 + 1 + 1]? = some (.cells #[.int .i64 x, .int .i64 y] 25 (0, 0)) := by have := bk_new (((w.alloc (.cells #[.int .u8 k, .int .i64 W, .int .i64 H, .int .u8 t, .int .i64 s] 23)).alloc (.cells #[.int .i64 x, .int .i64 y] 25)).alloc (.cells #[.int .i64 0, .int .i64 0] 25)) (.cells #[.int .i64 x, .int .i64 y] 25); simpa only [World.size_alloc] using this
  have hBw : Below w.heap.size w ((((w.alloc (.cells #[.int .u8 k, .int .i64 W, .int .i64 H, .int .u8 t, .int .i64 s] 23)).alloc (.cells #[.int .i64 x, .int .i64 y] 25)).alloc (.cells #[.int .i64 0, .int .i64 0] 25)).alloc (.cells #[.int .i64 x, .int .i64 y] 25)) := (((boxed _ _).alloc (by simp) _).alloc (by simp; omega) _).alloc (by simp; omega) _
  go_enter Try.func12, Try.ntmps12
  go_wp2_with (first | fail)
  generalize hW0 : ((((w.alloc (.cells #[.int .u8 k, .int .i64 W, .int .i64 H, .int .u8 t, .int .i64 s] 23)).alloc (.cells #[.int .i64 x, .int .i64 y] 25)).alloc (.cells #[.int .i64 0, .int .i64 0] 25)).alloc (.cells #[.int .i64 x, .int .i64 y] 25)) = W0 at *
  clear hW0
  have hB := same W0
  have KR := K2
  have HP := Lib.hid (pts_one K3); clear K3
  go_wp2_with (first | (go_at_call 36; ((with_reducible refine (of_pts _ _ _ _ _ _ _ 1 _ [(x, y)] _ t0 h.out rfl (by decide) HP.out).mono ?_); rintro e w1 ⟨rfl, hb1⟩; replace hB := next hB hb1; replace K1 := bk_below K1 hb1; replace K2 := bk_below K2 hb1; have hc1 := bk_cell K1; have hc2 := bk_cell K2; have hf2 := bk_free K2; have hl1 := bk_lt K1; have hl2 := bk_lt K2; rw [HA.out]; simp only [Bool.false_eq_true, ↓reduceIte])))
  refine end_ct (w.heap.size + 1 + 1) 25 rfl rfl rfl Try.underlying25 rfl ?_
  apply Exists.intro
  refine ⟨(by repeat (with_reducible (first | exact K2 | apply bk_set | refine bk_drew ?_ | refine bk_drewN ?_ _ | refine bk_alloc ?_ _ | refine bk_far ?_ (by simp; try omega) _))), by kernel_rfl, ?_⟩
  exact Ret.of rfl (by repeat (with_reducible (first | exact hBw.trans (hB.mono hBw.size) | refine Below.setCell ?_ (by have h1_ := hBw.size; have h2_ := hB.size; (try simp) <;> omega) _ | refine Below.drew ?_ | refine Below.alloc ?_ (by have h1_ := hBw.size; have h2_ := hB.size; (try simp) <;> omega) _)))

set_option maxHeartbeats 4000000 in
theorem CellF_ok (k W H t s x y : Int) (w : World) (t0 : 0 ≤ t) (h : checkE k W H t s = 0) (hx : nearI x = true) (hy : nearI y = true) :
    Calls Try.prog 12 #[topoV k W H t s, pt x y] w (Ret (.tuple #[pt (cellX k W H t s x y) (cellY k W H t s x y), .int .i64 (cellE k W H t s x y)]) w) := by
  have hk := Lib.hid h
  have HA : Hid ([(x, y)].all nearP = true) := by show [(x, y)].all nearP = true; simp [nearP, hx, hy]
  have hx := Lib.hid hx; have hy := Lib.hid hy -- cell
  obtain ⟨X, hX⟩ : ∃ X, cellX k W H t s x y = X := ⟨_, rfl⟩
  obtain ⟨Y, hY⟩ : ∃ Y, cellY k W H t s x y = Y := ⟨_, rfl⟩
  obtain ⟨E, hE⟩ : ∃ E, cellE k W H t s x y = E := ⟨_, rfl⟩
  rw [hX, hY, hE]
  have EX := Lib.hid hX; have EY := Lib.hid hY; have EE := Lib.hid hE
  clear hX hY hE h
  rename_i hx1 hy1
  clear hx1 hy1
  have K1 : ((((w.alloc (.cells #[.int .u8 k, .int .i64 W, .int .i64 H, .int .u8 t, .int .i64 s] 23)).alloc (.cells #[.int .i64 x, .int .i64 y] 25)).alloc (.cells #[.int .i64 0, .int .i64 0] 25)).alloc (.cells #[.int .i64 x, .int .i64 y] 25)).heap[w.heap.size + 1]? = some (.cells #[.int .i64 x, .int .i64 y] 25 (0, 0)) := bk_alloc (bk_alloc (by have := bk_new (w.alloc (.cells #[.int .u8 k, .int .i64 W, .int .i64 H, .int .u8 t, .int .i64 s] 23)) (.cells #[.int .i64 x, .int .i64 y] 25); simpa only [World.size_alloc] using this) _) _
  have K2 : ((((w.alloc (.cells #[.int .u8 k, .int .i64 W, .int .i64 H, .int .u8 t, .int .i64 s] 23)).alloc (.cells #[.int .i64 x, .int .i64 y] 25)).alloc (.cells #[.int .i64 0, .int .i64 0] 25)).alloc (.cells #[.int .i64 x, .int .i64 y] 25)).heap[w.heap.size + 1 + 1]? = some (.cells #[.int .i64 0, .int .i64 0] 25 (0, 0)) := bk_alloc (by have := bk_new ((w.alloc (.cells #[.int .u8 k, .int .i64 W, .int .i64 H, .int .u8 t, .int .i64 s] 23)).alloc (.cells #[.int .i64 x, .int .i64 y] 25)) (.cells #[.int .i64 0, .int .i64 0] 25); simpa only [World.size_alloc] using this) _
  have K3 : ((((w.alloc (.cells #[.int .u8 k, .int .i64 W, .int .i64 H, .int .u8 t, .int .i64 s] 23)).alloc (.cells #[.int .i64 x, .int .i64 y] 25)).alloc (.cells #[.int .i64 0, .int .i64 0] 25)).alloc (.cells #[.int .i64 x, .int .i64 y] 25)).heap[w.heap.size + 1 + 1 + 1]? = some (.cells #[.int .i64 x, .int .i64 y] 25 (0, 0)) := by have := bk_new (((w.alloc (.cells #[.int .u8 k, .int .i64 W, .int .i64 H, .int .u8 t, .int .i64 s] 23)).alloc (.cells #[.int .i64 x, .int .i64 y] 25)).alloc (.cells #[.int .i64 0, .int .i64 0] 25)) (.cells #[.int .i64 x, .int .i64 y] 25); simpa only [World.size_alloc] using this
  have hBw : Below w.heap.size w ((((w.alloc (.cells #[.int .u8 k, .int .i64 W, .int .i64 H, .int .u8 t, .int .i64 s] 23)).alloc (.cells #[.int .i64 x, .int .i64 y] 25)).alloc (.cells #[.int .i64 0, .int .i64 0] 25)).alloc (.cells #[.int .i64 x, .int .i64 y] 25)) := (((boxed _ _).alloc (by simp) _).alloc (by simp; omega) _).alloc (by simp; omega) _
  go_enter Try.func12, Try.ntmps12
  go_wp2_with (first | fail)
  generalize hW0 : ((((w.alloc (.cells #[.int .u8 k, .int .i64 W, .int .i64 H, .int .u8 t, .int .i64 s] 23)).alloc (.cells #[.int .i64 x, .int .i64 y] 25)).alloc (.cells #[.int .i64 0, .int .i64 0] 25)).alloc (.cells #[.int .i64 x, .int .i64 y] 25)) = W0 at *
  clear hW0
  have hB := same W0
  have KR := K2
  have HP := Lib.hid (pts_one K3); clear K3
  go_wp2_with (first | (go_at_call 36; ((with_reducible refine (of_pts _ _ _ _ _ _ _ 1 _ [(x, y)] _ t0 hk.out rfl (by decide) HP.out).mono ?_); rintro e w1 ⟨rfl, hb1⟩; replace hB := next hB hb1; replace K1 := bk_below K1 hb1; replace K2 := bk_below K2 hb1; have hc1 := bk_cell K1; have hc2 := bk_cell K2; have hf2 := bk_free K2; have hl1 := bk_lt K1; have hl2 := bk_lt K2; rw [HA.out]; simp only [↓reduceIte])) | (go_at_call 37; ((with_reducible refine (cell_calls _ _ _ _ _ _ _ _ hk.out t0 hx.out hy.out).mono ?_); rintro e w1 ⟨rfl, hb1⟩; replace hB := next hB (box hb1); replace K2 := bk_below K2 (box hb1); have hc2 := bk_cell K2; have hf2 := bk_free K2; rw [EE.out, EX.out, EY.out])))
  refine end_ct (w.heap.size + 1 + 1) 25 rfl rfl rfl Try.underlying25 rfl ?_
  apply Exists.intro
  refine ⟨(by repeat (with_reducible (first | exact K2 | apply bk_set | refine bk_drew ?_ | refine bk_drewN ?_ _ | refine bk_alloc ?_ _ | refine bk_far ?_ (by simp; try omega) _))), by kernel_rfl, ?_⟩
  exact Ret.of rfl (by repeat (with_reducible (first | exact hBw.trans (hB.mono hBw.size) | refine Below.setCell ?_ (by have h1_ := hBw.size; have h2_ := hB.size; (try simp) <;> omega) _ | refine Below.drew ?_ | refine Below.alloc ?_ (by have h1_ := hBw.size; have h2_ := hB.size; (try simp) <;> omega) _)))

theorem CellF_calls (k W H t s x y : Int) (w : World) (t0 : 0 ≤ t) :
    Calls Try.prog 12 #[topoV k W H t s, pt x y] w (Ret (.tuple #[pt (cellX k W H t s x y) (cellY k W H t s x y), .int .i64 (cellE k W H t s x y)]) w) := by
  by_cases h : checkE k W H t s = 0
  · cases hn : (nearI x && nearI y) with
    | true =>
      simp only [Bool.and_eq_true] at hn
      exact CellF_ok k W H t s x y w t0 h hn.1 hn.2
    | false =>
      have e0 : cellE k W H t s x y = 5 := by unfold cellE; rw [if_neg (by simp [h]), if_pos hn]
      have e1 : cellX k W H t s x y = 0 := by unfold cellX; rw [if_pos (by simp [e0])]
      have e2 : cellY k W H t s x y = 0 := by unfold cellY; rw [if_pos (by simp [e0])]
      rw [e0, e1, e2]
      exact CellF_far k W H t s x y w t0 h hn
  · have e0 : cellE k W H t s x y = 9 := by unfold cellE; rw [if_pos h]
    have e1 : cellX k W H t s x y = 0 := by unfold cellX; rw [if_pos (by simp [e0])]
    have e2 : cellY k W H t s x y = 0 := by unfold cellY; rw [if_pos (by simp [e0])]
    rw [e0, e1, e2]
    exact CellF_bad k W H t s x y w t0 h

end Go.Proofs.Ytfdehecekghlmaa


set_option linter.unusedVariables false
set_option linter.unusedSimpArgs false
namespace Go.Proofs.Ytfdehecekghlmaa
open Go.RowKit Go.Viv

theorem pts_two {w : World} {b : Nat} {x y z v : Int} {T : Nat} (h : w.heap[b]? = some (.cells #[.int .i64 x, .int .i64 y, .int .i64 z, .int .i64 v] T (0, 0))) : PtsAt w b 0 [(x, y), (z, v)] := by
  intro j p hp
  match j with
  | 0 => simp at hp; subst hp; exact ⟨(bk_cell h 0).trans rfl, (bk_cell h 1).trans rfl⟩
  | 1 => simp at hp; subst hp; exact ⟨(bk_cell h 2).trans rfl, (bk_cell h 3).trans rfl⟩
  | j + 2 => simp at hp

def sameE (k W H t s x y z v : Int) : Int :=
  if checkE k W H t s ≠ 0 then 9
  else if (nearP (x, y) && nearP (z, v)) = false then 5
  else if cellE k W H t s x y ≠ 0 then cellE k W H t s x y else cellE k W H t s z v
def sameB (k W H t s x y z v : Int) : Bool :=
  decide (sameE k W H t s x y z v = 0) && (cellX k W H t s x y == cellX k W H t s z v && cellY k W H t s x y == cellY k W H t s z v)

set_option maxHeartbeats 4000000 in
theorem Same_bad (k W H t s x y z v : Int) (w : World) (t0 : 0 ≤ t) (h : checkE k W H t s ≠ 0) :
    Calls Try.prog 24 #[topoV k W H t s, pt x y, pt z v] w (Ret (.tuple #[.bool false, .int .i64 9]) w) := by
  have KP : ((((w.alloc (.cells #[.int .u8 k, .int .i64 W, .int .i64 H, .int .u8 t, .int .i64 s] 23)).alloc (.cells #[.int .i64 x, .int .i64 y] 25)).alloc (.cells #[.int .i64 z, .int .i64 v] 25)).alloc (.cells #[.int .i64 x, .int .i64 y, .int .i64 z, .int .i64 v] 25)).heap[w.heap.size + 1]? = some (.cells #[.int .i64 x, .int .i64 y] 25 (0, 0)) := (bk_alloc (bk_alloc (by have := bk_new (w.alloc (.cells #[.int .u8 k, .int .i64 W, .int .i64 H, .int .u8 t, .int .i64 s] 23)) (.cells #[.int .i64 x, .int .i64 y] 25); simpa only [World.size_alloc] using this) _) _)
  have KQ : ((((w.alloc (.cells #[.int .u8 k, .int .i64 W, .int .i64 H, .int .u8 t, .int .i64 s] 23)).alloc (.cells #[.int .i64 x, .int .i64 y] 25)).alloc (.cells #[.int .i64 z, .int .i64 v] 25)).alloc (.cells #[.int .i64 x, .int .i64 y, .int .i64 z, .int .i64 v] 25)).heap[w.heap.size + 1 + 1]? = some (.cells #[.int .i64 z, .int .i64 v] 25 (0, 0)) := (bk_alloc (by have := bk_new ((w.alloc (.cells #[.int .u8 k, .int .i64 W, .int .i64 H, .int .u8 t, .int .i64 s] 23)).alloc (.cells #[.int .i64 x, .int .i64 y] 25)) (.cells #[.int .i64 z, .int .i64 v] 25); simpa only [World.size_alloc] using this) _)
  have KS : ((((w.alloc (.cells #[.int .u8 k, .int .i64 W, .int .i64 H, .int .u8 t, .int .i64 s] 23)).alloc (.cells #[.int .i64 x, .int .i64 y] 25)).alloc (.cells #[.int .i64 z, .int .i64 v] 25)).alloc (.cells #[.int .i64 x, .int .i64 y, .int .i64 z, .int .i64 v] 25)).heap[w.heap.size + 1 + 1 + 1]? = some (.cells #[.int .i64 x, .int .i64 y, .int .i64 z, .int .i64 v] 25 (0, 0)) := (by have := bk_new (((w.alloc (.cells #[.int .u8 k, .int .i64 W, .int .i64 H, .int .u8 t, .int .i64 s] 23)).alloc (.cells #[.int .i64 x, .int .i64 y] 25)).alloc (.cells #[.int .i64 z, .int .i64 v] 25)) (.cells #[.int .i64 x, .int .i64 y, .int .i64 z, .int .i64 v] 25); simpa only [World.size_alloc] using this)
  have hBw : Below w.heap.size w ((((w.alloc (.cells #[.int .u8 k, .int .i64 W, .int .i64 H, .int .u8 t, .int .i64 s] 23)).alloc (.cells #[.int .i64 x, .int .i64 y] 25)).alloc (.cells #[.int .i64 z, .int .i64 v] 25)).alloc (.cells #[.int .i64 x, .int .i64 y, .int .i64 z, .int .i64 v] 25)) := (((boxed _ _).alloc (by simp) _).alloc (by simp; try omega) _).alloc (by simp; try omega) _
  go_enter Try.func24, Try.ntmps24
  go_wp2_with (first | fail)
  generalize hW0 : ((((w.alloc (.cells #[.int .u8 k, .int .i64 W, .int .i64 H, .int .u8 t, .int .i64 s] 23)).alloc (.cells #[.int .i64 x, .int .i64 y] 25)).alloc (.cells #[.int .i64 z, .int .i64 v] 25)).alloc (.cells #[.int .i64 x, .int .i64 y, .int .i64 z, .int .i64 v] 25)) = W0 at *
  clear hW0
  have hB := same W0
  have KP0 := KP
  have KQ0 := KQ
  have KS0 := KS
  have HP := Lib.hid (pts_two KS); clear KS0
  go_wp2_with (first | (go_at_call 36; ((with_reducible refine (of_bad _ _ _ _ _ _ _ t0 h).mono ?_); rintro e w1 ⟨rfl, hb1⟩; replace hB := next hB hb1; replace KP := bk_below KP hb1; have hcKP := bk_cell KP; have hfKP := bk_free KP; have hlKP := bk_lt KP; replace KQ := bk_below KQ hb1; have hcKQ := bk_cell KQ; have hfKQ := bk_free KQ; have hlKQ := bk_lt KQ)))
  go_ret2
  exact Ret.of rfl (by repeat (with_reducible (first | exact hBw.trans (hB.mono hBw.size) | refine Below.setCell ?_ (by have h1_ := hBw.size; have h2_ := hB.size; (try simp) <;> omega) _ | refine Below.drew ?_ | refine Below.alloc ?_ (by have h1_ := hBw.size; have h2_ := hB.size; (try simp) <;> omega) _)))

set_option maxHeartbeats 4000000 in
theorem Same_far (k W H t s x y z v : Int) (w : World) (t0 : 0 ≤ t) (h : checkE k W H t s = 0) (hn : (nearP (x, y) && nearP (z, v)) = false) :
    Calls Try.prog 24 #[topoV k W H t s, pt x y, pt z v] w (Ret (.tuple #[.bool false, .int .i64 5]) w) := by
  have h := Lib.hid h
  have HA : Hid ([(x, y), (z, v)].all nearP = false) := by show [(x, y), (z, v)].all nearP = false; simpa using hn
  clear hn
  have KP : ((((w.alloc (.cells #[.int .u8 k, .int .i64 W, .int .i64 H, .int .u8 t, .int .i64 s] 23)).alloc (.cells #[.int .i64 x, .int .i64 y] 25)).alloc (.cells #[.int .i64 z, .int .i64 v] 25)).alloc (.cells #[.int .i64 x, .int .i64 y, .int .i64 z, .int .i64 v] 25)).heap[w.heap.size + 1]? = some (.cells #[.int .i64 x, .int .i64 y] 25 (0, 0)) := (bk_alloc (bk_alloc (by have := bk_new (w.alloc (.cells #[.int .u8 k, .int .i64 W, .int .i64 H, .int .u8 t, .int .i64 s] 23)) (.cells #[.int .i64 x, .int .i64 y] 25); simpa only [World.size_alloc] using this) _) _)
  have KQ : ((((w.alloc (.cells #[.int .u8 k, .int .i64 W, .int .i64 H, .int .u8 t, .int .i64 s] 23)).alloc (.cells #[.int .i64 x, .int .i64 y] 25)).alloc (.cells #[.int .i64 z, .int .i64 v] 25)).alloc (.cells #[.int .i64 x, .int .i64 y, .int .i64 z, .int .i64 v] 25)).heap[w.heap.size + 1 + 1]? = some (.cells #[.int .i64 z, .int .i64 v] 25 (0, 0)) := (bk_alloc (by have := bk_new ((w.alloc (.cells #[.int .u8 k, .int .i64 W, .int .i64 H, .int .u8 t, .int .i64 s] 23)).alloc (.cells #[.int .i64 x, .int .i64 y] 25)) (.cells #[.int .i64 z, .int .i64 v] 25); simpa only [World.size_alloc] using this) _)
  have KS : ((((w.alloc (.cells #[.int .u8 k, .int .i64 W, .int .i64 H, .int .u8 t, .int .i64 s] 23)).alloc (.cells #[.int .i64 x, .int .i64 y] 25)).alloc (.cells #[.int .i64 z, .int .i64 v] 25)).alloc (.cells #[.int .i64 x, .int .i64 y, .int .i64 z, .int .i64 v] 25)).heap[w.heap.size + 1 + 1 + 1]? = some (.cells #[.int .i64 x, .int .i64 y, .int .i64 z, .int .i64 v] 25 (0, 0)) := (by have := bk_new (((w.alloc (.cells #[.int .u8 k, .int .i64 W, .int .i64 H, .int .u8 t, .int .i64 s] 23)).alloc (.cells #[.int .i64 x, .int .i64 y] 25)).alloc (.cells #[.int .i64 z, .int .i64 v] 25)) (.cells #[.int .i64 x, .int .i64 y, .int .i64 z, .int .i64 v] 25); simpa only [World.size_alloc] using this)
  have hBw : Below w.heap.size w ((((w.alloc (.cells #[.int .u8 k, .int .i64 W, .int .i64 H, .int .u8 t, .int .i64 s] 23)).alloc (.cells #[.int .i64 x, .int .i64 y] 25)).alloc (.cells #[.int .i64 z, .int .i64 v] 25)).alloc (.cells #[.int .i64 x, .int .i64 y, .int .i64 z, .int .i64 v] 25)) := (((boxed _ _).alloc (by simp) _).alloc (by simp; try omega) _).alloc (by simp; try omega) _
  go_enter Try.func24, Try.ntmps24
  go_wp2_with (first | fail)
  generalize hW0 : ((((w.alloc (.cells #[.int .u8 k, .int .i64 W, .int .i64 H, .int .u8 t, .int .i64 s] 23)).alloc (.cells #[.int .i64 x, .int .i64 y] 25)).alloc (.cells #[.int .i64 z, .int .i64 v] 25)).alloc (.cells #[.int .i64 x, .int .i64 y, .int .i64 z, .int .i64 v] 25)) = W0 at *
  clear hW0
  have hB := same W0
  have KP0 := KP
  have KQ0 := KQ
  have KS0 := KS
  have HP := Lib.hid (pts_two KS); clear KS0
  go_wp2_with (first | (go_at_call 36; ((with_reducible refine (of_pts _ _ _ _ _ _ _ 2 _ [(x, y), (z, v)] _ t0 h.out rfl (by decide) HP.out).mono ?_); rintro e w1 ⟨rfl, hb1⟩; replace hB := next hB hb1; replace KP := bk_below KP hb1; have hcKP := bk_cell KP; have hfKP := bk_free KP; have hlKP := bk_lt KP; replace KQ := bk_below KQ hb1; have hcKQ := bk_cell KQ; have hfKQ := bk_free KQ; have hlKQ := bk_lt KQ; rw [HA.out]; simp only [Bool.false_eq_true, ↓reduceIte])))
  go_ret2
  exact Ret.of rfl (by repeat (with_reducible (first | exact hBw.trans (hB.mono hBw.size) | refine Below.setCell ?_ (by have h1_ := hBw.size; have h2_ := hB.size; (try simp) <;> omega) _ | refine Below.drew ?_ | refine Below.alloc ?_ (by have h1_ := hBw.size; have h2_ := hB.size; (try simp) <;> omega) _)))

set_option maxHeartbeats 4000000 in
theorem Same_e1 (k W H t s x y z v : Int) (w : World) (t0 : 0 ≤ t) (h : checkE k W H t s = 0) (hn : (nearP (x, y) && nearP (z, v)) = true) (he : cellE k W H t s x y ≠ 0) :
    Calls Try.prog 24 #[topoV k W H t s, pt x y, pt z v] w (Ret (.tuple #[.bool false, .int .i64 (cellE k W H t s x y)]) w) := by
  have hk := Lib.hid h
  have HA : Hid ([(x, y), (z, v)].all nearP = true) := by show [(x, y), (z, v)].all nearP = true; simpa using hn
  have hn' : (nearI x = true ∧ nearI y = true) ∧ (nearI z = true ∧ nearI v = true) := by simpa [nearP] using hn
  have Hn := Lib.hid hn'
  clear hn hn' h
  obtain ⟨X, hX⟩ : ∃ X, cellX k W H t s x y = X := ⟨_, rfl⟩
  obtain ⟨Y, hY⟩ : ∃ Y, cellY k W H t s x y = Y := ⟨_, rfl⟩
  obtain ⟨E, hE⟩ : ∃ E, cellE k W H t s x y = E := ⟨_, rfl⟩
  obtain ⟨X2, hX2⟩ : ∃ X, cellX k W H t s z v = X := ⟨_, rfl⟩
  obtain ⟨Y2, hY2⟩ : ∃ Y, cellY k W H t s z v = Y := ⟨_, rfl⟩
  obtain ⟨E2, hE2⟩ : ∃ E, cellE k W H t s z v = E := ⟨_, rfl⟩
  rw [hE] at he ⊢
  have EX := Lib.hid hX; have EY := Lib.hid hY; have EE := Lib.hid hE; have EX2 := Lib.hid hX2; have EY2 := Lib.hid hY2; have EE2 := Lib.hid hE2
  clear hX hY hE hX2 hY2 hE2
  have he1 : (E != 0) = true := by simpa using he
  clear he
  have KP : ((((w.alloc (.cells #[.int .u8 k, .int .i64 W, .int .i64 H, .int .u8 t, .int .i64 s] 23)).alloc (.cells #[.int .i64 x, .int .i64 y] 25)).alloc (.cells #[.int .i64 z, .int .i64 v] 25)).alloc (.cells #[.int .i64 x, .int .i64 y, .int .i64 z, .int .i64 v] 25)).heap[w.heap.size + 1]? = some (.cells #[.int .i64 x, .int .i64 y] 25 (0, 0)) := (bk_alloc (bk_alloc (by have := bk_new (w.alloc (.cells #[.int .u8 k, .int .i64 W, .int .i64 H, .int .u8 t, .int .i64 s] 23)) (.cells #[.int .i64 x, .int .i64 y] 25); simpa only [World.size_alloc] using this) _) _)
  have KQ : ((((w.alloc (.cells #[.int .u8 k, .int .i64 W, .int .i64 H, .int .u8 t, .int .i64 s] 23)).alloc (.cells #[.int .i64 x, .int .i64 y] 25)).alloc (.cells #[.int .i64 z, .int .i64 v] 25)).alloc (.cells #[.int .i64 x, .int .i64 y, .int .i64 z, .int .i64 v] 25)).heap[w.heap.size + 1 + 1]? = some (.cells #[.int .i64 z, .int .i64 v] 25 (0, 0)) := (bk_alloc (by have := bk_new ((w.alloc (.cells #[.int .u8 k, .int .i64 W, .int .i64 H, .int .u8 t, .int .i64 s] 23)).alloc (.cells #[.int .i64 x, .int .i64 y] 25)) (.cells #[.int .i64 z, .int .i64 v] 25); simpa only [World.size_alloc] using this) _)
  have KS : ((((w.alloc (.cells #[.int .u8 k, .int .i64 W, .int .i64 H, .int .u8 t, .int .i64 s] 23)).alloc (.cells #[.int .i64 x, .int .i64 y] 25)).alloc (.cells #[.int .i64 z, .int .i64 v] 25)).alloc (.cells #[.int .i64 x, .int .i64 y, .int .i64 z, .int .i64 v] 25)).heap[w.heap.size + 1 + 1 + 1]? = some (.cells #[.int .i64 x, .int .i64 y, .int .i64 z, .int .i64 v] 25 (0, 0)) := (by have := bk_new (((w.alloc (.cells #[.int .u8 k, .int .i64 W, .int .i64 H, .int .u8 t, .int .i64 s] 23)).alloc (.cells #[.int .i64 x, .int .i64 y] 25)).alloc (.cells #[.int .i64 z, .int .i64 v] 25)) (.cells #[.int .i64 x, .int .i64 y, .int .i64 z, .int .i64 v] 25); simpa only [World.size_alloc] using this)
  have hBw : Below w.heap.size w ((((w.alloc (.cells #[.int .u8 k, .int .i64 W, .int .i64 H, .int .u8 t, .int .i64 s] 23)).alloc (.cells #[.int .i64 x, .int .i64 y] 25)).alloc (.cells #[.int .i64 z, .int .i64 v] 25)).alloc (.cells #[.int .i64 x, .int .i64 y, .int .i64 z, .int .i64 v] 25)) := (((boxed _ _).alloc (by simp) _).alloc (by simp; try omega) _).alloc (by simp; try omega) _
  go_enter Try.func24, Try.ntmps24
  go_wp2_with (first | fail)
  generalize hW0 : ((((w.alloc (.cells #[.int .u8 k, .int .i64 W, .int .i64 H, .int .u8 t, .int .i64 s] 23)).alloc (.cells #[.int .i64 x, .int .i64 y] 25)).alloc (.cells #[.int .i64 z, .int .i64 v] 25)).alloc (.cells #[.int .i64 x, .int .i64 y, .int .i64 z, .int .i64 v] 25)) = W0 at *
  clear hW0
  have hB := same W0
  have KP0 := KP
  have KQ0 := KQ
  have KS0 := KS
  have HP := Lib.hid (pts_two KS); clear KS0
  refine (of_pts _ _ _ _ _ _ _ 2 _ [(x, y), (z, v)] _ t0 hk.out rfl (by decide) HP.out).mono ?_
  rintro e w1 ⟨rfl, hb1⟩; replace hB := next hB hb1; replace KP := bk_below KP hb1; have hcKP := bk_cell KP; have hfKP := bk_free KP; have hlKP := bk_lt KP; replace KQ := bk_below KQ hb1; have hcKQ := bk_cell KQ; have hfKQ := bk_free KQ; have hlKQ := bk_lt KQ; rw [HA.out]; simp only [↓reduceIte]
  go_wp2_with (first | fail)
  refine (cell_calls _ _ _ _ _ _ _ _ hk.out t0 Hn.out.1.1 Hn.out.1.2).mono ?_
  rintro e w2 ⟨rfl, hb1⟩; rw [EE.out, EX.out, EY.out]; have KG := bk_below (bk_new _ _) hb1; have hcG := bk_cell KG; have hlG := bk_lt KG; replace hB := next hB (box hb1); replace KP := bk_below KP (box hb1); have hcKP := bk_cell KP; have hfKP := bk_free KP; have hlKP := bk_lt KP; replace KQ := bk_below KQ (box hb1); have hcKQ := bk_cell KQ; have hfKQ := bk_free KQ; have hlKQ := bk_lt KQ
  go_wp2_with (first | fail)
  go_ret2
  exact Ret.of rfl (by repeat (with_reducible (first | exact hBw.trans (hB.mono hBw.size) | refine Below.setCell ?_ (by have h1_ := hBw.size; have h2_ := hB.size; (try simp) <;> omega) _ | refine Below.drew ?_ | refine Below.alloc ?_ (by have h1_ := hBw.size; have h2_ := hB.size; (try simp) <;> omega) _)))

set_option maxHeartbeats 4000000 in
theorem Same_e2 (k W H t s x y z v : Int) (w : World) (t0 : 0 ≤ t) (h : checkE k W H t s = 0) (hn : (nearP (x, y) && nearP (z, v)) = true) (he : cellE k W H t s x y = 0) (hee : cellE k W H t s z v ≠ 0) :
    Calls Try.prog 24 #[topoV k W H t s, pt x y, pt z v] w (Ret (.tuple #[.bool false, .int .i64 (cellE k W H t s z v)]) w) := by
  have hk := Lib.hid h
  have HA : Hid ([(x, y), (z, v)].all nearP = true) := by show [(x, y), (z, v)].all nearP = true; simpa using hn
  have hn' : (nearI x = true ∧ nearI y = true) ∧ (nearI z = true ∧ nearI v = true) := by simpa [nearP] using hn
  have Hn := Lib.hid hn'
  clear hn hn' h
  obtain ⟨X, hX⟩ : ∃ X, cellX k W H t s x y = X := ⟨_, rfl⟩
  obtain ⟨Y, hY⟩ : ∃ Y, cellY k W H t s x y = Y := ⟨_, rfl⟩
  obtain ⟨E, hE⟩ : ∃ E, cellE k W H t s x y = E := ⟨_, rfl⟩
  obtain ⟨X2, hX2⟩ : ∃ X, cellX k W H t s z v = X := ⟨_, rfl⟩
  obtain ⟨Y2, hY2⟩ : ∃ Y, cellY k W H t s z v = Y := ⟨_, rfl⟩
  obtain ⟨E2, hE2⟩ : ∃ E, cellE k W H t s z v = E := ⟨_, rfl⟩
  rw [hE2] at hee ⊢
  obtain rfl : E = 0 := hE.symm.trans he
  have EX := Lib.hid hX; have EY := Lib.hid hY; have EE := Lib.hid hE; have EX2 := Lib.hid hX2; have EY2 := Lib.hid hY2; have EE2 := Lib.hid hE2
  clear hX hY hE hX2 hY2 hE2
  have he1 : (E2 != 0) = true := by simpa using hee
  clear hee he
  have KP : ((((w.alloc (.cells #[.int .u8 k, .int .i64 W, .int .i64 H, .int .u8 t, .int .i64 s] 23)).alloc (.cells #[.int .i64 x, .int .i64 y] 25)).alloc (.cells #[.int .i64 z, .int .i64 v] 25)).alloc (.cells #[.int .i64 x, .int .i64 y, .int .i64 z, .int .i64 v] 25)).heap[w.heap.size + 1]? = some (.cells #[.int .i64 x, .int .i64 y] 25 (0, 0)) := (bk_alloc (bk_alloc (by have := bk_new (w.alloc (.cells #[.int .u8 k, .int .i64 W, .int .i64 H, .int .u8 t, .int .i64 s] 23)) (.cells #[.int .i64 x, .int .i64 y] 25); simpa only [World.size_alloc] using this) _) _)
  have KQ : ((((w.alloc (.cells #[.int .u8 k, .int .i64 W, .int .i64 H, .int .u8 t, .int .i64 s] 23)).alloc (.cells #[.int .i64 x, .int .i64 y] 25)).alloc (.cells #[.int .i64 z, .int .i64 v] 25)).alloc (.cells #[.int .i64 x, .int .i64 y, .int .i64 z, .int .i64 v] 25)).heap[w.heap.size + 1 + 1]? = some (.cells #[.int .i64 z, .int .i64 v] 25 (0, 0)) := (bk_alloc (by have := bk_new ((w.alloc (.cells #[.int .u8 k, .int .i64 W, .int .i64 H, .int .u8 t, .int .i64 s] 23)).alloc (.cells #[.int .i64 x, .int .i64 y] 25)) (.cells #[.int .i64 z, .int .i64 v] 25); simpa only [World.size_alloc] using this) _)
  have KS : ((((w.alloc (.cells #[.int .u8 k, .int .i64 W, .int .i64 H, .int .u8 t, .int .i64 s] 23)).alloc (.cells #[.int .i64 x, .int .i64 y] 25)).alloc (.cells #[.int .i64 z, .int .i64 v] 25)).alloc (.cells #[.int .i64 x, .int .i64 y, .int .i64 z, .int .i64 v] 25)).heap[w.heap.size + 1 + 1 + 1]? = some (.cells #[.int .i64 x, .int .i64 y, .int .i64 z, .int .i64 v] 25 (0, 0)) := (by have := bk_new (((w.alloc (.cells #[.int .u8 k, .int .i64 W, .int .i64 H, .int .u8 t, .int .i64 s] 23)).alloc (.cells #[.int .i64 x, .int .i64 y] 25)).alloc (.cells #[.int .i64 z, .int .i64 v] 25)) (.cells #[.int .i64 x, .int .i64 y, .int .i64 z, .int .i64 v] 25); simpa only [World.size_alloc] using this)
  have hBw : Below w.heap.size w ((((w.alloc (.cells #[.int .u8 k, .int .i64 W, .int .i64 H, .int .u8 t, .int .i64 s] 23)).alloc (.cells #[.int .i64 x, .int .i64 y] 25)).alloc (.cells #[.int .i64 z, .int .i64 v] 25)).alloc (.cells #[.int .i64 x, .int .i64 y, .int .i64 z, .int .i64 v] 25)) := (((boxed _ _).alloc (by simp) _).alloc (by simp; try omega) _).alloc (by simp; try omega) _
  go_enter Try.func24, Try.ntmps24
  go_wp2_with (first | fail)
  generalize hW0 : ((((w.alloc (.cells #[.int .u8 k, .int .i64 W, .int .i64 H, .int .u8 t, .int .i64 s] 23)).alloc (.cells #[.int .i64 x, .int .i64 y] 25)).alloc (.cells #[.int .i64 z, .int .i64 v] 25)).alloc (.cells #[.int .i64 x, .int .i64 y, .int .i64 z, .int .i64 v] 25)) = W0 at *
  clear hW0
  have hB := same W0
  have KP0 := KP
  have KQ0 := KQ
  have KS0 := KS
  have HP := Lib.hid (pts_two KS); clear KS0
  refine (of_pts _ _ _ _ _ _ _ 2 _ [(x, y), (z, v)] _ t0 hk.out rfl (by decide) HP.out).mono ?_
  rintro e w1 ⟨rfl, hb1⟩; replace hB := next hB hb1; replace KP := bk_below KP hb1; have hcKP := bk_cell KP; have hfKP := bk_free KP; have hlKP := bk_lt KP; replace KQ := bk_below KQ hb1; have hcKQ := bk_cell KQ; have hfKQ := bk_free KQ; have hlKQ := bk_lt KQ; rw [HA.out]; simp only [↓reduceIte]
  go_wp2_with (first | fail)
  refine (cell_calls _ _ _ _ _ _ _ _ hk.out t0 Hn.out.1.1 Hn.out.1.2).mono ?_
  rintro e w2 ⟨rfl, hb1⟩; rw [EE.out, EX.out, EY.out]; have KG := bk_below (bk_new _ _) hb1; have hcG := bk_cell KG; have hlG := bk_lt KG; replace hB := next hB (box hb1); replace KP := bk_below KP (box hb1); have hcKP := bk_cell KP; have hfKP := bk_free KP; have hlKP := bk_lt KP; replace KQ := bk_below KQ (box hb1); have hcKQ := bk_cell KQ; have hfKQ := bk_free KQ; have hlKQ := bk_lt KQ
  go_wp2_with (first | fail)
  refine (cell_calls _ _ _ _ _ _ _ _ hk.out t0 Hn.out.2.1 Hn.out.2.2).mono ?_
  rintro e w3 ⟨rfl, hb1⟩; rw [EE2.out, EX2.out, EY2.out]; have KA := bk_below (bk_new _ _) hb1; have hcA := bk_cell KA; have hlA := bk_lt KA; replace hB := next hB (box hb1); replace KQ := bk_below KQ (box hb1); have hcKQ := bk_cell KQ; have hfKQ := bk_free KQ; have hlKQ := bk_lt KQ
  go_wp2_with (first | fail)
  go_ret2
  exact Ret.of rfl (by repeat (with_reducible (first | exact hBw.trans (hB.mono hBw.size) | refine Below.setCell ?_ (by have h1_ := hBw.size; have h2_ := hB.size; (try simp) <;> omega) _ | refine Below.drew ?_ | refine Below.alloc ?_ (by have h1_ := hBw.size; have h2_ := hB.size; (try simp) <;> omega) _)))

set_option maxHeartbeats 4000000 in
theorem Same_ok (k W H t s x y z v : Int) (w : World) (t0 : 0 ≤ t) (h : checkE k W H t s = 0) (hn : (nearP (x, y) && nearP (z, v)) = true) (he : cellE k W H t s x y = 0) (hee : cellE k W H t s z v = 0) :
    Calls Try.prog 24 #[topoV k W H t s, pt x y, pt z v] w (Ret (.tuple #[.bool (cellX k W H t s x y == cellX k W H t s z v && cellY k W H t s x y == cellY k W H t s z v), .int .i64 0]) w) := by
  have hk := Lib.hid h
  have HA : Hid ([(x, y), (z, v)].all nearP = true) := by show [(x, y), (z, v)].all nearP = true; simpa using hn
  have hn' : (nearI x = true ∧ nearI y = true) ∧ (nearI z = true ∧ nearI v = true) := by simpa [nearP] using hn
  have Hn := Lib.hid hn'
  clear hn hn' h
  obtain ⟨X, hX⟩ : ∃ X, cellX k W H t s x y = X := ⟨_, rfl⟩
  obtain ⟨Y, hY⟩ : ∃ Y, cellY k W H t s x y = Y := ⟨_, rfl⟩
  obtain ⟨E, hE⟩ : ∃ E, cellE k W H t s x y = E := ⟨_, rfl⟩
  obtain ⟨X2, hX2⟩ : ∃ X, cellX k W H t s z v = X := ⟨_, rfl⟩
  obtain ⟨Y2, hY2⟩ : ∃ Y, cellY k W H t s z v = Y := ⟨_, rfl⟩
  obtain ⟨E2, hE2⟩ : ∃ E, cellE k W H t s z v = E := ⟨_, rfl⟩
  rw [hX, hY, hX2, hY2]
  obtain rfl : E = 0 := hE.symm.trans he
  obtain rfl : E2 = 0 := hE2.symm.trans hee
  have EX := Lib.hid hX; have EY := Lib.hid hY; have EE := Lib.hid hE; have EX2 := Lib.hid hX2; have EY2 := Lib.hid hY2; have EE2 := Lib.hid hE2
  clear hX hY hE hX2 hY2 hE2
  clear hee he
  obtain ⟨R, hR⟩ : ∃ R, (X == X2 && Y == Y2) = R := ⟨_, rfl⟩
  rw [hR]
  have HR := Lib.hid hR; clear hR
  have KP : ((((w.alloc (.cells #[.int .u8 k, .int .i64 W, .int .i64 H, .int .u8 t, .int .i64 s] 23)).alloc (.cells #[.int .i64 x, .int .i64 y] 25)).alloc (.cells #[.int .i64 z, .int .i64 v] 25)).alloc (.cells #[.int .i64 x, .int .i64 y, .int .i64 z, .int .i64 v] 25)).heap[w.heap.size + 1]? = some (.cells #[.int .i64 x, .int .i64 y] 25 (0, 0)) := (bk_alloc (bk_alloc (by have := bk_new (w.alloc (.cells #[.int .u8 k, .int .i64 W, .int .i64 H, .int .u8 t, .int .i64 s] 23)) (.cells #[.int .i64 x, .int .i64 y] 25); simpa only [World.size_alloc] using this) _) _)
  have KQ : ((((w.alloc (.cells #[.int .u8 k, .int .i64 W, .int .i64 H, .int .u8 t, .int .i64 s] 23)).alloc (.cells #[.int .i64 x, .int .i64 y] 25)).alloc (.cells #[.int .i64 z, .int .i64 v] 25)).alloc (.cells #[.int .i64 x, .int .i64 y, .int .i64 z, .int .i64 v] 25)).heap[w.heap.size + 1 + 1]? = some (.cells #[.int .i64 z, .int .i64 v] 25 (0, 0)) := (bk_alloc (by have := bk_new ((w.alloc (.cells #[.int .u8 k, .int .i64 W, .int .i64 H, .int .u8 t, .int .i64 s] 23)).alloc (.cells #[.int .i64 x, .int .i64 y] 25)) (.cells #[.int .i64 z, .int .i64 v] 25); simpa only [World.size_alloc] using this) _)
  have KS : ((((w.alloc (.cells #[.int .u8 k, .int .i64 W, .int .i64 H, .int .u8 t, .int .i64 s] 23)).alloc (.cells #[.int .i64 x, .int .i64 y] 25)).alloc (.cells #[.int .i64 z, .int .i64 v] 25)).alloc (.cells #[.int .i64 x, .int .i64 y, .int .i64 z, .int .i64 v] 25)).heap[w.heap.size + 1 + 1 + 1]? = some (.cells #[.int .i64 x, .int .i64 y, .int .i64 z, .int .i64 v] 25 (0, 0)) := (by have := bk_new (((w.alloc (.cells #[.int .u8 k, .int .i64 W, .int .i64 H, .int .u8 t, .int .i64 s] 23)).alloc (.cells #[.int .i64 x, .int .i64 y] 25)).alloc (.cells #[.int .i64 z, .int .i64 v] 25)) (.cells #[.int .i64 x, .int .i64 y, .int .i64 z, .int .i64 v] 25); simpa only [World.size_alloc] using this)
  have hBw : Below w.heap.size w ((((w.alloc (.cells #[.int .u8 k, .int .i64 W, .int .i64 H, .int .u8 t, .int .i64 s] 23)).alloc (.cells #[.int .i64 x, .int .i64 y] 25)).alloc (.cells #[.int .i64 z, .int .i64 v] 25)).alloc (.cells #[.int .i64 x, .int .i64 y, .int .i64 z, .int .i64 v] 25)) := (((boxed _ _).alloc (by simp) _).alloc (by simp; try omega) _).alloc (by simp; try omega) _
  go_enter Try.func24, Try.ntmps24
  go_wp2_with (first | fail)
  generalize hW0 : ((((w.alloc (.cells #[.int .u8 k, .int .i64 W, .int .i64 H, .int .u8 t, .int .i64 s] 23)).alloc (.cells #[.int .i64 x, .int .i64 y] 25)).alloc (.cells #[.int .i64 z, .int .i64 v] 25)).alloc (.cells #[.int .i64 x, .int .i64 y, .int .i64 z, .int .i64 v] 25)) = W0 at *
  clear hW0
  have hB := same W0
  have KP0 := KP
  have KQ0 := KQ
  have KS0 := KS
  have HP := Lib.hid (pts_two KS); clear KS0
  refine (of_pts _ _ _ _ _ _ _ 2 _ [(x, y), (z, v)] _ t0 hk.out rfl (by decide) HP.out).mono ?_
  rintro e w1 ⟨rfl, hb1⟩; replace hB := next hB hb1; replace KP := bk_below KP hb1; have hcKP := bk_cell KP; have hfKP := bk_free KP; have hlKP := bk_lt KP; replace KQ := bk_below KQ hb1; have hcKQ := bk_cell KQ; have hfKQ := bk_free KQ; have hlKQ := bk_lt KQ; rw [HA.out]; simp only [↓reduceIte]
  go_wp2_with (first | fail)
  refine (cell_calls _ _ _ _ _ _ _ _ hk.out t0 Hn.out.1.1 Hn.out.1.2).mono ?_
  rintro e w2 ⟨rfl, hb1⟩; rw [EE.out, EX.out, EY.out]; have KG := bk_below (bk_new _ _) hb1; have hcG := bk_cell KG; have hlG := bk_lt KG; replace hB := next hB (box hb1); replace KP := bk_below KP (box hb1); have hcKP := bk_cell KP; have hfKP := bk_free KP; have hlKP := bk_lt KP; replace KQ := bk_below KQ (box hb1); have hcKQ := bk_cell KQ; have hfKQ := bk_free KQ; have hlKQ := bk_lt KQ
  go_wp2_with (first | fail)
  refine (cell_calls _ _ _ _ _ _ _ _ hk.out t0 Hn.out.2.1 Hn.out.2.2).mono ?_
  rintro e w3 ⟨rfl, hb1⟩; rw [EE2.out, EX2.out, EY2.out]; have KA := bk_below (bk_new _ _) hb1; have hcA := bk_cell KA; have hlA := bk_lt KA; replace hB := next hB (box hb1); replace KQ := bk_below KQ (box hb1); have hcKQ := bk_cell KQ; have hfKQ := bk_free KQ; have hlKQ := bk_lt KQ
  go_wp2_with (first | fail)
  all_goals
    go_ret2
    refine Ret.of (congrArg (fun b => Value.tuple #[.bool b, .int .i64 0]) ?_) (by repeat (with_reducible (first | exact hBw.trans (hB.mono hBw.size) | refine Below.setCell ?_ (by have h1_ := hBw.size; have h2_ := hB.size; (try simp) <;> omega) _ | refine Below.drew ?_ | refine Below.alloc ?_ (by have h1_ := hBw.size; have h2_ := hB.size; (try simp) <;> omega) _)))
    rw [← HR.out]
    simp [*]

theorem Same_calls (k W H t s x y z v : Int) (w : World) (t0 : 0 ≤ t) :
    Calls Try.prog 24 #[topoV k W H t s, pt x y, pt z v] w (Ret (.tuple #[.bool (sameB k W H t s x y z v), .int .i64 (sameE k W H t s x y z v)]) w) := by
  by_cases h : checkE k W H t s = 0
  · cases hn : (nearP (x, y) && nearP (z, v)) with
    | false =>
      have e : sameE k W H t s x y z v = 5 := by unfold sameE; rw [if_neg (by simp [h]), if_pos hn]
      rw [e, show sameB k W H t s x y z v = false by unfold sameB; rw [e]; rfl]
      exact Same_far k W H t s x y z v w t0 h hn
    | true =>
      by_cases he : cellE k W H t s x y = 0
      · have e : sameE k W H t s x y z v = cellE k W H t s z v := by unfold sameE; rw [if_neg (by simp [h]), if_neg (by simp [hn]), if_neg (by simp [he])]
        by_cases hee : cellE k W H t s z v = 0
        · rw [e, hee, show sameB k W H t s x y z v = (cellX k W H t s x y == cellX k W H t s z v && cellY k W H t s x y == cellY k W H t s z v) by unfold sameB; rw [e, hee]; simp]
          exact Same_ok k W H t s x y z v w t0 h hn he hee
        · rw [e, show sameB k W H t s x y z v = false by unfold sameB; rw [e]; simp [hee]]
          exact Same_e2 k W H t s x y z v w t0 h hn he hee
      · have e : sameE k W H t s x y z v = cellE k W H t s x y := by unfold sameE; rw [if_neg (by simp [h]), if_neg (by simp [hn]), if_pos he]
        rw [e, show sameB k W H t s x y z v = false by unfold sameB; rw [e]; simp [he]]
        exact Same_e1 k W H t s x y z v w t0 h hn he
  · have e : sameE k W H t s x y z v = 9 := by unfold sameE; rw [if_pos h]
    rw [e, show sameB k W H t s x y z v = false by unfold sameB; rw [e]; rfl]
    exact Same_bad k W H t s x y z v w t0 h

end Go.Proofs.Ytfdehecekghlmaa
