/- The walks of iso's calls, on: Back, Part. -/
import Derived.Test.YtfdehecekghlmaaIsoD
set_option linter.unusedVariables false
set_option linter.unusedSimpArgs false
namespace Go.Proofs.Ytfdehecekghlmaa
open Go.RowKit Go.Viv
attribute [local go_sem] run_store_complex run_store_float

def ng (a : Nat) : Nat := a ^^^ 2 ^ 63
theorem ng_isW {a : Nat} {n : Int} (h : IsW a n) : IsW (ng a) (-n) := isW_opp h
theorem run_ng (a b : Nat) (w : World) : (Op.unary .neg (.complex .f64 a b)).run Try.prog w = .ok (.complex .f64 (ng a) (ng b)) w := rfl

/-- what both boxes hold, and that nothing that was there ahead of the call has changed -/
def HeldB (w : World) (a b : Nat) (v0 v1 v2 u0 u1 u2 : Value) (w' : World) : Prop :=
  w'.cell? ⟨a, 0, none⟩ = some v0 ∧ w'.cell? ⟨a, 1, none⟩ = some v1 ∧ w'.cell? ⟨a, 2, none⟩ = some v2 ∧ w'.cell? ⟨b, 0, none⟩ = some u0 ∧ w'.cell? ⟨b, 1, none⟩ = some u1 ∧ w'.cell? ⟨b, 2, none⟩ = some u2 ∧ Below w.heap.size w w'
theorem keepB {w w' : World} {a b t t2 : Nat} {v0 v1 v2 u0 u1 u2 : Value} (ha : w'.heap[a]? = some (.cells #[v0, v1, v2] t (0, 0))) (hb : w'.heap[b]? = some (.cells #[u0, u1, u2] t2 (0, 0))) (hB : Below w.heap.size w w') : HeldB w a b v0 v1 v2 u0 u1 u2 w' :=
  ⟨(bk_cell ha 0).trans rfl, (bk_cell ha 1).trans rfl, (bk_cell ha 2).trans rfl, (bk_cell hb 0).trans rfl, (bk_cell hb 1).trans rfl, (bk_cell hb 2).trans rfl, hB⟩
theorem keepBn {w w' w2 : World} {a b : Nat} {v0 v1 v2 u0 u1 u2 : Value} (h : HeldB w a b v0 v1 v2 u0 u1 u2 w') (h2 : Below w'.heap.size w' w2) : HeldB w a b v0 v1 v2 u0 u1 u2 w2 :=
  ⟨cell_later h2 h.1, cell_later h2 h.2.1, cell_later h2 h.2.2.1, cell_later h2 h.2.2.2.1, cell_later h2 h.2.2.2.2.1, cell_later h2 h.2.2.2.2.2.1, next h.2.2.2.2.2.2 h2⟩
theorem keepBs {w w' : World} {a b : Nat} {v0 v1 v2 u0 u1 u2 : Value} (h : HeldB w a b v0 v1 v2 u0 u1 u2 w') {p : Addr} (h1 : a ≠ p.block) (h2 : b ≠ p.block) (hp : w.heap.size ≤ p.block) (u : Value) : HeldB w a b v0 v1 v2 u0 u1 u2 (w'.setCell p u) := by
  have c : ∀ g o, g ≠ p.block → (w'.setCell p u).cell? ⟨g, o, none⟩ = w'.cell? ⟨g, o, none⟩ := fun g o hg => World.cell?_of_block (w := w') (Below.heap_setCell w' p u g hg)
  exact ⟨(c _ _ h1).trans h.1, (c _ _ h1).trans h.2.1, (c _ _ h1).trans h.2.2.1, (c _ _ h2).trans h.2.2.2.1, (c _ _ h2).trans h.2.2.2.2.1, (c _ _ h2).trans h.2.2.2.2.2.1, h.2.2.2.2.2.2.setCell hp u⟩

def backK (k : Int) (f : Bool) : Int := if f = true then k else (4 - k) % 4
theorem back_q {k : Int} (k0 : 0 ≤ k) (k3 : k ≤ 3) : 0 ≤ backK k false ∧ backK k false ≤ 3 ∧ qre k = qre (backK k false) ∧ -qim k = qim (backK k false) := by
  have h1 : k = 0 ∨ k = 1 ∨ k = 2 ∨ k = 3 := by omega
  rcases h1 with rfl | rfl | rfl | rfl <;> decide

set_option maxHeartbeats 4000000 in
theorem Back_false (tr ti mr mi : Nat) (k X Y : Int) (w : World) (h : IsIso tr ti mr mi k X Y) (n1 : nearI X = true) (n2 : nearI Y = true) :
    Calls Try.prog 35 #[isoV tr ti false mr mi] w (fun e w' => ∃ xr xi yr yi : Nat, e = .returned (.tuple #[isoV xr xi false yr yi, .int .i64 0]) ∧ IsIso xr xi yr yi (backK k false) (-(linX (backK k false) false X Y)) (-(linY (backK k false) false X Y)) ∧ Below w.heap.size w w') := by
  have b1 := nearI_abs n1; have b2 := nearI_abs n2
  have HN1 : Hid ((nearI X && nearI Y) = true) := by show _ = _; rw [n1, n2]; rfl
  clear n1 n2
  obtain ⟨q0, q3, bq1, bq2⟩ := back_q h.k0 h.k3
  have BQ := Lib.hid (And.intro bq1 bq2); clear bq1 bq2
  have lb := lin_bounds (k := (backK k false)) (f := false) b1 b2
  obtain ⟨U, hU⟩ : ∃ U, linX (backK k false) false X Y = U := ⟨_, rfl⟩
  obtain ⟨V, hV⟩ : ∃ V, linY (backK k false) false X Y = V := ⟨_, rfl⟩
  rw [hU, hV] at lb ⊢
  have LX := Lib.hid hU; have LY := Lib.hid hV; clear hU hV
  have KA : ((w.alloc (.cells #[.complex .f64 tr ti, .bool false, .complex .f64 mr mi] 41)).alloc (.cells #[.complex .f64 0 0, .bool false, .complex .f64 0 0] 41)).heap[w.heap.size]? = some (.cells #[.complex .f64 tr ti, .bool false, .complex .f64 mr mi] 41 (0, 0)) := (bk_alloc (bk_new _ _) _)
  have KR : ((w.alloc (.cells #[.complex .f64 tr ti, .bool false, .complex .f64 mr mi] 41)).alloc (.cells #[.complex .f64 0 0, .bool false, .complex .f64 0 0] 41)).heap[w.heap.size + 1]? = some (.cells #[.complex .f64 0 0, .bool false, .complex .f64 0 0] 41 (0, 0)) := (by have := bk_new (w.alloc (.cells #[.complex .f64 tr ti, .bool false, .complex .f64 mr mi] 41)) (.cells #[.complex .f64 0 0, .bool false, .complex .f64 0 0] 41); simpa only [World.size_alloc] using this)
  have hBw : Below w.heap.size w ((w.alloc (.cells #[.complex .f64 tr ti, .bool false, .complex .f64 mr mi] 41)).alloc (.cells #[.complex .f64 0 0, .bool false, .complex .f64 0 0] 41)) := (boxed _ _).alloc (by simp) _
  go_enter Try.func35, Try.ntmps35
  go_wp2_with (first | fail)
  generalize hW0 : ((w.alloc (.cells #[.complex .f64 tr ti, .bool false, .complex .f64 mr mi] 41)).alloc (.cells #[.complex .f64 0 0, .bool false, .complex .f64 0 0] 41)) = W0 at *
  clear hW0
  have hB := same W0
  have KA0 := KA
  have KR0 := KR
  refine (Valid_calls _ _ _ _ _ _ _ _ _ h (by omega) (by omega)).mono ?_
  rintro e w1 ⟨rfl, hb1⟩
  rw [HN1.out]
  replace hB := next hB hb1; replace KA := bk_below KA hb1; have hcKA := bk_cell KA; have hfKA := bk_free KA; have hlKA := bk_lt KA; replace KR := bk_below KR hb1; have hcKR := bk_cell KR; have hfKR := bk_free KR; have hlKR := bk_lt KR
  go_wp2_with (first | fail)
  refine (conj_calls _ _ _ _ _ h.tr h.ti).mono ?_
  rintro e w2 ⟨tr', ti', rfl, wr, wi, hb1⟩
  replace hB := next hB hb1; replace KA := bk_below KA hb1; have hcKA := bk_cell KA; have hfKA := bk_free KA; have hlKA := bk_lt KA; replace KR := bk_below KR hb1; have hcKR := bk_cell KR; have hfKR := bk_free KR; have hlKR := bk_lt KR
  rw [BQ.out.1] at wr
  rw [BQ.out.2] at wi
  go_wp2_with (first | fail)
  have KBX : (w2.alloc (.cells #[.complex .f64 tr' ti', .bool false, .complex .f64 0 0] 41)).heap[w2.heap.size]? = some (.cells #[.complex .f64 tr' ti', .bool false, .complex .f64 0 0] 41 (0, 0)) := bk_new _ _
  have hlx := bk_lt KBX
  replace KA := bk_alloc KA (.cells #[.complex .f64 tr' ti', .bool false, .complex .f64 0 0] 41)
  replace KR := bk_alloc KR (.cells #[.complex .f64 tr' ti', .bool false, .complex .f64 0 0] 41)
  replace hB := next hB (boxed _ (.cells #[.complex .f64 tr' ti', .bool false, .complex .f64 0 0] 41))
  have KRn := bk_lt KR
  generalize hW3 : w2.alloc (.cells #[.complex .f64 tr' ti', .bool false, .complex .f64 0 0] 41) = W3 at *
  obtain ⟨g, hg⟩ : ∃ g, w2.heap.size = g := ⟨_, rfl⟩
  simp only [hg] at *
  have hcKR := bk_cell KR; have hfKR := bk_free KR; have hlKR := bk_lt KR
  have hbI : IsIso tr' ti' 0 0 (backK k false) 0 0 := ⟨q0, q3, wr, wi, isW_zero, isW_zero⟩
  have hng := run_ng
  have KRS := KR; have KAS := KA; have KBS := KBX
  have hBw3 : Below w.heap.size w W3 := hBw.trans (hB.mono hBw.size)
  have hga : w.heap.size < g := by have := hBw.size; have := hB.size; have := bk_lt KAS; have := KRn; omega
  go_region_held3 (fun w' => w'.cell? ⟨w.heap.size, 0, none⟩ = some (.complex .f64 tr ti) ∧ w'.cell? ⟨w.heap.size, 1, none⟩ = some (.bool false) ∧ w'.cell? ⟨w.heap.size, 2, none⟩ = some (.complex .f64 mr mi) ∧ w'.cell? ⟨g, 0, none⟩ = some (.complex .f64 tr' ti') ∧ w'.cell? ⟨g, 1, none⟩ = some (.bool false) ∧ w'.cell? ⟨g, 2, none⟩ = some (.complex .f64 0 0) ∧ Below w.heap.size w w')
    (first | exact keepB (bk_drew KAS) (bk_drew KBS) (Below.drew hBw3) | exact keepBn (by assumption) hb1 | exact keepBs (keepBs (keepBs (by assumption) (by dsimp only; omega) (by dsimp only; omega) (by dsimp only; omega) _) (by dsimp only; omega) (by dsimp only; omega) (by dsimp only; omega) _) (by dsimp only; omega) (by dsimp only; omega) (by dsimp only; omega) _)
    (first | (go_at_call 63; ((with_reducible refine (does_calls _ _ _ _ _ _ _ _ _ _ _ _ _ hbI h.mr h.mi (by omega) (by omega) (by omega) (by omega)).mono ?_); rintro e w4 ⟨zr, zi, rfl, hzr, hzi, hb1⟩; rw [Int.add_zero, LX.out] at hzr; rw [Int.add_zero, LY.out] at hzi; have hzr := Lib.hid (ng_isW hzr); have hzi := Lib.hid (ng_isW hzi); have hbd := hb1; obtain ⟨hcz, hfz⟩ := bcell hb1; have hup := up hb1)) | (go_at_call 59; ((with_reducible refine (made_calls _ _ _ _ _ (backK k false) (-U) (-V) _ ⟨q0, q3, wr, wi, hzr.out, hzi.out⟩ (by omega) (by omega)).mono ?_); rintro e w5 ⟨xr, xi, yr, yi, rfl, hx, hb1⟩; have hbm := hb1; have KRm := bk_below (bk_below (bk_drew KRS) hbd) hb1; have hcm := bk_cell KRm; have hfm := bk_free KRm; have hlm := bk_lt KRm; obtain ⟨hcz2, hfz2⟩ := bcell hb1; have hup2 := up hb1)))
  rename_i hH
  have hBx := hH.2.2.2.2.2.2
  clear hH
  go_wp2_with (first | fail)
  refine end_ct (w.heap.size + 1) 41 rfl rfl rfl Try.underlying41 rfl ?_
  apply Exists.intro
  refine ⟨(by repeat (with_reducible (first | exact KRm | apply bk_set | refine bk_drew ?_ | refine bk_drewN ?_ _ | refine bk_alloc ?_ _ | refine bk_far ?_ (by simp; try omega) _))), by kernel_rfl, ?_⟩
  exact ⟨_, _, _, _, rfl, hx, hBx⟩

set_option maxHeartbeats 4000000 in
theorem Back_true (tr ti mr mi : Nat) (k X Y : Int) (w : World) (h : IsIso tr ti mr mi k X Y) (n1 : nearI X = true) (n2 : nearI Y = true) :
    Calls Try.prog 35 #[isoV tr ti true mr mi] w (fun e w' => ∃ xr xi yr yi : Nat, e = .returned (.tuple #[isoV xr xi true yr yi, .int .i64 0]) ∧ IsIso xr xi yr yi k (-(linX k true X Y)) (-(linY k true X Y)) ∧ Below w.heap.size w w') := by
  have b1 := nearI_abs n1; have b2 := nearI_abs n2
  have HN1 : Hid ((nearI X && nearI Y) = true) := by show _ = _; rw [n1, n2]; rfl
  clear n1 n2
  obtain ⟨q0, q3, bq1, bq2⟩ := back_q h.k0 h.k3
  have BQ := Lib.hid (And.intro bq1 bq2); clear bq1 bq2
  have lb := lin_bounds (k := k) (f := true) b1 b2
  obtain ⟨U, hU⟩ : ∃ U, linX k true X Y = U := ⟨_, rfl⟩
  obtain ⟨V, hV⟩ : ∃ V, linY k true X Y = V := ⟨_, rfl⟩
  rw [hU, hV] at lb ⊢
  have LX := Lib.hid hU; have LY := Lib.hid hV; clear hU hV
  have KA : ((w.alloc (.cells #[.complex .f64 tr ti, .bool true, .complex .f64 mr mi] 41)).alloc (.cells #[.complex .f64 0 0, .bool false, .complex .f64 0 0] 41)).heap[w.heap.size]? = some (.cells #[.complex .f64 tr ti, .bool true, .complex .f64 mr mi] 41 (0, 0)) := (bk_alloc (bk_new _ _) _)
  have KR : ((w.alloc (.cells #[.complex .f64 tr ti, .bool true, .complex .f64 mr mi] 41)).alloc (.cells #[.complex .f64 0 0, .bool false, .complex .f64 0 0] 41)).heap[w.heap.size + 1]? = some (.cells #[.complex .f64 0 0, .bool false, .complex .f64 0 0] 41 (0, 0)) := (by have := bk_new (w.alloc (.cells #[.complex .f64 tr ti, .bool true, .complex .f64 mr mi] 41)) (.cells #[.complex .f64 0 0, .bool false, .complex .f64 0 0] 41); simpa only [World.size_alloc] using this)
  have hBw : Below w.heap.size w ((w.alloc (.cells #[.complex .f64 tr ti, .bool true, .complex .f64 mr mi] 41)).alloc (.cells #[.complex .f64 0 0, .bool false, .complex .f64 0 0] 41)) := (boxed _ _).alloc (by simp) _
  go_enter Try.func35, Try.ntmps35
  go_wp2_with (first | fail)
  generalize hW0 : ((w.alloc (.cells #[.complex .f64 tr ti, .bool true, .complex .f64 mr mi] 41)).alloc (.cells #[.complex .f64 0 0, .bool false, .complex .f64 0 0] 41)) = W0 at *
  clear hW0
  have hB := same W0
  have KA0 := KA
  have KR0 := KR
  refine (Valid_calls _ _ _ _ _ _ _ _ _ h (by omega) (by omega)).mono ?_
  rintro e w1 ⟨rfl, hb1⟩
  rw [HN1.out]
  replace hB := next hB hb1; replace KA := bk_below KA hb1; have hcKA := bk_cell KA; have hfKA := bk_free KA; have hlKA := bk_lt KA; replace KR := bk_below KR hb1; have hcKR := bk_cell KR; have hfKR := bk_free KR; have hlKR := bk_lt KR
  go_wp2_with (first | fail)
  refine (conj_calls _ _ _ _ _ h.tr h.ti).mono ?_
  rintro e w2 ⟨tr', ti', rfl, _, _, hb1⟩
  replace hB := next hB hb1; replace KA := bk_below KA hb1; have hcKA := bk_cell KA; have hfKA := bk_free KA; have hlKA := bk_lt KA; replace KR := bk_below KR hb1; have hcKR := bk_cell KR; have hfKR := bk_free KR; have hlKR := bk_lt KR
  have wr := h.tr; have wi := h.ti
  go_wp2_with (first | fail)
  have KBX : (w2.alloc (.cells #[.complex .f64 tr ti, .bool true, .complex .f64 0 0] 41)).heap[w2.heap.size]? = some (.cells #[.complex .f64 tr ti, .bool true, .complex .f64 0 0] 41 (0, 0)) := bk_new _ _
  have hlx := bk_lt KBX
  replace KA := bk_alloc KA (.cells #[.complex .f64 tr ti, .bool true, .complex .f64 0 0] 41)
  replace KR := bk_alloc KR (.cells #[.complex .f64 tr ti, .bool true, .complex .f64 0 0] 41)
  replace hB := next hB (boxed _ (.cells #[.complex .f64 tr ti, .bool true, .complex .f64 0 0] 41))
  have KRn := bk_lt KR
  generalize hW3 : w2.alloc (.cells #[.complex .f64 tr ti, .bool true, .complex .f64 0 0] 41) = W3 at *
  obtain ⟨g, hg⟩ : ∃ g, w2.heap.size = g := ⟨_, rfl⟩
  simp only [hg] at *
  have hcKR := bk_cell KR; have hfKR := bk_free KR; have hlKR := bk_lt KR
  have hbI : IsIso tr ti 0 0 k 0 0 := ⟨h.k0, h.k3, wr, wi, isW_zero, isW_zero⟩
  have hng := run_ng
  have KRS := KR; have KAS := KA; have KBS := KBX
  have hBw3 : Below w.heap.size w W3 := hBw.trans (hB.mono hBw.size)
  have hga : w.heap.size < g := by have := hBw.size; have := hB.size; have := bk_lt KAS; have := KRn; omega
  go_region_held3 (fun w' => w'.cell? ⟨w.heap.size, 0, none⟩ = some (.complex .f64 tr ti) ∧ w'.cell? ⟨w.heap.size, 1, none⟩ = some (.bool true) ∧ w'.cell? ⟨w.heap.size, 2, none⟩ = some (.complex .f64 mr mi) ∧ w'.cell? ⟨g, 0, none⟩ = some (.complex .f64 tr ti) ∧ w'.cell? ⟨g, 1, none⟩ = some (.bool true) ∧ w'.cell? ⟨g, 2, none⟩ = some (.complex .f64 0 0) ∧ Below w.heap.size w w')
    (first | exact keepB (bk_drew KAS) (bk_drew KBS) (Below.drew hBw3) | exact keepBn (by assumption) hb1 | exact keepBs (keepBs (keepBs (by assumption) (by dsimp only; omega) (by dsimp only; omega) (by dsimp only; omega) _) (by dsimp only; omega) (by dsimp only; omega) (by dsimp only; omega) _) (by dsimp only; omega) (by dsimp only; omega) (by dsimp only; omega) _)
    (first | (go_at_call 63; ((with_reducible refine (does_calls _ _ _ _ _ _ _ _ _ _ _ _ _ hbI h.mr h.mi (by omega) (by omega) (by omega) (by omega)).mono ?_); rintro e w4 ⟨zr, zi, rfl, hzr, hzi, hb1⟩; rw [Int.add_zero, LX.out] at hzr; rw [Int.add_zero, LY.out] at hzi; have hzr := Lib.hid (ng_isW hzr); have hzi := Lib.hid (ng_isW hzi); have hbd := hb1; obtain ⟨hcz, hfz⟩ := bcell hb1; have hup := up hb1)) | (go_at_call 59; ((with_reducible refine (made_calls _ _ _ _ _ k (-U) (-V) _ ⟨h.k0, h.k3, wr, wi, hzr.out, hzi.out⟩ (by omega) (by omega)).mono ?_); rintro e w5 ⟨xr, xi, yr, yi, rfl, hx, hb1⟩; have hbm := hb1; have KRm := bk_below (bk_below (bk_drew KRS) hbd) hb1; have hcm := bk_cell KRm; have hfm := bk_free KRm; have hlm := bk_lt KRm; obtain ⟨hcz2, hfz2⟩ := bcell hb1; have hup2 := up hb1)))
  rename_i hH
  have hBx := hH.2.2.2.2.2.2
  clear hH
  go_wp2_with (first | fail)
  refine end_ct (w.heap.size + 1) 41 rfl rfl rfl Try.underlying41 rfl ?_
  apply Exists.intro
  refine ⟨(by repeat (with_reducible (first | exact KRm | apply bk_set | refine bk_drew ?_ | refine bk_drewN ?_ _ | refine bk_alloc ?_ _ | refine bk_far ?_ (by simp; try omega) _))), by kernel_rfl, ?_⟩
  exact ⟨_, _, _, _, rfl, hx, hBx⟩

end Go.Proofs.Ytfdehecekghlmaa
