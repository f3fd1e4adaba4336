/- The walk of the law FoldSteps. -/
import Derived.Test.YtfdehecekghlmaaSteps
import Derived.Test.YtfdehecekghlmaaLawKit
import Derived.Deep.RegionHeld3
import Derived.Deep.RegionWith
import Derived.Still
import Derived.BigQuiet
set_option linter.unusedVariables false
set_option linter.unusedSimpArgs false
namespace Go.Proofs.Ytfdehecekghlmaa
open Go.RowKit Go.Viv
attribute [local go_sem] run_store_complex run_store_float

set_option maxRecDepth 20000 in
set_option maxHeartbeats 2000000 in
theorem FoldSteps_no {k W H t s x y dx dy : Int} (w : World) (t0 : 0 ≤ t) (h : lgl k W H t s = false) :
    Calls Try.prog 8 #[topoV k W H t s, pt x y, .int .i64 dx, .int .i64 dy] w (Ret (.bool true) w) := by
  have c1 := fun w => lglued_calls k W H t s w t0
  rw [h] at c1
  have C1 := Lib.hid c1; clear c1 h
  have K1 : ((w.alloc (.cells #[.int .u8 k, .int .i64 W, .int .i64 H, .int .u8 t, .int .i64 s] 23)).alloc (.cells #[.int .i64 x, .int .i64 y] 25)).heap[w.heap.size]? = some (.cells #[.int .u8 k, .int .i64 W, .int .i64 H, .int .u8 t, .int .i64 s] 23 (0, 0)) := (bk_alloc (bk_new _ _) _)
  have K2 : ((w.alloc (.cells #[.int .u8 k, .int .i64 W, .int .i64 H, .int .u8 t, .int .i64 s] 23)).alloc (.cells #[.int .i64 x, .int .i64 y] 25)).heap[w.heap.size + 1]? = some (.cells #[.int .i64 x, .int .i64 y] 25 (0, 0)) := (by have := bk_new (w.alloc (.cells #[.int .u8 k, .int .i64 W, .int .i64 H, .int .u8 t, .int .i64 s] 23)) (.cells #[.int .i64 x, .int .i64 y] 25); simpa only [World.size_alloc] using this)
  have hBw : Below w.heap.size w ((w.alloc (.cells #[.int .u8 k, .int .i64 W, .int .i64 H, .int .u8 t, .int .i64 s] 23)).alloc (.cells #[.int .i64 x, .int .i64 y] 25)) := (boxed _ _).alloc (by simp) _
  go_enter Try.func8, Try.ntmps8
  go_wp2_with (first | fail)
  generalize hW0 : ((w.alloc (.cells #[.int .u8 k, .int .i64 W, .int .i64 H, .int .u8 t, .int .i64 s] 23)).alloc (.cells #[.int .i64 x, .int .i64 y] 25)) = W0 at *
  clear hW0
  have hB := same W0
  have K10 := K1
  have K20 := K2
  refine (awake_calls _).mono ?_
  rintro e w1 ⟨rfl, hb1⟩
  replace hB := next hB hb1; replace K1 := bk_below K1 hb1; have hcK1 := bk_cell K1; have hfK1 := bk_free K1; have hlK1 := bk_lt K1; replace K2 := bk_below K2 hb1; have hcK2 := bk_cell K2; have hfK2 := bk_free K2; have hlK2 := bk_lt K2
  go_wp2_with (first | fail)
  refine (C1.out _).mono ?_
  rintro e w2 ⟨rfl, hb1⟩
  replace hB := next hB hb1; replace K1 := bk_below K1 hb1; have hcK1 := bk_cell K1; have hfK1 := bk_free K1; have hlK1 := bk_lt K1; replace K2 := bk_below K2 hb1; have hcK2 := bk_cell K2; have hfK2 := bk_free K2; have hlK2 := bk_lt K2
  go_wp2
  go_ret
  exact Ret.of rfl (by repeat (with_reducible (first | exact hBw.trans (hB.mono hBw.size) | refine Below.setCell ?_ (by have h1_ := hBw.size; have h2_ := hB.size; (try simp) <;> omega) _ | refine Below.drew ?_ | refine Below.alloc ?_ (by have h1_ := hBw.size; have h2_ := hB.size; (try simp) <;> omega) _)))

def HeldP (W0 : World) (b : Nat) (v0 v1 : Value) (w' : World) : Prop :=
  w'.cell? ⟨b, 0, none⟩ = some v0 ∧ w'.cell? ⟨b, 1, none⟩ = some v1 ∧ Below W0.heap.size W0 w'
theorem keepP {W0 w' : World} {b t : Nat} {v0 v1 : Value} (ha : W0.heap[b]? = some (.cells #[v0, v1] t (0, 0))) (hB : Below W0.heap.size W0 w') : HeldP W0 b v0 v1 w' := by
  have h1 := bk_below ha hB
  exact ⟨(bk_cell h1 0).trans rfl, (bk_cell h1 1).trans rfl, hB⟩
theorem keepPa {W0 w' : World} {b t : Nat} {v0 v1 : Value} (ha : W0.heap[b]? = some (.cells #[v0, v1] t (0, 0))) (h : HeldP W0 b v0 v1 w') (o : Obj) : HeldP W0 b v0 v1 (w'.alloc o) := keepP ha (next h.2.2 (boxed _ _))
theorem keepPo {W0 w' : World} {b t : Nat} {v0 v1 : Value} {o o' : Obj} (ha : W0.heap[b]? = some (.cells #[v0, v1] t (0, 0))) (h : HeldP W0 b v0 v1 (w'.alloc o)) (hs : W0.heap.size ≤ w'.heap.size) : HeldP W0 b v0 v1 (w'.alloc o') := keepP ha (below_other h.2.2 hs)
theorem keepPs {W0 w' : World} {b t : Nat} {v0 v1 : Value} (ha : W0.heap[b]? = some (.cells #[v0, v1] t (0, 0))) (h : HeldP W0 b v0 v1 w') {p : Addr} (hp : W0.heap.size ≤ p.block) (u : Value) : HeldP W0 b v0 v1 (w'.setCell p u) := keepP ha (h.2.2.setCell hp u)

theorem dN6 (w : World) (n : Nat) : Below w.heap.size w (w.drewN n) := ⟨rfl, rfl, rfl, Nat.le_refl _, fun _ _ => rfl⟩
theorem over_side {V D q : Int} (h : V = D * q) (h0 : 0 ≤ D) : V = 0 ∨ ((V == 0) = false ∧ 0 < D ∧ V.tmod D = 0) := by
  by_cases hv : V = 0
  · exact .inl hv
  · have hd : D ≠ 0 := fun e => hv (by rw [h, e, Int.zero_mul])
    exact .inr ⟨by simpa using hv, by omega, by rw [h]; exact Int.mul_tmod_right _ _⟩
theorem tmod_b (x : Int) : -549755813888 ≤ x.tmod 549755813889 ∧ x.tmod 549755813889 ≤ 549755813888 := by
  have := tmod_bounds x 549755813889 (by decide); omega
theorem tmod_2 (x : Int) : -1 ≤ x.tmod 2 ∧ x.tmod 2 ≤ 1 := by
  have := tmod_bounds x 2 (by decide); omega

set_option maxRecDepth 20000 in
set_option maxHeartbeats 3000000 in
theorem FoldSteps_yes {k W H t s x y dx dy : Int} (w : World) (bk : 0 ≤ k ∧ k ≤ 255) (bW : -9223372036854775808 ≤ W ∧ W ≤ 9223372036854775807) (bH : -9223372036854775808 ≤ H ∧ H ≤ 9223372036854775807) (bt : 0 ≤ t ∧ t ≤ 255) (bs : -9223372036854775808 ≤ s ∧ s ≤ 9223372036854775807) (bx : -9223372036854775808 ≤ x ∧ x ≤ 9223372036854775807) (by_ : -9223372036854775808 ≤ y ∧ y ≤ 9223372036854775807) (bdx : -9223372036854775808 ≤ dx ∧ dx ≤ 9223372036854775807) (bdy : -9223372036854775808 ≤ dy ∧ dy ≤ 9223372036854775807) (hg : lgl k W H t s = true) :
    Calls Try.prog 8 #[topoV k W H t s, pt x y, .int .i64 dx, .int .i64 dy] w (Ret (.bool true) w) := by
  have t0 := bt.1
  have c1 := fun w => lglued_calls k W H t s w t0
  rw [hg] at c1
  have hck : checkE k W H t s = 0 := by unfold lgl at hg; simp at hg; exact hg.1
  have hgl : gluedI k = true := by unfold lgl at hg; simp at hg; exact hg.2
  have hok := topoOk t0 hck
  have w0 := hok.w0; have w1_ := hok.w1; have h0_ := hok.h0; have h1_ := hok.h1
  obtain ⟨f1, f2⟩ := first_bounds W w0 w1_
  obtain ⟨f3, f4⟩ := first_bounds H h0_ h1_
  have n1 := fun w => near_big x w bx.1 bx.2
  have n2 := fun w => near_big y w by_.1 by_.2
  have n3 := fun w => near_one dx w bdx.1 bdx.2
  have n4 := fun w => near_one dy w bdy.1 bdy.2
  have bp := tmod_b x; have bq := tmod_b y; have ba := tmod_2 dx; have bb := tmod_2 dy
  obtain ⟨PX, hPX⟩ : ∃ P, x.tmod 549755813889 = P := ⟨_, rfl⟩
  obtain ⟨PY, hPY⟩ : ∃ P, y.tmod 549755813889 = P := ⟨_, rfl⟩
  obtain ⟨A, hA⟩ : ∃ P, dx.tmod 2 = P := ⟨_, rfl⟩
  obtain ⟨B, hBB⟩ : ∃ P, dy.tmod 2 = P := ⟨_, rfl⟩
  rw [hPX] at n1 bp; rw [hPY] at n2 bq; rw [hA] at n3 ba; rw [hBB] at n4 bb
  obtain ⟨p1, p2⟩ := bp; obtain ⟨p3, p4⟩ := bq; obtain ⟨a1, a2⟩ := ba; obtain ⟨a3, a4⟩ := bb
  obtain ⟨QX, hQX⟩ : ∃ P, PX + A = P := ⟨_, rfl⟩
  obtain ⟨QY, hQY⟩ : ∃ P, PY + B = P := ⟨_, rfl⟩
  have q1 : -549755813889 ≤ QX := by omega
  have q2 : QX ≤ 549755813889 := by omega
  have q3 : -549755813889 ≤ QY := by omega
  have q4 : QY ≤ 549755813889 := by omega
  have d1 : -1 ≤ QX - PX := by omega
  have d2 : QX - PX ≤ 1 := by omega
  have d3 : -1 ≤ QY - PY := by omega
  have d4 : QY - PY ≤ 1 := by omega
  have e0 : cellE k W H t s PX PY = 0 := by unfold cellE; rw [if_neg (by simp [hck]), if_neg (by unfold nearI; simp; omega), if_pos hgl]
  have e1 : cellE k W H t s QX QY = 0 := by unfold cellE; rw [if_neg (by simp [hck]), if_neg (by unfold nearI; simp; omega), if_pos hgl]
  have m1 := fun w => Home_ok k W H t s w t0 hck
  have m2 := fun w => Part_calls k W H t s PX PY w t0
  have m3 := fun w => CellF_calls k W H t s PX PY w t0
  have m4 := fun w => CellF_calls k W H t s QX QY w t0
  have m5 := fun w => tile_same (PX - first W) W w w0 w1_ (by omega) (by omega)
  have m6 := fun w => tile_same (QX - first W) W w w0 w1_ (by omega) (by omega)
  have m7 := fun w => tile_same (PY - first H) H w h0_ h1_ (by omega) (by omega)
  have m8 := fun w => tile_same (QY - first H) H w h0_ h1_ (by omega) (by omega)
  rw [e0] at m2 m3; rw [e1] at m4
  have hnv := partN_v k W H t s PX PY
  have law := fun tu tv => steps_law (x := PX) (y := PY) (x' := QX) (y' := QY) hok hck hgl e0 e1 tu tv
  have cb : ∀ a b, -549755813889 ≤ a → a ≤ 549755813889 → -549755813889 ≤ b → b ≤ 549755813889 → cellE k W H t s a b = 0 → (-4398046511104 ≤ cellX k W H t s a b ∧ cellX k W H t s a b ≤ 4398046511104) ∧ (-4398046511104 ≤ cellY k W H t s a b ∧ cellY k W H t s a b ≤ 4398046511104) := by
    intro a b l1 l2 l3 l4 he
    have g1 := cellU_bounds (u := a - first W) (v := b - first H) hok (by omega) (by omega)
    have g2 := cellV_bounds (u := a - first W) (v := b - first H) hok (by omega) (by omega)
    unfold cellX cellY; rw [if_neg (by simp [he]), if_pos hgl, if_neg (by simp [he]), if_pos hgl]; omega
  have cb1 := cb PX PY (by omega) (by omega) (by omega) (by omega) e0
  have cb2 := cb QX QY q1 q2 q3 q4 e1
  clear cb
  obtain ⟨N, hN⟩ : ∃ N, partN k W H t s PX PY = N := ⟨_, rfl⟩
  obtain ⟨AX, hAX⟩ : ∃ P, cellX k W H t s PX PY = P := ⟨_, rfl⟩
  obtain ⟨AY, hAY⟩ : ∃ P, cellY k W H t s PX PY = P := ⟨_, rfl⟩
  obtain ⟨BX, hBX⟩ : ∃ P, cellX k W H t s QX QY = P := ⟨_, rfl⟩
  obtain ⟨BY, hBY⟩ : ∃ P, cellY k W H t s QX QY = P := ⟨_, rfl⟩
  obtain ⟨T1, hT1⟩ : ∃ P, (PX - first W) / W = P := ⟨_, rfl⟩
  obtain ⟨T2, hT2⟩ : ∃ P, (QX - first W) / W = P := ⟨_, rfl⟩
  obtain ⟨T3, hT3⟩ : ∃ P, (PY - first H) / H = P := ⟨_, rfl⟩
  obtain ⟨T4, hT4⟩ : ∃ P, (QY - first H) / H = P := ⟨_, rfl⟩
  rw [hN] at m2 hnv law; rw [hAX, hAY] at m3 law cb1; rw [hBX, hBY] at m4 law cb2; rw [hT1] at m5 law; rw [hT2] at m6 law; rw [hT3] at m7 law; rw [hT4] at m8 law
  have lb := lin_bounds (k := N % 4) (f := decide (4 ≤ N)) (x := QX - PX) (y := QY - PY) (B := 1) (by omega) (by omega)
  have m9 := fun (tr ti mr mi : Nat) (w : World) (h : IsIso tr ti mr mi (N % 4) 0 0) => At_ok tr ti mr mi (decide (4 ≤ N)) (N % 4) 0 0 (QX - PX) (QY - PY) w h near0 near0 (by unfold nearI; simp; omega) (by unfold nearI; simp; omega) (by unfold nearI; simp; omega)
  simp only [Int.add_zero] at m9
  obtain ⟨DX, hDX⟩ : ∃ P, linX (N % 4) (decide (4 ≤ N)) (QX - PX) (QY - PY) = P := ⟨_, rfl⟩
  obtain ⟨DY, hDY⟩ : ∃ P, linY (N % 4) (decide (4 ≤ N)) (QX - PX) (QY - PY) = P := ⟨_, rfl⟩
  rw [hDX, hDY] at m9 law lb
  have m10 := fun w => isoPart_calls N w hnv
  unfold RetP at m10
  obtain ⟨FL, hFL⟩ : ∃ F, decide (4 ≤ N) = F := ⟨_, rfl⟩
  obtain ⟨KN, hKN⟩ : ∃ F, N % 4 = F := ⟨_, rfl⟩
  rw [hFL, hKN] at m9 m10
  obtain ⟨XV, hXV⟩ : ∃ P, BX - AX - DX = P := ⟨_, rfl⟩
  obtain ⟨YV, hYV⟩ : ∃ P, BY - AY - DY = P := ⟨_, rfl⟩
  rw [hXV, hYV] at law
  obtain ⟨⟨b1, b2⟩, ⟨b3, b4⟩⟩ := cb1
  obtain ⟨⟨b5, b6⟩, ⟨b7, b8⟩⟩ := cb2
  have l1 : -1 ≤ DX := by omega
  have l2 : DX ≤ 1 := by omega
  have l3 : -1 ≤ DY := by omega
  have l4 : DY ≤ 1 := by omega
  have LAW := Lib.hid law; have M1 := Lib.hid m1; have M2 := Lib.hid m2; have M3 := Lib.hid m3; have M4 := Lib.hid m4; have M5 := Lib.hid m5; have M6 := Lib.hid m6; have M7 := Lib.hid m7; have M8 := Lib.hid m8; have M9 := Lib.hid m9; have M10 := Lib.hid m10
  clear law m1 m2 m3 m4 m5 m6 m7 m8 m9 m10 lb hN hAX hAY hBX hBY hT1 hT2 hT3 hT4 hDX hDY hFL hKN hnv e0 e1
  have N1 := Lib.hid n1; have N2 := Lib.hid n2; have N3 := Lib.hid n3; have N4 := Lib.hid n4; have C1 := Lib.hid c1; have HCK := Lib.hid hck; have HGL := Lib.hid hgl; have HOK := Lib.hid hok
  clear n1 n2 n3 n4 c1 hPX hPY hA hBB bk bW bH bt bs bx by_ bdx bdy hg hck hgl hok
  have K1 : ((w.alloc (.cells #[.int .u8 k, .int .i64 W, .int .i64 H, .int .u8 t, .int .i64 s] 23)).alloc (.cells #[.int .i64 x, .int .i64 y] 25)).heap[w.heap.size]? = some (.cells #[.int .u8 k, .int .i64 W, .int .i64 H, .int .u8 t, .int .i64 s] 23 (0, 0)) := (bk_alloc (bk_new _ _) _)
  have K2 : ((w.alloc (.cells #[.int .u8 k, .int .i64 W, .int .i64 H, .int .u8 t, .int .i64 s] 23)).alloc (.cells #[.int .i64 x, .int .i64 y] 25)).heap[w.heap.size + 1]? = some (.cells #[.int .i64 x, .int .i64 y] 25 (0, 0)) := (by have := bk_new (w.alloc (.cells #[.int .u8 k, .int .i64 W, .int .i64 H, .int .u8 t, .int .i64 s] 23)) (.cells #[.int .i64 x, .int .i64 y] 25); simpa only [World.size_alloc] using this)
  have hBw : Below w.heap.size w ((w.alloc (.cells #[.int .u8 k, .int .i64 W, .int .i64 H, .int .u8 t, .int .i64 s] 23)).alloc (.cells #[.int .i64 x, .int .i64 y] 25)) := (boxed _ _).alloc (by simp) _
  go_enter Try.func8, Try.ntmps8
  go_wp2_with (first | fail)
  generalize hW0 : ((w.alloc (.cells #[.int .u8 k, .int .i64 W, .int .i64 H, .int .u8 t, .int .i64 s] 23)).alloc (.cells #[.int .i64 x, .int .i64 y] 25)) = W0 at *
  clear hW0
  have hB := same W0
  have K10 := K1
  have K20 := K2
  refine (awake_calls _).mono ?_
  rintro e w1 ⟨rfl, hb1⟩
  replace hB := next hB hb1; replace K1 := bk_below K1 hb1; have hcK1 := bk_cell K1; have hfK1 := bk_free K1; have hlK1 := bk_lt K1; replace K2 := bk_below K2 hb1; have hcK2 := bk_cell K2; have hfK2 := bk_free K2; have hlK2 := bk_lt K2
  go_wp2_with (first | fail)
  refine (C1.out _).mono ?_
  rintro e w2 ⟨rfl, hb1⟩
  replace hB := next hB hb1; replace K1 := bk_below K1 hb1; have hcK1 := bk_cell K1; have hfK1 := bk_free K1; have hlK1 := bk_lt K1; replace K2 := bk_below K2 hb1; have hcK2 := bk_cell K2; have hfK2 := bk_free K2; have hlK2 := bk_lt K2
  go_wp2_with (first | fail)
  refine wp_region_still_tail 7 (by kernel_rfl) (by kernel_rfl) ?_
  simp only [List.take_succ_cons, List.take_zero, List.drop_succ_cons, List.drop_zero]
  still_step
  still_step
  still_call (N1.out _)
  still_step
  still_step
  still_call (N2.out _)
  still_step
  refine wpStill_nil ?_
  change wpList _ _ _ _ _ w2.drew
  go_wp2_with (first | fail)
  have hC := hBw.trans (hB.mono hBw.size)
  have KP : (((w2.setCell ⟨w.heap.size + 1, 0, none⟩ (.int .i64 PX)).setCell ⟨w.heap.size + 1, 1, none⟩ (.int .i64 PY)).drew).heap[w.heap.size + 1]? = some (.cells #[.int .i64 PX, .int .i64 PY] 25 (0, 0)) := bk_drew (bk_eq (bk_set (bk_set K2 0 _) 1 _) (by simp))
  replace K1 : (((w2.setCell ⟨w.heap.size + 1, 0, none⟩ (.int .i64 PX)).setCell ⟨w.heap.size + 1, 1, none⟩ (.int .i64 PY)).drew).heap[w.heap.size]? = _ := bk_drew (bk_far (bk_far K1 (by simp) _) (by simp) _)
  replace hC : Below w.heap.size w (((w2.setCell ⟨w.heap.size + 1, 0, none⟩ (.int .i64 PX)).setCell ⟨w.heap.size + 1, 1, none⟩ (.int .i64 PY)).drew) := Below.drew (Below.setCell (Below.setCell hC (by simp) _) (by simp) _)
  generalize hW3 : (((w2.setCell ⟨w.heap.size + 1, 0, none⟩ (.int .i64 PX)).setCell ⟨w.heap.size + 1, 1, none⟩ (.int .i64 PY)).drew) = W3 at *
  clear hW3 hB hb1 K2 hcK2 hfK2 hlK2
  have hcK1 := bk_cell K1; have hlK1 := bk_lt K1; have hcKP := bk_cell KP; have hlKP := bk_lt KP
  have KPS := KP; have KTS := K1
  have hwQ : IntKind.i64.wrap QX = QX := by rw [IntKind.wrap_i64]; omega
  have hwR : IntKind.i64.wrap QY = QY := by rw [IntKind.wrap_i64]; omega
  go_region_held3 (fun w' => w'.cell? ⟨w.heap.size + 1, 0, none⟩ = some (.int .i64 PX) ∧ w'.cell? ⟨w.heap.size + 1, 1, none⟩ = some (.int .i64 PY) ∧ Below W3.heap.size W3 w')
    (first | exact keepP KPS (Below.drew (same W3)) | exact keepP KPS (Below.drew (boxed W3 _)) | exact keepP KPS (boxed W3 _) | assumption | exact keepPa KPS (by assumption) _ | exact keepPo KPS (by assumption) (by simp) | exact keepPs KPS (keepPs KPS (by assumption) (by dsimp only; simp) _) (by dsimp only; simp) _)
    (first | (go_at_call_of 26 dx; ((with_reducible refine (N3.out _).mono ?_); rintro e w4 ⟨rfl, rfl⟩)) | (go_at_call_of 26 dy; ((with_reducible refine (N4.out _).mono ?_); rintro e w4 ⟨rfl, rfl⟩)))
  all_goals
    rename_i hH
    clear hH
    go_wp2_with (first | fail)
    have KQ := bk_drew (bk_new W3 (.cells #[.int .i64 QX, .int .i64 QY] 25))
    replace K1 := bk_drew (bk_alloc K1 (.cells #[.int .i64 QX, .int .i64 QY] 25)); replace KP := bk_drew (bk_alloc KP (.cells #[.int .i64 QX, .int .i64 QY] 25))
    replace hC := Below.drew (Below.alloc hC hC.size (.cells #[.int .i64 QX, .int .i64 QY] 25))
    generalize hW4 : (W3.alloc (.cells #[.int .i64 QX, .int .i64 QY] 25)).drew = W4 at *
    clear hW4 KPS KTS
    generalize W3.heap.size = gq at *
    refine (M1.out _).mono ?_
    rintro e w5 ⟨rfl, hb1⟩
    replace hC := hC.trans (Below.mono hb1 hC.size)
    replace K1 := bk_below K1 hb1; have hcK1 := bk_cell K1; have hlK1 := bk_lt K1
    replace KP := bk_below KP hb1; have hcKP := bk_cell KP; have hlKP := bk_lt KP
    replace KQ := bk_below KQ hb1; have hcKQ := bk_cell KQ; have hlKQ := bk_lt KQ
    have KR := bk_new w5 (.cells #[.int .i64 (first W), .int .i64 (first H), .int .i64 W, .int .i64 H] 45)
    go_wp2_with (first | fail)
    refine (M2.out _).mono ?_
    rintro e w6 ⟨rfl, hb1⟩
    replace hC := hC.trans (Below.mono (box hb1) hC.size)
    replace K1 := bk_below K1 (box hb1); have hcK1 := bk_cell K1; have hlK1 := bk_lt K1
    replace KP := bk_below KP (box hb1); have hcKP := bk_cell KP; have hlKP := bk_lt KP
    replace KQ := bk_below KQ (box hb1); have hcKQ := bk_cell KQ; have hlKQ := bk_lt KQ
    replace KR := bk_below KR hb1; have hcKR := bk_cell KR; have hlKR := bk_lt KR
    go_wp2_with (first | fail)
    refine (M3.out _).mono ?_
    rintro e w7 ⟨rfl, hb1⟩
    replace hC := hC.trans (Below.mono hb1 hC.size)
    replace K1 := bk_below K1 hb1; have hcK1 := bk_cell K1; have hlK1 := bk_lt K1
    replace KP := bk_below KP hb1; have hcKP := bk_cell KP; have hlKP := bk_lt KP
    replace KQ := bk_below KQ hb1; have hcKQ := bk_cell KQ; have hlKQ := bk_lt KQ
    replace KR := bk_below KR hb1; have hcKR := bk_cell KR; have hlKR := bk_lt KR
    have KA := bk_new w7 (.cells #[.int .i64 AX, .int .i64 AY] 25)
    go_wp2_with (first | fail)
    refine (M4.out _).mono ?_
    rintro e w8 ⟨rfl, hb1⟩
    replace hC := hC.trans (Below.mono (box hb1) hC.size)
    replace K1 := bk_below K1 (box hb1); have hcK1 := bk_cell K1; have hlK1 := bk_lt K1
    replace KP := bk_below KP (box hb1); have hcKP := bk_cell KP; have hlKP := bk_lt KP
    replace KQ := bk_below KQ (box hb1); have hcKQ := bk_cell KQ; have hlKQ := bk_lt KQ
    replace KR := bk_below KR (box hb1); have hcKR := bk_cell KR; have hlKR := bk_lt KR
    replace KA := bk_below KA hb1; have hcKA := bk_cell KA; have hlKA := bk_lt KA
    have KB := bk_new w8 (.cells #[.int .i64 BX, .int .i64 BY] 25)
    replace hC := Below.alloc hC hC.size (.cells #[.int .i64 BX, .int .i64 BY] 25)
    replace K1 := bk_alloc K1 (.cells #[.int .i64 BX, .int .i64 BY] 25)
    replace KP := bk_alloc KP (.cells #[.int .i64 BX, .int .i64 BY] 25)
    replace KQ := bk_alloc KQ (.cells #[.int .i64 BX, .int .i64 BY] 25)
    replace KR := bk_alloc KR (.cells #[.int .i64 BX, .int .i64 BY] 25)
    replace KA := bk_alloc KA (.cells #[.int .i64 BX, .int .i64 BY] 25)
    go_wp2_with (first | fail)
    generalize hW9 : w8.alloc (.cells #[.int .i64 BX, .int .i64 BY] 25) = W9 at *
    clear hW9
    generalize w8.heap.size = gb at *
    generalize w7.heap.size = ga at *
    generalize w5.heap.size = gr at *
    have hcK1 := bk_cell K1; have hlK1 := bk_lt K1
    have hcKP := bk_cell KP; have hlKP := bk_lt KP
    have hcKQ := bk_cell KQ; have hlKQ := bk_lt KQ
    have hcKR := bk_cell KR; have hlKR := bk_lt KR
    have hcKA := bk_cell KA; have hlKA := bk_lt KA
    have hcKB := bk_cell KB; have hlKB := bk_lt KB
    have v1 : IntKind.i64.wrap (PX - first W) = PX - first W := by rw [IntKind.wrap_i64]; omega
    have v2 : IntKind.i64.wrap (QX - first W) = QX - first W := by rw [IntKind.wrap_i64]; omega
    have v3 : IntKind.i64.wrap (PY - first H) = PY - first H := by rw [IntKind.wrap_i64]; omega
    have v4 : IntKind.i64.wrap (QY - first H) = QY - first H := by rw [IntKind.wrap_i64]; omega
    by_cases c1 : T1 = T2
    · have g1 : (T1 != T2) = false := by simpa using c1
      by_cases c2 : T3 = T4
      · have g2 : (T3 != T4) = false := by simpa using c2
        have LW := LAW.out c1 c2
        clear c1 c2
        go_quiet (first | (go_at_call_of 27 (PX - first W); refine Calls.quiet_of_same (M5.out _)) | (go_at_call_of 27 (QX - first W); refine Calls.quiet_of_same (M6.out _)) | (go_at_call_of 27 (PY - first H); refine Calls.quiet_of_same (M7.out _)) | (go_at_call_of 27 (QY - first H); refine Calls.quiet_of_same (M8.out _)))
        go_wp2_with (first | fail)
        replace hC := hC.trans (Below.mono (dN6 W9 nq) hC.size)
        replace K1 := bk_drewN K1 nq; replace KP := bk_drewN KP nq; replace KQ := bk_drewN KQ nq; replace KA := bk_drewN KA nq; replace KB := bk_drewN KB nq
        generalize hWA : World.drewN W9 nq = WA at *
        clear hWA nq KR hcKR hlKR
        refine (M10.out _).mono ?_
        rintro e w10 ⟨tr, ti, mr, mi, rfl, hI, hb1⟩
        replace hC := hC.trans (Below.mono hb1 hC.size)
        replace K1 := bk_below K1 hb1; have hcK1 := bk_cell K1; have hlK1 := bk_lt K1
        replace KP := bk_below KP hb1; have hcKP := bk_cell KP; have hlKP := bk_lt KP
        replace KQ := bk_below KQ hb1; have hcKQ := bk_cell KQ; have hlKQ := bk_lt KQ
        replace KA := bk_below KA hb1; have hcKA := bk_cell KA; have hlKA := bk_lt KA
        replace KB := bk_below KB hb1; have hcKB := bk_cell KB; have hlKB := bk_lt KB
        have KI := bk_new w10 (.cells #[.complex .f64 tr ti, .bool FL, .complex .f64 mr mi] 41)
        go_wp2_with (first | fail)
        refine (M9.out _ _ _ _ _ hI).mono ?_
        rintro e w11 ⟨rfl, hb1⟩
        replace hC := hC.trans (Below.mono (box hb1) hC.size)
        replace K1 := bk_below K1 (box hb1); have hcK1 := bk_cell K1; have hlK1 := bk_lt K1
        replace KP := bk_below KP (box hb1); have hcKP := bk_cell KP; have hlKP := bk_lt KP
        replace KQ := bk_below KQ (box hb1); have hcKQ := bk_cell KQ; have hlKQ := bk_lt KQ
        replace KA := bk_below KA (box hb1); have hcKA := bk_cell KA; have hlKA := bk_lt KA
        replace KB := bk_below KB (box hb1); have hcKB := bk_cell KB; have hlKB := bk_lt KB
        clear hI KI
        obtain ⟨qa, qb, ea, eb⟩ := LW
        rcases over_side ea w0 with hx | ⟨hx, hx1, hx2⟩ <;> rcases over_side eb h0_ with hy | ⟨hy, hy1, hy2⟩
        all_goals
          clear ea eb
          go_wp2
          go_ret
          exact Ret.of (by simp [*]) (by repeat (with_reducible (first | exact hC | refine Below.drew ?_ | refine below_drewN ?_ _ | refine Below.alloc ?_ hC.size _)))
      · have g2 : (T3 != T4) = true := by simpa using c2
        clear c1 c2
        go_quiet (first | (go_at_call_of 27 (PX - first W); refine Calls.quiet_of_same (M5.out _)) | (go_at_call_of 27 (QX - first W); refine Calls.quiet_of_same (M6.out _)) | (go_at_call_of 27 (PY - first H); refine Calls.quiet_of_same (M7.out _)) | (go_at_call_of 27 (QY - first H); refine Calls.quiet_of_same (M8.out _)))
        go_wp2
        go_ret
        exact Ret.of rfl (by repeat (with_reducible (first | exact hC | refine Below.drew ?_ | refine below_drewN ?_ _)))
    · have g1 : (T1 != T2) = true := by simpa using c1
      clear c1
      go_quiet (first | (go_at_call_of 27 (PX - first W); refine Calls.quiet_of_same (M5.out _)) | (go_at_call_of 27 (QX - first W); refine Calls.quiet_of_same (M6.out _)) | (go_at_call_of 27 (PY - first H); refine Calls.quiet_of_same (M7.out _)) | (go_at_call_of 27 (QY - first H); refine Calls.quiet_of_same (M8.out _)))
      go_wp2
      go_ret
      exact Ret.of rfl (by repeat (with_reducible (first | exact hC | refine Below.drew ?_ | refine below_drewN ?_ _)))

end Go.Proofs.Ytfdehecekghlmaa
