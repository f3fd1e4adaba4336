/- The walks of vivariumref06.Same and of the law FoldSame. -/
import Derived.Test.YtfdehecekghlmaaAwake
import Derived.Test.YtfdehecekghlmaaRefEq
import Derived.Test.YtfdehecekghlmaaLawKit
set_option linter.unusedVariables false
set_option linter.unusedSimpArgs false
namespace Go.Proofs.Ytfdehecekghlmaa
open Go.RowKit Go.Viv Go.Proofs.Ytfdehecekghlmaa.PFoldRing

def refE (k W H t s x y : Int) : Int := if checkE k W H t s ≠ 0 then 9 else if (nearI x && nearI y) = false then 5 else 0
theorem refE_calls (k W H t s x y : Int) (w : World) (t0 : 0 ≤ t) : Calls Try.prog 38 #[topoV k W H t s, pt x y] w (Ret (.int .i64 (refE k W H t s x y)) w) := refRefused_calls k W H t s x y w t0

set_option maxHeartbeats 2000000 in
theorem rSame_1 (k W H t s x y z v : Int) (w : World) (t0 : 0 ≤ t) (h : refE k W H t s x y ≠ 0) : Calls Try.prog 25 #[topoV k W H t s, pt x y, pt z v] w (Ret (.tuple #[.bool false, .int .i64 (refE k W H t s x y)]) w) := by
  have c1 := fun w => refE_calls k W H t s x y w t0
  obtain ⟨E, hE⟩ : ∃ E, refE k W H t s x y = E := ⟨_, rfl⟩
  rw [hE] at c1 h ⊢
  have hne : (E != 0) = true := by simpa using h
  have C1 := Lib.hid c1
  clear hE h c1
  have K1 : (((w.alloc (.cells #[.int .u8 k, .int .i64 W, .int .i64 H, .int .u8 t, .int .i64 s] 23)).alloc (.cells #[.int .i64 x, .int .i64 y] 25)).alloc (.cells #[.int .i64 z, .int .i64 v] 25)).heap[w.heap.size]? = some (.cells #[.int .u8 k, .int .i64 W, .int .i64 H, .int .u8 t, .int .i64 s] 23 (0, 0)) := (bk_alloc (bk_alloc (bk_new _ _) _) _)
  have K2 : (((w.alloc (.cells #[.int .u8 k, .int .i64 W, .int .i64 H, .int .u8 t, .int .i64 s] 23)).alloc (.cells #[.int .i64 x, .int .i64 y] 25)).alloc (.cells #[.int .i64 z, .int .i64 v] 25)).heap[w.heap.size + 1]? = some (.cells #[.int .i64 x, .int .i64 y] 25 (0, 0)) := (bk_alloc (by have := bk_new (w.alloc (.cells #[.int .u8 k, .int .i64 W, .int .i64 H, .int .u8 t, .int .i64 s] 23)) (.cells #[.int .i64 x, .int .i64 y] 25); simpa only [World.size_alloc] using this) _)
  have K3 : (((w.alloc (.cells #[.int .u8 k, .int .i64 W, .int .i64 H, .int .u8 t, .int .i64 s] 23)).alloc (.cells #[.int .i64 x, .int .i64 y] 25)).alloc (.cells #[.int .i64 z, .int .i64 v] 25)).heap[w.heap.size + 1 + 1]? = some (.cells #[.int .i64 z, .int .i64 v] 25 (0, 0)) := (by have := bk_new ((w.alloc (.cells #[.int .u8 k, .int .i64 W, .int .i64 H, .int .u8 t, .int .i64 s] 23)).alloc (.cells #[.int .i64 x, .int .i64 y] 25)) (.cells #[.int .i64 z, .int .i64 v] 25); simpa only [World.size_alloc] using this)
  have hBw : Below w.heap.size w (((w.alloc (.cells #[.int .u8 k, .int .i64 W, .int .i64 H, .int .u8 t, .int .i64 s] 23)).alloc (.cells #[.int .i64 x, .int .i64 y] 25)).alloc (.cells #[.int .i64 z, .int .i64 v] 25)) := ((boxed _ _).alloc (by simp) _).alloc (by simp; try omega) _
  go_enter Try.func25, Try.ntmps25
  go_wp2_with (first | fail)
  generalize hW0 : (((w.alloc (.cells #[.int .u8 k, .int .i64 W, .int .i64 H, .int .u8 t, .int .i64 s] 23)).alloc (.cells #[.int .i64 x, .int .i64 y] 25)).alloc (.cells #[.int .i64 z, .int .i64 v] 25)) = W0 at *
  clear hW0
  have hB := same W0
  have K10 := K1
  have K20 := K2
  have K30 := K3
  refine (C1.out _).mono ?_
  rintro e w1 ⟨rfl, hb1⟩
  replace hB := next hB hb1; replace K1 := bk_below K1 hb1; have hcK1 := bk_cell K1; have hfK1 := bk_free K1; have hlK1 := bk_lt K1; replace K2 := bk_below K2 hb1; have hcK2 := bk_cell K2; have hfK2 := bk_free K2; have hlK2 := bk_lt K2; replace K3 := bk_below K3 hb1; have hcK3 := bk_cell K3; have hfK3 := bk_free K3; have hlK3 := bk_lt K3
  go_wp2
  go_ret2
  exact Ret.of rfl (by repeat (with_reducible (first | exact hBw.trans (hB.mono hBw.size) | refine Below.setCell ?_ (by have h1_ := hBw.size; have h2_ := hB.size; (try simp) <;> omega) _ | refine Below.drew ?_ | refine Below.alloc ?_ (by have h1_ := hBw.size; have h2_ := hB.size; (try simp) <;> omega) _)))

set_option maxHeartbeats 2000000 in
theorem rSame_2 (k W H t s x y z v : Int) (w : World) (t0 : 0 ≤ t) (h : refE k W H t s x y = 0) (h2 : refE k W H t s z v ≠ 0) : Calls Try.prog 25 #[topoV k W H t s, pt x y, pt z v] w (Ret (.tuple #[.bool false, .int .i64 (refE k W H t s z v)]) w) := by
  have c1 := fun w => refE_calls k W H t s x y w t0
  have c2 := fun w => refE_calls k W H t s z v w t0
  obtain ⟨E, hE⟩ : ∃ E, refE k W H t s z v = E := ⟨_, rfl⟩
  rw [h] at c1
  rw [hE] at c2 h2 ⊢
  have hne : (E != 0) = true := by simpa using h2
  have C1 := Lib.hid c1; have C2 := Lib.hid c2
  clear hE h h2 c1 c2
  have K1 : (((w.alloc (.cells #[.int .u8 k, .int .i64 W, .int .i64 H, .int .u8 t, .int .i64 s] 23)).alloc (.cells #[.int .i64 x, .int .i64 y] 25)).alloc (.cells #[.int .i64 z, .int .i64 v] 25)).heap[w.heap.size]? = some (.cells #[.int .u8 k, .int .i64 W, .int .i64 H, .int .u8 t, .int .i64 s] 23 (0, 0)) := (bk_alloc (bk_alloc (bk_new _ _) _) _)
  have K2 : (((w.alloc (.cells #[.int .u8 k, .int .i64 W, .int .i64 H, .int .u8 t, .int .i64 s] 23)).alloc (.cells #[.int .i64 x, .int .i64 y] 25)).alloc (.cells #[.int .i64 z, .int .i64 v] 25)).heap[w.heap.size + 1]? = some (.cells #[.int .i64 x, .int .i64 y] 25 (0, 0)) := (bk_alloc (by have := bk_new (w.alloc (.cells #[.int .u8 k, .int .i64 W, .int .i64 H, .int .u8 t, .int .i64 s] 23)) (.cells #[.int .i64 x, .int .i64 y] 25); simpa only [World.size_alloc] using this) _)
  have K3 : (((w.alloc (.cells #[.int .u8 k, .int .i64 W, .int .i64 H, .int .u8 t, .int .i64 s] 23)).alloc (.cells #[.int .i64 x, .int .i64 y] 25)).alloc (.cells #[.int .i64 z, .int .i64 v] 25)).heap[w.heap.size + 1 + 1]? = some (.cells #[.int .i64 z, .int .i64 v] 25 (0, 0)) := (by have := bk_new ((w.alloc (.cells #[.int .u8 k, .int .i64 W, .int .i64 H, .int .u8 t, .int .i64 s] 23)).alloc (.cells #[.int .i64 x, .int .i64 y] 25)) (.cells #[.int .i64 z, .int .i64 v] 25); simpa only [World.size_alloc] using this)
  have hBw : Below w.heap.size w (((w.alloc (.cells #[.int .u8 k, .int .i64 W, .int .i64 H, .int .u8 t, .int .i64 s] 23)).alloc (.cells #[.int .i64 x, .int .i64 y] 25)).alloc (.cells #[.int .i64 z, .int .i64 v] 25)) := ((boxed _ _).alloc (by simp) _).alloc (by simp; try omega) _
  go_enter Try.func25, Try.ntmps25
  go_wp2_with (first | fail)
  generalize hW0 : (((w.alloc (.cells #[.int .u8 k, .int .i64 W, .int .i64 H, .int .u8 t, .int .i64 s] 23)).alloc (.cells #[.int .i64 x, .int .i64 y] 25)).alloc (.cells #[.int .i64 z, .int .i64 v] 25)) = W0 at *
  clear hW0
  have hB := same W0
  have K10 := K1
  have K20 := K2
  have K30 := K3
  refine (C1.out _).mono ?_
  rintro e w1 ⟨rfl, hb1⟩
  replace hB := next hB hb1; replace K1 := bk_below K1 hb1; have hcK1 := bk_cell K1; have hfK1 := bk_free K1; have hlK1 := bk_lt K1; replace K2 := bk_below K2 hb1; have hcK2 := bk_cell K2; have hfK2 := bk_free K2; have hlK2 := bk_lt K2; replace K3 := bk_below K3 hb1; have hcK3 := bk_cell K3; have hfK3 := bk_free K3; have hlK3 := bk_lt K3
  go_wp2_with (first | fail)
  refine (C2.out _).mono ?_
  rintro e w2 ⟨rfl, hb1⟩
  replace hB := next hB hb1; replace K1 := bk_below K1 hb1; have hcK1 := bk_cell K1; have hfK1 := bk_free K1; have hlK1 := bk_lt K1; replace K2 := bk_below K2 hb1; have hcK2 := bk_cell K2; have hfK2 := bk_free K2; have hlK2 := bk_lt K2; replace K3 := bk_below K3 hb1; have hcK3 := bk_cell K3; have hfK3 := bk_free K3; have hlK3 := bk_lt K3
  go_wp2
  go_ret2
  exact Ret.of rfl (by repeat (with_reducible (first | exact hBw.trans (hB.mono hBw.size) | refine Below.setCell ?_ (by have h1_ := hBw.size; have h2_ := hB.size; (try simp) <;> omega) _ | refine Below.drew ?_ | refine Below.alloc ?_ (by have h1_ := hBw.size; have h2_ := hB.size; (try simp) <;> omega) _)))

set_option maxHeartbeats 4000000 in
theorem rSame_3 (k W H t s x y z v : Int) (w : World) (t0 : 0 ≤ t) (h : refE k W H t s x y = 0) (h2 : refE k W H t s z v = 0) :
    Calls Try.prog 25 #[topoV k W H t s, pt x y, pt z v] w (Ret (.tuple #[.bool (decide (cellE k W H t s x y = 0 ∧ cellE k W H t s z v = 0) && (cellX k W H t s x y == cellX k W H t s z v && cellY k W H t s x y == cellY k W H t s z v)), .int .i64 (if cellE k W H t s x y = 0 ∧ cellE k W H t s z v = 0 then 0 else 60)]) w) := by
  have c1 := fun w => refE_calls k W H t s x y w t0
  have c2 := fun w => refE_calls k W H t s z v w t0
  have c3 := fun w => refCell_calls k W H t s x y w t0
  have c4 := fun w => refCell_calls k W H t s z v w t0
  rw [h] at c1; rw [h2] at c2
  obtain ⟨X, hX⟩ : ∃ X, cellX k W H t s x y = X := ⟨_, rfl⟩
  obtain ⟨Y, hY⟩ : ∃ Y, cellY k W H t s x y = Y := ⟨_, rfl⟩
  obtain ⟨E, hE⟩ : ∃ E, cellE k W H t s x y = E := ⟨_, rfl⟩
  obtain ⟨Z, hZ⟩ : ∃ Z, cellX k W H t s z v = Z := ⟨_, rfl⟩
  obtain ⟨V, hV⟩ : ∃ V, cellY k W H t s z v = V := ⟨_, rfl⟩
  obtain ⟨F, hF⟩ : ∃ F, cellE k W H t s z v = F := ⟨_, rfl⟩
  rw [hX, hY, hE] at c3
  rw [hZ, hV, hF] at c4
  rw [hX, hY, hE, hZ, hV, hF]
  have C1 := Lib.hid c1; have C2 := Lib.hid c2; have C3 := Lib.hid c3; have C4 := Lib.hid c4
  clear hE hF hX hY hZ hV h h2 c1 c2 c3 c4
  obtain ⟨RV, hRV⟩ : ∃ RV, (Value.tuple #[.bool (decide (E = 0 ∧ F = 0) && (X == Z && Y == V)), .int .i64 (if E = 0 ∧ F = 0 then 0 else 60)]) = RV := ⟨_, rfl⟩
  rw [hRV]
  have HR := Lib.hid hRV; clear hRV
  have K1 : (((w.alloc (.cells #[.int .u8 k, .int .i64 W, .int .i64 H, .int .u8 t, .int .i64 s] 23)).alloc (.cells #[.int .i64 x, .int .i64 y] 25)).alloc (.cells #[.int .i64 z, .int .i64 v] 25)).heap[w.heap.size]? = some (.cells #[.int .u8 k, .int .i64 W, .int .i64 H, .int .u8 t, .int .i64 s] 23 (0, 0)) := (bk_alloc (bk_alloc (bk_new _ _) _) _)
  have K2 : (((w.alloc (.cells #[.int .u8 k, .int .i64 W, .int .i64 H, .int .u8 t, .int .i64 s] 23)).alloc (.cells #[.int .i64 x, .int .i64 y] 25)).alloc (.cells #[.int .i64 z, .int .i64 v] 25)).heap[w.heap.size + 1]? = some (.cells #[.int .i64 x, .int .i64 y] 25 (0, 0)) := (bk_alloc (by have := bk_new (w.alloc (.cells #[.int .u8 k, .int .i64 W, .int .i64 H, .int .u8 t, .int .i64 s] 23)) (.cells #[.int .i64 x, .int .i64 y] 25); simpa only [World.size_alloc] using this) _)
  have K3 : (((w.alloc (.cells #[.int .u8 k, .int .i64 W, .int .i64 H, .int .u8 t, .int .i64 s] 23)).alloc (.cells #[.int .i64 x, .int .i64 y] 25)).alloc (.cells #[.int .i64 z, .int .i64 v] 25)).heap[w.heap.size + 1 + 1]? = some (.cells #[.int .i64 z, .int .i64 v] 25 (0, 0)) := (by have := bk_new ((w.alloc (.cells #[.int .u8 k, .int .i64 W, .int .i64 H, .int .u8 t, .int .i64 s] 23)).alloc (.cells #[.int .i64 x, .int .i64 y] 25)) (.cells #[.int .i64 z, .int .i64 v] 25); simpa only [World.size_alloc] using this)
  have hBw : Below w.heap.size w (((w.alloc (.cells #[.int .u8 k, .int .i64 W, .int .i64 H, .int .u8 t, .int .i64 s] 23)).alloc (.cells #[.int .i64 x, .int .i64 y] 25)).alloc (.cells #[.int .i64 z, .int .i64 v] 25)) := ((boxed _ _).alloc (by simp) _).alloc (by simp; try omega) _
  go_enter Try.func25, Try.ntmps25
  go_wp2_with (first | fail)
  generalize hW0 : (((w.alloc (.cells #[.int .u8 k, .int .i64 W, .int .i64 H, .int .u8 t, .int .i64 s] 23)).alloc (.cells #[.int .i64 x, .int .i64 y] 25)).alloc (.cells #[.int .i64 z, .int .i64 v] 25)) = W0 at *
  clear hW0
  have hB := same W0
  have K10 := K1
  have K20 := K2
  have K30 := K3
  refine (C1.out _).mono ?_
  rintro e w1 ⟨rfl, hb1⟩
  replace hB := next hB hb1; replace K1 := bk_below K1 hb1; have hcK1 := bk_cell K1; have hfK1 := bk_free K1; have hlK1 := bk_lt K1; replace K2 := bk_below K2 hb1; have hcK2 := bk_cell K2; have hfK2 := bk_free K2; have hlK2 := bk_lt K2; replace K3 := bk_below K3 hb1; have hcK3 := bk_cell K3; have hfK3 := bk_free K3; have hlK3 := bk_lt K3
  go_wp2_with (first | fail)
  refine (C2.out _).mono ?_
  rintro e w2 ⟨rfl, hb1⟩
  replace hB := next hB hb1; replace K1 := bk_below K1 hb1; have hcK1 := bk_cell K1; have hfK1 := bk_free K1; have hlK1 := bk_lt K1; replace K2 := bk_below K2 hb1; have hcK2 := bk_cell K2; have hfK2 := bk_free K2; have hlK2 := bk_lt K2; replace K3 := bk_below K3 hb1; have hcK3 := bk_cell K3; have hfK3 := bk_free K3; have hlK3 := bk_lt K3
  go_wp2_with (first | fail)
  refine (C3.out _).mono ?_
  rintro e w3 ⟨rfl, hb1⟩
  replace hB := next hB hb1; replace K1 := bk_below K1 hb1; have hcK1 := bk_cell K1; have hfK1 := bk_free K1; have hlK1 := bk_lt K1; replace K2 := bk_below K2 hb1; have hcK2 := bk_cell K2; have hfK2 := bk_free K2; have hlK2 := bk_lt K2; replace K3 := bk_below K3 hb1; have hcK3 := bk_cell K3; have hfK3 := bk_free K3; have hlK3 := bk_lt K3
  have KA := bk_new w3 (.cells #[.int .i64 X, .int .i64 Y] 25)
  go_wp2_with (first | fail)
  refine (C4.out _).mono ?_
  rintro e w4 ⟨rfl, hb1⟩
  replace hB := next hB (box hb1); replace K1 := bk_below K1 (box hb1); have hcK1 := bk_cell K1; have hfK1 := bk_free K1; have hlK1 := bk_lt K1; replace K2 := bk_below K2 (box hb1); have hcK2 := bk_cell K2; have hfK2 := bk_free K2; have hlK2 := bk_lt K2; replace K3 := bk_below K3 (box hb1); have hcK3 := bk_cell K3; have hfK3 := bk_free K3; have hlK3 := bk_lt K3
  replace KA := bk_below KA hb1; have hcA := bk_cell KA; have hlA := bk_lt KA
  go_wp2_with (first | fail)
  all_goals
    go_ret2
    refine Ret.of ?_ (by repeat (with_reducible (first | exact hBw.trans (hB.mono hBw.size) | refine Below.setCell ?_ (by have h1_ := hBw.size; have h2_ := hB.size; (try simp) <;> omega) _ | refine Below.drew ?_ | refine Below.alloc ?_ (by have h1_ := hBw.size; have h2_ := hB.size; (try simp) <;> omega) _)))
    rw [← HR.out]
    clear HR
    simp_all

theorem rSame_calls (k W H t s x y z v : Int) (w : World) (t0 : 0 ≤ t) : Calls Try.prog 25 #[topoV k W H t s, pt x y, pt z v] w (Ret (.tuple #[.bool (sameB k W H t s x y z v), .int .i64 (sameE k W H t s x y z v)]) w) := by
  have hn : (nearP (x, y) && nearP (z, v)) = ((nearI x && nearI y) && (nearI z && nearI v)) := rfl
  by_cases h1 : refE k W H t s x y = 0
  · have hc : checkE k W H t s = 0 := by
      unfold refE at h1; split at h1
      · cases h1
      · rename_i hh; simpa using hh
    have hn1 : (nearI x && nearI y) = true := by
      unfold refE at h1; rw [if_neg (by simp [hc])] at h1; split at h1
      · cases h1
      · rename_i hh; simpa using hh
    by_cases h2 : refE k W H t s z v = 0
    · have hn2 : (nearI z && nearI v) = true := by
        unfold refE at h2; rw [if_neg (by simp [hc])] at h2; split at h2
        · cases h2
        · rename_i hh; simpa using hh
      have e : sameE k W H t s x y z v = (if cellE k W H t s x y = 0 ∧ cellE k W H t s z v = 0 then 0 else 60) := by
        have c60 : ∀ a b, (nearI a && nearI b) = true → cellE k W H t s a b = 0 ∨ cellE k W H t s a b = 60 := by
          intro a b hab; unfold cellE; rw [if_neg (by simp [hc]), if_neg (by simp [hab])]; split
          · exact .inl rfl
          · split
            · exact .inl rfl
            · exact .inr rfl
        unfold sameE; rw [if_neg (by simp [hc]), if_neg (by rw [hn, hn1, hn2]; simp)]
        rcases c60 x y hn1 with e1 | e1 <;> rcases c60 z v hn2 with e2 | e2 <;> simp [e1, e2]
      have eb : sameB k W H t s x y z v = (decide (cellE k W H t s x y = 0 ∧ cellE k W H t s z v = 0) && (cellX k W H t s x y == cellX k W H t s z v && cellY k W H t s x y == cellY k W H t s z v)) := by
        unfold sameB; rw [e]
        by_cases hh : cellE k W H t s x y = 0 ∧ cellE k W H t s z v = 0
        · rw [if_pos hh]; simp [hh]
        · rw [if_neg hh]; simp [hh]
      rw [e, eb]
      exact rSame_3 k W H t s x y z v w t0 h1 h2
    · have e : sameE k W H t s x y z v = refE k W H t s z v := by
        unfold refE at h2 ⊢
        rw [if_neg (by simp [hc])] at h2 ⊢
        split at h2
        · rename_i hh
          unfold sameE; rw [if_neg (by simp [hc]), if_pos (by rw [hn, hh]; simp), if_pos hh]
        · exact absurd rfl h2
      have e5 : sameB k W H t s x y z v = false := by unfold sameB; rw [e]; simp [h2]
      rw [e, e5]
      exact rSame_2 k W H t s x y z v w t0 h1 h2
  · have e : sameE k W H t s x y z v = refE k W H t s x y := by
      unfold refE at h1 ⊢
      split at h1
      · rename_i hh; unfold sameE; rw [if_pos hh, if_pos hh]
      · rename_i hc
        split at h1
        · rename_i hh
          unfold sameE; rw [if_neg hc, if_pos (by rw [hn, hh]; simp), if_neg hc, if_pos hh]
        · exact absurd rfl h1
    have e5 : sameB k W H t s x y z v = false := by unfold sameB; rw [e]; simp [h1]
    rw [e, e5]
    exact rSame_1 k W H t s x y z v w t0 h1

set_option maxHeartbeats 4000000 in
theorem FoldSame_walk {k W H t s x y z v : Int} (w : World) (bk : 0 ≤ k ∧ k ≤ 255) (bW : -9223372036854775808 ≤ W ∧ W ≤ 9223372036854775807) (bH : -9223372036854775808 ≤ H ∧ H ≤ 9223372036854775807) (bt : 0 ≤ t ∧ t ≤ 255) (bs : -9223372036854775808 ≤ s ∧ s ≤ 9223372036854775807) (bx : -9223372036854775808 ≤ x ∧ x ≤ 9223372036854775807) (by_ : -9223372036854775808 ≤ y ∧ y ≤ 9223372036854775807) (bz : -9223372036854775808 ≤ z ∧ z ≤ 9223372036854775807) (bv : -9223372036854775808 ≤ v ∧ v ≤ 9223372036854775807) :
    Calls Try.prog 7 #[topoV k W H t s, pt x y, pt z v] w (Ret (.bool true) w) := by
  have c1 := fun w => Same_calls k W H t s x y z v w bt.1
  have c2 := fun w => rSame_calls k W H t s x y z v w bt.1
  have c3 := fun w => Same_calls k W H t s z v x y w bt.1
  have c4 := fun w => rSame_calls k W H t s z v x y w bt.1
  obtain ⟨A, hA⟩ : ∃ A, sameB k W H t s x y z v = A := ⟨_, rfl⟩
  obtain ⟨E, hE⟩ : ∃ E, sameE k W H t s x y z v = E := ⟨_, rfl⟩
  obtain ⟨B, hB⟩ : ∃ B, sameB k W H t s z v x y = B := ⟨_, rfl⟩
  obtain ⟨F, hF⟩ : ∃ F, sameE k W H t s z v x y = F := ⟨_, rfl⟩
  rw [hA, hE] at c1 c2
  rw [hB, hF] at c3 c4
  have C1 := Lib.hid c1; have C2 := Lib.hid c2; have C3 := Lib.hid c3; have C4 := Lib.hid c4
  clear c1 c2 c3 c4 hA hE hB hF bk bW bH bt bs bx by_ bz bv
  have K1 : (((w.alloc (.cells #[.int .u8 k, .int .i64 W, .int .i64 H, .int .u8 t, .int .i64 s] 23)).alloc (.cells #[.int .i64 x, .int .i64 y] 25)).alloc (.cells #[.int .i64 z, .int .i64 v] 25)).heap[w.heap.size]? = some (.cells #[.int .u8 k, .int .i64 W, .int .i64 H, .int .u8 t, .int .i64 s] 23 (0, 0)) := (bk_alloc (bk_alloc (bk_new _ _) _) _)
  have K2 : (((w.alloc (.cells #[.int .u8 k, .int .i64 W, .int .i64 H, .int .u8 t, .int .i64 s] 23)).alloc (.cells #[.int .i64 x, .int .i64 y] 25)).alloc (.cells #[.int .i64 z, .int .i64 v] 25)).heap[w.heap.size + 1]? = some (.cells #[.int .i64 x, .int .i64 y] 25 (0, 0)) := (bk_alloc (by have := bk_new (w.alloc (.cells #[.int .u8 k, .int .i64 W, .int .i64 H, .int .u8 t, .int .i64 s] 23)) (.cells #[.int .i64 x, .int .i64 y] 25); simpa only [World.size_alloc] using this) _)
  have K3 : (((w.alloc (.cells #[.int .u8 k, .int .i64 W, .int .i64 H, .int .u8 t, .int .i64 s] 23)).alloc (.cells #[.int .i64 x, .int .i64 y] 25)).alloc (.cells #[.int .i64 z, .int .i64 v] 25)).heap[w.heap.size + 1 + 1]? = some (.cells #[.int .i64 z, .int .i64 v] 25 (0, 0)) := (by have := bk_new ((w.alloc (.cells #[.int .u8 k, .int .i64 W, .int .i64 H, .int .u8 t, .int .i64 s] 23)).alloc (.cells #[.int .i64 x, .int .i64 y] 25)) (.cells #[.int .i64 z, .int .i64 v] 25); simpa only [World.size_alloc] using this)
  have hBw : Below w.heap.size w (((w.alloc (.cells #[.int .u8 k, .int .i64 W, .int .i64 H, .int .u8 t, .int .i64 s] 23)).alloc (.cells #[.int .i64 x, .int .i64 y] 25)).alloc (.cells #[.int .i64 z, .int .i64 v] 25)) := ((boxed _ _).alloc (by simp) _).alloc (by simp; try omega) _
  go_enter Try.func7, Try.ntmps7
  go_wp2_with (first | fail)
  generalize hW0 : (((w.alloc (.cells #[.int .u8 k, .int .i64 W, .int .i64 H, .int .u8 t, .int .i64 s] 23)).alloc (.cells #[.int .i64 x, .int .i64 y] 25)).alloc (.cells #[.int .i64 z, .int .i64 v] 25)) = W0 at *
  clear hW0
  have hB := same W0
  have K10 := K1
  have K20 := K2
  have K30 := K3
  refine (awake_calls _).mono ?_
  rintro e w1 ⟨rfl, hb1⟩
  replace hB := next hB hb1; replace K1 := bk_below K1 hb1; have hcK1 := bk_cell K1; have hfK1 := bk_free K1; have hlK1 := bk_lt K1; replace K2 := bk_below K2 hb1; have hcK2 := bk_cell K2; have hfK2 := bk_free K2; have hlK2 := bk_lt K2; replace K3 := bk_below K3 hb1; have hcK3 := bk_cell K3; have hfK3 := bk_free K3; have hlK3 := bk_lt K3
  go_wp2_with (first | fail)
  refine (C1.out _).mono ?_
  rintro e w2 ⟨rfl, hb1⟩
  replace hB := next hB hb1; replace K1 := bk_below K1 hb1; have hcK1 := bk_cell K1; have hfK1 := bk_free K1; have hlK1 := bk_lt K1; replace K2 := bk_below K2 hb1; have hcK2 := bk_cell K2; have hfK2 := bk_free K2; have hlK2 := bk_lt K2; replace K3 := bk_below K3 hb1; have hcK3 := bk_cell K3; have hfK3 := bk_free K3; have hlK3 := bk_lt K3
  go_wp2_with (first | fail)
  refine (C2.out _).mono ?_
  rintro e w3 ⟨rfl, hb1⟩
  replace hB := next hB hb1; replace K1 := bk_below K1 hb1; have hcK1 := bk_cell K1; have hfK1 := bk_free K1; have hlK1 := bk_lt K1; replace K2 := bk_below K2 hb1; have hcK2 := bk_cell K2; have hfK2 := bk_free K2; have hlK2 := bk_lt K2; replace K3 := bk_below K3 hb1; have hcK3 := bk_cell K3; have hfK3 := bk_free K3; have hlK3 := bk_lt K3
  go_wp2_with (first | fail)
  refine (C3.out _).mono ?_
  rintro e w4 ⟨rfl, hb1⟩
  replace hB := next hB hb1; replace K1 := bk_below K1 hb1; have hcK1 := bk_cell K1; have hfK1 := bk_free K1; have hlK1 := bk_lt K1; replace K2 := bk_below K2 hb1; have hcK2 := bk_cell K2; have hfK2 := bk_free K2; have hlK2 := bk_lt K2; replace K3 := bk_below K3 hb1; have hcK3 := bk_cell K3; have hfK3 := bk_free K3; have hlK3 := bk_lt K3
  go_wp2_with (first | fail)
  refine (C4.out _).mono ?_
  rintro e w5 ⟨rfl, hb1⟩
  replace hB := next hB hb1; replace K1 := bk_below K1 hb1; have hcK1 := bk_cell K1; have hfK1 := bk_free K1; have hlK1 := bk_lt K1; replace K2 := bk_below K2 hb1; have hcK2 := bk_cell K2; have hfK2 := bk_free K2; have hlK2 := bk_lt K2; replace K3 := bk_below K3 hb1; have hcK3 := bk_cell K3; have hfK3 := bk_free K3; have hlK3 := bk_lt K3
  go_wp2
  go_ret
  exact Ret.of (by simp) (by repeat (with_reducible (first | exact hBw.trans (hB.mono hBw.size) | refine Below.setCell ?_ (by have h1_ := hBw.size; have h2_ := hB.size; (try simp) <;> omega) _ | refine Below.drew ?_ | refine Below.alloc ?_ (by have h1_ := hBw.size; have h2_ := hB.size; (try simp) <;> omega) _)))

end Go.Proofs.Ytfdehecekghlmaa
