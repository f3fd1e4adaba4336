/- The walks of the small functions of whole numbers: quotients and remainders, tiles. The walks of the ways in which a kind of topology folds the plane. The walks of fold's calls: a topology's check, its home, a place's cell. The walks of fold's calls, on: home, places, the grid of a topology. -/
import Derived.Test.YtfdehecekghlmaaB0
import Derived.Deep.RegionHeld3

set_option linter.unusedVariables false
set_option linter.unusedSimpArgs false
namespace Go.Proofs.Ytfdehecekghlmaa
open Go.RowKit Go.Viv

theorem tmod_bounds (a n : Int) (hn : 0 < n) : -n < a.tmod n ∧ a.tmod n < n := by
  have h1 := Int.emod_nonneg a (by omega : n ≠ 0)
  have h2 := Int.emod_lt_of_pos a hn
  rcases tmod_cases a n hn with ⟨h, _⟩ | ⟨h, _⟩ | ⟨h, _⟩ <;> omega

set_option maxHeartbeats 400000 in
theorem Mod_calls (a n : Int) (w : World) (hn : 0 < n) (hn2 : n ≤ 4611686018427387904) (h1 : -4611686018427387904 ≤ a) (h2 : a ≤ 4611686018427387904) :
    Calls Try.prog 74 #[.int .i64 a, .int .i64 n] w (Ret (.tuple #[.int .i64 (a % n), .bool true]) w) := by
  have hb := tmod_bounds a n hn
  obtain ⟨hb1, hb2⟩ := hb
  have hn1 : ¬ n < 1 := by omega
  by_cases hc : a.tmod n < 0
  · have e := Lib.hid (mod_neg a n hn hc)
    go_enter Try.func74, Try.ntmps74
    go_wp2
    go_ret2
    exact Ret.of (by rw [e.out] <;> rfl) (Below.refl _ _)
  · have e := Lib.hid (mod_pos a n hn hc)
    go_enter Try.func74, Try.ntmps74
    go_wp2
    go_ret2
    exact Ret.of (by rw [e.out] <;> rfl) (Below.refl _ _)

theorem tdiv_bounds (a n : Int) (hn : 0 < n) (h1 : -4611686018427387904 ≤ a) (h2 : a ≤ 4611686018427387904) : -4611686018427387905 ≤ a.tdiv n ∧ a.tdiv n ≤ 4611686018427387905 := by
  have hb := ediv_bound a n 4611686018427387904 (by omega) (by omega) h1 h2
  by_cases hc : a.tmod n < 0
  · have := div_neg a n hn hc; omega
  · have := div_pos a n hn hc; omega

set_option maxHeartbeats 400000 in
theorem Div_calls (a n : Int) (w : World) (hn : 0 < n) (hn2 : n ≤ 4611686018427387904) (h1 : -4611686018427387904 ≤ a) (h2 : a ≤ 4611686018427387904) :
    Calls Try.prog 73 #[.int .i64 a, .int .i64 n] w (Ret (.tuple #[.int .i64 (a / n), .bool true]) w) := by
  obtain ⟨hb1, hb2⟩ := tmod_bounds a n hn
  obtain ⟨hd1, hd2⟩ := tdiv_bounds a n hn h1 h2
  have hn1 : ¬ n < 1 := by omega
  by_cases hc : a.tmod n < 0
  · have e := Lib.hid (div_neg a n hn hc)
    go_enter Try.func73, Try.ntmps73
    go_wp2
    go_ret2
    exact Ret.of (by rw [e.out] <;> rfl) (Below.refl _ _)
  · have e := Lib.hid (div_pos a n hn hc)
    go_enter Try.func73, Try.ntmps73
    go_wp2
    go_ret2
    exact Ret.of (by rw [e.out] <;> rfl) (Below.refl _ _)

set_option maxHeartbeats 400000 in
theorem cut_calls (u W : Int) (w : World) (h0 : 0 ≤ W) (h3 : W ≤ 65536) (h1 : -4611686018427387904 ≤ u) (h2 : u ≤ 4611686018427387904) :
    Calls Try.prog 43 #[.int .i64 u, .int .i64 W] w (Ret (.tuple #[.int .i64 (u / W), .int .i64 (u % W)]) w) := by
  by_cases hc : W = 0
  · subst hc
    go_enter Try.func43, Try.ntmps43
    go_wp2
    go_ret2
    exact Ret.of (by simp) (Below.refl _ _)
  · have hc' : (W == 0) = false := by simpa using hc
    have h4 : 0 < W := by omega
    clear hc
    go_enter Try.func43, Try.ntmps43
    go_wp2_with (first | (go_at_call 73; ((with_reducible refine (Div_calls u W _ h4 (by omega) h1 h2).mono ?_); rintro e w1 ⟨rfl, hb1⟩)) | (go_at_call 74; ((with_reducible refine (Mod_calls u W _ h4 (by omega) h1 h2).mono ?_); rintro e w2 ⟨rfl, hb2⟩)))
    go_ret2
    exact Ret.one (next hb1 hb2)

set_option maxHeartbeats 400000 in
theorem round_calls (u W : Int) (w : World) (h0 : 0 < W) (h3 : W ≤ 65536) (h1 : -4611686018427387904 ≤ u) (h2 : u ≤ 4611686018427387904) :
    Calls Try.prog 87 #[.int .i64 u, .int .i64 W] w (Ret (.int .i64 (u % W)) w) := by
  go_enter Try.func87, Try.ntmps87
  go_wp2_with (go_at_call 74; ((with_reducible refine (Mod_calls u W _ h0 (by omega) h1 h2).mono ?_); rintro e w2 ⟨rfl, hb2⟩))
  go_ret
  exact Ret.one hb2


abbrev grid (k W H t s l p : Int) : Value := .agg #[.int .u8 k, .int .i64 W, .int .i64 H, .int .u8 t, .int .i64 s, .int .i64 l, .int .i64 p]

set_option maxHeartbeats 1000000 in
theorem torus_calls (W H t s l p u v : Int) (w : World) (h : TopoOk 2 W H t s) (u1 : -2199023255552 ≤ u) (u2 : u ≤ 2199023255552) (v1 : -2199023255552 ≤ v) (v2 : v ≤ 2199023255552) :
    Calls Try.prog 79 #[grid 2 W H t s l p, .int .i64 u, .int .i64 v] w (Ret (.tuple #[.int .i64 (cellU 2 W H t s u v), .int .i64 (cellV 2 W H t s u v), .bool true]) w) := by
  have w0 := h.w0; have w3 := h.w1; have h0 := h.h0; have h3 := h.h1; have t0 := h.t0; have t2 := h.t2
  have hj := ediv_bound v H 2199023255552 h0 (by omega) v1 v2
  have hi := ediv_bound u W 2199023255552 w0 (by omega) u1 u2
  have hB := same (w.alloc (.cells #[.int .u8 2, .int .i64 W, .int .i64 H, .int .u8 t, .int .i64 s, .int .i64 l, .int .i64 p] 64))
  have ht : t = 0 ∨ t = 1 ∨ t = 2 := by omega
  rcases ht with rfl | rfl | rfl
  · have e := Lib.hid (show cellU 2 W H 0 s u v = u % W ∧ cellV 2 W H 0 s u v = v % H by simp [cellU, cellV])
    go_enter Try.func79, Try.ntmps79
    go_wp2_with (first | (go_at_call 43; ((with_reducible refine (cut_calls _ _ _ (by omega) (by omega) (by omega) (by omega)).mono ?_); rintro e w1 ⟨rfl, hb1⟩; replace hB := next hB hb1; obtain ⟨hc, hf⟩ := bcell hB)))
    go_ret3
    exact Ret.of (by rw [e.out.1, e.out.2] <;> rfl) (box hB)
  · have e := Lib.hid (show cellU 2 W H 1 s u v = (u - v / H * s) % W ∧ cellV 2 W H 1 s u v = v % H by simp [cellU, cellV])
    have hs := h.shift1 rfl
    have hm := mul_bound (v / H) s 2199023255552 65536 hj.1 hj.2 (by omega) (by omega)
    have hw := (h.torus rfl (by omega)).2
    go_enter Try.func79, Try.ntmps79
    go_wp2_with (first | (go_at_call 43; ((with_reducible refine (cut_calls _ _ _ (by omega) (by omega) (by omega) (by omega)).mono ?_); rintro e w1 ⟨rfl, hb1⟩; replace hB := next hB hb1; obtain ⟨hc, hf⟩ := bcell hB)) | (go_at_call 87; ((with_reducible refine (round_calls _ _ _ (by omega) (by omega) (by omega) (by omega)).mono ?_); rintro e w1 ⟨rfl, hb1⟩; replace hB := next hB hb1; obtain ⟨hc, hf⟩ := bcell hB)))
    go_ret3
    exact Ret.of (by rw [e.out.1, e.out.2] <;> rfl) (box hB)
  · have e := Lib.hid (show cellU 2 W H 2 s u v = u % W ∧ cellV 2 W H 2 s u v = (v - u / W * s) % H by simp [cellU, cellV])
    have hs := h.shift2 rfl
    have hm := mul_bound (u / W) s 2199023255552 65536 hi.1 hi.2 (by omega) (by omega)
    have hw := (h.torus rfl (by omega)).2
    go_enter Try.func79, Try.ntmps79
    go_wp2_with (first | (go_at_call 43; ((with_reducible refine (cut_calls _ _ _ (by omega) (by omega) (by omega) (by omega)).mono ?_); rintro e w1 ⟨rfl, hb1⟩; replace hB := next hB hb1; obtain ⟨hc, hf⟩ := bcell hB)) | (go_at_call 87; ((with_reducible refine (round_calls _ _ _ (by omega) (by omega) (by omega) (by omega)).mono ?_); rintro e w1 ⟨rfl, hb1⟩; replace hB := next hB hb1; obtain ⟨hc, hf⟩ := bcell hB)))
    go_ret3
    exact Ret.of (by rw [e.out.1, e.out.2] <;> rfl) (box hB)

end Go.Proofs.Ytfdehecekghlmaa


set_option linter.unusedVariables false
set_option linter.unusedSimpArgs false
namespace Go.Proofs.Ytfdehecekghlmaa
open Go.RowKit Go.Viv

theorem and1 (n : Int) : bits .and .i64 n 1 = n % 2 := by
  have h1 : (BitVec.ofInt 64 1).toNat = 2 ^ 1 - 1 := by decide
  have key : (BitVec.ofInt 64 n &&& BitVec.ofInt 64 1).toNat = (n % ((2 ^ 64 : Nat) : Int)).toNat % 2 ^ 1 := by
    rw [BitVec.toNat_and, BitVec.toNat_ofInt, h1, Nat.and_two_pow_sub_one_eq_mod]
  show IntKind.i64.wrap ((BitVec.ofInt 64 n &&& BitVec.ofInt 64 1).toNat : Nat) = n % 2
  rw [key, IntKind.wrap_i64]
  omega

set_option maxHeartbeats 1000000 in
theorem klein_calls (W H t s l p u v : Int) (w : World) (h : TopoOk 3 W H t s) (u1 : -2199023255552 ≤ u) (u2 : u ≤ 2199023255552) (v1 : -2199023255552 ≤ v) (v2 : v ≤ 2199023255552) :
    Calls Try.prog 80 #[grid 3 W H t s l p, .int .i64 u, .int .i64 v] w (Ret (.tuple #[.int .i64 (cellU 3 W H t s u v), .int .i64 (cellV 3 W H t s u v), .bool true]) w) := by
  have w0 := h.w0; have w3 := h.w1; have h0 := h.h0; have h3 := h.h1; have t0 := h.t0; have t2 := h.t2
  have hj := ediv_bound v H 2199023255552 h0 (by omega) v1 v2
  have hi := ediv_bound u W 2199023255552 w0 (by omega) u1 u2
  have hB := same (w.alloc (.cells #[.int .u8 3, .int .i64 W, .int .i64 H, .int .u8 t, .int .i64 s, .int .i64 l, .int .i64 p] 64))
  have hw := h.ends (by omega)
  have hs := h.sh
  go_enter Try.func80, Try.ntmps80
  go_wp2_with (first | (go_at_call 43; ((with_reducible refine (cut_calls _ _ _ (by omega) (by omega) (by omega) (by omega)).mono ?_); rintro e w1 ⟨rfl, hb1⟩; replace hB := next hB hb1; obtain ⟨hc, hf⟩ := bcell hB)) | (go_at_call 87; ((with_reducible refine (round_calls _ _ _ (by omega) (by omega) (by omega) (by omega)).mono ?_); rintro e w1 ⟨rfl, hb1⟩; replace hB := next hB hb1; obtain ⟨hc, hf⟩ := bcell hB)))
  all_goals
    go_ret3
    refine Ret.of ?_ (box hB)
    simp only [and1, beq_iff_eq, beq_eq_false_iff_ne, ne_eq] at *
    simp [cellU, cellV, *]

set_option maxHeartbeats 1000000 in
theorem cross_calls (W H t s l p u v : Int) (w : World) (h : TopoOk 4 W H t s) (u1 : -2199023255552 ≤ u) (u2 : u ≤ 2199023255552) (v1 : -2199023255552 ≤ v) (v2 : v ≤ 2199023255552) :
    Calls Try.prog 81 #[grid 4 W H t s l p, .int .i64 u, .int .i64 v] w (Ret (.tuple #[.int .i64 (cellU 4 W H t s u v), .int .i64 (cellV 4 W H t s u v), .bool true]) w) := by
  have w0 := h.w0; have w3 := h.w1; have h0 := h.h0; have h3 := h.h1
  have hB := same (w.alloc (.cells #[.int .u8 4, .int .i64 W, .int .i64 H, .int .u8 t, .int .i64 s, .int .i64 l, .int .i64 p] 64))
  have hw := h.ends (by omega)
  have hm1 := Int.emod_nonneg u (by omega : W ≠ 0)
  have hm2 := Int.emod_lt_of_pos u (by omega : 0 < W)
  have hm3 := Int.emod_nonneg v (by omega : H ≠ 0)
  have hm4 := Int.emod_lt_of_pos v (by omega : 0 < H)
  go_enter Try.func81, Try.ntmps81
  go_wp2_with (first | (go_at_call 43; ((with_reducible refine (cut_calls _ _ _ (by omega) (by omega) (by omega) (by omega)).mono ?_); rintro e w1 ⟨rfl, hb1⟩; replace hB := next hB hb1; obtain ⟨hc, hf⟩ := bcell hB)))
  all_goals
    go_ret3
    refine Ret.of ?_ (box hB)
    simp only [and1, beq_iff_eq, beq_eq_false_iff_ne, ne_eq] at *
    simp [cellU, cellV, *]

set_option maxHeartbeats 1000000 in
theorem on_calls (u W : Int) (w : World) : Calls Try.prog 69 #[.int .i64 u, .int .i64 W] w (Ret (.bool (onI u W)) w) := by
  go_enter Try.func69, Try.ntmps69
  go_wp2
  all_goals
    go_ret
    refine Ret.of (congrArg Value.bool ?_) (same w)
    unfold onI
    rw [Bool.eq_iff_iff]
    simp
    try omega

set_option maxHeartbeats 1000000 in
theorem flat_calls (k W H t s l p u v : Int) (w : World) :
    Calls Try.prog 78 #[grid k W H t s l p, .int .i64 u, .int .i64 v] w (Ret (.tuple #[.int .i64 u, .int .i64 v, .bool (onI u W && onI v H)]) w) := by
  have hB := same (w.alloc (.cells #[.int .u8 k, .int .i64 W, .int .i64 H, .int .u8 t, .int .i64 s, .int .i64 l, .int .i64 p] 64))
  go_enter Try.func78, Try.ntmps78
  go_wp2_with (first | (go_at_call 69; ((with_reducible refine (on_calls _ _ _).mono ?_); rintro e w1 ⟨rfl, hb1⟩; replace hB := next hB hb1; obtain ⟨hc, hf⟩ := bcell hB)))
  all_goals
    go_ret3
    refine Ret.of ?_ (box hB)
    simp [*]

theorem tri {a a' b b' : Int} {c : Bool} (h1 : a = a') (h2 : b = b') : Value.tuple #[.int .i64 a, .int .i64 b, .bool c] = Value.tuple #[.int .i64 a', .int .i64 b', .bool c] := by rw [h1, h2]

/-- what a home number of a sphere or of its ring is -/
def ballU (n u v : Int) : Int :=
  if onI u n && onI v n then u
  else if (u = -1 ∨ v = -1) ∧ (u = n ∨ v = n) ∧ v < u then 0
  else if (u = -1 ∨ v = -1) ∧ (u = n ∨ v = n) then n - 1
  else if u = -1 ∨ v = -1 then max v 0 else min v (n - 1)
def ballV (n u v : Int) : Int :=
  if onI u n && onI v n then v
  else if (u = -1 ∨ v = -1) ∧ (u = n ∨ v = n) ∧ v < u then n - 1
  else if (u = -1 ∨ v = -1) ∧ (u = n ∨ v = n) then 0
  else if u = -1 ∨ v = -1 then max u 0 else min u (n - 1)


set_option maxHeartbeats 2000000 in
theorem sphere_calls (W H t s l p u v : Int) (w : World) (h1 : 1 ≤ W) (h2 : W ≤ 65536) (u1 : -1 ≤ u) (u2 : u ≤ W) (v1 : -1 ≤ v) (v2 : v ≤ W) :
    Calls Try.prog 82 #[grid 5 W H t s l p, .int .i64 u, .int .i64 v] w (Ret (.tuple #[.int .i64 (ballU W u v), .int .i64 (ballV W u v), .bool true]) w) := by
  have hB := same (w.alloc (.cells #[.int .u8 5, .int .i64 W, .int .i64 H, .int .u8 t, .int .i64 s, .int .i64 l, .int .i64 p] 64))
  obtain ⟨X, hX⟩ : ∃ X, ballU W u v = X := ⟨_, rfl⟩
  obtain ⟨Y, hY⟩ : ∃ Y, ballV W u v = Y := ⟨_, rfl⟩
  rw [hX, hY]
  have HX := Lib.hid hX; have HY := Lib.hid hY; clear hX hY
  go_enter Try.func82, Try.ntmps82
  go_wp2_with (first | (go_at_call 69; ((with_reducible refine (on_calls _ _ _).mono ?_); rintro e w1 ⟨rfl, hb1⟩; replace hB := next hB hb1; obtain ⟨hc, hf⟩ := bcell hB)))
  all_goals
    go_ret3
    refine Ret.of (tri ?_ ?_) (box hB)
    all_goals
      first | rw [← HX.out] | rw [← HY.out]
      clear HX HY hc hf hB
      simp only [onI, decide_eq_true_eq, decide_eq_false_iff_not, beq_iff_eq, beq_eq_false_iff_ne, ne_eq] at *
      simp only [ballU, ballV, onI, Bool.and_eq_true, decide_eq_true_eq]
      (repeat' split) <;> omega

set_option maxHeartbeats 1000000 in
theorem home_calls (k W H t s l p x y : Int) (w : World) (l1 : -65536 ≤ l) (l2 : l ≤ 65536) (p1 : -65536 ≤ p) (p2 : p ≤ 65536) (x1 : -1099511627776 ≤ x) (x2 : x ≤ 1099511627776) (y1 : -1099511627776 ≤ y) (y2 : y ≤ 1099511627776) :
    Calls Try.prog 42 #[grid k W H t s l p, .agg #[.int .i64 x, .int .i64 y]] w (Ret (.tuple #[.int .i64 (if 0 < W then x - l else x), .int .i64 (if 0 < H then y - p else y)]) w) := by
  by_cases c1 : 0 < W <;> by_cases c2 : 0 < H
  all_goals
    first | rw [if_pos c1] | rw [if_neg c1]
    first | rw [if_pos c2] | rw [if_neg c2]
    go_enter Try.func42, Try.ntmps42
    go_wp2
    all_goals try (go_region; all_goals go_wp2)
    all_goals
      go_ret2
      exact Ret.of rfl (by repeat (first | exact Below.refl _ _ | refine Below.drew ?_ | refine Below.setCell ?_ (by simp) _ | refine Below.alloc ?_ (by simp) _))

set_option maxHeartbeats 1000000 in
theorem place_calls (k W H t s l p x y : Int) (w : World) (l1 : -65536 ≤ l) (l2 : l ≤ 65536) (p1 : -65536 ≤ p) (p2 : p ≤ 65536) (x1 : -2199023255552 ≤ x) (x2 : x ≤ 2199023255552) (y1 : -2199023255552 ≤ y) (y2 : y ≤ 2199023255552) :
    Calls Try.prog 50 #[grid k W H t s l p, .int .i64 x, .int .i64 y] w (Ret (.agg #[.int .i64 (if 0 < W then x + l else x), .int .i64 (if 0 < H then y + p else y)]) w) := by
  by_cases c1 : 0 < W <;> by_cases c2 : 0 < H
  all_goals
    first | rw [if_pos c1] | rw [if_neg c1]
    first | rw [if_pos c2] | rw [if_neg c2]
    go_enter Try.func50, Try.ntmps50
    go_wp2
    refine bodyPost_ret (v := .agg #[.int .i64 _, .int .i64 _]) (by simp [results, Try.results50, go_sem]; exact ⟨rfl, rfl⟩) rfl ?_
    all_goals exact Ret.of rfl (by repeat (first | exact Below.refl _ _ | refine Below.drew ?_ | refine Below.setCell ?_ (by simp) _ | refine Below.alloc ?_ (by simp) _))

end Go.Proofs.Ytfdehecekghlmaa


set_option linter.unusedVariables false
set_option linter.unusedSimpArgs false
namespace Go.Proofs.Ytfdehecekghlmaa
open Go.RowKit Go.Viv

abbrev topoV (k W H t s : Int) : Value := .agg #[.int .u8 k, .int .i64 W, .int .i64 H, .int .u8 t, .int .i64 s]
abbrev pt (x y : Int) : Value := .agg #[.int .i64 x, .int .i64 y]

theorem int64 {a b : Int} (h : a = b) : Value.int .i64 a = Value.int .i64 b := by rw [h]

theorem topoV_cells (w : World) (o : Obj) : Below w.heap.size w (w.alloc o) := boxed w o

set_option maxHeartbeats 4000000 in
theorem Check_out (k W H t s : Int) (w : World) (h : k < 1 ∨ 5 < k) :
    Calls Try.prog 21 #[topoV k W H t s] w (Ret (.int .i64 40) w) := by
  rcases h with h | h
  · go_enter Try.func21, Try.ntmps21
    go_wp2
    go_ret
    exact Ret.of rfl (boxed _ _)
  · have h' : ¬ k < 1 := by omega
    go_enter Try.func21, Try.ntmps21
    go_wp2
    go_ret
    exact Ret.of rfl (boxed _ _)

set_option maxHeartbeats 4000000 in
theorem Check_1 (W H t s : Int) (w : World) (t0 : 0 ≤ t) :
    Calls Try.prog 21 #[topoV 1 W H t s] w (Ret (.int .i64 (checkE 1 W H t s)) w) := by
  obtain ⟨X, hX⟩ : ∃ X, checkE 1 W H t s = X := ⟨_, rfl⟩
  rw [hX]
  have HX := Lib.hid hX; clear hX
  go_enter Try.func21, Try.ntmps21
  go_wp2
  all_goals
    go_ret
    refine Ret.of (int64 ?_) (by repeat (first | exact Below.refl _ _ | exact boxed _ _ | refine Below.drew ?_ | refine Below.setCell ?_ (by simp) _ | refine Below.alloc ?_ (by simp) _))
    rw [← HX.out]
    clear HX
    try simp only [beq_iff_eq, beq_eq_false_iff_ne, ne_eq, bne_iff_ne, bne_eq_false_iff_eq, Bool.and_eq_true, Bool.or_eq_true, Bool.not_eq_true', Bool.not_eq_false', decide_eq_true_eq, decide_eq_false_iff_not, Bool.and_eq_false_iff, Bool.or_eq_false_iff] at *
    unfold checkE
    repeat (first | rw [if_neg (by omega)] | rw [if_pos (by omega)])
    all_goals try omega

set_option maxHeartbeats 4000000 in
theorem Check_2 (W H t s : Int) (w : World) (t0 : 0 ≤ t) :
    Calls Try.prog 21 #[topoV 2 W H t s] w (Ret (.int .i64 (checkE 2 W H t s)) w) := by
  obtain ⟨X, hX⟩ : ∃ X, checkE 2 W H t s = X := ⟨_, rfl⟩
  rw [hX]
  have HX := Lib.hid hX; clear hX
  go_enter Try.func21, Try.ntmps21
  go_wp2
  all_goals
    go_ret
    refine Ret.of (int64 ?_) (by repeat (first | exact Below.refl _ _ | exact boxed _ _ | refine Below.drew ?_ | refine Below.setCell ?_ (by simp) _ | refine Below.alloc ?_ (by simp) _))
    rw [← HX.out]
    clear HX
    try simp only [beq_iff_eq, beq_eq_false_iff_ne, ne_eq, bne_iff_ne, bne_eq_false_iff_eq, Bool.and_eq_true, Bool.or_eq_true, Bool.not_eq_true', Bool.not_eq_false', decide_eq_true_eq, decide_eq_false_iff_not, Bool.and_eq_false_iff, Bool.or_eq_false_iff] at *
    unfold checkE
    repeat (first | rw [if_neg (by omega)] | rw [if_pos (by omega)])
    all_goals try omega

set_option maxHeartbeats 4000000 in
theorem Check_3 (W H t s : Int) (w : World) (t0 : 0 ≤ t) :
    Calls Try.prog 21 #[topoV 3 W H t s] w (Ret (.int .i64 (checkE 3 W H t s)) w) := by
  obtain ⟨X, hX⟩ : ∃ X, checkE 3 W H t s = X := ⟨_, rfl⟩
  rw [hX]
  have HX := Lib.hid hX; clear hX
  go_enter Try.func21, Try.ntmps21
  go_wp2
  all_goals
    go_ret
    refine Ret.of (int64 ?_) (by repeat (first | exact Below.refl _ _ | exact boxed _ _ | refine Below.drew ?_ | refine Below.setCell ?_ (by simp) _ | refine Below.alloc ?_ (by simp) _))
    rw [← HX.out]
    clear HX
    try simp only [beq_iff_eq, beq_eq_false_iff_ne, ne_eq, bne_iff_ne, bne_eq_false_iff_eq, Bool.and_eq_true, Bool.or_eq_true, Bool.not_eq_true', Bool.not_eq_false', decide_eq_true_eq, decide_eq_false_iff_not, Bool.and_eq_false_iff, Bool.or_eq_false_iff] at *
    unfold checkE
    repeat (first | rw [if_neg (by omega)] | rw [if_pos (by omega)])
    all_goals try omega

set_option maxHeartbeats 4000000 in
theorem Check_4 (W H t s : Int) (w : World) (t0 : 0 ≤ t) :
    Calls Try.prog 21 #[topoV 4 W H t s] w (Ret (.int .i64 (checkE 4 W H t s)) w) := by
  obtain ⟨X, hX⟩ : ∃ X, checkE 4 W H t s = X := ⟨_, rfl⟩
  rw [hX]
  have HX := Lib.hid hX; clear hX
  go_enter Try.func21, Try.ntmps21
  go_wp2
  all_goals
    go_ret
    refine Ret.of (int64 ?_) (by repeat (first | exact Below.refl _ _ | exact boxed _ _ | refine Below.drew ?_ | refine Below.setCell ?_ (by simp) _ | refine Below.alloc ?_ (by simp) _))
    rw [← HX.out]
    clear HX
    try simp only [beq_iff_eq, beq_eq_false_iff_ne, ne_eq, bne_iff_ne, bne_eq_false_iff_eq, Bool.and_eq_true, Bool.or_eq_true, Bool.not_eq_true', Bool.not_eq_false', decide_eq_true_eq, decide_eq_false_iff_not, Bool.and_eq_false_iff, Bool.or_eq_false_iff] at *
    unfold checkE
    repeat (first | rw [if_neg (by omega)] | rw [if_pos (by omega)])
    all_goals try omega

set_option maxHeartbeats 4000000 in
theorem Check_5 (W H t s : Int) (w : World) (t0 : 0 ≤ t) :
    Calls Try.prog 21 #[topoV 5 W H t s] w (Ret (.int .i64 (checkE 5 W H t s)) w) := by
  obtain ⟨X, hX⟩ : ∃ X, checkE 5 W H t s = X := ⟨_, rfl⟩
  rw [hX]
  have HX := Lib.hid hX; clear hX
  go_enter Try.func21, Try.ntmps21
  go_wp2
  all_goals
    go_ret
    refine Ret.of (int64 ?_) (by repeat (first | exact Below.refl _ _ | exact boxed _ _ | refine Below.drew ?_ | refine Below.setCell ?_ (by simp) _ | refine Below.alloc ?_ (by simp) _))
    rw [← HX.out]
    clear HX
    try simp only [beq_iff_eq, beq_eq_false_iff_ne, ne_eq, bne_iff_ne, bne_eq_false_iff_eq, Bool.and_eq_true, Bool.or_eq_true, Bool.not_eq_true', Bool.not_eq_false', decide_eq_true_eq, decide_eq_false_iff_not, Bool.and_eq_false_iff, Bool.or_eq_false_iff] at *
    unfold checkE
    repeat (first | rw [if_neg (by omega)] | rw [if_pos (by omega)])
    all_goals try omega

theorem Check_calls (k W H t s : Int) (w : World) (t0 : 0 ≤ t) :
    Calls Try.prog 21 #[topoV k W H t s] w (Ret (.int .i64 (checkE k W H t s)) w) := by
  by_cases h : k < 1 ∨ 5 < k
  · rw [show checkE k W H t s = 40 by unfold checkE; rw [if_pos h]]
    exact Check_out k W H t s w h
  · have : k = 1 ∨ k = 2 ∨ k = 3 ∨ k = 4 ∨ k = 5 := by omega
    rcases this with rfl | rfl | rfl | rfl | rfl
    · exact Check_1 W H t s w t0
    · exact Check_2 W H t s w t0
    · exact Check_3 W H t s w t0
    · exact Check_4 W H t s w t0
    · exact Check_5 W H t s w t0
end Go.Proofs.Ytfdehecekghlmaa


set_option linter.unusedVariables false
set_option linter.unusedSimpArgs false
namespace Go.Proofs.Ytfdehecekghlmaa
open Go.RowKit Go.Viv

set_option maxHeartbeats 1000000 in
theorem near_calls (x y : Int) (w : World) : Calls Try.prog 68 #[pt x y] w (Ret (.bool (nearI x && nearI y)) w) := by
  obtain ⟨X, hX⟩ : ∃ X, (nearI x && nearI y) = X := ⟨_, rfl⟩
  rw [hX]
  have HX := Lib.hid hX; clear hX
  go_enter Try.func68, Try.ntmps68
  go_wp2
  all_goals
    go_ret
    refine Ret.of (congrArg Value.bool ?_) (by repeat (first | exact Below.refl _ _ | exact boxed _ _ | refine Below.drew ?_ | refine Below.setCell ?_ (by simp) _ | refine Below.alloc ?_ (by simp) _))
    rw [← HX.out]
    clear HX
    unfold nearI
    rw [Bool.eq_iff_iff]
    simp
    try omega

abbrev rect (a b c d : Int) : Value := .agg #[.int .i64 a, .int .i64 b, .int .i64 c, .int .i64 d]

theorem topoOk {k W H t s : Int} (h0 : 0 ≤ t) (h : checkE k W H t s = 0) : TopoOk k W H t s := topoOk_of h0 h

set_option maxHeartbeats 1000000 in
theorem Home_ok (k W H t s : Int) (w : World) (h0 : 0 ≤ t) (h : checkE k W H t s = 0) :
    Calls Try.prog 22 #[topoV k W H t s] w (Ret (.tuple #[rect (first W) (first H) W H, .int .i64 0]) w) := by
  have ok := topoOk h0 h
  have w0 := ok.w0; have w1 := ok.w1; have h0 := ok.h0; have h1 := ok.h1
  have hh := Lib.hid h; clear h
  go_enter Try.func22, Try.ntmps22
  go_wp2_with (first | (go_at_call 21; ((with_reducible refine (Check_calls _ _ _ _ _ _ ok.t0).mono ?_); rintro e w1 ⟨rfl, hb1⟩; rw [hh.out]; obtain ⟨hc, hf⟩ := bcell hb1)))
  have K1 := bk_below (bk_new _ _) hb1
  simp only [World.size_alloc] at K1
  refine end_ct (w.heap.size + 1) 45 rfl rfl rfl Try.underlying45 rfl ?_
  apply Exists.intro
  refine ⟨(by repeat (with_reducible (first | exact K1 | apply bk_set | refine bk_drew ?_ | refine bk_drewN ?_ _ | refine bk_alloc ?_ _ | refine bk_far ?_ (by simp; try omega) _))), by kernel_rfl, ?_⟩
  exact Ret.of rfl (by repeat (first | exact box (box hb1) | refine Below.setCell ?_ (by simp) _))

end Go.Proofs.Ytfdehecekghlmaa
