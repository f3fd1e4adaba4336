/- FoldBeside: the walk. Printed by wip/mkBesW.py. -/
import Derived.Test.YtfdehecekghlmaaAwake
import Derived.Test.YtfdehecekghlmaaMc
import Derived.Test.YtfdehecekghlmaaBesF
import Derived.BigQuiet
import Derived.Deep.QuietTactic
import Derived.BigRegion
import Derived.Deep.RegionHeld3
set_option linter.unusedVariables false
set_option linter.unusedSimpArgs false
namespace Go.Proofs.Ytfdehecekghlmaa
open Go.RowKit Go.Viv

theorem share {P G : Prop} (h : P → G) (k : P) : G := h k
def bgl (k W H t s : Int) : Bool := decide (checkE k W H t s = 0) && gluedI k
set_option maxHeartbeats 1000000 in
theorem bglued_calls (k W H t s : Int) (w : World) (t0 : 0 ≤ t) : Calls Try.prog 23 #[topoV k W H t s] w (Ret (.bool (bgl k W H t s)) w) := by
  have c1 := fun w => Check_calls k W H t s w t0
  obtain ⟨X, hX⟩ : ∃ X, bgl k W H t s = X := ⟨_, rfl⟩
  rw [hX]
  obtain ⟨E, hE⟩ : ∃ E, checkE k W H t s = E := ⟨_, rfl⟩
  have hX2 : X = (decide (E = 0) && gluedI k) := by rw [← hX, ← hE]; rfl
  rw [hE] at c1
  have C1 := Lib.hid c1; have HX := Lib.hid hX2
  clear c1 hX hE hX2
  have K1 : (w.alloc (.cells #[.int .u8 k, .int .i64 W, .int .i64 H, .int .u8 t, .int .i64 s] 23)).heap[w.heap.size]? = some (.cells #[.int .u8 k, .int .i64 W, .int .i64 H, .int .u8 t, .int .i64 s] 23 (0, 0)) := (bk_new _ _)
  have hBw : Below w.heap.size w (w.alloc (.cells #[.int .u8 k, .int .i64 W, .int .i64 H, .int .u8 t, .int .i64 s] 23)) := boxed _ _
  go_enter Try.func23, Try.ntmps23
  go_wp2_with (first | fail)
  generalize hW0 : (w.alloc (.cells #[.int .u8 k, .int .i64 W, .int .i64 H, .int .u8 t, .int .i64 s] 23)) = W0 at *
  clear hW0
  have hB := same W0
  refine (C1.out _).mono ?_
  rintro e w1 ⟨rfl, hb1⟩
  replace hB := next hB hb1; replace K1 := bk_below K1 hb1; have hcK1 := bk_cell K1; have hfK1 := bk_free K1; have hlK1 := bk_lt K1
  go_wp2
  all_goals
    go_ret
    refine Ret.of (congrArg Value.bool ?_) (by repeat (with_reducible (first | exact hBw.trans (hB.mono hBw.size) | refine Below.setCell ?_ (by have h1_ := hBw.size; have h2_ := hB.size; (try simp) <;> omega) _ | refine Below.drew ?_ | refine Below.alloc ?_ (by have h1_ := hBw.size; have h2_ := hB.size; (try simp) <;> omega) _)))
    rw [HX.out]
    unfold gluedI
    rw [Bool.eq_iff_iff]
    simp
    try omega

set_option maxRecDepth 20000 in
set_option maxHeartbeats 4000000 in
theorem Bes_no (w : World) {k W H t s : Int} (t0 : 0 ≤ t) (hq : checkE k W H t s ≠ 0 ∨ checkE k W H t s = 0 ∧ (W < 1 ∨ ¬ W < 1 ∧ (H < 1 ∨ ¬ H < 1 ∧ (6 < W ∨ ¬ 6 < W ∧ 6 < H)))) :
    Calls Try.prog 6 #[topoV k W H t s] w (Ret (.bool true) w) := by
  have c1 := fun w => Check_calls k W H t s w t0
  generalize checkE k W H t s = E at *
  have C1 := Lib.hid c1
  have K1 := Lib.hid (bk_new w (.cells #[.int .u8 k, .int .i64 W, .int .i64 H, .int .u8 t, .int .i64 s] 23))
  have hBw := Lib.hid (boxed w (.cells #[.int .u8 k, .int .i64 W, .int .i64 H, .int .u8 t, .int .i64 s] 23))
  clear c1
  rcases hq with h | ⟨h, hq⟩
  · have h1 : (E != 0) = true := bne_iff_ne.2 h
    clear h
    go_enter Try.func6, Try.ntmps6
    go_wp2_with (first | (go_at_call 11; ((with_reducible refine (awake_calls _).mono ?_); rintro e w1 ⟨rfl, hb1⟩; have kt1 := bk_cell (bk_below K1.out hb1))) | (go_at_call 21; ((with_reducible refine (C1.out _).mono ?_); rintro e w2 ⟨rfl, hb2⟩; have kt2 := bk_cell (bk_below (bk_below K1.out hb1) hb2))))
    go_ret
    exact Ret.of rfl (next (next hBw.out hb1) hb2)
  · subst h
    rcases hq with h | ⟨h, h2 | ⟨h2, h3 | ⟨h3, h4⟩⟩⟩
    all_goals
      go_enter Try.func6, Try.ntmps6
      go_wp2_with (first | (go_at_call 11; ((with_reducible refine (awake_calls _).mono ?_); rintro e w1 ⟨rfl, hb1⟩; have kt1 := bk_cell (bk_below K1.out hb1))) | (go_at_call 21; ((with_reducible refine (C1.out _).mono ?_); rintro e w2 ⟨rfl, hb2⟩; have kt2 := bk_cell (bk_below (bk_below K1.out hb1) hb2))))
      go_ret
      exact Ret.of rfl (next (next hBw.out hb1) hb2)

theorem bes_makeN {P : Program} {t e : TypeId} {z : Value} {size bytes : Nat} (ht : P.underlying t = some (.slice e)) (hinfo : (P.info? e).map (fun i => (i.zero, i.size, i.bytes)) = some (some z, size, bytes)) (n : Nat) (hb : bytes * n ≤ 281474976710656) (hn : n ≤ 9223372036854775807) (w : World) :
    (Instr.makeSlice t (.int .i64 (n : Int)) (.int .i64 (n : Int))).run P w = .ok (.slice (some ⟨w.heap.size, 0, none⟩) n n) (w.alloc (.cells (madeCells z.cells (n * size)) e)) := by
  obtain ⟨i, hi, hz, hs1, hb1⟩ := info_parts hinfo
  have hb2 : ((bytes * n : Nat) : Int) ≤ 281474976710656 := by omega
  rw [Int.natCast_mul] at hb2
  have := run_make (P := P) w t e i z ht hi hz .i64 .i64 (n : Int) (n : Int) (by omega) (by omega) (by rw [hb1]; exact hb2) (by omega)
  simpa [hs1] using this

theorem bes_made {z : Value} (h : z.cells = #[z]) (n i : Nat) (hi : i < n) : (madeCells z.cells n)[i]? = some z := by
  simp [madeCells, h, hi, Nat.mod_one]
theorem bes_same {a : Array Value} {i : Nat} (h : i < a.size) (v : Value) : (a.setIfInBounds i v)[i]? = some v := by simp [h]
/-- what stands while the neighbours are counted -/
structure BesSt (BT BH BM n : Nat) (k t s fx fy : Int) (W H : Nat) (M : Nat → Nat → Nat) (w wr : World) : Prop where
  t : wr.heap[BT]? = some (.cells #[.int .u8 k, .int .i64 W, .int .i64 H, .int .u8 t, .int .i64 s] 23 (0, 0))
  h : wr.heap[BH]? = some (.cells #[.int .i64 fx, .int .i64 fy, .int .i64 W, .int .i64 H] 45 (0, 0))
  m : ∃ cs, wr.heap[BM]? = some (.cells cs 3 (0, 0)) ∧ n * n ≤ cs.size ∧ ∀ x y, x < n → y < n → cs[n * x + y]? = some (.int .i64 ((M x y : Nat) : Int))
  l : Below w.heap.size w wr
  ge : w.heap.size ≤ BM
  n1 : BT ≠ BM
  n2 : BH ≠ BM
section
variable {BT BH BM n W H : Nat} {k t s fx fy : Int} {M : Nat → Nat → Nat} {w wr w1 : World}
theorem BesSt.below (h : BesSt BT BH BM n k t s fx fy W H M w wr) (hb : Below wr.heap.size wr w1) : BesSt BT BH BM n k t s fx fy W H M w w1 :=
  ⟨bk_below h.t hb, bk_below h.h hb, let ⟨cs, a, b, c⟩ := h.m; ⟨cs, bk_below a hb, b, c⟩, next h.l hb, h.ge, h.n1, h.n2⟩
theorem BesSt.cell (h : BesSt BT BH BM n k t s fx fy W H M w wr) {x y : Nat} (hx : x < n) (hy : y < n) : wr.cell? ⟨BM, n * x + y, none⟩ = some (.int .i64 ((M x y : Nat) : Int)) := by
  obtain ⟨cs, a, b, c⟩ := h.m
  rw [bk_cell a, c x y hx hy]
theorem BesSt.free (h : BesSt BT BH BM n k t s fx fy W H M w wr) (i : Nat) : wr.frozen? ⟨BM, i, none⟩ = false := let ⟨_, a, _⟩ := h.m; bk_free a i
theorem BesSt.set (h : BesSt BT BH BM n k t s fx fy W H M w wr) {x y : Nat} (hx : x < n) (hy : y < n) {v : Int} (hv : v = ((M x y + 1 : Nat) : Int)) : BesSt BT BH BM n k t s fx fy W H (fun a b => if a = x ∧ b = y then M a b + 1 else M a b) w (wr.setCell ⟨BM, n * x + y, none⟩ (.int .i64 v)) := by
  obtain ⟨cs, a, b, c⟩ := h.m
  have lt : ∀ {a b : Nat}, a < n → b < n → n * a + b < n * n := fun {a b} h1 h2 => Nat.lt_of_lt_of_le (Nat.add_lt_add_left h2 _) (by rw [← Nat.mul_succ]; exact Nat.mul_le_mul_left n h1)
  refine ⟨bk_far h.t (by show BT ≠ BM; exact h.n1) _, bk_far h.h (by show BH ≠ BM; exact h.n2) _, ⟨_, bk_set a _ _, by simpa using b, fun x' y' hx' hy' => ?_⟩, h.l.setCell (p := ⟨BM, n * x + y, none⟩) h.ge _, h.ge, h.n1, h.n2⟩
  by_cases e : x' = x ∧ y' = y
  · obtain ⟨rfl, rfl⟩ := e
    simp only [and_self, if_true]
    rw [bes_same (Nat.lt_of_lt_of_le (lt hx' hy') b), hv]
  · rw [if_neg e, Array.getElem?_setIfInBounds_ne (fun h => e (by
      have e1 : (n * x' + y') / n = x' := by rw [Nat.mul_add_div (by omega), Nat.div_eq_of_lt hy']; omega
      have e2 : (n * x + y) / n = x := by rw [Nat.mul_add_div (by omega), Nat.div_eq_of_lt hy]; omega
      have : x' = x := by rw [← e1, ← e2, h]
      subst this
      exact ⟨rfl, by omega⟩))]
    exact c x' y' hx' hy'
end
theorem bes_drewN (w : World) (n : Nat) : Below w.heap.size w (w.drewN n) := ⟨rfl, rfl, rfl, Nat.le_refl _, fun _ _ => rfl⟩
theorem intinfo8 : (Try.prog.info? 3).map (fun i => (i.zero, i.size, i.bytes)) = some (some (.int .i64 0), 1, 8) := by kernel_rfl

set_option maxRecDepth 20000 in
set_option maxHeartbeats 8000000 in
theorem Bes_yes (w : World) {k t s : Int} {W H : Nat} (t0 : 0 ≤ t) (hk : checkE k W H t s = 0) (w1 : 1 ≤ W) (w6 : W ≤ 6) (h1 : 1 ≤ H) (h6 : H ≤ 6) :
    Calls Try.prog 6 #[topoV k W H t s] w (Ret (.bool true) w) := by
  have c1 := fun w => Check_calls k W H t s w t0
  rw [hk] at c1
  have c2 := fun w => Home_ok k W H t s w t0 hk
  have ok := topoOk_of t0 hk
  obtain ⟨fx, hfx⟩ : ∃ fx, first W = fx := ⟨_, rfl⟩
  obtain ⟨fy, hfy⟩ : ∃ fy, first H = fy := ⟨_, rfl⟩
  have hfx0 : -3 ≤ fx ∧ fx ≤ 0 := by rw [← hfx]; unfold first; omega
  have hfy0 : -3 ≤ fy ∧ fy ≤ 0 := by rw [← hfy]; unfold first; omega
  rw [hfx, hfy] at c2
  have C1 := Lib.hid c1; have C2 := Lib.hid c2
  have HK := Lib.hid hk; have HT0 := Lib.hid t0; have HFX := Lib.hid hfx; have HFY := Lib.hid hfy
  have K1 := Lib.hid (bk_new w (.cells #[.int .u8 k, .int .i64 W, .int .i64 H, .int .u8 t, .int .i64 s] 23))
  have hBw := Lib.hid (boxed w (.cells #[.int .u8 k, .int .i64 W, .int .i64 H, .int .u8 t, .int .i64 s] 23))
  obtain ⟨n, hn⟩ : ∃ n, W * H = n := ⟨_, rfl⟩
  have n0 : 0 < n := by rw [← hn]; exact Nat.mul_pos (by omega) (by omega)
  have n36 : n ≤ 36 := by rw [← hn]; exact Nat.mul_le_mul w6 h6
  obtain ⟨nn, hnn⟩ : ∃ nn, n * n = nn := ⟨_, rfl⟩
  have nn36 : nn ≤ 1296 := by rw [← hnn]; exact Nat.mul_le_mul n36 n36
  have hw1 : IntKind.i64.wrap ((W : Int) * (H : Int)) = (n : Int) := by rw [← Int.natCast_mul, hn, IntKind.wrap_i64]; omega
  have hw2 : IntKind.i64.wrap ((n : Int) * (n : Int)) = (nn : Int) := by rw [← Int.natCast_mul, hnn, IntKind.wrap_i64]; omega
  have hmk := bes_makeN (P := Try.prog) Try.underlying48 intinfo8 nn (by omega) (by omega)
  simp only [Nat.mul_one] at hmk
  have d1 : decide ((W : Int) < 1) = false := decide_eq_false (by omega)
  have d2 : decide ((H : Int) < 1) = false := decide_eq_false (by omega)
  have d3 : decide (6 < (W : Int)) = false := decide_eq_false (by omega)
  have d4 : decide (6 < (H : Int)) = false := decide_eq_false (by omega)
  have HN := Lib.hid hn; have HNN := Lib.hid hnn
  clear c1 c2 hk t0 hfx hfy hn hnn ok
  go_enter Try.func6, Try.ntmps6
  go_wp2_with (first
    | (go_at_call 11; ((with_reducible refine (awake_calls _).mono ?_); rintro e wa ⟨rfl, hba⟩; have KA := Lib.hid (bk_below K1.out hba); have ktA := bk_cell KA.out; have LA := Lib.hid (next hBw.out hba)))
    | (go_at_call 21; ((with_reducible refine (C1.out _).mono ?_); rintro e wb ⟨rfl, hbb⟩; have KB := Lib.hid (bk_below KA.out hbb); have ktB := bk_cell KB.out; have LB := Lib.hid (next LA.out hbb)))
    | (go_at_call 22; ((with_reducible refine (C2.out _).mono ?_); rintro e wc ⟨rfl, hbc⟩; have KC := Lib.hid (bk_below KB.out hbc); have LC := Lib.hid (next LB.out hbc); have ktC := bk_cell (bk_alloc KC.out (.cells #[.int .i64 fx, .int .i64 fy, .int .i64 W, .int .i64 H] 45)); have khC := bk_cell (bk_new wc (.cells #[.int .i64 fx, .int .i64 fy, .int .i64 W, .int .i64 H] 45)))))
  have S0 : Hid (BesSt w.heap.size wc.heap.size (wc.heap.size + 1) n k t s fx fy W H (fun _ _ => 0) w ((wc.alloc (.cells #[.int .i64 fx, .int .i64 fy, .int .i64 W, .int .i64 H] 45)).alloc (.cells (madeCells #[.int .i64 0] nn) 3))) := by
    have hl := bk_lt KC.out
    refine ⟨bk_alloc (bk_alloc KC.out _) _, bk_alloc (bk_new _ _) _, ⟨_, bk_newn _ _ _ (by simp), by rw [HNN.out]; simp [madeCells], fun x y hx hy => ?_⟩, (LC.out.alloc LC.out.size _).alloc (by simp; have := LC.out.size; omega) _, by have := LC.out.size; omega, by omega, by omega⟩
    exact bes_made (z := .int .i64 0) rfl _ _ (by rw [← HNN.out]; exact Nat.lt_of_lt_of_le (Nat.add_lt_add_left hy _) (by rw [← Nat.mul_succ]; exact Nat.mul_le_mul_left n hx))
  have hlt0 := bk_lt KC.out
  generalize hBT : w.heap.size = BT at *
  generalize hBM : wc.heap.size + 1 = BM at *
  generalize hBH : wc.heap.size = BH at *
  have hBTw := Lib.hid hBT
  have S1 : Hid (BesSt BT BH BM n k t s fx fy W H (besT k W H t s 0 0) w ((wc.alloc (.cells #[.int .i64 fx, .int .i64 fy, .int .i64 W, .int .i64 H] 45)).alloc (.cells (madeCells #[.int .i64 0] nn) 3))) := by
    show BesSt _ _ _ _ _ _ _ _ _ _ _ _ _ _
    rw [besT_nil]; exact S0.out
  clear S0 hBT hBM hBH hlt0 K1 hBw KA LA KB LB KC LC ktA ktB ktC khC hba hbb hbc C1 C2 hmk
  generalize ((wc.alloc (.cells #[.int .i64 fx, .int .i64 fy, .int .i64 W, .int .i64 H] 45)).alloc (.cells (madeCells #[.int .i64 0] nn) 3)) = W0 at *
  have hWz : ¬ (W = 0) := by omega
  have hWy : (W == 0) = false := beq_eq_false_iff_ne.2 hWz
  have hWx : ((W : Int) == 0) = false := beq_eq_false_iff_ne.2 (by omega)
  go_loopw [8] (fun vi wr => ∃ i : Nat, vi = .int .i64 (i : Int) ∧ i ≤ n ∧ Hid (BesSt BT BH BM n k t s fx fy W H (besT k W H t s i 0) w wr)) (fun vi _ => n - (intOf vi).toNat)
  case atStart => exact ⟨0, rfl, Nat.zero_le _, S1⟩
  clear S1
  obtain ⟨i, rfl, hi, HS⟩ := hrel
  refine wp_hideQ fun Q1 hQ1 => ?_
  by_cases hlt : i < n
  · have hil : (i : Int) < (n : Int) := by omega
    have kt0 := bk_cell HS.out.t; have kh0 := bk_cell HS.out.h
    have hiw : Hid (i < W * H) := by show _; rw [HN.out]; exact hlt
    obtain ⟨a, ha, haW⟩ : ∃ a, i % W = a ∧ a < W := ⟨_, rfl, Nat.mod_lt i (by omega)⟩
    obtain ⟨b, hb, hbH⟩ : ∃ b, i / W = b ∧ b < H := ⟨_, rfl, Nat.div_lt_of_lt_mul hiw.out⟩
    have htm : Int.tmod (i : Int) (W : Int) = (a : Int) := by rw [Int.tmod_eq_emod_of_nonneg (by omega), ← Int.natCast_emod, ha]
    have htd : Int.tdiv (i : Int) (W : Int) = (b : Int) := by rw [Int.tdiv_eq_ediv_of_nonneg (by omega), ← Int.natCast_ediv, hb]
    obtain ⟨cx, hcx⟩ : ∃ cx, fx + (a : Int) = cx := ⟨_, rfl⟩
    obtain ⟨cy, hcy⟩ : ∃ cy, fy + (b : Int) = cy := ⟨_, rfl⟩
    have hwx : IntKind.i64.wrap (fx + (a : Int)) = cx := by rw [hcx, IntKind.wrap_i64]; omega
    have hwy : IntKind.i64.wrap (fy + (b : Int)) = cy := by rw [hcy, IntKind.wrap_i64]; omega
    have hcb : -3 ≤ cx ∧ cx ≤ 6 ∧ -3 ≤ cy ∧ cy ≤ 6 := by omega
    have HBX : Hid (∀ d, bX W i d = cx + ((d % 3 : Nat) : Int) - 1) := fun d => by unfold bX; rw [HFX.out, ha]; omega
    have HBY : Hid (∀ d, bY W H i d = cy + ((d / 3 : Nat) : Int) - 1) := fun d => by unfold bY; rw [HFY.out, hb]; omega
    have hcr : ∀ w, Calls Try.prog 16 #[topoV k W H t s, pt cx cy] w (Ret (.tuple #[pt cx cy, .bool true, .int .i64 0]) w) := fun w => by
      have o := besOwn_of HK.out HT0.out w1 w6 h1 h6 hiw.out
      have := Ring_calls k W H t s (bX W i 4) (bY W H i 4) w HT0.out
      rw [o.1, o.2.1, o.2.2.1, o.2.2.2, HBX.out, HBY.out] at this
      have e1 : cx + ((4 % 3 : Nat) : Int) - 1 = cx := by omega
      have e2 : cy + ((4 / 3 : Nat) : Int) - 1 = cy := by omega
      rw [e1, e2] at this
      exact this
    have CR := Lib.hid hcr
    clear ha hb hcx hcy hcr
    go_wp2_with (first | fail)
    have kt1 := bk_cell (bk_alloc HS.out.t (.cells #[.int .i64 0, .int .i64 0] 25)); have kh1 := bk_cell (bk_alloc HS.out.h (.cells #[.int .i64 0, .int .i64 0] 25))
    apply share
    · intro rest
      go_region_held3 (fun w' => w'.cell? ⟨BT, 1, none⟩ = some (.int .i64 W) ∧ w'.cell? ⟨BH, 0, none⟩ = some (.int .i64 fx) ∧ w'.cell? ⟨BH, 1, none⟩ = some (.int .i64 fy))
        (first | go_keep)
        (fail)
      all_goals exact rest
    have hwb0 : IntKind.i64.wrap (b : Int) = (b : Int) := by rw [IntKind.wrap_i64]; omega
    rw [hwb0, hwy]
    clear hwb0
    have HS2 := Lib.hid ((HS.out.below (boxed wr (.cells #[.int .i64 cx, .int .i64 cy] 25))).below (Below.refl _ _).drew)
    have KC := Lib.hid (bk_drew (bk_new wr (.cells #[.int .i64 cx, .int .i64 cy] 25)))
    have HBC : Hid (wr.heap.size ≠ BM) := by
      obtain ⟨cs, hcs, _⟩ := HS.out.m
      have := bk_lt hcs
      show _ ≠ _; omega
    clear kt0 kh0 kt1 kh1 HS
    generalize (wr.alloc (.cells #[.int .i64 cx, .int .i64 cy] 25)).drew = W1 at *
    generalize wr.heap.size = BC at *
    have kt2 := bk_cell HS2.out.t; have kc2 := bk_cell KC.out
    go_wp2_with (first | (go_at_call 16; ((with_reducible refine (CR.out _).mono ?_); rintro e w2 ⟨rfl, hb2⟩; have H2 := Lib.hid (HS2.out.below (next hb2 (boxed w2 (.cells #[.int .i64 cx, .int .i64 cy] 25)))); have KC2 := Lib.hid (bk_below KC.out (next hb2 (boxed w2 (.cells #[.int .i64 cx, .int .i64 cy] 25)))); have kc3 := bk_cell KC2.out; have ko3 := bk_cell (bk_new w2 (.cells #[.int .i64 cx, .int .i64 cy] 25)))))
    clear kt2 kc2 kc3 ko3 HS2 KC hb2
    generalize w2.alloc (.cells #[.int .i64 cx, .int .i64 cy] 25) = W2 at *
    go_loopw [13] (fun vd wx => ∃ d : Nat, vd = .int .i64 (d : Int) ∧ d ≤ 9 ∧ Hid (BesSt BT BH BM n k t s fx fy W H (besT k W H t s i d) w wx) ∧ Hid (wx.heap[BC]? = some (.cells #[.int .i64 cx, .int .i64 cy] 25 (0, 0)))) (fun vd _ => 9 - (intOf vd).toNat)
    case atStart => exact ⟨0, rfl, Nat.zero_le _, H2, KC2⟩
    clear H2 KC2
    obtain ⟨d, rfl, hd, HX, KX⟩ := hrel
    refine wp_hideQ fun Q2 hQ2 => ?_
    by_cases hdl : d < 9
    · have hdi : (d : Int) < 9 := by omega
      obtain ⟨qx, qy, b, K, ho⟩ := besOne_of HK.out HT0.out w1 w6 h1 h6 hiw.out hdl
      obtain ⟨e3, he3, he3b⟩ : ∃ e3, d % 3 = e3 ∧ e3 < 3 := ⟨_, rfl, Nat.mod_lt d (by omega)⟩
      obtain ⟨f3, hf3, hf3b⟩ : ∃ f3, d / 3 = f3 ∧ f3 < 3 := ⟨_, rfl, Nat.div_lt_of_lt_mul (by omega)⟩
      have ht3 : Int.tmod (d : Int) 3 = (e3 : Int) := by rw [Int.tmod_eq_emod_of_nonneg (by omega)]; omega
      have hd3 : Int.tdiv (d : Int) 3 = (f3 : Int) := by rw [Int.tdiv_eq_ediv_of_nonneg (by omega)]; omega
      obtain ⟨px, hpx⟩ : ∃ px, cx + (e3 : Int) - 1 = px := ⟨_, rfl⟩
      obtain ⟨py, hpy⟩ : ∃ py, cy + (f3 : Int) - 1 = py := ⟨_, rfl⟩
      have hwp1 : IntKind.i64.wrap (cx + (e3 : Int)) = cx + (e3 : Int) := by rw [IntKind.wrap_i64]; omega
      have hwp2 : IntKind.i64.wrap (cx + (e3 : Int) - 1) = px := by rw [hpx, IntKind.wrap_i64]; omega
      have hwp3 : IntKind.i64.wrap (cy + (f3 : Int)) = cy + (f3 : Int) := by rw [IntKind.wrap_i64]; omega
      have hwp4 : IntKind.i64.wrap (cy + (f3 : Int) - 1) = py := by rw [hpy, IntKind.wrap_i64]; omega
      have cr2 : ∀ w, Calls Try.prog 16 #[topoV k W H t s, pt px py] w (Ret (.tuple #[pt qx qy, .bool b, .int .i64 0]) w) := fun w => by
        have := Ring_calls k W H t s (bX W i d) (bY W H i d) w HT0.out
        rw [ho.x, ho.y, ho.bb, ho.e, HBX.out, HBY.out, he3, hf3, hpx, hpy] at this
        exact this
      obtain ⟨rx, ry, ee, cc, hgl⟩ : ∃ rx ry ee, (∀ w, Calls Try.prog 12 #[topoV k W H t s, pt px py] w (Ret (.tuple #[pt rx ry, .int .i64 ee]) w)) ∧ (gluedI k = true → ee = 0 ∧ rx = qx ∧ ry = qy) := by
        refine ⟨_, _, _, fun w => ?_, ho.cell⟩
        have := CellF_calls k W H t s (bX W i d) (bY W H i d) w HT0.out
        rw [show pt px py = pt (bX W i d) (bY W H i d) by rw [HBX.out, HBY.out, he3, hf3, hpx, hpy]]
        exact this
      have cg := fun w => bglued_calls k W H t s w HT0.out
      unfold bgl at cg
      rw [HK.out] at cg
      simp only [decide_true, Bool.true_and] at cg
      have CR2 := Lib.hid cr2; have CC := Lib.hid cc; have CG := Lib.hid cg
      have KP := Lib.hid (bk_new wr (.cells #[.int .i64 px, .int .i64 py] 25))
      have kt0 := bk_cell HX.out.t; have kc0 := bk_cell KX.out
      have kt1 := bk_cell (bk_alloc HX.out.t (.cells #[.int .i64 px, .int .i64 py] 25)); have kp1 := bk_cell KP.out
      clear cr2 cc cg he3 hf3 hpx hpy
      cases b
      · have hk1 := ho.out rfl
        have HNXT := Lib.hid ho.next
        clear ho hgl
        subst hk1
        have hg0 : gluedI 1 = false := by decide
        rw [hg0] at CG
        go_wp2_with (first | (go_at_call 16; ((with_reducible refine (CR2.out _).mono ?_); rintro e w2 ⟨rfl, hb2⟩; have H2 := Lib.hid (HX.out.below (next (boxed wr (.cells #[.int .i64 px, .int .i64 py] 25)) hb2)); have KC2 := Lib.hid (bk_below KX.out (next (boxed wr (.cells #[.int .i64 px, .int .i64 py] 25)) hb2)); have KP2 := Lib.hid (bk_below KP.out hb2); have kt2 := bk_cell (bk_alloc H2.out.t (.cells #[.int .i64 qx, .int .i64 qy] 25)); have kp2 := bk_cell (bk_alloc KP2.out (.cells #[.int .i64 qx, .int .i64 qy] 25)))) | (go_at_call 12; ((with_reducible refine (CC.out _).mono ?_); rintro e w3 ⟨rfl, hb3⟩; have H3 := Lib.hid (H2.out.below (next (boxed w2 (.cells #[.int .i64 qx, .int .i64 qy] 25)) hb3)); have KC3 := Lib.hid (bk_below KC2.out (next (boxed w2 (.cells #[.int .i64 qx, .int .i64 qy] 25)) hb3)); have KQ3 := Lib.hid (bk_below (bk_new w2 (.cells #[.int .i64 qx, .int .i64 qy] 25)) hb3); have kt3 := bk_cell (bk_alloc H3.out.t (.cells #[.int .i64 rx, .int .i64 ry] 25)))) | (go_at_call 23; ((with_reducible refine (CG.out _).mono ?_); rintro e w4 ⟨rfl, hb4⟩; have H4 := Lib.hid (H3.out.below (next (boxed w3 (.cells #[.int .i64 rx, .int .i64 ry] 25)) hb4)); have KC4 := Lib.hid (bk_below KC3.out (next (boxed w3 (.cells #[.int .i64 rx, .int .i64 ry] 25)) hb4)); have kq4 := bk_cell (bk_below (bk_alloc KQ3.out (.cells #[.int .i64 rx, .int .i64 ry] 25)) hb4); have kr4 := bk_cell (bk_below (bk_new w3 (.cells #[.int .i64 rx, .int .i64 ry] 25)) hb4); have kt4 := bk_cell H4.out.t; have kh4 := bk_cell H4.out.h)))
        have HE := Lib.hid H4.out; have KE := Lib.hid KC4.out
        refine hQ2.out _ _ _ ?_
        refine And.intro ?_ ?measure
        (repeat apply Exists.intro)
        refine ⟨?rel, rfl⟩
        case rel => exact ⟨d + 1, by go_num, by omega, (by show BesSt _ _ _ _ _ _ _ _ _ _ _ _ _ _; rw [HNXT.out, if_neg (by simp)]; exact HE.out), KE⟩
        case measure => simp [intOf] <;> omega
      · cases hg : gluedI k
        · rw [hg] at CG
          clear hg hgl
          have hk0 := ho.inn rfl
          rw [HFX.out, HFY.out] at hk0
          obtain ⟨z, hz⟩ : ∃ z, (W : Int) * (qy - fy) = z := ⟨_, rfl⟩
          rw [hz] at hk0
          have kx1 := ho.x0; have kx2 := ho.x1; have ky1 := ho.y0; have ky2 := ho.y1
          have hKn : K < n := by rw [← HN.out]; exact hk0.2.2.2
          have hk1 : IntKind.i64.wrap (qx - fx) = qx - fx := by rw [IntKind.wrap_i64]; omega
          have hk2 : IntKind.i64.wrap (qy - fy) = qy - fy := by rw [IntKind.wrap_i64]; omega
          have hk3 : IntKind.i64.wrap ((W : Int) * (qy - fy)) = z := by rw [hz, IntKind.wrap_i64]; omega
          have hk4 : IntKind.i64.wrap (qx - fx + z) = (K : Int) := by rw [IntKind.wrap_i64]; omega
          have hk5 : IntKind.i64.wrap (fx + (W : Int)) = fx + (W : Int) := by rw [IntKind.wrap_i64]; omega
          have q1 : ¬ (qx < fx) := by omega
          have q2 : ¬ (fx + (W : Int) ≤ qx) := by omega
          have q3 : ¬ ((K : Int) < 0) := by omega
          have q4 : ¬ ((n : Int) ≤ (K : Int)) := by omega
          have HNXT := Lib.hid ho.next
          clear hk0 hz ho
          by_cases hd4 : d = 4
          · have e4 : ((d : Int) != 4) = false := by simp [hd4]
            have HN4 := Lib.hid hd4
            clear hd4
            go_wp2_with (first | (go_at_call 16; ((with_reducible refine (CR2.out _).mono ?_); rintro e w2 ⟨rfl, hb2⟩; have H2 := Lib.hid (HX.out.below (next (boxed wr (.cells #[.int .i64 px, .int .i64 py] 25)) hb2)); have KC2 := Lib.hid (bk_below KX.out (next (boxed wr (.cells #[.int .i64 px, .int .i64 py] 25)) hb2)); have KP2 := Lib.hid (bk_below KP.out hb2); have kt2 := bk_cell (bk_alloc H2.out.t (.cells #[.int .i64 qx, .int .i64 qy] 25)); have kp2 := bk_cell (bk_alloc KP2.out (.cells #[.int .i64 qx, .int .i64 qy] 25)))) | (go_at_call 12; ((with_reducible refine (CC.out _).mono ?_); rintro e w3 ⟨rfl, hb3⟩; have H3 := Lib.hid (H2.out.below (next (boxed w2 (.cells #[.int .i64 qx, .int .i64 qy] 25)) hb3)); have KC3 := Lib.hid (bk_below KC2.out (next (boxed w2 (.cells #[.int .i64 qx, .int .i64 qy] 25)) hb3)); have KQ3 := Lib.hid (bk_below (bk_new w2 (.cells #[.int .i64 qx, .int .i64 qy] 25)) hb3); have kt3 := bk_cell (bk_alloc H3.out.t (.cells #[.int .i64 rx, .int .i64 ry] 25)))) | (go_at_call 23; ((with_reducible refine (CG.out _).mono ?_); rintro e w4 ⟨rfl, hb4⟩; have H4 := Lib.hid (H3.out.below (next (boxed w3 (.cells #[.int .i64 rx, .int .i64 ry] 25)) hb4)); have KC4 := Lib.hid (bk_below KC3.out (next (boxed w3 (.cells #[.int .i64 rx, .int .i64 ry] 25)) hb4)); have kq4 := bk_cell (bk_below (bk_alloc KQ3.out (.cells #[.int .i64 rx, .int .i64 ry] 25)) hb4); have kr4 := bk_cell (bk_below (bk_new w3 (.cells #[.int .i64 rx, .int .i64 ry] 25)) hb4); have kt4 := bk_cell H4.out.t; have kh4 := bk_cell H4.out.h)))
            have HE := Lib.hid H4.out; have KE := Lib.hid KC4.out
            clear e4
            refine hQ2.out _ _ _ ?_
            refine And.intro ?_ ?measure
            (repeat apply Exists.intro)
            refine ⟨?rel, rfl⟩
            case rel => exact ⟨d + 1, by go_num, by omega, (by show BesSt _ _ _ _ _ _ _ _ _ _ _ _ _ _; rw [HNXT.out, if_neg (by intro h; exact h.2 HN4.out)]; exact HE.out), KE⟩
            case measure => simp [intOf] <;> omega
          · have e4 : ((d : Int) != 4) = true := by simp; omega
            obtain ⟨ni, hni⟩ : ∃ ni, n * i = ni := ⟨_, rfl⟩
            obtain ⟨j, hj⟩ : ∃ j, ni + K = j := ⟨_, rfl⟩
            have hjn : j < nn := by rw [← hj, ← hni, ← HNN.out]; exact Nat.lt_of_lt_of_le (Nat.add_lt_add_left hKn _) (by rw [← Nat.mul_succ]; exact Nat.mul_le_mul_left n hlt)
            have hwk1 : IntKind.i64.wrap ((n : Int) * (i : Int)) = (ni : Int) := by rw [← Int.natCast_mul, hni, IntKind.wrap_i64]; omega
            have hwk2 : IntKind.i64.wrap ((ni : Int) + (K : Int)) = (j : Int) := by rw [IntKind.wrap_i64]; omega
            have hji : (j : Int) < (nn : Int) := by omega
            obtain ⟨m, hm⟩ : ∃ m, besT k W H t s i d i K = m := ⟨_, rfl⟩
            have hm9 : m ≤ 9 := by rw [← hm]; exact besT_le k W H t s (by omega) i K
            have hwm : IntKind.i64.wrap ((m : Int) + 1) = (m : Int) + 1 := by rw [IntKind.wrap_i64]; omega
            have HM := Lib.hid hm; have HJ : Hid (n * i + K = j) := by show _ = _; rw [hni, hj]
            have HN4 := Lib.hid hd4
            clear hm hni hj hd4
            go_wp2_with (first | (go_at_call 16; ((with_reducible refine (CR2.out _).mono ?_); rintro e w2 ⟨rfl, hb2⟩; have H2 := Lib.hid (HX.out.below (next (boxed wr (.cells #[.int .i64 px, .int .i64 py] 25)) hb2)); have KC2 := Lib.hid (bk_below KX.out (next (boxed wr (.cells #[.int .i64 px, .int .i64 py] 25)) hb2)); have KP2 := Lib.hid (bk_below KP.out hb2); have kt2 := bk_cell (bk_alloc H2.out.t (.cells #[.int .i64 qx, .int .i64 qy] 25)); have kp2 := bk_cell (bk_alloc KP2.out (.cells #[.int .i64 qx, .int .i64 qy] 25)))) | (go_at_call 12; ((with_reducible refine (CC.out _).mono ?_); rintro e w3 ⟨rfl, hb3⟩; have H3 := Lib.hid (H2.out.below (next (boxed w2 (.cells #[.int .i64 qx, .int .i64 qy] 25)) hb3)); have KC3 := Lib.hid (bk_below KC2.out (next (boxed w2 (.cells #[.int .i64 qx, .int .i64 qy] 25)) hb3)); have KQ3 := Lib.hid (bk_below (bk_new w2 (.cells #[.int .i64 qx, .int .i64 qy] 25)) hb3); have kt3 := bk_cell (bk_alloc H3.out.t (.cells #[.int .i64 rx, .int .i64 ry] 25)))) | (go_at_call 23; ((with_reducible refine (CG.out _).mono ?_); rintro e w4 ⟨rfl, hb4⟩; have H4 := Lib.hid (H3.out.below (next (boxed w3 (.cells #[.int .i64 rx, .int .i64 ry] 25)) hb4)); have KC4 := Lib.hid (bk_below KC3.out (next (boxed w3 (.cells #[.int .i64 rx, .int .i64 ry] 25)) hb4)); have kq4 := bk_cell (bk_below (bk_alloc KQ3.out (.cells #[.int .i64 rx, .int .i64 ry] 25)) hb4); have kr4 := bk_cell (bk_below (bk_new w3 (.cells #[.int .i64 rx, .int .i64 ry] 25)) hb4); have kt4 := bk_cell H4.out.t; have kh4 := bk_cell H4.out.h; have hm4 := H4.out.cell hlt hKn; have hf4 := H4.out.free j; rw [HJ.out, HM.out] at hm4)))
            have HE := Lib.hid (H4.out.set hlt hKn (v := (m : Int) + 1) (by rw [HM.out]; simp))
            rw [HJ.out] at HE
            have KE := Lib.hid (bk_far KC4.out (p := ⟨BM, j, none⟩) (by show BC ≠ BM; exact HBC.out) (.int .i64 ((m : Int) + 1)))
            clear hm4 hf4
            refine hQ2.out _ _ _ ?_
            refine And.intro ?_ ?measure
            (repeat apply Exists.intro)
            refine ⟨?rel, rfl⟩
            case rel => exact ⟨d + 1, by go_num, by omega, (by show BesSt _ _ _ _ _ _ _ _ _ _ _ _ _ _; rw [HNXT.out, if_pos ⟨by first | rfl | trivial, HN4.out⟩]; exact HE.out), KE⟩
            case measure => simp [intOf] <;> omega
        · obtain ⟨rfl, rfl, rfl⟩ := hgl hg
          rw [hg] at CG
          clear hg hgl
          have hk0 := ho.inn rfl
          rw [HFX.out, HFY.out] at hk0
          obtain ⟨z, hz⟩ : ∃ z, (W : Int) * (ry - fy) = z := ⟨_, rfl⟩
          rw [hz] at hk0
          have kx1 := ho.x0; have kx2 := ho.x1; have ky1 := ho.y0; have ky2 := ho.y1
          have hKn : K < n := by rw [← HN.out]; exact hk0.2.2.2
          have hk1 : IntKind.i64.wrap (rx - fx) = rx - fx := by rw [IntKind.wrap_i64]; omega
          have hk2 : IntKind.i64.wrap (ry - fy) = ry - fy := by rw [IntKind.wrap_i64]; omega
          have hk3 : IntKind.i64.wrap ((W : Int) * (ry - fy)) = z := by rw [hz, IntKind.wrap_i64]; omega
          have hk4 : IntKind.i64.wrap (rx - fx + z) = (K : Int) := by rw [IntKind.wrap_i64]; omega
          have hk5 : IntKind.i64.wrap (fx + (W : Int)) = fx + (W : Int) := by rw [IntKind.wrap_i64]; omega
          have q1 : ¬ (rx < fx) := by omega
          have q2 : ¬ (fx + (W : Int) ≤ rx) := by omega
          have q3 : ¬ ((K : Int) < 0) := by omega
          have q4 : ¬ ((n : Int) ≤ (K : Int)) := by omega
          have HNXT := Lib.hid ho.next
          clear hk0 hz ho
          by_cases hd4 : d = 4
          · have e4 : ((d : Int) != 4) = false := by simp [hd4]
            have HN4 := Lib.hid hd4
            clear hd4
            go_wp2_with (first | (go_at_call 16; ((with_reducible refine (CR2.out _).mono ?_); rintro e w2 ⟨rfl, hb2⟩; have H2 := Lib.hid (HX.out.below (next (boxed wr (.cells #[.int .i64 px, .int .i64 py] 25)) hb2)); have KC2 := Lib.hid (bk_below KX.out (next (boxed wr (.cells #[.int .i64 px, .int .i64 py] 25)) hb2)); have KP2 := Lib.hid (bk_below KP.out hb2); have kt2 := bk_cell (bk_alloc H2.out.t (.cells #[.int .i64 rx, .int .i64 ry] 25)); have kp2 := bk_cell (bk_alloc KP2.out (.cells #[.int .i64 rx, .int .i64 ry] 25)))) | (go_at_call 12; ((with_reducible refine (CC.out _).mono ?_); rintro e w3 ⟨rfl, hb3⟩; have H3 := Lib.hid (H2.out.below (next (boxed w2 (.cells #[.int .i64 rx, .int .i64 ry] 25)) hb3)); have KC3 := Lib.hid (bk_below KC2.out (next (boxed w2 (.cells #[.int .i64 rx, .int .i64 ry] 25)) hb3)); have KQ3 := Lib.hid (bk_below (bk_new w2 (.cells #[.int .i64 rx, .int .i64 ry] 25)) hb3); have kt3 := bk_cell (bk_alloc H3.out.t (.cells #[.int .i64 rx, .int .i64 ry] 25)))) | (go_at_call 23; ((with_reducible refine (CG.out _).mono ?_); rintro e w4 ⟨rfl, hb4⟩; have H4 := Lib.hid (H3.out.below (next (boxed w3 (.cells #[.int .i64 rx, .int .i64 ry] 25)) hb4)); have KC4 := Lib.hid (bk_below KC3.out (next (boxed w3 (.cells #[.int .i64 rx, .int .i64 ry] 25)) hb4)); have kq4 := bk_cell (bk_below (bk_alloc KQ3.out (.cells #[.int .i64 rx, .int .i64 ry] 25)) hb4); have kr4 := bk_cell (bk_below (bk_new w3 (.cells #[.int .i64 rx, .int .i64 ry] 25)) hb4); have kt4 := bk_cell H4.out.t; have kh4 := bk_cell H4.out.h)))
            have HE := Lib.hid H4.out; have KE := Lib.hid KC4.out
            clear e4
            refine hQ2.out _ _ _ ?_
            refine And.intro ?_ ?measure
            (repeat apply Exists.intro)
            refine ⟨?rel, rfl⟩
            case rel => exact ⟨d + 1, by go_num, by omega, (by show BesSt _ _ _ _ _ _ _ _ _ _ _ _ _ _; rw [HNXT.out, if_neg (by intro h; exact h.2 HN4.out)]; exact HE.out), KE⟩
            case measure => simp [intOf] <;> omega
          · have e4 : ((d : Int) != 4) = true := by simp; omega
            obtain ⟨ni, hni⟩ : ∃ ni, n * i = ni := ⟨_, rfl⟩
            obtain ⟨j, hj⟩ : ∃ j, ni + K = j := ⟨_, rfl⟩
            have hjn : j < nn := by rw [← hj, ← hni, ← HNN.out]; exact Nat.lt_of_lt_of_le (Nat.add_lt_add_left hKn _) (by rw [← Nat.mul_succ]; exact Nat.mul_le_mul_left n hlt)
            have hwk1 : IntKind.i64.wrap ((n : Int) * (i : Int)) = (ni : Int) := by rw [← Int.natCast_mul, hni, IntKind.wrap_i64]; omega
            have hwk2 : IntKind.i64.wrap ((ni : Int) + (K : Int)) = (j : Int) := by rw [IntKind.wrap_i64]; omega
            have hji : (j : Int) < (nn : Int) := by omega
            obtain ⟨m, hm⟩ : ∃ m, besT k W H t s i d i K = m := ⟨_, rfl⟩
            have hm9 : m ≤ 9 := by rw [← hm]; exact besT_le k W H t s (by omega) i K
            have hwm : IntKind.i64.wrap ((m : Int) + 1) = (m : Int) + 1 := by rw [IntKind.wrap_i64]; omega
            have HM := Lib.hid hm; have HJ : Hid (n * i + K = j) := by show _ = _; rw [hni, hj]
            have HN4 := Lib.hid hd4
            clear hm hni hj hd4
            go_wp2_with (first | (go_at_call 16; ((with_reducible refine (CR2.out _).mono ?_); rintro e w2 ⟨rfl, hb2⟩; have H2 := Lib.hid (HX.out.below (next (boxed wr (.cells #[.int .i64 px, .int .i64 py] 25)) hb2)); have KC2 := Lib.hid (bk_below KX.out (next (boxed wr (.cells #[.int .i64 px, .int .i64 py] 25)) hb2)); have KP2 := Lib.hid (bk_below KP.out hb2); have kt2 := bk_cell (bk_alloc H2.out.t (.cells #[.int .i64 rx, .int .i64 ry] 25)); have kp2 := bk_cell (bk_alloc KP2.out (.cells #[.int .i64 rx, .int .i64 ry] 25)))) | (go_at_call 12; ((with_reducible refine (CC.out _).mono ?_); rintro e w3 ⟨rfl, hb3⟩; have H3 := Lib.hid (H2.out.below (next (boxed w2 (.cells #[.int .i64 rx, .int .i64 ry] 25)) hb3)); have KC3 := Lib.hid (bk_below KC2.out (next (boxed w2 (.cells #[.int .i64 rx, .int .i64 ry] 25)) hb3)); have KQ3 := Lib.hid (bk_below (bk_new w2 (.cells #[.int .i64 rx, .int .i64 ry] 25)) hb3); have kt3 := bk_cell (bk_alloc H3.out.t (.cells #[.int .i64 rx, .int .i64 ry] 25)))) | (go_at_call 23; ((with_reducible refine (CG.out _).mono ?_); rintro e w4 ⟨rfl, hb4⟩; have H4 := Lib.hid (H3.out.below (next (boxed w3 (.cells #[.int .i64 rx, .int .i64 ry] 25)) hb4)); have KC4 := Lib.hid (bk_below KC3.out (next (boxed w3 (.cells #[.int .i64 rx, .int .i64 ry] 25)) hb4)); have kq4 := bk_cell (bk_below (bk_alloc KQ3.out (.cells #[.int .i64 rx, .int .i64 ry] 25)) hb4); have kr4 := bk_cell (bk_below (bk_new w3 (.cells #[.int .i64 rx, .int .i64 ry] 25)) hb4); have kt4 := bk_cell H4.out.t; have kh4 := bk_cell H4.out.h; have hm4 := H4.out.cell hlt hKn; have hf4 := H4.out.free j; rw [HJ.out, HM.out] at hm4)))
            have HE := Lib.hid (H4.out.set hlt hKn (v := (m : Int) + 1) (by rw [HM.out]; simp))
            rw [HJ.out] at HE
            have KE := Lib.hid (bk_far KC4.out (p := ⟨BM, j, none⟩) (by show BC ≠ BM; exact HBC.out) (.int .i64 ((m : Int) + 1)))
            clear hm4 hf4
            refine hQ2.out _ _ _ ?_
            refine And.intro ?_ ?measure
            (repeat apply Exists.intro)
            refine ⟨?rel, rfl⟩
            case rel => exact ⟨d + 1, by go_num, by omega, (by show BesSt _ _ _ _ _ _ _ _ _ _ _ _ _ _; rw [HNXT.out, if_pos ⟨by first | rfl | trivial, HN4.out⟩]; exact HE.out), KE⟩
            case measure => simp [intOf] <;> omega
    · have hdi : ¬ ((d : Int) < 9) := by omega
      have hd9 : d = 9 := by omega
      have HE : Hid (BesSt BT BH BM n k t s fx fy W H (besT k W H t s (i + 1) 0) w wr) := by
        show BesSt _ _ _ _ _ _ _ _ _ _ _ _ _ _
        rw [besT_row, ← hd9]
        exact HX.out
      clear hd9 HX KX
      go_wp2_with (first | fail)
      refine hQ2.out _ _ _ ?_
      simp only [Exit.then, Exit.inBlock]
      go_wp2_with (first | fail)
      refine hQ1.out _ _ _ ?_
      refine And.intro ?_ ?measure
      (repeat apply Exists.intro)
      refine ⟨?rel, rfl⟩
      case rel => exact ⟨i + 1, by go_num, by omega, HE⟩
      case measure => simp [intOf] <;> omega
  · have hin : i = n := by omega
    have hil : ¬ ((i : Int) < (n : Int)) := by omega
    have HE : Hid (BesSt BT BH BM n k t s fx fy W H (besT k W H t s n 0) w wr) := by
      have h_ := HS.out
      rw [hin] at h_
      exact h_
    clear hin HS
    go_wp2_with (first | fail)
    refine hQ1.out _ _ _ ?_
    simp only [Exit.then, Exit.inBlock]
    go_wp2_with (first | fail)
    go_loopw [21] (fun vi wy => ∃ x : Nat, vi = .int .i64 (x : Int) ∧ x ≤ n ∧ Hid (BesSt BT BH BM n k t s fx fy W H (besT k W H t s n 0) w wy)) (fun vi _ => n - (intOf vi).toNat)
    case atStart => exact ⟨0, rfl, Nat.zero_le _, HE⟩
    clear HE
    obtain ⟨x, rfl, hx, HY⟩ := hrel
    refine wp_hideQ fun Q3 hQ3 => ?_
    by_cases hxl : x < n
    · have hxi : (x : Int) < (n : Int) := by omega
      go_wp2_with (first | fail)
      go_loopw [22] (fun vi wy => ∃ y : Nat, vi = .int .i64 (y : Int) ∧ y ≤ n ∧ Hid (BesSt BT BH BM n k t s fx fy W H (besT k W H t s n 0) w wy)) (fun vi _ => n - (intOf vi).toNat)
      case atStart => exact ⟨0, rfl, Nat.zero_le _, HY⟩
      clear HY
      obtain ⟨y, rfl, hy, HZ⟩ := hrel
      refine wp_hideQ fun Q4 hQ4 => ?_
      by_cases hyl : y < n
      · have hyi : (y : Int) < (n : Int) := by omega
        have lt : ∀ {a b : Nat}, a < n → b < n → n * a + b < n * n := fun {a b} h1 h2 => Nat.lt_of_lt_of_le (Nat.add_lt_add_left h2 _) (by rw [← Nat.mul_succ]; exact Nat.mul_le_mul_left n h1)
        have l1 := lt hxl hyl; have l2 := lt hyl hxl
        rw [HNN.out] at l1 l2
        have m1 := HZ.out.cell hxl hyl; have m2 := HZ.out.cell hyl hxl
        have ec : besT k W H t s n 0 y x = besT k W H t s n 0 x y := by rw [besT_end _ _ _ _ _ hyl, besT_end _ _ _ _ _ hxl]; exact besC_comm HK.out HT0.out w1 w6 h1 h6 (by rw [HN.out]; exact hyl) (by rw [HN.out]; exact hxl)
        rw [ec] at m2
        obtain ⟨m, hm⟩ : ∃ m, besT k W H t s n 0 x y = m := ⟨_, rfl⟩
        rw [hm] at m1 m2
        obtain ⟨nx, hnx⟩ : ∃ nx, n * x = nx := ⟨_, rfl⟩
        obtain ⟨ny, hny⟩ : ∃ ny, n * y = ny := ⟨_, rfl⟩
        rw [hnx] at m1 l1; rw [hny] at m2 l2
        have wx1 : IntKind.i64.wrap ((n : Int) * (x : Int)) = (nx : Int) := by rw [← Int.natCast_mul, hnx, IntKind.wrap_i64]; omega
        have wy1 : IntKind.i64.wrap ((n : Int) * (y : Int)) = (ny : Int) := by rw [← Int.natCast_mul, hny, IntKind.wrap_i64]; omega
        obtain ⟨j1, hj1⟩ : ∃ j1, nx + y = j1 := ⟨_, rfl⟩
        obtain ⟨j2, hj2⟩ : ∃ j2, ny + x = j2 := ⟨_, rfl⟩
        rw [hj1] at m1 l1; rw [hj2] at m2 l2
        have wx2 : IntKind.i64.wrap ((nx : Int) + (y : Int)) = (j1 : Int) := by rw [IntKind.wrap_i64]; omega
        have wy2 : IntKind.i64.wrap ((ny : Int) + (x : Int)) = (j2 : Int) := by rw [IntKind.wrap_i64]; omega
        have i1 : (j1 : Int) < (nn : Int) := by omega
        have i2 : (j2 : Int) < (nn : Int) := by omega
        clear hnx hny hj1 hj2 hm ec lt
        go_wp2_with (first | fail)
        go_quiet (fail)
        have HE := Lib.hid (HZ.out.below (bes_drewN wr nq))
        generalize wr.drewN nq = W5 at *
        clear HZ m1 m2
        go_wp2_with (first | fail)
        refine hQ4.out _ _ _ ?_
        refine And.intro ?_ ?measure
        (repeat apply Exists.intro)
        refine ⟨?rel, rfl⟩
        case rel => exact ⟨y + 1, by go_num, by omega, HE⟩
        case measure => simp [intOf] <;> omega
      · have hyi : ¬ ((y : Int) < (n : Int)) := by omega
        go_wp2_with (first | fail)
        refine hQ4.out _ _ _ ?_
        simp only [Exit.then, Exit.inBlock]
        go_wp2_with (first | fail)
        refine hQ3.out _ _ _ ?_
        refine And.intro ?_ ?measure
        (repeat apply Exists.intro)
        refine ⟨?rel, rfl⟩
        case rel => exact ⟨x + 1, by go_num, by omega, HZ⟩
        case measure => simp [intOf] <;> omega
    · have hxi : ¬ ((x : Int) < (n : Int)) := by omega
      go_wp2_with (first | fail)
      refine hQ3.out _ _ _ ?_
      simp only [Exit.then, Exit.inBlock]
      go_wp2_with (first | fail)
      go_ret
      exact Ret.of rfl HY.out.l
theorem FoldBeside_walk (w : World) {k W H t s : Int} (bk : 0 ≤ k ∧ k ≤ 255) (bW : -9223372036854775808 ≤ W ∧ W ≤ 9223372036854775807) (bH : -9223372036854775808 ≤ H ∧ H ≤ 9223372036854775807) (bt : 0 ≤ t ∧ t ≤ 255) (bs : -9223372036854775808 ≤ s ∧ s ≤ 9223372036854775807) :
    Calls Try.prog 6 #[topoV k W H t s] w (Ret (.bool true) w) := by
  by_cases hk : checkE k W H t s = 0
  · by_cases hin : 1 ≤ W ∧ W ≤ 6 ∧ 1 ≤ H ∧ H ≤ 6
    · obtain ⟨W', rfl⟩ := Int.eq_ofNat_of_zero_le (show 0 ≤ W by omega)
      obtain ⟨H', rfl⟩ := Int.eq_ofNat_of_zero_le (show 0 ≤ H by omega)
      exact Bes_yes w bt.1 hk (by omega) (by omega) (by omega) (by omega)
    · exact Bes_no w bt.1 (.inr ⟨hk, by omega⟩)
  · exact Bes_no w bt.1 (.inl hk)
end Go.Proofs.Ytfdehecekghlmaa
