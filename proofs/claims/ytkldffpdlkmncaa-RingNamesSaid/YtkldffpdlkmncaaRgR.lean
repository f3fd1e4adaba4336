/- ring: Rows. -/
import Derived.Test.YtkldffpdlkmncaaRgF1
import Derived.Test.YtkldffpdlkmncaaRgG
import Derived.Test.YtkldffpdlkmncaaWdA
set_option linter.unusedVariables false
set_option linter.unusedSimpArgs false
namespace Go.Proofs.Ytkldffpdlkmncaa
open Go.RowKit Go.Viv

theorem rowRinfo : (Try.prog.info? 68).map (fun i => (i.zero, i.size, i.bytes)) = some (some (.agg #[.int .i64 0, .slice none 0 0]), 2, 32) := by kernel_rfl
/-- a list of rows of n bits, of which the first v are as B says -/
structure RowsTo (gr : Nat) (G : Nat → Nat) (h n : Nat) (B : Nat → Nat → Bool) (v : Nat) (w : World) : Prop where
  rows : ∃ cur : Array Value, w.heap[gr]? = some (.cells cur 68 (0, 0)) ∧ cur.size = h * 2 ∧ ∀ y, y < v → cur[y * 2]? = some (.int .i64 n) ∧ cur[y * 2 + 1]? = some (.slice (some ⟨G y, 0, none⟩) (nw n) (nw n))
  row : ∀ y, y < v → RowW (G y) n (B y) n w
  gt : ∀ y, y < v → gr < G y
  inc : ∀ y y', y < y' → y' < v → G y < G y'
section
variable {gr h n v : Nat} {G : Nat → Nat} {B : Nat → Nat → Bool} {w w' : World}
theorem RowsTo.lt (h1 : RowsTo gr G h n B v w) : gr < w.heap.size := let ⟨_, a, _⟩ := h1.rows; bk_lt a
theorem RowsTo.below (h1 : RowsTo gr G h n B v w) (hb : Below w.heap.size w w') : RowsTo gr G h n B v w' :=
  ⟨let ⟨c, a, b⟩ := h1.rows; ⟨c, bk_below a hb, b⟩, fun y hy => (h1.row y hy).below hb, h1.gt, h1.inc⟩
theorem RowsTo.cell (h1 : RowsTo gr G h n B v w) {j : Nat} (hj : j < h * 2) : ∃ x, w.cell? ⟨gr, j, none⟩ = some x := by
  obtain ⟨cs, a, b, _⟩ := h1.rows
  exact ⟨cs[j]'(by omega), by rw [bk_cell a, Array.getElem?_eq_getElem]⟩
theorem RowsTo.free (h1 : RowsTo gr G h n B v w) (j : Nat) : w.frozen? ⟨gr, j, none⟩ = false := let ⟨_, a, _⟩ := h1.rows; bk_free a j
/-- one row more -/
theorem RowsTo.next {g : Nat} (h1 : RowsTo gr G h n B v w) (hv : v < h) (hg : RowW g n (B v) n w) (hgt : gr < g) (hinc : ∀ y, y < v → G y < g) :
    RowsTo gr (fun y => if y = v then g else G y) h n B (v + 1) ((w.setCell ⟨gr, v * 2, none⟩ (.int .i64 n)).setCell ⟨gr, v * 2 + 1, none⟩ (.slice (some ⟨g, 0, none⟩) (nw n) (nw n))) := by
  obtain ⟨cur, a, b, c⟩ := h1.rows
  have hk : ∀ q, q ≠ gr → ((w.setCell ⟨gr, v * 2, none⟩ (.int .i64 n)).setCell ⟨gr, v * 2 + 1, none⟩ (.slice (some ⟨g, 0, none⟩) (nw n) (nw n))).heap[q]? = w.heap[q]? := fun q hq => (Below.heap_setCell _ _ _ q hq).trans (Below.heap_setCell _ _ _ q hq)
  refine ⟨⟨_, bk_set (bk_set a _ _) _ _, by simpa using b, fun y hy => ?_⟩, fun y hy => ?_, fun y hy => ?_, fun y y' hyy hy => ?_⟩
  · by_cases e : y = v
    · subst e
      rw [if_pos rfl]
      refine ⟨?_, ?_⟩
      · rw [Array.getElem?_setIfInBounds_ne (by omega), Array.getElem?_setIfInBounds_self_of_lt (by omega)]
      · rw [Array.getElem?_setIfInBounds_self_of_lt (by simp; omega)]
    · rw [if_neg e]
      rw [Array.getElem?_setIfInBounds_ne (by omega), Array.getElem?_setIfInBounds_ne (by omega), Array.getElem?_setIfInBounds_ne (by omega), Array.getElem?_setIfInBounds_ne (by omega)]
      exact c y (by omega)
  · by_cases e : y = v
    · subst e
      rw [if_pos rfl]
      exact hg.keep (hk g (by omega))
    · rw [if_neg e]
      exact (h1.row y (by omega)).keep (hk _ (by have := h1.gt y (by omega); omega))
  · by_cases e : y = v
    · rw [if_pos e]; exact hgt
    · rw [if_neg e]; exact h1.gt y (by omega)
  · by_cases e : y' = v
    · rw [if_pos e, if_neg (by omega)]; exact hinc y (by omega)
    · rw [if_neg e, if_neg (by omega)]; exact h1.inc y y' hyy (by omega)
end
def rowB (k : Int) (W H : Nat) (t s : Int) (f : Nat → Nat → Int) (v u : Nat) : Bool := rgS k W H t s f ((u : Int) - 1) ((v : Int) - 1) != 0
/-- what Rows comes to -/
def RowsP (k : Int) (W H : Nat) (t s : Int) (f : Nat → Nat → Int) (w : World) (e : Ending) (w' : World) : Prop :=
  ∃ gr G, e = .returned (.tuple #[.slice (some ⟨gr, 0, none⟩) (H + 2) (H + 2), .int .i64 0]) ∧ w.heap.size ≤ gr ∧ RowsTo gr G (H + 2) (W + 2) (rowB k W H t s f) (H + 2) w' ∧ Below w.heap.size w w'

set_option maxRecDepth 20000 in
set_option maxHeartbeats 8000000 in
theorem rgRows_yes {k t s St : Int} {W H g : Nat} {pk : Bool} {f : Nat → Nat → Int} {S : Nat → Prop} {w : World} (t0 : 0 ≤ t) (hk : checkE k W H t s = 0) (hF : Fld g ⟨W, H, St, pk, f⟩ S w) (hS : St ≤ 2) :
    Calls Try.prog 12 #[topoV k W H t s, .pointer (some ⟨g, 0, none⟩)] w (RowsP k W H t s f w) := by
  have KT := bk_new w (.cells #[.int .u8 k, .int .i64 W, .int .i64 H, .int .u8 t, .int .i64 s] 23)
  have hBw := Lib.hid (boxed w (.cells #[.int .u8 k, .int .i64 W, .int .i64 H, .int .u8 t, .int .i64 s] 23))
  have kt := bk_cell KT
  have o1 : 0 < W := hF.ok.w0; have o2 : W ≤ 65536 := hF.ok.w1; have o3 : 0 < H := hF.ok.h0; have o4 : H ≤ 65536 := hF.ok.h1
  have hA : ∀ w', Below w.heap.size w w' → Calls Try.prog 39 #[topoV k W H t s, .pointer (some ⟨g, 0, none⟩)] w' (Ret (.int .i64 0) w') := fun w' hb => by
    have := rgAsked_calls (k := k) (W := W) (H := H) (t := t) (s := s) t0 (hF.below hb)
    rwa [show rgE k W H t s ⟨W, H, St, pk, f⟩ = 0 by unfold rgE; rw [if_neg (by simp [hk]), if_neg (by omega), if_neg (by simp)]] at this
  have hFS := fun w' (hb : Below w.heap.size w w') => States_calls (hF.below hb)
  have hF1 := fun w' (hb : Below w.heap.size w w') => rgFrame1_calls t0 hk (hF.below hb)
  have HA := Lib.hid hA; have HFS := Lib.hid hFS; have HF1 := Lib.hid hF1
  have hd : decide (2 < St) = false := decide_eq_false (by omega)
  obtain ⟨V2, hV2⟩ : ∃ q, W + 2 = q := ⟨_, rfl⟩
  obtain ⟨H2, hH2⟩ : ∃ q, H + 2 = q := ⟨_, rfl⟩
  have wV2 := ar_wrap (a := (W : Int) + 2) (b := (V2 : Int)) (by omega) (by omega) (by omega)
  have wH2 := ar_wrap (a := (H : Int) + 2) (b := (H2 : Int)) (by omega) (by omega) (by omega)
  have hmk := run_makeN (P := Try.prog) Try.underlying38 rowRinfo H2 (by omega) (by omega)
  have HV2 := Lib.hid hV2; have HH2 := Lib.hid hH2
  clear hA hF hk hFS hS hF1 hV2 hH2
  go_enter Try.func12, Try.ntmps12
  go_wp2_with (first
    | (go_at_call 39; ((with_reducible refine (HA.out _ hBw.out).mono ?_); rintro e w1 ⟨rfl, hb1⟩; have HB1 := Lib.hid (next hBw.out hb1); have KT1 := Lib.hid (bk_below KT hb1); have kt1 := bk_cell KT1.out))
    | (go_at_call 42; ((with_reducible refine (HFS.out _ HB1.out).mono ?_); rintro e w2 ⟨rfl, rfl⟩))
    | (go_at_call 43; ((with_reducible refine (HF1.out _ HB1.out).mono ?_); rintro e w3 ⟨go, rfl, hgo, hO, hb3⟩; have HB3 := Lib.hid (next HB1.out hb3); have KT3 := Lib.hid (bk_below KT1.out hb3); have kt3 := bk_cell KT3.out; have HO3 := Lib.hid hO)))
  obtain ⟨nn, hnn⟩ : ∃ nn, (W + 2) * (H + 2) = nn := ⟨_, rfl⟩
  rw [hnn] at HO3 ⊢
  have HNN := Lib.hid hnn
  have KR4 : Hid (RowsTo w3.heap.size (fun _ => 0) H2 V2 (rowB k W H t s f) 0 (w3.alloc (.cells (madeCells #[.int .i64 0, .slice none 0 0] (H2 * 2)) 68))) := ⟨⟨_, bk_new _ _, by simp [madeCells], fun y hy => absurd hy (by omega)⟩, fun y hy => absurd hy (by omega), fun y hy => absurd hy (by omega), fun y y' _ hy => absurd hy (by omega)⟩
  have KT4 := Lib.hid (bk_alloc KT3.out (.cells (madeCells #[.int .i64 0, .slice none 0 0] (H2 * 2)) 68))
  have HO4 := Lib.hid (HO3.out.below (boxed w3 (.cells (madeCells #[.int .i64 0, .slice none 0 0] (H2 * 2)) 68)))
  have HB4 := Lib.hid (HB3.out.alloc HB3.out.size (.cells (madeCells #[.int .i64 0, .slice none 0 0] (H2 * 2)) 68))
  have hgr := HB3.out.size
  have hgo4 := HO3.out.lt
  have hT4 := bk_lt KT3.out
  clear hO hgo hb3 HB3 KT3 HO3 HA HFS HF1 HB1 KT1 kt1 hb1 KT kt hnn
  go_wp2_with (first | fail)
  generalize w3.alloc (.cells (madeCells #[.int .i64 0, .slice none 0 0] (H2 * 2)) 68) = W4 at *
  generalize w3.heap.size = gr at *
  clear kt3 hmk
  go_loopw [28] (fun vi wr => ∃ v : Nat, vi = .int .i64 (v : Int) ∧ v ≤ H2 ∧ Hid (wr.heap[w.heap.size]? = some (.cells #[.int .u8 k, .int .i64 W, .int .i64 H, .int .u8 t, .int .i64 s] 23 (0, 0))) ∧ Hid (OutAt 4 go nn (frF1 k W H t s f) (fun _ => True) wr) ∧ Hid (∃ G, RowsTo gr G H2 V2 (rowB k W H t s f) v wr) ∧ Hid (Below w.heap.size w wr)) (fun vi _ => H2 - (intOf vi).toNat)
  case atStart => exact ⟨0, rfl, by omega, KT4, HO4, ⟨_, KR4.out⟩, HB4⟩
  clear KT4 HO4 KR4 HB4
  obtain ⟨v, rfl, hv, KT, HO, HR, HB⟩ := hrel
  refine wp_hideQ fun Q1 hQ1 => ?_
  by_cases hvl : v < H2
  · have hvi : (v : Int) < (H2 : Int) := by omega
    obtain ⟨G, hRows⟩ := HR.out
    obtain ⟨m0, hm0⟩ : ∃ q, v * V2 = q := ⟨_, rfl⟩
    obtain ⟨m1, hm1⟩ : ∃ q, m0 + V2 = q := ⟨_, rfl⟩
    have hm1n : m1 ≤ nn := by
      rw [← hm1, ← hm0, ← HNN.out, HV2.out, HH2.out, ← Nat.succ_mul, Nat.mul_comm V2]
      exact Nat.mul_le_mul_right V2 (show v + 1 ≤ H2 by omega)
    have hnb : nn ≤ 65538 * 65538 := by rw [← HNN.out]; exact Nat.mul_le_mul (by omega) (by omega)
    obtain ⟨v1, hv1e⟩ : ∃ q, v + 1 = q := ⟨_, rfl⟩
    have hv1 := ar_wrap (a := (v : Int) + 1) (b := (v1 : Int)) (by omega) (by omega) (by have := HH2.out; omega)
    have hwm0 := ar_wrap (a := (v : Int) * (V2 : Int)) (b := (m0 : Int)) (by rw [← hm0, Int.natCast_mul]) (by omega) (by omega)
    have hwm1 := ar_wrap (a := (v1 : Int) * (V2 : Int)) (b := (m1 : Int)) (by rw [← hm1, ← hm0, ← hv1e, ← Int.natCast_mul, Nat.succ_mul]) (by omega) (by omega)
    have hm01 : m0 ≤ m1 := by omega
    have hm0l : m0 < nn := by have := HV2.out; omega
    have HM1 := Lib.hid hm1
    have HOF : Hid (∀ w', OutAt 4 go nn (frF1 k W H t s f) (fun _ => True) w' → Calls Try.prog 45 #[.slice (some ⟨go, m0, none⟩) V2 (nn - m0)] w' (OfP V2 (rowB k W H t s f v) w')) := fun w' h => wOf_calls (by have := HV2.out; omega) (fun i hi => by
      refine ⟨go, m0, rfl, h.lt, ?_⟩
      obtain ⟨cs, a, b, c⟩ := h.ex
      rw [bk_cell a, c (m0 + i) (by omega) trivial]
      have e := frF1_at (k := k) (W := W) (H := H) (t := t) (s := s) (f := f) (u := i) (v := v) (x := (i : Int) - 1) (y := (v : Int) - 1) (by have := HV2.out; omega) rfl rfl
      rw [HV2.out, Nat.mul_comm V2, hm0] at e
      rw [e]
      rfl)
    have kt := bk_cell KT.out
    have HRO := Lib.hid hRows
    have HV1E := Lib.hid hv1e
    clear hm0 hm1 hRows HR hv1e
    go_wp2_with (first | fail)
    rw [show m1 - m0 = V2 by have := HM1.out; omega]
    refine (HOF.out _ HO.out).mono ?_
    rintro e w5 ⟨g5, rfl, hg5, hW5, hb5⟩
    have KT5 := Lib.hid (bk_below KT.out hb5)
    have HO5 := Lib.hid (HO.out.below hb5)
    have HR5 := Lib.hid (HRO.out.below hb5)
    have HB5 := Lib.hid (next HB.out hb5)
    obtain ⟨x0, hx0⟩ := HR5.out.cell (j := v * 2) (by omega)
    obtain ⟨x1, hx1⟩ := HR5.out.cell (j := v * 2 + 1) (by omega)
    have hf0 := HR5.out.free (v * 2)
    have hf1 := HR5.out.free (v * 2 + 1)
    have hlt5 := HRO.out.lt
    have hN := Lib.hid (HR5.out.next hvl hW5 (by omega) (fun y hy => by have := (HRO.out.row y hy).lt; omega))
    have hT : w.heap.size ≠ gr := by omega
    have hgg : go ≠ gr := by omega
    have KT6 := Lib.hid (bk_far (bk_far KT5.out (p := ⟨gr, v * 2, none⟩) hT (.int .i64 V2)) (p := ⟨gr, v * 2 + 1, none⟩) hT (.slice (some ⟨g5, 0, none⟩) (nw V2) (nw V2)))
    have HO6 : Hid (OutAt 4 go nn (frF1 k W H t s f) (fun _ => True) ((w5.setCell ⟨gr, v * 2, none⟩ (.int .i64 V2)).setCell ⟨gr, v * 2 + 1, none⟩ (.slice (some ⟨g5, 0, none⟩) (nw V2) (nw V2)))) := let ⟨cs, a, b, c⟩ := HO5.out.ex; ⟨cs, bk_far (bk_far a (p := ⟨gr, v * 2, none⟩) hgg _) (p := ⟨gr, v * 2 + 1, none⟩) hgg _, b, c⟩
    have HB6 := Lib.hid ((HB5.out.setCell (p := ⟨gr, v * 2, none⟩) hgr (.int .i64 V2)).setCell (p := ⟨gr, v * 2 + 1, none⟩) hgr (.slice (some ⟨g5, 0, none⟩) (nw V2) (nw V2)))
    clear hW5 hb5 hg5 HR5 KT5 HO5 HB5 KT HO HB HRO kt
    go_wp2_with (first | fail)
    refine hQ1.out _ _ _ ?_
    refine And.intro ?_ ?measure
    (repeat apply Exists.intro)
    refine ⟨?rel, rfl⟩
    case rel => exact ⟨v1, by first | rfl | go_num, by have := HV1E.out; omega, KT6, HO6, by rw [← HV1E.out]; exact ⟨_, hN.out⟩, HB6⟩
    case measure => have := HV1E.out; simp [intOf]; omega
  · obtain rfl : v = H2 := by omega
    obtain ⟨G, hRows⟩ := HR.out
    have HRO := Lib.hid hRows
    clear hRows HR
    go_wp2_with (first | fail)
    refine hQ1.out _ _ _ ?_
    simp only [Exit.then, Exit.inBlock]
    go_wp2_with (first | fail)
    go_ret2
    refine ⟨gr, G, by rw [HH2.out]; rfl, hgr, ?_, HB.out⟩
    rw [HV2.out, HH2.out]
    exact HRO.out
end Go.Proofs.Ytkldffpdlkmncaa
