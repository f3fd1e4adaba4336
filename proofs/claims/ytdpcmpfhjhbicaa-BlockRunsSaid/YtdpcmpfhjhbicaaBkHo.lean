/- Cells in a row; the law's holds. -/
import Derived.Test.YtdpcmpfhjhbicaaRfNew
import Derived.BigQuiet
import Derived.Deep.QuietTactic
set_option linter.unusedVariables false
set_option linter.unusedSimpArgs false
namespace Go.Proofs.Ytdpcmpfhjhbicaa
open Go.RowKit

/-- cells, row by row, in one block -/
structure Flat (ob W H : Nat) (f : Nat → Nat → Int) (w : World) : Prop where
  ex : ∃ cs, w.heap[ob]? = some (.cells cs 5 (0, 0)) ∧ W * H ≤ cs.size ∧ ∀ y x, y < H → x < W → cs[y * W + x]? = some (.int .u8 (f y x))
theorem Flat.keep {ob W H : Nat} {f : Nat → Nat → Int} {w w' : World} (h : Flat ob W H f w) (hk : w'.heap[ob]? = w.heap[ob]?) : Flat ob W H f w' := let ⟨cs, a, b, c⟩ := h.ex; ⟨cs, hk.trans a, b, c⟩
theorem Flat.lt {ob W H : Nat} {f : Nat → Nat → Int} {w : World} (h : Flat ob W H f w) : ob < w.heap.size := let ⟨_, a, _⟩ := h.ex; bk_lt a
theorem Flat.below {ob W H : Nat} {f : Nat → Nat → Int} {w w' : World} (h : Flat ob W H f w) (hb : Below w.heap.size w w') : Flat ob W H f w' := h.keep (hb.block ob h.lt)
theorem RF.flat {q cb : Nat} {D : FD} {w : World} (h : RF q cb D w) : Flat cb D.W D.H D.f w := let ⟨cs, a, b, c⟩ := h.ex; ⟨cs, a, by omega, c⟩
theorem Flat.row {ob W H : Nat} {St : Int} {pk : Bool} {f : Nat → Nat → Int} {w : World} (h : Flat ob W H f w) {y : Nat} (hy : y < H) : Rd w (some ⟨ob, y * W, none⟩) ((rowI ⟨W, H, St, pk, f⟩ y).map (.int .u8)) := by
  obtain ⟨cs, a, _, c⟩ := h.ex
  refine Rd.of_at fun j u hu => ?_
  rw [List.getElem?_map] at hu
  have hj : j < W := by
    by_cases hj : j < W
    · exact hj
    · rw [List.getElem?_eq_none (by simp [rowI]; omega)] at hu; simp at hu
  rw [rowI_at (D := ⟨W, H, St, pk, f⟩) hj] at hu
  rw [bk_cell a, c y j hy hj]; exact hu
theorem slice_flat (ob m m2 n c : Nat) (h : m < m2) (h2 : m2 ≤ c) (w : World) : (Instr.slice 44 (.slice (some ⟨ob, 0, none⟩) n c) (some (.int .i64 (m : Int))) (some (.int .i64 (m2 : Int))) none).run Try.prog w = .ok (.slice (some ⟨ob, m, none⟩) (m2 - m) (c - m)) w := by
  have h3 : m ≤ m2 := by omega
  have h4 : ¬ c = m := by omega
  simp [Instr.slice, Instr.sliceBounds, Instr.sliceBound, asIntOf, run_underlying Try.underlying44, h3, h2, h4, go_sem]
theorem W_qq {g : Nat} {D : FD} {S : Nat → Prop} {w : World} (h : Fld g D S w) : Calls Try.prog 53 #[.pointer (some ⟨g, 0, none⟩)] w fun e w' => e = .returned (.int .i64 D.W) ∧ w' = w := (W_calls h).mono fun _ _ ⟨a, b⟩ => ⟨a, b.symm⟩
theorem H_qq {g : Nat} {D : FD} {S : Nat → Prop} {w : World} (h : Fld g D S w) : Calls Try.prog 54 #[.pointer (some ⟨g, 0, none⟩)] w fun e w' => e = .returned (.int .i64 D.H) ∧ w' = w := (H_calls h).mono fun _ _ ⟨a, b⟩ => ⟨a, b.symm⟩
theorem States_q {g : Nat} {D : FD} {S : Nat → Prop} {w : World} (h : Fld g D S w) : Calls Try.prog 55 #[.pointer (some ⟨g, 0, none⟩)] w fun e w' => e = .returned (.int .i64 D.St) ∧ w' = w := (States_calls h).mono fun _ _ ⟨a, b⟩ => ⟨a, b.symm⟩
theorem Packed_q {g : Nat} {D : FD} {S : Nat → Prop} {w : World} (h : Fld g D S w) : Calls Try.prog 56 #[.pointer (some ⟨g, 0, none⟩)] w fun e w' => e = .returned (.bool D.pk) ∧ w' = w := (Packed_calls h).mono fun _ _ ⟨a, b⟩ => ⟨a, b.symm⟩

set_option maxRecDepth 20000 in
set_option maxHeartbeats 4000000 in
theorem holds_calls {g q ob W H c : Nat} {St : Int} {pk : Bool} {f : Nat → Nat → Int} {S : Nat → Prop} {w : World} {v : Value} (hF : Fld g ⟨W, H, St, pk, f⟩ S w) (hq : w.heap[q]? = some (.cells #[.int .i64 W, .int .i64 H, .int .i64 St, .bool pk, v] 64 (0, 0))) (hC : Flat ob W H f w) (hc : W * H ≤ c) :
    Calls Try.prog 28 #[.pointer (some ⟨g, 0, none⟩), .pointer (some ⟨q, 0, none⟩), .slice (some ⟨ob, 0, none⟩) (W * H) c] w (Ret (.bool true) w) := by
  have kq := bk_cell hq
  have HF := Lib.hid hF; have HQ := Lib.hid hq; have HC := Lib.hid hC
  have ok := hF.ok
  have o1 : 0 < W := ok.w0; have o2 : W ≤ 65536 := ok.w1; have o3 : 0 < H := ok.h0; have o4 : H ≤ 65536 := ok.h1
  have hwh : W * H ≤ 1048576 := ok.wh
  have HOK := Lib.hid ok
  have e1 : ((W : Int) != (W : Int)) = false := by simp
  have e2 : ((H : Int) != (H : Int)) = false := by simp
  have e3 : (St != St) = false := by simp
  have e4 : (pk != pk) = false := by simp
  clear hF hq hC ok
  go_enter Try.func28, Try.ntmps28
  go_wp2_with (first | fail)
  go_quiet ((first | (go_at_call 53; exact Calls.quiet_of_same (W_qq (HF.out.drewN _))) | (go_at_call 54; exact Calls.quiet_of_same (H_qq (HF.out.drewN _))) | (go_at_call 55; exact Calls.quiet_of_same (States_q (HF.out.drewN _))) | (go_at_call 56; exact Calls.quiet_of_same (Packed_q (HF.out.drewN _)))))
  have hB0 : Below w.heap.size w (w.drewN nq) := ⟨rfl, rfl, rfl, Nat.le_refl _, fun _ _ => rfl⟩
  generalize w.drewN nq = W0 at *
  go_wp2_with (first | fail)
  go_loopw [7] (fun i wr => ∃ y : Nat, i = .int .i64 y ∧ y ≤ H ∧ Below w.heap.size w wr) (fun i _ => H - (intOf i).toNat)
  case atStart => exact ⟨0, rfl, Nat.zero_le _, hB0⟩
  clear hB0 kq
  obtain ⟨y, rfl, hy, hB⟩ := hrel
  have kq := bk_cell (bk_below HQ.out hB)
  by_cases hlt : y < H
  · have hfit : y * W + W ≤ W * H := by rw [← Nat.succ_mul, Nat.mul_comm W H]; exact Nat.mul_le_mul_right W hlt
    obtain ⟨m, hm⟩ : ∃ m, m = y * W := ⟨_, rfl⟩
    have hmI : (y : Int) * (W : Int) = (m : Int) := by rw [hm, Int.natCast_mul]
    obtain ⟨m2, hm2⟩ : ∃ m2, m2 = m + W := ⟨_, rfl⟩
    have hmI2 : ((y : Int) + 1) * (W : Int) = (m2 : Int) := by rw [Int.add_mul, hmI]; omega
    have CL := Lib.hid (Line_yes (y := y) (HF.out.below hB) hlt)
    rw [← hm] at hfit
    have hsl := fun w => slice_flat ob m m2 (W * H) c (by omega) (by omega) w
    rw [show m2 - m = W by omega] at hsl
    go_wp2_with (go_at_call 57; ((with_reducible refine CL.out.mono ?_); rintro e w2 ⟨go, cs, rfl, hgo, hgs, hcs, hb2⟩))
    have hB2 := next hB hb2
    have r1 : Rd w2 (some ⟨go, 0, none⟩) ((rowI ⟨W, H, St, pk, f⟩ y).map (.int .u8)) := Rd.of_block hgs fun j u hu => by rw [← hcs] at hu; simpa using hu
    have r2 : Rd w2 (some ⟨ob, m, none⟩) ((rowI ⟨W, H, St, pk, f⟩ y).map (.int .u8)) := by rw [hm]; exact (HC.out.below hB2).row hlt
    have s1 := fun k => run_string_rd (P := Try.prog) (src := 44) (dst := 9) (e := 5) (n := W) (c := W) Try.underlying44 Try.underlying5 Try.underlying9 (r1.drewN k) (rowI_length _ _)
    have s2 := fun k => run_string_rd (P := Try.prog) (src := 44) (dst := 9) (e := 5) (n := W) (c := c - m) Try.underlying44 Try.underlying5 Try.underlying9 (r2.drewN k) (rowI_length _ _)
    generalize strOfNums (rowI ⟨W, H, St, pk, f⟩ y) = X at *
    have kq2 := bk_cell (bk_below (bk_below HQ.out hB) hb2)
    have hXX : (X.toList != X.toList) = false := by simp
    have hB3 := fun k => hB2.trans (show Below w.heap.size w2 (w2.drewN k) from ⟨rfl, rfl, rfl, Nat.le_refl _, fun _ _ => rfl⟩)
    have HB3 := Lib.hid hB3
    have hm3 : m2 ≤ 1048576 := by omega
    have hm4 : m ≤ m2 := by omega
    clear r1 r2 hgs hcs hb2 hB CL kq hB3 hB2 hm hm2 hfit
    go_quiet (fail)
    go_wp2
    go_roundw
    case rel => exact ⟨y + 1, by go_num, by omega, HB3.out _⟩
    case measure => simp [intOf]; omega
  · obtain rfl : y = H := by omega
    go_wp2
    go_ret
    exact Ret.of rfl hB
end Go.Proofs.Ytdpcmpfhjhbicaa
