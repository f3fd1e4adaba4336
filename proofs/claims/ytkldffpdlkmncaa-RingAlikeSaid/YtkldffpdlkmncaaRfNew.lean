/- The document's field in memory: New. -/
import Derived.Test.YtkldffpdlkmncaaFNew
set_option linter.unusedVariables false
set_option linter.unusedSimpArgs false
namespace Go.Proofs.Ytkldffpdlkmncaa
open Go.RowKit

/-- a field of the document: its block q, its cells' block cb -/
structure RF (q cb : Nat) (D : FD) (w : World) : Prop where
  ne : q ≠ cb
  blk : w.heap[q]? = some (.cells #[.int .i64 D.W, .int .i64 D.H, .int .i64 D.St, .bool D.pk, .slice (some ⟨cb, 0, none⟩) (D.W * D.H) (D.W * D.H)] 114 (0, 0))
  ex : ∃ cs, w.heap[cb]? = some (.cells cs 5 (0, 0)) ∧ cs.size = D.W * D.H ∧ ∀ y x, y < D.H → x < D.W → cs[y * D.W + x]? = some (.int .u8 (D.f y x))
theorem RF.below {q cb : Nat} {D : FD} {w w' : World} (h : RF q cb D w) (hb : Below w.heap.size w w') : RF q cb D w' :=
  ⟨h.ne, bk_below h.blk hb, let ⟨cs, a, b, c⟩ := h.ex; ⟨cs, bk_below a hb, b, c⟩⟩
theorem RF.keep {q cb : Nat} {D : FD} {w w' : World} (h : RF q cb D w) (h1 : w'.heap[q]? = w.heap[q]?) (h2 : w'.heap[cb]? = w.heap[cb]?) : RF q cb D w' :=
  ⟨h.ne, h1.trans h.blk, let ⟨cs, a, b, c⟩ := h.ex; ⟨cs, h2.trans a, b, c⟩⟩
theorem RF.lt {q cb : Nat} {D : FD} {w : World} (h : RF q cb D w) : q < w.heap.size ∧ cb < w.heap.size := ⟨bk_lt h.blk, let ⟨_, a, _⟩ := h.ex; bk_lt a⟩

/-- what the document's New comes to, if it makes a field -/
def RNewP (W H : Nat) (St : Int) (pk : Bool) (w : World) (e : Ending) (w' : World) : Prop := ∃ q cb, e = .returned (.tuple #[.pointer (some ⟨q, 0, none⟩), .int .i64 0]) ∧ RF q cb (zeroD W H St pk) w' ∧ w.heap.size ≤ q ∧ w.heap.size ≤ cb ∧ Below w.heap.size w w'

set_option maxRecDepth 20000 in
set_option maxHeartbeats 3000000 in
theorem RNew_yes (W H : Nat) (St : Int) (pk : Bool) (w : World) (h1 : 1 ≤ W) (h2 : W ≤ 65536) (h3 : 1 ≤ H) (h4 : H ≤ 65536) (h5 : 2 ≤ St) (h6 : St ≤ 256) (hp : pk = true → St ≤ 2) (hb : W * H ≤ 1048576) :
    Calls Try.prog 58 #[.int .i64 W, .int .i64 H, .int .i64 St, .bool pk] w (RNewP W H St pk w) := by
  have m0 : ((W * H : Nat) : Int) ≤ 1048576 := by omega
  rw [Int.natCast_mul] at m0
  have m1 := mul_le_big (W := W) (H := H) (by omega) (by omega) (by omega) (by omega)
  have hmk := run_makeN (P := Try.prog) Try.underlying32 u8info (W * H) (by omega) (by omega)
  simp only [Nat.mul_one, Int.natCast_mul] at hmk
  have hb1 := boxed w (.cells (madeCells #[.int .u8 0] (W * H)) 5)
  have K1 := bk_new w (.cells (madeCells #[.int .u8 0] (W * H)) 5)
  have fin : ∀ b1 : Below w.heap.size w (w.alloc (.cells (madeCells #[.int .u8 0] (W * H)) 5)), RNewP W H St pk w (.returned (.tuple #[.pointer (some ⟨(w.alloc (.cells (madeCells #[.int .u8 0] (W * H)) 5)).heap.size, 0, none⟩), .int .i64 0])) ((w.alloc (.cells (madeCells #[.int .u8 0] (W * H)) 5)).alloc (.cells #[.int .i64 W, .int .i64 H, .int .i64 St, .bool pk, .slice (some ⟨w.heap.size, 0, none⟩) (W * H) (W * H)] 114)) := fun b1 =>
    ⟨_, w.heap.size, rfl, ⟨by simp, bk_new _ _, _, bk_alloc K1 _, by simp [madeCells, zeroD], fun y x hy hx => made_at (z := .int .u8 0) rfl _ _ (Nat.lt_of_lt_of_le (Nat.add_lt_add_left hx _) (by show y * W + W ≤ W * H; rw [← Nat.succ_mul, Nat.mul_comm W H]; exact Nat.mul_le_mul_right W hy))⟩, by simp, Nat.le_refl _, b1.alloc b1.size _⟩
  simp only [World.size_alloc] at fin
  have HF := Lib.hid fin
  have HP := Lib.hid hp; clear hp fin K1
  cases pk
  all_goals
    try (have hp2 := HP.out rfl)
    go_enter Try.func58, Try.ntmps58
    go_wp2
    go_ret2
    exact HF.out hb1

end Go.Proofs.Ytkldffpdlkmncaa
