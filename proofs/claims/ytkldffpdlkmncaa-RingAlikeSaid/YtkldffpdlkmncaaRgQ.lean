/- ring: a field of a topology's sides (filled). -/
import Derived.Test.YtkldffpdlkmncaaRgP
import Derived.Test.YtkldffpdlkmncaaKept
set_option linter.unusedVariables false
set_option linter.unusedSimpArgs false
namespace Go.Proofs.Ytkldffpdlkmncaa
open Go.RowKit Go.Viv

def filSt (states : Int) (pk : Bool) : Int := if pk then 2 else 2 + states % 255
/-- what filled comes to -/
def FilledP (W H : Nat) (St : Int) (pk : Bool) (l : List Int) (w : World) (e : Ending) (w' : World) : Prop :=
  ∃ g S, e = .returned (.tuple #[.pointer (some ⟨g, 0, none⟩), .bool true]) ∧ Fld g (keptD W H St pk l) S w' ∧ (∀ b, S b → w.heap.size ≤ b) ∧ Below w.heap.size w w'

set_option maxRecDepth 20000 in
set_option maxHeartbeats 4000000 in
theorem filled_calls {k t s : Int} {W H : Nat} (states : Int) (pk : Bool) (A : Option Addr) (n c : Nat) (l : List Int) (w : World) (hW : 1 ≤ W ∧ W ≤ 9) (hH : 1 ≤ H ∧ H ≤ 9) (bS : -9223372036854775808 ≤ states ∧ states ≤ 9223372036854775807)
    (hn : l.length = n) (hnb : n ≤ 9223372036854775807) (hA : 0 < n → ∃ b off, A = some ⟨b, off, none⟩) (hr : Rd w A (l.map (.int .u8))) (hbl : ∀ z ∈ l, 0 ≤ z ∧ z ≤ 255) :
    Calls Try.prog 22 #[topoV k W H t s, .int .i64 states, .bool pk, .slice A n c] w (FilledP W H (filSt states pk) pk l w) := by
  have K0 := bk_new w (.cells #[.int .u8 k, .int .i64 W, .int .i64 H, .int .u8 t, .int .i64 s] 23)
  have B0 := boxed w (.cells #[.int .u8 k, .int .i64 W, .int .i64 H, .int .u8 t, .int .i64 s] 23)
  have C1 := Lib.hid (fun w => up_calls states 255 w (by omega) (by omega) bS.1 bS.2)
  have e1 := Int.emod_nonneg states (show (255 : Int) ≠ 0 by omega); have e2 := Int.emod_lt_of_pos states (show (0 : Int) < 255 by omega)
  obtain ⟨st, hst⟩ : ∃ q, 2 + states % 255 = q := ⟨_, rfl⟩
  have st1 : 2 ≤ st ∧ st ≤ 256 := by omega
  have v1 : IntKind.i64.wrap (2 + states % 255) = st := by rw [hst, IntKind.wrap_i64]; omega
  have HF : Hid (filSt states pk = if pk then 2 else st) := by show _ = _; unfold filSt; rw [hst]
  have HR := Lib.hid (hr.below B0)
  have HRw := Lib.hid hr
  clear hst e1 e2 hr
  go_enter Try.func22, Try.ntmps22
  go_wp2_with (first | fail)
  generalize (w.alloc (.cells #[.int .u8 k, .int .i64 W, .int .i64 H, .int .u8 t, .int .i64 s] 23)) = W0 at *
  have k0 := bk_cell K0
  apply share
  · intro rest
    go_region_held3 (fun w' => w'.cell? ⟨w.heap.size, 1, none⟩ = some (.int .i64 W) ∧ w'.cell? ⟨w.heap.size, 2, none⟩ = some (.int .i64 H))
      (first | go_keep)
      ((go_at_call 49; ((with_reducible refine (C1.out _).mono ?_); rintro e w' ⟨rfl, rfl⟩)))
    all_goals exact rest
  have KT := bk_drew (bk_new W0 (.cells #[.int .i64 W, .int .i64 H, .int .i64 st, .bool pk, .slice A n c] 70))
  have HB := Lib.hid ((B0.alloc B0.size (.cells #[.int .i64 W, .int .i64 H, .int .i64 st, .bool pk, .slice A n c] 70)).drew)
  have HR2 := Lib.hid ((HR.out.below (boxed W0 (.cells #[.int .i64 W, .int .i64 H, .int .i64 st, .bool pk, .slice A n c] 70))).below (Below.refl _ _).drew)
  have hs0 := B0.size
  generalize (W0.alloc (.cells #[.int .i64 W, .int .i64 H, .int .i64 st, .bool pk, .slice A n c] 70)).drew = W1 at *
  generalize W0.heap.size = tb at *
  clear K0 B0 k0 C1 v1 HR
  have kt := bk_cell KT; have kf := bk_free KT
  have hm : W * H ≤ 1048576 := Nat.le_trans (Nat.mul_le_mul hW.2 hH.2) (by decide)
  cases pk
  · simp only [Bool.false_eq_true, if_false] at HF
    go_wp2_with (first | fail)
    refine (Kept_yes W H st false A n c l W1 (by omega) (by omega) (by omega) (by omega) (by omega) (by omega) (by simp) hm hn hnb hA HR2.out hbl).mono ?_
    rintro e w4 ⟨g, q, cb, S, rfl, hF4, hRF, hS4, hq4, hc4, hn1, hn2, hb4⟩
    have HF4 := Lib.hid hF4
    clear hF4 hRF
    go_wp2
    go_ret2
    refine ⟨g, S, rfl, by rw [HF.out]; exact HF4.out, fun b hb => by have := hS4 b hb; have := HB.out.size; omega, next HB.out hb4⟩
  · simp only [if_true] at HF
    have KT2 : (W1.setCell ⟨tb, 2, none⟩ (.int .i64 2)).heap[tb]? = some (.cells #[.int .i64 W, .int .i64 H, .int .i64 2, .bool true, .slice A n c] 70 (0, 0)) := bk_eq (bk_set KT 2 (.int .i64 2)) (by simp)
    have kt2 := bk_cell KT2
    have HB2 := Lib.hid (HB.out.setCell (p := ⟨tb, 2, none⟩) hs0 (.int .i64 2))
    go_wp2_with (first | fail)
    refine (Kept_yes W H 2 true A n c l _ (by omega) (by omega) (by omega) (by omega) (by omega) (by omega) (by simp) hm hn hnb hA (HRw.out.below HB2.out) hbl).mono ?_
    rintro e w4 ⟨g, q, cb, S, rfl, hF4, hRF, hS4, hq4, hc4, hn1, hn2, hb4⟩
    have HF4 := Lib.hid hF4
    clear hF4 hRF
    go_wp2
    go_ret2
    refine ⟨g, S, rfl, by rw [HF.out]; exact HF4.out, fun b hb => by have := hS4 b hb; have := HB2.out.size; omega, next HB2.out hb4⟩
end Go.Proofs.Ytkldffpdlkmncaa
