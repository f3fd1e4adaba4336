/- Line. -/
import Derived.Test.YtkldffpdlkmncaaFSet
set_option linter.unusedVariables false
set_option linter.unusedSimpArgs false
namespace Go.Proofs.Ytkldffpdlkmncaa
open Go.RowKit

/-- the field's store in a later world -/
theorem FieldAt.later {g gr : Nat} {D : FD} {G : Nat → Nat} {w w' : World} (a : FieldAt g D gr G w) (hb : Below w.heap.size w w') : FieldAt g D gr G w' := by
  obtain ⟨c, hc⟩ := a.fld
  exact ⟨⟨c, bk_below hc hb⟩, a.st.keep fun b hS => hb.block b (a.st.lt b hS), a.ok⟩

/-- a row's numbers -/
def rowI (D : FD) (y : Nat) : List Int := (List.range D.W).map fun x => D.f y x
theorem rowI_length (D : FD) (y : Nat) : (rowI D y).length = D.W := by simp [rowI]
theorem rowI_at {D : FD} {y x : Nat} (h : x < D.W) : (rowI D y)[x]? = some (D.f y x) := by simp [rowI, h]

theorem Line_no {g : Nat} {D : FD} {S : Nat → Prop} {w : World} (y : Int) (h : Fld g D S w) (hy : hasB D.W D.H 0 y = false) :
    Calls Try.prog 61 #[.pointer (some ⟨g, 0, none⟩), .int .i64 y] w fun e w' => e = .returned (.tuple #[.slice none 0 0, .int .i64 130]) ∧ Below w.heap.size w w' := by
  obtain ⟨gr, G, a, hS⟩ := h.ex
  obtain ⟨c, hc⟩ := a.fld
  have H0 := none_no h
  have hcc := bk_cell hc
  have HB := Lib.hid hy
  clear hy a hS hc h
  go_enter Try.func61, Try.ntmps61
  go_wp2_with (first | (go_at_call 54; ((with_reducible refine H0.mono ?_); rintro e w' ⟨rfl, rfl⟩)) | (go_at_call 55; ((with_reducible refine (has_calls _ _ _ _ _ _).mono ?_); rintro e w1 ⟨rfl, hb1⟩; rw [HB.out])))
  go_ret2
  exact ⟨rfl, hb1⟩

set_option maxRecDepth 20000 in
set_option maxHeartbeats 2000000 in
theorem Line_yes {g : Nat} {D : FD} {S : Nat → Prop} {w : World} (y : Nat) (h : Fld g D S w) (hy : y < D.H) :
    Calls Try.prog 61 #[.pointer (some ⟨g, 0, none⟩), .int .i64 y] w fun e w' => ∃ go cs, e = .returned (.tuple #[.slice (some ⟨go, 0, none⟩) D.W D.W, .int .i64 0]) ∧ w.heap.size ≤ go ∧ w'.heap[go]? = some (.cells cs 5 (0, 0)) ∧ cs.toList = (rowI D y).map (.int .u8) ∧ Below w.heap.size w w' := by
  obtain ⟨gr, G, a, hS⟩ := h.ex
  obtain ⟨c, hc⟩ := a.fld
  have H0 := none_no h
  have hcc := bk_cell hc
  have b1 := a.ok.h1; have b2 := a.ok.w1; have b3 := a.ok.w0
  have HB := Lib.hid (hasB_yes (W := D.W) (H := D.H) (x := 0) (y := y) (by omega) (by omega) (by omega) (by omega))
  have hmk := run_makeN (P := Try.prog) Try.underlying32 u8info D.W (by omega) (by omega)
  simp only [Nat.mul_one] at hmk
  have hm := meth_get D.pk (.slice (some ⟨gr, 0, none⟩) D.H c)
  have he := ent_get D.pk
  have HA := Lib.hid a; have HC := Lib.hid hc
  clear a hS hc h
  go_enter Try.func61, Try.ntmps61
  go_wp2_with (first | (go_at_call 54; ((with_reducible refine H0.mono ?_); rintro e w' ⟨rfl, rfl⟩)) | (go_at_call 55; ((with_reducible refine (has_calls _ _ _ _ _ _).mono ?_); rintro e w1 ⟨rfl, hb1⟩; rw [HB.out]; have hc1 := bk_cell (bk_below HC.out hb1))))
  have KO := bk_new w1 (.cells (madeCells #[.int .u8 0] D.W) 5)
  have hbw := hb1.alloc hb1.size (.cells (madeCells #[.int .u8 0] D.W) 5)
  have hs1 := hb1.size
  go_loopw [25] (fun i wr => ∃ (k : Nat), i = .int .i64 k ∧ k ≤ D.W ∧ Hid (∃ cur, wr.heap[w1.heap.size]? = some (.cells cur 5 (0, 0)) ∧ cur.size = D.W ∧ ∀ j, j < k → cur[j]? = some (.int .u8 (D.f y j))) ∧ Below w.heap.size w wr) (fun i _ => D.W - (intOf i).toNat)
  case atStart => exact ⟨0, rfl, Nat.zero_le _, ⟨_, KO, by simp [madeCells], by simp⟩, hbw⟩
  clear KO hbw hc1
  obtain ⟨k, rfl, hk, HQ, hB⟩ := hrel
  obtain ⟨cur, KO, hsz, hcur⟩ := HQ.out
  by_cases hlt : k < D.W
  · have hc1 := bk_cell (bk_below HC.out hB)
    have HSZ := Lib.hid hsz; have HCU := Lib.hid hcur; clear hsz hcur
    go_wp2_with (first | fail)
    refine (store_get (HA.out.later hB).st k y hlt hy b1 b2).mono ?_
    rintro e w2 ⟨rfl, hb2⟩
    have KO2 := bk_below KO hb2
    have hco := bk_cell KO2 k
    rw [Array.getElem?_eq_getElem (by rw [HSZ.out]; exact hlt)] at hco
    have hfo := bk_free KO2 k
    have hR : Hid (∃ cur', (w2.setCell ⟨w1.heap.size, k, none⟩ (.int .u8 (D.f y k))).heap[w1.heap.size]? = some (.cells cur' 5 (0, 0)) ∧ cur'.size = D.W ∧ ∀ j, j < k + 1 → cur'[j]? = some (.int .u8 (D.f y j))) := by
      refine ⟨_, bk_set KO2 k _, by simp [HSZ.out], fun j hj => ?_⟩
      by_cases e : j = k
      · subst e; exact aset_same (by rw [HSZ.out]; exact hlt) _
      · rw [Array.getElem?_setIfInBounds_ne (by omega)]; exact HCU.out j (by omega)
    have hB2 := (hB.trans (hb2.mono hB.size)).setCell (p := ⟨w1.heap.size, k, none⟩) hs1 (.int .u8 (D.f y k))
    go_wp2
    go_roundw
    case rel => exact ⟨k + 1, by go_num, by omega, hR, hB2⟩
    case measure => simp [intOf]; omega
  · obtain rfl : k = D.W := by omega
    have HSZ := Lib.hid hsz; have HCU := Lib.hid hcur; clear hsz hcur
    go_wp2
    go_ret2
    refine ⟨_, _, rfl, hs1, KO, ?_, hB⟩
    apply List.ext_getElem?
    intro j
    by_cases hj : j < D.W
    · rw [List.getElem?_map, rowI_at hj]
      simpa using HCU.out j hj
    · rw [List.getElem?_eq_none (by simp [HSZ.out]; omega), List.getElem?_eq_none (by simp [rowI]; omega)]
end Go.Proofs.Ytkldffpdlkmncaa
