/- hood: Offsets. -/
import Derived.Test.YtkldffpdlkmncaaHdA
set_option linter.unusedVariables false
set_option linter.unusedSimpArgs false
namespace Go.Proofs.Ytkldffpdlkmncaa
open Go.RowKit Go.Viv

theorem hdPt_info : (Try.prog.info? 56).map (fun i => (i.zero, i.size, i.bytes)) = some (some (.agg #[.int .i64 0, .int .i64 0]), 2, 16) := by kernel_rfl
theorem hdL_le (k : Int) (j : Nat) : (hdL k j).length ≤ j := by
  unfold hdL
  exact Nat.le_trans (List.length_filterMap_le _ _) (by simp)

/-- what Offsets comes to -/
def HdOffP (k : Int) (w : World) (e : Ending) (w' : World) : Prop :=
  ∃ v, e = .returned (.tuple #[v, .int .i64 0]) ∧ w'.ownsRow w.heap.size 56 2 v (hdL k 8).length (ptsV (hdL k 8)) ∧ Below w.heap.size w w'

set_option maxRecDepth 20000 in
set_option maxHeartbeats 4000000 in
theorem hdOff_no {k : Int} (hk : hdE k ≠ 0) (w : World) : Calls Try.prog 48 #[.int .u8 k] w (Ret (.tuple #[.slice none 0 0, .int .i64 (hdE k)]) w) := by
  obtain ⟨E, hE⟩ : ∃ E, hdE k = E := ⟨_, rfl⟩
  have hA : inA k = #[.bool false, .bool false, .bool false, .bool false, .bool false, .bool false, .bool false, .bool false] := by unfold inA; rw [if_neg hk]
  have CW := hdWithin_calls k w
  rw [hE, hA] at CW
  rw [hE] at hk ⊢
  have hE1 : (E != 0) = true := bne_iff_ne.2 hk
  have CW := Lib.hid CW
  clear hk hE hA
  go_enter Try.func48, Try.ntmps48
  go_wp2_with (first | (go_at_call 71; ((with_reducible refine CW.out.mono ?_); rintro e w1 ⟨rfl, hb1⟩)))
  go_ret2
  exact Ret.of rfl (hb1.alloc hb1.size _)

set_option maxRecDepth 20000 in
set_option maxHeartbeats 4000000 in
theorem hdOff_yes {k : Int} (hk : hdE k = 0) (w : World) : Calls Try.prog 48 #[.int .u8 k] w (HdOffP k w) := by
  obtain ⟨b0, b1, b2, b3, b4, b5, b6, b7, hA⟩ : ∃ b0 b1 b2 b3 b4 b5 b6 b7 : Bool, inA k = #[.bool b0, .bool b1, .bool b2, .bool b3, .bool b4, .bool b5, .bool b6, .bool b7] := by
    unfold inA; rw [if_pos hk]; exact ⟨_, _, _, _, _, _, _, _, rfl⟩
  have CW := hdWithin_calls k w
  rw [hk, hA] at CW
  have HIN : Hid (∀ j, j < 8 → (#[.bool b0, .bool b1, .bool b2, .bool b3, .bool b4, .bool b5, .bool b6, .bool b7] : Array Value)[j]? = some (.bool (hdB k j))) := fun j hj => by rw [← hA]; exact inA_at hk hj
  have CW := Lib.hid CW
  clear hk hA
  go_enter Try.func48, Try.ntmps48
  go_wp2_with (first | (go_at_call 71; ((with_reducible refine CW.out.mono ?_); rintro e w1 ⟨rfl, hb1⟩)) | (go_at_call 72; ((with_reducible refine (hdAll_calls _).mono ?_); rintro e w2 ⟨rfl, hb2⟩; unfold allA)))
  have KI := Lib.hid (bk_alloc (bk_below (bk_new w1 (.cells #[.bool b0, .bool b1, .bool b2, .bool b3, .bool b4, .bool b5, .bool b6, .bool b7] 125)) hb2) (.cells allA 128))
  have KA := Lib.hid (bk_new w2 (.cells allA 128))
  have hBw := next hb1 (box hb2)
  have HB := Lib.hid (hBw.alloc hBw.size (.cells allA 128))
  clear CW hb1 hb2 hBw
  change Code.wp Try.prog _ _ _ (w2.alloc (.cells allA 128))
  have hs0 := HB.out.size
  generalize w2.alloc (.cells allA 128) = W0 at *
  generalize w1.heap.size = BI at *
  generalize w2.heap.size = BA at *
  go_loopw [7, 20] (fun l vj wr => ∃ j : Nat, vj = .int .i64 (j : Int) ∧ j ≤ 8 ∧ Hid (wr.ownsRow w.heap.size 56 2 l (hdL k j).length (ptsV (hdL k j))) ∧ Hid (wr.heap[BI]? = some (.cells #[.bool b0, .bool b1, .bool b2, .bool b3, .bool b4, .bool b5, .bool b6, .bool b7] 125 (0, 0))) ∧ Hid (wr.heap[BA]? = some (.cells allA 128 (0, 0))) ∧ Hid (Below w.heap.size w wr)) (fun _ vj _ => 8 - (intOf vj).toNat)
  case atStart => exact ⟨0, rfl, by omega, World.ownsRow_nil _ _ _ _, KI, KA, HB⟩
  clear KI KA HB hs0
  obtain ⟨j, rfl, hj, HO, KI, KA, HB⟩ := hrel
  refine wp_hideQ fun Q1 hQ1 => ?_
  by_cases hlt : j < 8
  · have hji : (j : Int) < 8 := by omega
    have kx := (bk_cell KA.out (j * 2)).trans (allA_at hlt).1
    have ky := (bk_cell KA.out (j * 2 + 1)).trans (allA_at hlt).2
    have kx1 := (bk_cell (bk_alloc KA.out (.cells #[.int .i64 0, .int .i64 0] 56)) (j * 2)).trans (allA_at hlt).1
    have ky1 := (bk_cell (bk_alloc KA.out (.cells #[.int .i64 0, .int .i64 0] 56)) (j * 2 + 1)).trans (allA_at hlt).2
    have ki := (bk_cell KI.out j).trans (HIN.out j hlt)
    have HL := Lib.hid (hdL_succ k j)
    have hle := hdL_le k j
    obtain ⟨x, hx⟩ : ∃ x, hdX j = x := ⟨_, rfl⟩
    obtain ⟨y, hy⟩ : ∃ y, hdY j = y := ⟨_, rfl⟩
    rw [hx] at kx kx1; rw [hy] at ky ky1
    rw [hx, hy] at HL
    clear hx hy
    have HB2 := Lib.hid ((HB.out.alloc HB.out.size (.cells #[.int .i64 x, .int .i64 y] 56)).drew)
    have HO2 := Lib.hid (own_below (own_below HO.out (boxed wr (.cells #[.int .i64 x, .int .i64 y] 56))) (Below.refl _ _).drew)
    have KI2 := Lib.hid (bk_drew (bk_alloc KI.out (.cells #[.int .i64 x, .int .i64 y] 56)))
    have KA2 := Lib.hid (bk_drew (bk_alloc KA.out (.cells #[.int .i64 x, .int .i64 y] 56)))
    have KP2 := Lib.hid (bk_drew (bk_new wr (.cells #[.int .i64 x, .int .i64 y] 56)))
    obtain ⟨b, hb⟩ : ∃ b, hdB k j = b := ⟨_, rfl⟩
    rw [hb] at HL ki
    have ki2 : (wr.alloc (.cells #[.int .i64 x, .int .i64 y] 56)).drew.cell? ⟨BI, j, none⟩ = some (.bool b) := (bk_cell KI2.out j).trans (by rw [HIN.out j hlt, hb])
    clear hb KI KA HO HB
    clear ki
    cases b
    · simp only [Bool.false_eq_true, if_false, List.append_nil] at HL
      go_wp2_with (first | fail)
      go_region
      go_wp2_with (first | fail)
      refine hQ1.out _ _ _ ?_
      refine And.intro ?_ ?measure
      (repeat apply Exists.intro)
      refine ⟨?rel, rfl⟩
      case rel => exact ⟨j + 1, by first | rfl | go_num, by omega, by show World.ownsRow _ _ _ _ _ _ _; rw [HL.out]; exact HO2.out, KI2.out, KA2.out, HB2.out⟩
      case measure => simp [intOf]; omega
    · simp only [if_true] at HL
      have HO3 := Lib.hid (own_below HO2.out (boxed _ (.cells #[.int .i64 x, .int .i64 y] 56)))
      have KI3 := Lib.hid (bk_alloc KI2.out (.cells #[.int .i64 x, .int .i64 y] 56))
      have KA3 := Lib.hid (bk_alloc KA2.out (.cells #[.int .i64 x, .int .i64 y] 56))
      have KN3 : Hid (((wr.alloc (.cells #[.int .i64 x, .int .i64 y] 56)).drew.alloc (.cells #[.int .i64 x, .int .i64 y] 56)).heap[wr.heap.size + 1]? = some (.cells #[.int .i64 x, .int .i64 y] 56 (0, 0))) := bk_newn _ _ _ (by simp [World.drew])
      have HB3 := Lib.hid (HB2.out.alloc HB2.out.size (.cells #[.int .i64 x, .int .i64 y] 56))
      have hs3 := HB3.out.size
      have kp2 := bk_cell KP2.out
      go_wp2_with (first | fail)
      go_region
      go_wp2_with (first | (at_builtin; (refine app_own rfl (.tmp 29) (.tmp 31) 93 rfl w.heap.size 56 _ 2 16 Try.underlying93 hdPt_info rfl (by decide) (by decide) _ _ _ (by rfl) HO3.out (by omega) _ 56 #[.int .i64 x, .int .i64 y] (by rfl) KN3.out rfl (by intro z hz; simp at hz; rcases hz with rfl | rfl <;> rfl) hs3 ?_); intro v' w3 hown3 hb3 hgr3))
      have KI4 := Lib.hid ((hgr3.block BI (bk_lt KI3.out) (own_ne HO3.out KI3.out (by decide))).trans KI3.out)
      have KA4 := Lib.hid ((hgr3.block BA (bk_lt KA3.out) (own_ne HO3.out KA3.out (by decide))).trans KA3.out)
      have HB4 := Lib.hid (HB3.out.trans hb3)
      have HO4 := Lib.hid hown3
      clear hown3 hb3 hgr3
      go_wp2_with (first | fail)
      refine hQ1.out _ _ _ ?_
      refine And.intro ?_ ?measure
      (repeat apply Exists.intro)
      refine ⟨?rel, rfl⟩
      case rel => exact ⟨j + 1, by first | rfl | go_num, by omega, by show World.ownsRow _ _ _ _ _ _ _; rw [HL.out, ptsV_append, List.length_append]; exact HO4.out, KI4.out, KA4.out, HB4.out⟩
      case measure => simp [intOf]; omega
  · obtain rfl : j = 8 := by omega
    go_wp2_with (first | fail)
    refine hQ1.out _ _ _ ?_
    simp only [Exit.then, Exit.inBlock]
    go_wp2_with (first | fail)
    go_ret2
    exact ⟨_, rfl, HO.out, HB.out⟩
end Go.Proofs.Ytkldffpdlkmncaa
