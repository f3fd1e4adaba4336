/- Cells kept as bits: clear, fresh, copied. -/
import Derived.Test.YtdpcmpfhjhbicaaFBit
set_option linter.unusedVariables false
set_option linter.unusedSimpArgs false
namespace Go.Proofs.Ytdpcmpfhjhbicaa
open Go.RowKit

theorem zeroU64 (w : World) : (zeroValue 128).run Try.prog w = .ok (.int .u64 0) w := by kernel_rfl

theorem BitsAt.clr {gr W H : Nat} {f : Nat → Nat → Int} {G : Nat → Nat} {w : World} {k : Nat} (h : BitsAt gr W H (clrF k f) G w) (hk : k < H) {cur : Array Value} (hc : w.heap[G k]? = some (.cells cur 128 (0, 0))) (hW : nw W ≤ cur.size) :
    BitsAt gr W H (clrF (k + 1) f) G (w.setRow (G k) (cleared (.int .u64 0) (nw W) cur)) := by
  refine ⟨?_, fun y hy => ?_, h.inj⟩
  · obtain ⟨c2, h2, r⟩ := h.rows
    refine ⟨c2, bk_rowfar h2 ?_ _, r⟩
    rintro rfl
    rw [h2] at hc
    simp at hc
  · obtain ⟨c2, h2, r⟩ := h.row y hy
    by_cases e : y = k
    · subst e
      refine ⟨_, bk_row hc, fun i hi => ⟨0, by omega, ?_, fun j hj hl => ?_⟩⟩
      · rw [cleared_lt hW i hi]; rfl
      · simp [clrF]
    · refine ⟨c2, bk_rowfar h2 (fun e2 => e (h.inj _ _ hy hk e2)) _, fun i hi => ?_⟩
      obtain ⟨v, hv, hcv, hb⟩ := r i hi
      refine ⟨v, hv, hcv, fun j hj hl => ?_⟩
      rw [← hb j hj hl]
      simp only [clrF]
      by_cases h3 : y < k
      · rw [if_pos h3, if_pos (by omega)]
      · rw [if_neg h3, if_neg (by omega)]

set_option maxHeartbeats 1000000 in
theorem tclear {gr W H c : Nat} {f : Nat → Nat → Int} {G : Nat → Nat} {w : World} (h : BitsAt gr W H f G w) (hH : H ≤ 65536) (hW : W ≤ 65536) (hW0 : 0 < W) :
    Calls Try.prog 115 #[.agg #[.slice (some ⟨gr, 0, none⟩) H c]] w fun e w' => e = .returned (.tuple #[]) ∧ BitsAt gr W H (fun _ _ => 0) G w' ∧ Wrote (bytesS gr H G) w w' := by
  have h1 := h.below (boxed w (.cells #[.slice (some ⟨gr, 0, none⟩) H c] 117))
  have hw1 : Wrote (bytesS gr H G) w (w.alloc (.cells #[.slice (some ⟨gr, 0, none⟩) H c] 117)) := Wrote.of_below (boxed _ _)
  have H0 := Lib.hid h; clear h
  have hn0 := nw_pos hW0
  go_enter Try.func115, Try.ntmps115
  go_wp2_with (first | fail)
  go_loopw [7] (fun i wr => ∃ k : Nat, i = .int .i64 k ∧ k ≤ H ∧ Hid (BitsAt gr W H (clrF k f) G wr) ∧ Wrote (bytesS gr H G) w wr) (fun i _ => H - (intOf i).toNat)
  case atStart => exact ⟨0, rfl, Nat.zero_le _, h1.cong (fun y x _ _ => by simp [clrF]), hw1⟩
  clear h1 hw1
  obtain ⟨k, rfl, hk, HB, hw⟩ := hrel
  by_cases hlt : k < H
  · obtain ⟨c1, hc1⟩ := HB.out.rowcell k hlt
    have hc0 := HB.out.ncell k hlt
    obtain ⟨cur, hc2, hr2⟩ := HB.out.row k hlt
    have hcs : nw W ≤ cur.size := by
      obtain ⟨v, _, hv, _⟩ := hr2 (nw W - 1) (by omega)
      have := (Array.getElem?_eq_some_iff.1 hv).1
      omega
    have HR := Lib.hid hr2; clear hr2
    have hb2 := boxed wr (.cells #[.int .i64 W, .slice (some ⟨G k, 0, none⟩) (nw W) c1] 120)
    have hc3 := bk_below hc2 hb2
    go_wp2_with (first | (with_reducible refine wpList_clear rfl (.tmp 12) 118 128 (.int .u64 0) rfl Try.underlying118 zeroU64 rfl rfl (G k) (nw W) c1 cur 128 rfl hc3 hcs hn0 ?_))
    have R1 := Lib.hid ((HB.out.below hb2).clr hlt hc3 hcs)
    have R2 := (hw.alloc (.cells #[.int .i64 W, .slice (some ⟨G k, 0, none⟩) (nw W) c1] 120)).setRow (.inl (.inr ⟨k, hlt, rfl⟩)) (cleared (.int .u64 0) (nw W) cur)
    go_roundw
    case rel => exact ⟨k + 1, by go_num, by omega, R1, R2⟩
    case measure => simp [intOf]; omega
  · go_wp2
    go_end0
    obtain rfl : k = H := by omega
    exact ⟨rfl, HB.out.cong (fun y x hy _ => by simp [clrF, hy]), hw⟩
end Go.Proofs.Ytdpcmpfhjhbicaa
