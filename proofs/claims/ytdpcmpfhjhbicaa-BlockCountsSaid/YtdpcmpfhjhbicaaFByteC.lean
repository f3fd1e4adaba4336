/- Cells kept as bytes: clear. -/
import Derived.Test.YtdpcmpfhjhbicaaFByte
import Derived.Test.YtdpcmpfhjhbicaaClear
set_option linter.unusedVariables false
set_option linter.unusedSimpArgs false
namespace Go.Proofs.Ytdpcmpfhjhbicaa
open Go.RowKit

theorem zeroU8 (w : World) : (zeroValue 5).run Try.prog w = .ok (.int .u8 0) w := by kernel_rfl

/-- the first rows are cleared -/
def clrF (k : Nat) (f : Nat → Nat → Int) : Nat → Nat → Int := fun y x => if y < k then 0 else f y x
theorem BytesAt.clr {gr W H : Nat} {f : Nat → Nat → Int} {G : Nat → Nat} {w : World} {k : Nat} (h : BytesAt gr W H (clrF k f) G w) (hk : k < H) {cur : Array Value} (hc : w.heap[G k]? = some (.cells cur 5 (0, 0))) (hW : W ≤ cur.size) :
    BytesAt gr W H (clrF (k + 1) f) G (w.setRow (G k) (cleared (.int .u8 0) W cur)) := by
  refine ⟨?_, fun y hy => ?_, h.inj⟩
  · obtain ⟨c2, h2, r⟩ := h.rows
    refine ⟨c2, bk_rowfar h2 ?_ _, r⟩
    rintro rfl
    rw [h2] at hc
    simp at hc
  · obtain ⟨c2, h2, r⟩ := h.row y hy
    by_cases e : y = k
    · subst e
      refine ⟨_, bk_row hc, fun x hx => ?_⟩
      rw [cleared_lt hW x hx]
      simp [clrF]
    · refine ⟨c2, bk_rowfar h2 (fun e2 => e (h.inj _ _ hy hk e2)) _, fun x hx => ?_⟩
      rw [r x hx]
      simp only [clrF]
      by_cases h3 : y < k
      · rw [if_pos h3, if_pos (by omega)]
      · rw [if_neg h3, if_neg (by omega)]

theorem Wrote.setRow {S : Nat → Prop} {w w' : World} (h : Wrote S w w') {g : Nat} (hg : S g ∨ w.heap.size ≤ g) (cs : Array Value) : Wrote S w (w'.setRow g cs) :=
  ⟨h.os, h.tape, h.output, by simpa [World.setRow] using h.size, fun k hk hn => (setRow_other w' g k cs (fun e => by subst e; rcases hg with hg | hg; exact hn hg; omega)).trans (h.block k hk hn)⟩

set_option maxHeartbeats 1000000 in
theorem bclear {gr W H c : Nat} {f : Nat → Nat → Int} {G : Nat → Nat} {w : World} (h : BytesAt gr W H f G w) (hH : H ≤ 65536) (hW : W ≤ 65536) (hW0 : 0 < W) :
    Calls Try.prog 119 #[.agg #[.slice (some ⟨gr, 0, none⟩) H c]] w fun e w' => e = .returned (.tuple #[]) ∧ BytesAt gr W H (fun _ _ => 0) G w' ∧ Wrote (bytesS gr H G) w w' := by
  have h1 := h.below (boxed w (.cells #[.slice (some ⟨gr, 0, none⟩) H c] 124))
  have hw1 : Wrote (bytesS gr H G) w (w.alloc (.cells #[.slice (some ⟨gr, 0, none⟩) H c] 124)) := Wrote.of_below (boxed _ _)
  have H0 := Lib.hid h; clear h
  go_enter Try.func119, Try.ntmps119
  go_wp2_with (first | fail)
  go_loopw [7] (fun i wr => ∃ k : Nat, i = .int .i64 k ∧ k ≤ H ∧ Hid (BytesAt gr W H (clrF k f) G wr) ∧ Wrote (bytesS gr H G) w wr) (fun i _ => H - (intOf i).toNat)
  case atStart => exact ⟨0, rfl, Nat.zero_le _, h1.cong (fun y x _ _ => by simp [clrF]), hw1⟩
  clear h1 hw1
  obtain ⟨k, rfl, hk, HB, hw⟩ := hrel
  by_cases hlt : k < H
  · obtain ⟨c1, hc1⟩ := HB.out.rowcell k hlt
    obtain ⟨cur, hc2, hr2⟩ := HB.out.row k hlt
    have hcs : W ≤ cur.size := by
      have := (Array.getElem?_eq_some_iff.1 (hr2 (W - 1) (by omega))).1
      omega
    have HR := Lib.hid hr2; clear hr2
    go_wp2_with (first | (with_reducible refine wpList_clear rfl (.tmp 11) 44 5 (.int .u8 0) rfl Try.underlying44 zeroU8 rfl rfl (G k) W c1 cur 5 rfl hc2 hcs hW0 ?_))
    have R1 := Lib.hid (HB.out.clr hlt hc2 hcs)
    have R2 := hw.setRow (.inl (.inr ⟨k, hlt, rfl⟩)) (cleared (.int .u8 0) W cur)
    go_roundw
    case rel => exact ⟨k + 1, by go_num, by omega, R1, R2⟩
    case measure => simp [intOf]; omega
  · go_wp2
    go_end0
    obtain rfl : k = H := by omega
    exact ⟨rfl, HB.out.cong (fun y x hy _ => by simp [clrF, hy]), hw⟩
end Go.Proofs.Ytdpcmpfhjhbicaa
