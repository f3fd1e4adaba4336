/- Cells kept as bytes: reading and writing one. -/
import Derived.Test.YtdpcmpfhjhbicaaFRep
set_option linter.unusedVariables false
set_option linter.unusedSimpArgs false
namespace Go.Proofs.Ytdpcmpfhjhbicaa
open Go.RowKit

/-- the value of a store of bytes -/
def byteV (gr H c : Nat) : Value := .agg #[.slice (some ⟨gr, 0, none⟩) H c]

theorem bget {gr W H c : Nat} {f : Nat → Nat → Int} {G : Nat → Nat} {w : World} (h : BytesAt gr W H f G w) (x y : Nat) (hx : x < W) (hy : y < H) (hH : H ≤ 65536) (hW : W ≤ 65536) :
    Calls Try.prog 121 #[.agg #[.slice (some ⟨gr, 0, none⟩) H c], .int .i64 x, .int .i64 y] w fun e w' => e = .returned (.int .u8 (f y x)) ∧ w' = w.alloc (.cells #[.slice (some ⟨gr, 0, none⟩) H c] 124) := by
  have h1 := h.below (boxed w (.cells #[.slice (some ⟨gr, 0, none⟩) H c] 124))
  obtain ⟨c1, hc1⟩ := h1.rowcell y hy
  have hc2 := h1.cell y x hy hx
  have H1 := Lib.hid h1; have H0 := Lib.hid h; clear h h1
  go_enter Try.func121, Try.ntmps121
  go_wp2
  go_ret
  exact ⟨rfl, rfl⟩

theorem bset {gr W H c : Nat} {f : Nat → Nat → Int} {G : Nat → Nat} {w : World} (h : BytesAt gr W H f G w) (x y : Nat) (s : Int) (hx : x < W) (hy : y < H) (hH : H ≤ 65536) (hW : W ≤ 65536) :
    Calls Try.prog 122 #[.agg #[.slice (some ⟨gr, 0, none⟩) H c], .int .i64 x, .int .i64 y, .int .u8 s] w fun e w' => e = .returned (.tuple #[]) ∧ w' = (w.alloc (.cells #[.slice (some ⟨gr, 0, none⟩) H c] 124)).setCell ⟨G y, x, none⟩ (.int .u8 s) := by
  have h1 := h.below (boxed w (.cells #[.slice (some ⟨gr, 0, none⟩) H c] 124))
  obtain ⟨c1, hc1⟩ := h1.rowcell y hy
  have hc2 := h1.cell y x hy hx
  have hf2 := h1.free y hy x
  have H1 := Lib.hid h1; have H0 := Lib.hid h; clear h h1
  go_enter Try.func122, Try.ntmps122
  go_wp2
  go_end0
  exact ⟨rfl, rfl⟩
end Go.Proofs.Ytdpcmpfhjhbicaa
