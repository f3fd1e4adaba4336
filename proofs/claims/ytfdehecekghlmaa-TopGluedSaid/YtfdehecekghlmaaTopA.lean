/- iso.Back of a gluing map; iso.At, whatever comes. -/
import Derived.Test.YtfdehecekghlmaaTopM
set_option linter.unusedVariables false
set_option linter.unusedSimpArgs false
namespace Go.Proofs.Ytfdehecekghlmaa
open Go.RowKit Go.Viv

/-- a map in whole numbers comes back -/
def RetM (m : Mv) (w : World) (e : Ending) (w' : World) : Prop := ∃ xr xi yr yi : Nat, e = .returned (.tuple #[isoV xr xi m.f yr yi, .int .i64 0]) ∧ IsIso xr xi yr yi m.k m.x m.y ∧ Below w.heap.size w w'

theorem BackM_calls (m : Mv) (w : World) (hk : m.k = 0 ∨ m.k = 2) (n1 : nearI m.x = true) (n2 : nearI m.y = true) :
    Calls Try.prog 35 #[isoV (mvR m.k) 0 m.f (fl m.x) (fl m.y)] w (RetM (bckM m) w) := by
  have b1 := nearI_abs n1; have b2 := nearI_abs n2
  have hi : IsIso (mvR m.k) 0 (fl m.x) (fl m.y) m.k m.x m.y := mvR_isIso hk (isW_fl _ (by omega)) (isW_fl _ (by omega))
  obtain ⟨mk, mf, mx, my⟩ := m
  cases mf
  · have h := Back_false (mvR mk) 0 (fl mx) (fl my) mk mx my w hi n1 n2
    exact h
  · have h := Back_true (mvR mk) 0 (fl mx) (fl my) mk mx my w hi n1 n2
    exact h

/-- where a place comes to; 5: too far -/
theorem AtM_calls (tr ti mr mi : Nat) (f : Bool) (k X Y x y : Int) (w : World) (h : IsIso tr ti mr mi k X Y) (n1 : nearI X = true) (n2 : nearI Y = true) (hp1 : nearI x = true) (hp2 : nearI y = true) :
    Calls Try.prog 29 #[isoV tr ti f mr mi, pt x y] w (Ret (if (nearI (linX k f x y + X) && nearI (linY k f x y + Y)) = true then .tuple #[pt (linX k f x y + X) (linY k f x y + Y), .int .i64 0] else .tuple #[pt 0 0, .int .i64 5]) w) := by
  split
  · rename_i hq
    exact At_ok tr ti mr mi f k X Y x y w h n1 n2 hp1 hp2 hq
  · rename_i hq
    exact At_out tr ti mr mi f k X Y x y w h n1 n2 hp1 hp2 (by simpa using hq)
end Go.Proofs.Ytfdehecekghlmaa
