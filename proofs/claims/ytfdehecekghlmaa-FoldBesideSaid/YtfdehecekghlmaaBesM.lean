/- FoldBeside, the plain law: beside is mutual on every small grid. -/
import Derived.Test.YtfdehecekghlmaaFoldJ
set_option linter.unusedVariables false
set_option linter.unusedSimpArgs false
namespace Go.Proofs.Ytfdehecekghlmaa
open Go.Viv

def bX (W i d : Nat) : Int := first W + ((i % W : Nat) : Int) + ((d % 3 : Nat) : Int) - 1
def bY (W H i d : Nat) : Int := first H + ((i / W : Nat) : Int) + ((d / 3 : Nat) : Int) - 1
/-- home numbers of the cell that a place of the grid or its ring is -/
def nU (k W H t s u v : Int) : Int := if gluedI k = true then cellU k W H t s u v else if k = 5 then ballU W u v else u
def nV (k W H t s u v : Int) : Int := if gluedI k = true then cellV k W H t s u v else if k = 5 then ballV W u v else v
def nOn (k W H u v : Int) : Bool := decide (k ≠ 1) || (onI u W && onI v H)
def bU (W i d : Nat) : Int := ((i % W : Nat) : Int) + ((d % 3 : Nat) : Int) - 1
def bV (W i d : Nat) : Int := ((i / W : Nat) : Int) + ((d / 3 : Nat) : Int) - 1
def besI (k : Int) (W H : Nat) (t s : Int) (i d : Nat) : Bool := nOn k W H (bU W i d) (bV W i d)
def besK (k : Int) (W H : Nat) (t s : Int) (i d : Nat) : Int := nU k W H t s (bU W i d) (bV W i d) + W * nV k W H t s (bU W i d) (bV W i d)
/-- the neighbours of a cell -/
def besN (k : Int) (W H : Nat) (t s : Int) (i : Nat) : List Nat := (List.range 9).filterMap fun d => if d ≠ 4 ∧ besI k W H t s i d = true then some (besK k W H t s i d).toNat else none
/-- who is beside whom -/
def besP (k : Int) (W H : Nat) (t s : Int) : List (Nat × Nat) := (List.range (W * H)).flatMap fun i => (besN k W H t s i).map fun j => (i, j)
def pwA (n : Nat) (l : List (Nat × Nat)) : Nat := l.foldl (fun m p => m + 16 ^ (n * p.1 + p.2)) 0
def pwB (n : Nat) (l : List (Nat × Nat)) : Nat := l.foldl (fun m p => m + 16 ^ (n * p.2 + p.1)) 0
def besOk (k : Int) (W H : Nat) (t s : Int) : Bool := Nat.beq (pwA (W * H) (besP k W H t s)) (pwB (W * H) (besP k W H t s))
def besWH (k W H : Nat) : Bool := (List.range 3).all fun t => (List.range 11).all fun s =>
  !decide (checkE (k : Int) ((W + 1 : Nat) : Int) ((H + 1 : Nat) : Int) t ((s : Int) - 5) = 0) || besOk k (W + 1) (H + 1) t ((s : Int) - 5)
set_option maxRecDepth 100000
theorem bes_1_0_0 : besWH 1 0 0 = true := by decide +kernel
theorem bes_1_0_1 : besWH 1 0 1 = true := by decide +kernel
theorem bes_1_0_2 : besWH 1 0 2 = true := by decide +kernel
theorem bes_1_0_3 : besWH 1 0 3 = true := by decide +kernel
theorem bes_1_0_4 : besWH 1 0 4 = true := by decide +kernel
theorem bes_1_0_5 : besWH 1 0 5 = true := by decide +kernel
theorem bes_1_1_0 : besWH 1 1 0 = true := by decide +kernel
theorem bes_1_1_1 : besWH 1 1 1 = true := by decide +kernel
theorem bes_1_1_2 : besWH 1 1 2 = true := by decide +kernel
theorem bes_1_1_3 : besWH 1 1 3 = true := by decide +kernel
theorem bes_1_1_4 : besWH 1 1 4 = true := by decide +kernel
theorem bes_1_1_5 : besWH 1 1 5 = true := by decide +kernel
theorem bes_1_2_0 : besWH 1 2 0 = true := by decide +kernel
theorem bes_1_2_1 : besWH 1 2 1 = true := by decide +kernel
theorem bes_1_2_2 : besWH 1 2 2 = true := by decide +kernel
theorem bes_1_2_3 : besWH 1 2 3 = true := by decide +kernel
theorem bes_1_2_4 : besWH 1 2 4 = true := by decide +kernel
theorem bes_1_2_5 : besWH 1 2 5 = true := by decide +kernel
theorem bes_1_3_0 : besWH 1 3 0 = true := by decide +kernel
theorem bes_1_3_1 : besWH 1 3 1 = true := by decide +kernel
theorem bes_1_3_2 : besWH 1 3 2 = true := by decide +kernel
theorem bes_1_3_3 : besWH 1 3 3 = true := by decide +kernel
theorem bes_1_3_4 : besWH 1 3 4 = true := by decide +kernel
theorem bes_1_3_5 : besWH 1 3 5 = true := by decide +kernel
theorem bes_1_4_0 : besWH 1 4 0 = true := by decide +kernel
theorem bes_1_4_1 : besWH 1 4 1 = true := by decide +kernel
theorem bes_1_4_2 : besWH 1 4 2 = true := by decide +kernel
theorem bes_1_4_3 : besWH 1 4 3 = true := by decide +kernel
theorem bes_1_4_4 : besWH 1 4 4 = true := by decide +kernel
theorem bes_1_4_5 : besWH 1 4 5 = true := by decide +kernel
theorem bes_1_5_0 : besWH 1 5 0 = true := by decide +kernel
theorem bes_1_5_1 : besWH 1 5 1 = true := by decide +kernel
theorem bes_1_5_2 : besWH 1 5 2 = true := by decide +kernel
theorem bes_1_5_3 : besWH 1 5 3 = true := by decide +kernel
theorem bes_1_5_4 : besWH 1 5 4 = true := by decide +kernel
theorem bes_1_5_5 : besWH 1 5 5 = true := by decide +kernel
theorem bes_2_0_0 : besWH 2 0 0 = true := by decide +kernel
theorem bes_2_0_1 : besWH 2 0 1 = true := by decide +kernel
theorem bes_2_0_2 : besWH 2 0 2 = true := by decide +kernel
theorem bes_2_0_3 : besWH 2 0 3 = true := by decide +kernel
theorem bes_2_0_4 : besWH 2 0 4 = true := by decide +kernel
theorem bes_2_0_5 : besWH 2 0 5 = true := by decide +kernel
theorem bes_2_1_0 : besWH 2 1 0 = true := by decide +kernel
theorem bes_2_1_1 : besWH 2 1 1 = true := by decide +kernel
theorem bes_2_1_2 : besWH 2 1 2 = true := by decide +kernel
theorem bes_2_1_3 : besWH 2 1 3 = true := by decide +kernel
theorem bes_2_1_4 : besWH 2 1 4 = true := by decide +kernel
theorem bes_2_1_5 : besWH 2 1 5 = true := by decide +kernel
theorem bes_2_2_0 : besWH 2 2 0 = true := by decide +kernel
theorem bes_2_2_1 : besWH 2 2 1 = true := by decide +kernel
theorem bes_2_2_2 : besWH 2 2 2 = true := by decide +kernel
theorem bes_2_2_3 : besWH 2 2 3 = true := by decide +kernel
theorem bes_2_2_4 : besWH 2 2 4 = true := by decide +kernel
theorem bes_2_2_5 : besWH 2 2 5 = true := by decide +kernel
theorem bes_2_3_0 : besWH 2 3 0 = true := by decide +kernel
theorem bes_2_3_1 : besWH 2 3 1 = true := by decide +kernel
theorem bes_2_3_2 : besWH 2 3 2 = true := by decide +kernel
theorem bes_2_3_3 : besWH 2 3 3 = true := by decide +kernel
theorem bes_2_3_4 : besWH 2 3 4 = true := by decide +kernel
theorem bes_2_3_5 : besWH 2 3 5 = true := by decide +kernel
theorem bes_2_4_0 : besWH 2 4 0 = true := by decide +kernel
theorem bes_2_4_1 : besWH 2 4 1 = true := by decide +kernel
theorem bes_2_4_2 : besWH 2 4 2 = true := by decide +kernel
theorem bes_2_4_3 : besWH 2 4 3 = true := by decide +kernel
theorem bes_2_4_4 : besWH 2 4 4 = true := by decide +kernel
theorem bes_2_4_5 : besWH 2 4 5 = true := by decide +kernel
theorem bes_2_5_0 : besWH 2 5 0 = true := by decide +kernel
theorem bes_2_5_1 : besWH 2 5 1 = true := by decide +kernel
theorem bes_2_5_2 : besWH 2 5 2 = true := by decide +kernel
theorem bes_2_5_3 : besWH 2 5 3 = true := by decide +kernel
theorem bes_2_5_4 : besWH 2 5 4 = true := by decide +kernel
theorem bes_2_5_5 : besWH 2 5 5 = true := by decide +kernel
theorem bes_3_0_0 : besWH 3 0 0 = true := by decide +kernel
theorem bes_3_0_1 : besWH 3 0 1 = true := by decide +kernel
theorem bes_3_0_2 : besWH 3 0 2 = true := by decide +kernel
theorem bes_3_0_3 : besWH 3 0 3 = true := by decide +kernel
theorem bes_3_0_4 : besWH 3 0 4 = true := by decide +kernel
theorem bes_3_0_5 : besWH 3 0 5 = true := by decide +kernel
theorem bes_3_1_0 : besWH 3 1 0 = true := by decide +kernel
theorem bes_3_1_1 : besWH 3 1 1 = true := by decide +kernel
theorem bes_3_1_2 : besWH 3 1 2 = true := by decide +kernel
theorem bes_3_1_3 : besWH 3 1 3 = true := by decide +kernel
theorem bes_3_1_4 : besWH 3 1 4 = true := by decide +kernel
theorem bes_3_1_5 : besWH 3 1 5 = true := by decide +kernel
theorem bes_3_2_0 : besWH 3 2 0 = true := by decide +kernel
theorem bes_3_2_1 : besWH 3 2 1 = true := by decide +kernel
theorem bes_3_2_2 : besWH 3 2 2 = true := by decide +kernel
theorem bes_3_2_3 : besWH 3 2 3 = true := by decide +kernel
theorem bes_3_2_4 : besWH 3 2 4 = true := by decide +kernel
theorem bes_3_2_5 : besWH 3 2 5 = true := by decide +kernel
theorem bes_3_3_0 : besWH 3 3 0 = true := by decide +kernel
theorem bes_3_3_1 : besWH 3 3 1 = true := by decide +kernel
theorem bes_3_3_2 : besWH 3 3 2 = true := by decide +kernel
theorem bes_3_3_3 : besWH 3 3 3 = true := by decide +kernel
theorem bes_3_3_4 : besWH 3 3 4 = true := by decide +kernel
theorem bes_3_3_5 : besWH 3 3 5 = true := by decide +kernel
theorem bes_3_4_0 : besWH 3 4 0 = true := by decide +kernel
theorem bes_3_4_1 : besWH 3 4 1 = true := by decide +kernel
theorem bes_3_4_2 : besWH 3 4 2 = true := by decide +kernel
theorem bes_3_4_3 : besWH 3 4 3 = true := by decide +kernel
theorem bes_3_4_4 : besWH 3 4 4 = true := by decide +kernel
theorem bes_3_4_5 : besWH 3 4 5 = true := by decide +kernel
theorem bes_3_5_0 : besWH 3 5 0 = true := by decide +kernel
theorem bes_3_5_1 : besWH 3 5 1 = true := by decide +kernel
theorem bes_3_5_2 : besWH 3 5 2 = true := by decide +kernel
theorem bes_3_5_3 : besWH 3 5 3 = true := by decide +kernel
theorem bes_3_5_4 : besWH 3 5 4 = true := by decide +kernel
theorem bes_3_5_5 : besWH 3 5 5 = true := by decide +kernel
theorem bes_4_0_0 : besWH 4 0 0 = true := by decide +kernel
theorem bes_4_0_1 : besWH 4 0 1 = true := by decide +kernel
theorem bes_4_0_2 : besWH 4 0 2 = true := by decide +kernel
theorem bes_4_0_3 : besWH 4 0 3 = true := by decide +kernel
theorem bes_4_0_4 : besWH 4 0 4 = true := by decide +kernel
theorem bes_4_0_5 : besWH 4 0 5 = true := by decide +kernel
theorem bes_4_1_0 : besWH 4 1 0 = true := by decide +kernel
theorem bes_4_1_1 : besWH 4 1 1 = true := by decide +kernel
theorem bes_4_1_2 : besWH 4 1 2 = true := by decide +kernel
theorem bes_4_1_3 : besWH 4 1 3 = true := by decide +kernel
theorem bes_4_1_4 : besWH 4 1 4 = true := by decide +kernel
theorem bes_4_1_5 : besWH 4 1 5 = true := by decide +kernel
theorem bes_4_2_0 : besWH 4 2 0 = true := by decide +kernel
theorem bes_4_2_1 : besWH 4 2 1 = true := by decide +kernel
theorem bes_4_2_2 : besWH 4 2 2 = true := by decide +kernel
theorem bes_4_2_3 : besWH 4 2 3 = true := by decide +kernel
theorem bes_4_2_4 : besWH 4 2 4 = true := by decide +kernel
theorem bes_4_2_5 : besWH 4 2 5 = true := by decide +kernel
theorem bes_4_3_0 : besWH 4 3 0 = true := by decide +kernel
theorem bes_4_3_1 : besWH 4 3 1 = true := by decide +kernel
theorem bes_4_3_2 : besWH 4 3 2 = true := by decide +kernel
theorem bes_4_3_3 : besWH 4 3 3 = true := by decide +kernel
theorem bes_4_3_4 : besWH 4 3 4 = true := by decide +kernel
theorem bes_4_3_5 : besWH 4 3 5 = true := by decide +kernel
theorem bes_4_4_0 : besWH 4 4 0 = true := by decide +kernel
theorem bes_4_4_1 : besWH 4 4 1 = true := by decide +kernel
theorem bes_4_4_2 : besWH 4 4 2 = true := by decide +kernel
theorem bes_4_4_3 : besWH 4 4 3 = true := by decide +kernel
theorem bes_4_4_4 : besWH 4 4 4 = true := by decide +kernel
theorem bes_4_4_5 : besWH 4 4 5 = true := by decide +kernel
theorem bes_4_5_0 : besWH 4 5 0 = true := by decide +kernel
theorem bes_4_5_1 : besWH 4 5 1 = true := by decide +kernel
theorem bes_4_5_2 : besWH 4 5 2 = true := by decide +kernel
theorem bes_4_5_3 : besWH 4 5 3 = true := by decide +kernel
theorem bes_4_5_4 : besWH 4 5 4 = true := by decide +kernel
theorem bes_4_5_5 : besWH 4 5 5 = true := by decide +kernel
theorem bes_5_0_0 : besWH 5 0 0 = true := by decide +kernel
theorem bes_5_0_1 : besWH 5 0 1 = true := by decide +kernel
theorem bes_5_0_2 : besWH 5 0 2 = true := by decide +kernel
theorem bes_5_0_3 : besWH 5 0 3 = true := by decide +kernel
theorem bes_5_0_4 : besWH 5 0 4 = true := by decide +kernel
theorem bes_5_0_5 : besWH 5 0 5 = true := by decide +kernel
theorem bes_5_1_0 : besWH 5 1 0 = true := by decide +kernel
theorem bes_5_1_1 : besWH 5 1 1 = true := by decide +kernel
theorem bes_5_1_2 : besWH 5 1 2 = true := by decide +kernel
theorem bes_5_1_3 : besWH 5 1 3 = true := by decide +kernel
theorem bes_5_1_4 : besWH 5 1 4 = true := by decide +kernel
theorem bes_5_1_5 : besWH 5 1 5 = true := by decide +kernel
theorem bes_5_2_0 : besWH 5 2 0 = true := by decide +kernel
theorem bes_5_2_1 : besWH 5 2 1 = true := by decide +kernel
theorem bes_5_2_2 : besWH 5 2 2 = true := by decide +kernel
theorem bes_5_2_3 : besWH 5 2 3 = true := by decide +kernel
theorem bes_5_2_4 : besWH 5 2 4 = true := by decide +kernel
theorem bes_5_2_5 : besWH 5 2 5 = true := by decide +kernel
theorem bes_5_3_0 : besWH 5 3 0 = true := by decide +kernel
theorem bes_5_3_1 : besWH 5 3 1 = true := by decide +kernel
theorem bes_5_3_2 : besWH 5 3 2 = true := by decide +kernel
theorem bes_5_3_3 : besWH 5 3 3 = true := by decide +kernel
theorem bes_5_3_4 : besWH 5 3 4 = true := by decide +kernel
theorem bes_5_3_5 : besWH 5 3 5 = true := by decide +kernel
theorem bes_5_4_0 : besWH 5 4 0 = true := by decide +kernel
theorem bes_5_4_1 : besWH 5 4 1 = true := by decide +kernel
theorem bes_5_4_2 : besWH 5 4 2 = true := by decide +kernel
theorem bes_5_4_3 : besWH 5 4 3 = true := by decide +kernel
theorem bes_5_4_4 : besWH 5 4 4 = true := by decide +kernel
theorem bes_5_4_5 : besWH 5 4 5 = true := by decide +kernel
theorem bes_5_5_0 : besWH 5 5 0 = true := by decide +kernel
theorem bes_5_5_1 : besWH 5 5 1 = true := by decide +kernel
theorem bes_5_5_2 : besWH 5 5 2 = true := by decide +kernel
theorem bes_5_5_3 : besWH 5 5 3 = true := by decide +kernel
theorem bes_5_5_4 : besWH 5 5 4 = true := by decide +kernel
theorem bes_5_5_5 : besWH 5 5 5 = true := by decide +kernel
theorem bes_1 : ∀ W H : Nat, W < 6 → H < 6 → besWH 1 W H = true
  | 0, 0, _, _ => bes_1_0_0
  | 0, 1, _, _ => bes_1_0_1
  | 0, 2, _, _ => bes_1_0_2
  | 0, 3, _, _ => bes_1_0_3
  | 0, 4, _, _ => bes_1_0_4
  | 0, 5, _, _ => bes_1_0_5
  | 1, 0, _, _ => bes_1_1_0
  | 1, 1, _, _ => bes_1_1_1
  | 1, 2, _, _ => bes_1_1_2
  | 1, 3, _, _ => bes_1_1_3
  | 1, 4, _, _ => bes_1_1_4
  | 1, 5, _, _ => bes_1_1_5
  | 2, 0, _, _ => bes_1_2_0
  | 2, 1, _, _ => bes_1_2_1
  | 2, 2, _, _ => bes_1_2_2
  | 2, 3, _, _ => bes_1_2_3
  | 2, 4, _, _ => bes_1_2_4
  | 2, 5, _, _ => bes_1_2_5
  | 3, 0, _, _ => bes_1_3_0
  | 3, 1, _, _ => bes_1_3_1
  | 3, 2, _, _ => bes_1_3_2
  | 3, 3, _, _ => bes_1_3_3
  | 3, 4, _, _ => bes_1_3_4
  | 3, 5, _, _ => bes_1_3_5
  | 4, 0, _, _ => bes_1_4_0
  | 4, 1, _, _ => bes_1_4_1
  | 4, 2, _, _ => bes_1_4_2
  | 4, 3, _, _ => bes_1_4_3
  | 4, 4, _, _ => bes_1_4_4
  | 4, 5, _, _ => bes_1_4_5
  | 5, 0, _, _ => bes_1_5_0
  | 5, 1, _, _ => bes_1_5_1
  | 5, 2, _, _ => bes_1_5_2
  | 5, 3, _, _ => bes_1_5_3
  | 5, 4, _, _ => bes_1_5_4
  | 5, 5, _, _ => bes_1_5_5
  | W + 6, _, h, _ => by omega
  | 0, H + 6, _, h => by omega
  | 1, H + 6, _, h => by omega
  | 2, H + 6, _, h => by omega
  | 3, H + 6, _, h => by omega
  | 4, H + 6, _, h => by omega
  | 5, H + 6, _, h => by omega
theorem bes_2 : ∀ W H : Nat, W < 6 → H < 6 → besWH 2 W H = true
  | 0, 0, _, _ => bes_2_0_0
  | 0, 1, _, _ => bes_2_0_1
  | 0, 2, _, _ => bes_2_0_2
  | 0, 3, _, _ => bes_2_0_3
  | 0, 4, _, _ => bes_2_0_4
  | 0, 5, _, _ => bes_2_0_5
  | 1, 0, _, _ => bes_2_1_0
  | 1, 1, _, _ => bes_2_1_1
  | 1, 2, _, _ => bes_2_1_2
  | 1, 3, _, _ => bes_2_1_3
  | 1, 4, _, _ => bes_2_1_4
  | 1, 5, _, _ => bes_2_1_5
  | 2, 0, _, _ => bes_2_2_0
  | 2, 1, _, _ => bes_2_2_1
  | 2, 2, _, _ => bes_2_2_2
  | 2, 3, _, _ => bes_2_2_3
  | 2, 4, _, _ => bes_2_2_4
  | 2, 5, _, _ => bes_2_2_5
  | 3, 0, _, _ => bes_2_3_0
  | 3, 1, _, _ => bes_2_3_1
  | 3, 2, _, _ => bes_2_3_2
  | 3, 3, _, _ => bes_2_3_3
  | 3, 4, _, _ => bes_2_3_4
  | 3, 5, _, _ => bes_2_3_5
  | 4, 0, _, _ => bes_2_4_0
  | 4, 1, _, _ => bes_2_4_1
  | 4, 2, _, _ => bes_2_4_2
  | 4, 3, _, _ => bes_2_4_3
  | 4, 4, _, _ => bes_2_4_4
  | 4, 5, _, _ => bes_2_4_5
  | 5, 0, _, _ => bes_2_5_0
  | 5, 1, _, _ => bes_2_5_1
  | 5, 2, _, _ => bes_2_5_2
  | 5, 3, _, _ => bes_2_5_3
  | 5, 4, _, _ => bes_2_5_4
  | 5, 5, _, _ => bes_2_5_5
  | W + 6, _, h, _ => by omega
  | 0, H + 6, _, h => by omega
  | 1, H + 6, _, h => by omega
  | 2, H + 6, _, h => by omega
  | 3, H + 6, _, h => by omega
  | 4, H + 6, _, h => by omega
  | 5, H + 6, _, h => by omega
theorem bes_3 : ∀ W H : Nat, W < 6 → H < 6 → besWH 3 W H = true
  | 0, 0, _, _ => bes_3_0_0
  | 0, 1, _, _ => bes_3_0_1
  | 0, 2, _, _ => bes_3_0_2
  | 0, 3, _, _ => bes_3_0_3
  | 0, 4, _, _ => bes_3_0_4
  | 0, 5, _, _ => bes_3_0_5
  | 1, 0, _, _ => bes_3_1_0
  | 1, 1, _, _ => bes_3_1_1
  | 1, 2, _, _ => bes_3_1_2
  | 1, 3, _, _ => bes_3_1_3
  | 1, 4, _, _ => bes_3_1_4
  | 1, 5, _, _ => bes_3_1_5
  | 2, 0, _, _ => bes_3_2_0
  | 2, 1, _, _ => bes_3_2_1
  | 2, 2, _, _ => bes_3_2_2
  | 2, 3, _, _ => bes_3_2_3
  | 2, 4, _, _ => bes_3_2_4
  | 2, 5, _, _ => bes_3_2_5
  | 3, 0, _, _ => bes_3_3_0
  | 3, 1, _, _ => bes_3_3_1
  | 3, 2, _, _ => bes_3_3_2
  | 3, 3, _, _ => bes_3_3_3
  | 3, 4, _, _ => bes_3_3_4
  | 3, 5, _, _ => bes_3_3_5
  | 4, 0, _, _ => bes_3_4_0
  | 4, 1, _, _ => bes_3_4_1
  | 4, 2, _, _ => bes_3_4_2
  | 4, 3, _, _ => bes_3_4_3
  | 4, 4, _, _ => bes_3_4_4
  | 4, 5, _, _ => bes_3_4_5
  | 5, 0, _, _ => bes_3_5_0
  | 5, 1, _, _ => bes_3_5_1
  | 5, 2, _, _ => bes_3_5_2
  | 5, 3, _, _ => bes_3_5_3
  | 5, 4, _, _ => bes_3_5_4
  | 5, 5, _, _ => bes_3_5_5
  | W + 6, _, h, _ => by omega
  | 0, H + 6, _, h => by omega
  | 1, H + 6, _, h => by omega
  | 2, H + 6, _, h => by omega
  | 3, H + 6, _, h => by omega
  | 4, H + 6, _, h => by omega
  | 5, H + 6, _, h => by omega
theorem bes_4 : ∀ W H : Nat, W < 6 → H < 6 → besWH 4 W H = true
  | 0, 0, _, _ => bes_4_0_0
  | 0, 1, _, _ => bes_4_0_1
  | 0, 2, _, _ => bes_4_0_2
  | 0, 3, _, _ => bes_4_0_3
  | 0, 4, _, _ => bes_4_0_4
  | 0, 5, _, _ => bes_4_0_5
  | 1, 0, _, _ => bes_4_1_0
  | 1, 1, _, _ => bes_4_1_1
  | 1, 2, _, _ => bes_4_1_2
  | 1, 3, _, _ => bes_4_1_3
  | 1, 4, _, _ => bes_4_1_4
  | 1, 5, _, _ => bes_4_1_5
  | 2, 0, _, _ => bes_4_2_0
  | 2, 1, _, _ => bes_4_2_1
  | 2, 2, _, _ => bes_4_2_2
  | 2, 3, _, _ => bes_4_2_3
  | 2, 4, _, _ => bes_4_2_4
  | 2, 5, _, _ => bes_4_2_5
  | 3, 0, _, _ => bes_4_3_0
  | 3, 1, _, _ => bes_4_3_1
  | 3, 2, _, _ => bes_4_3_2
  | 3, 3, _, _ => bes_4_3_3
  | 3, 4, _, _ => bes_4_3_4
  | 3, 5, _, _ => bes_4_3_5
  | 4, 0, _, _ => bes_4_4_0
  | 4, 1, _, _ => bes_4_4_1
  | 4, 2, _, _ => bes_4_4_2
  | 4, 3, _, _ => bes_4_4_3
  | 4, 4, _, _ => bes_4_4_4
  | 4, 5, _, _ => bes_4_4_5
  | 5, 0, _, _ => bes_4_5_0
  | 5, 1, _, _ => bes_4_5_1
  | 5, 2, _, _ => bes_4_5_2
  | 5, 3, _, _ => bes_4_5_3
  | 5, 4, _, _ => bes_4_5_4
  | 5, 5, _, _ => bes_4_5_5
  | W + 6, _, h, _ => by omega
  | 0, H + 6, _, h => by omega
  | 1, H + 6, _, h => by omega
  | 2, H + 6, _, h => by omega
  | 3, H + 6, _, h => by omega
  | 4, H + 6, _, h => by omega
  | 5, H + 6, _, h => by omega
theorem bes_5 : ∀ W H : Nat, W < 6 → H < 6 → besWH 5 W H = true
  | 0, 0, _, _ => bes_5_0_0
  | 0, 1, _, _ => bes_5_0_1
  | 0, 2, _, _ => bes_5_0_2
  | 0, 3, _, _ => bes_5_0_3
  | 0, 4, _, _ => bes_5_0_4
  | 0, 5, _, _ => bes_5_0_5
  | 1, 0, _, _ => bes_5_1_0
  | 1, 1, _, _ => bes_5_1_1
  | 1, 2, _, _ => bes_5_1_2
  | 1, 3, _, _ => bes_5_1_3
  | 1, 4, _, _ => bes_5_1_4
  | 1, 5, _, _ => bes_5_1_5
  | 2, 0, _, _ => bes_5_2_0
  | 2, 1, _, _ => bes_5_2_1
  | 2, 2, _, _ => bes_5_2_2
  | 2, 3, _, _ => bes_5_2_3
  | 2, 4, _, _ => bes_5_2_4
  | 2, 5, _, _ => bes_5_2_5
  | 3, 0, _, _ => bes_5_3_0
  | 3, 1, _, _ => bes_5_3_1
  | 3, 2, _, _ => bes_5_3_2
  | 3, 3, _, _ => bes_5_3_3
  | 3, 4, _, _ => bes_5_3_4
  | 3, 5, _, _ => bes_5_3_5
  | 4, 0, _, _ => bes_5_4_0
  | 4, 1, _, _ => bes_5_4_1
  | 4, 2, _, _ => bes_5_4_2
  | 4, 3, _, _ => bes_5_4_3
  | 4, 4, _, _ => bes_5_4_4
  | 4, 5, _, _ => bes_5_4_5
  | 5, 0, _, _ => bes_5_5_0
  | 5, 1, _, _ => bes_5_5_1
  | 5, 2, _, _ => bes_5_5_2
  | 5, 3, _, _ => bes_5_5_3
  | 5, 4, _, _ => bes_5_5_4
  | 5, 5, _, _ => bes_5_5_5
  | W + 6, _, h, _ => by omega
  | 0, H + 6, _, h => by omega
  | 1, H + 6, _, h => by omega
  | 2, H + 6, _, h => by omega
  | 3, H + 6, _, h => by omega
  | 4, H + 6, _, h => by omega
  | 5, H + 6, _, h => by omega

theorem bes_all {k t s : Int} {W H : Nat} (h : checkE k W H t s = 0) (t0 : 0 ≤ t) (w1 : 1 ≤ W) (w6 : W ≤ 6) (h1 : 1 ≤ H) (h6 : H ≤ 6) : besOk k W H t s = true := by
  have ok := topoOk_of t0 h
  obtain ⟨kn, rfl⟩ : ∃ kn : Nat, k = (kn : Int) := ⟨k.toNat, by have := ok.k1; omega⟩
  obtain ⟨tn, rfl⟩ : ∃ tn : Nat, t = (tn : Int) := ⟨t.toNat, by omega⟩
  have hs : -6 < s ∧ s < 6 := by
    have := ok.shift0; have := ok.shift1; have := ok.shift2; have := ok.t2
    omega
  obtain ⟨sn, hsn⟩ : ∃ sn : Nat, s = (sn : Int) - 5 := ⟨(s + 5).toNat, by omega⟩
  subst hsn
  obtain ⟨W, rfl⟩ : ∃ W', W = W' + 1 := ⟨W - 1, by omega⟩
  obtain ⟨H, rfl⟩ : ∃ H', H = H' + 1 := ⟨H - 1, by omega⟩
  have key : besWH kn W H = true := by
    have := ok.k1; have := ok.k5
    have : kn = 1 ∨ kn = 2 ∨ kn = 3 ∨ kn = 4 ∨ kn = 5 := by omega
    rcases this with rfl | rfl | rfl | rfl | rfl
    · exact bes_1 W H (by omega) (by omega)
    · exact bes_2 W H (by omega) (by omega)
    · exact bes_3 W H (by omega) (by omega)
    · exact bes_4 W H (by omega) (by omega)
    · exact bes_5 W H (by omega) (by omega)
  unfold besWH at key
  have c := List.all_eq_true.1 key tn (List.mem_range.2 (by have := ok.t2; omega))
  have d := List.all_eq_true.1 c sn (List.mem_range.2 (by omega))
  rw [h] at d
  simpa using d

/-! ### numbers of sixteen digits -/
def val (f : Nat → Nat) : Nat → Nat
  | 0 => 0
  | m + 1 => val f m + f m * 16 ^ m
theorem val_lt {f : Nat → Nat} : ∀ {m}, (∀ e, e < m → f e < 16) → val f m < 16 ^ m
  | 0, _ => by simp [val]
  | m + 1, h => by
    have h1 := val_lt fun e he => h e (Nat.lt_succ_of_lt he)
    have h2 := h m (Nat.lt_succ_self m)
    have h3 : f m * 16 ^ m ≤ 15 * 16 ^ m := Nat.mul_le_mul_right _ (by omega)
    show val f m + f m * 16 ^ m < 16 ^ (m + 1)
    rw [Nat.pow_succ]; omega
theorem val_inj {f g : Nat → Nat} : ∀ {m}, (∀ e, e < m → f e < 16) → (∀ e, e < m → g e < 16) → val f m = val g m → ∀ e, e < m → f e = g e
  | 0, _, _, _, e, he => by omega
  | m + 1, hf, hg, h, e, he => by
    have f1 := val_lt fun e he => hf e (Nat.lt_succ_of_lt he)
    have g1 := val_lt fun e he => hg e (Nat.lt_succ_of_lt he)
    have h' : val f m + f m * 16 ^ m = val g m + g m * 16 ^ m := h
    have hp : 0 < 16 ^ m := Nat.pow_pos (by omega)
    have e1 : f m = g m := by
      have a := congrArg (· / 16 ^ m) h'
      simp only [Nat.add_mul_div_right _ _ hp, Nat.div_eq_of_lt f1, Nat.div_eq_of_lt g1] at a
      omega
    by_cases hem : e = m
    · subst hem; exact e1
    · refine val_inj (fun e he => hf e (Nat.lt_succ_of_lt he)) (fun e he => hg e (Nat.lt_succ_of_lt he)) ?_ e (by omega)
      rw [e1] at h'; omega
theorem val_add (f : Nat → Nat) (e : Nat) : ∀ m, val (fun x => f x + if x = e then 1 else 0) m = val f m + if e < m then 16 ^ e else 0
  | 0 => by simp [val]
  | m + 1 => by
    show val _ m + (f m + if m = e then 1 else 0) * 16 ^ m = val f m + f m * 16 ^ m + _
    rw [val_add f e m, Nat.add_mul]
    by_cases h : m = e
    · subst h; rw [if_neg (Nat.lt_irrefl _), if_pos rfl, if_pos (Nat.lt_succ_self _)]; omega
    · rw [if_neg h]
      by_cases h2 : e < m
      · rw [if_pos h2, if_pos (by omega)]; omega
      · rw [if_neg h2, if_neg (by omega)]; omega
theorem val_zero : ∀ m, val (fun _ => 0) m = 0
  | 0 => rfl
  | m + 1 => by show val _ m + 0 * 16 ^ m = 0; rw [val_zero m]; omega
theorem val_congr {f g : Nat → Nat} : ∀ {m}, (∀ e, e < m → f e = g e) → val f m = val g m
  | 0, _ => rfl
  | m + 1, h => by show val f m + f m * 16 ^ m = val g m + g m * 16 ^ m; rw [val_congr fun e he => h e (Nat.lt_succ_of_lt he), h m (Nat.lt_succ_self m)]
theorem pw_val {α : Type} (c : α → Nat) (m : Nat) : ∀ (l : List α) (z : Nat), (∀ p ∈ l, c p < m) → l.foldl (fun m p => m + 16 ^ c p) z = z + val (fun e => (l.map c).count e) m
  | [], z, _ => by show z = z + val (fun e => List.count e []) m; rw [show (fun e => List.count e ([] : List Nat)) = fun _ => 0 from rfl, val_zero]; rfl
  | p :: l, z, h => by
    show l.foldl _ (z + 16 ^ c p) = _
    rw [pw_val c m l _ fun q hq => h q (List.mem_cons_of_mem _ hq)]
    have e : val (fun e => ((p :: l).map c).count e) m = val (fun x => (l.map c).count x + if x = c p then 1 else 0) m := val_congr fun x _ => by
      rw [List.map_cons, List.count_cons]
      by_cases hx : x = c p
      · subst hx; simp
      · simp [hx, Ne.symm hx]
    rw [e, val_add, if_pos (h p List.mem_cons_self)]
    omega
/-- how often the one is beside the other -/
def besC (k : Int) (W H : Nat) (t s : Int) (i j : Nat) : Nat := (besN k W H t s i).count j

/-- the neighbours in the first directions -/
def besNp (k : Int) (W H : Nat) (t s : Int) (i d : Nat) : List Nat := (List.range d).filterMap fun d => if d ≠ 4 ∧ besI k W H t s i d = true then some (besK k W H t s i d).toNat else none
theorem besNp_succ (k : Int) (W H : Nat) (t s : Int) (i d : Nat) : besNp k W H t s i (d + 1) = besNp k W H t s i d ++ (if d ≠ 4 ∧ besI k W H t s i d = true then [(besK k W H t s i d).toNat] else []) := by
  unfold besNp
  rw [List.range_succ, List.filterMap_append]
  congr 1
  by_cases h : d ≠ 4 ∧ besI k W H t s i d = true <;> simp [h]
/-- so many times each beside each, once the first rows have been gone through, and d directions of the next -/
def besT (k : Int) (W H : Nat) (t s : Int) (i d x y : Nat) : Nat := if x < i then besC k W H t s x y else if x = i then (besNp k W H t s i d).count y else 0
theorem besT_row (k : Int) (W H : Nat) (t s : Int) (i : Nat) : besT k W H t s (i + 1) 0 = besT k W H t s i 9 := by
  funext x y
  unfold besT
  by_cases h1 : x < i
  · rw [if_pos h1, if_pos (by omega)]
  · rw [if_neg h1]
    by_cases h2 : x = i
    · subst h2; rw [if_pos rfl, if_pos (by omega)]; rfl
    · rw [if_neg h2, if_neg (by omega)]
      by_cases h3 : x = i + 1
      · subst h3; rw [if_pos rfl]; simp [besNp]
      · rw [if_neg h3]
/-- what is known of a direction -/
structure BesOne (k : Int) (W H : Nat) (t s : Int) (i d : Nat) (qx qy : Int) (b : Bool) (K : Nat) : Prop where
  x : ringX k W H t s (bX W i d) (bY W H i d) = qx
  y : ringY k W H t s (bX W i d) (bY W H i d) = qy
  bb : ringB k W H t s (bX W i d) (bY W H i d) = b
  e : ringE k W H t s (bX W i d) (bY W H i d) = 0
  x0 : -10 ≤ qx
  x1 : qx ≤ 10
  y0 : -10 ≤ qy
  y1 : qy ≤ 10
  out : b = false → k = 1
  cell : gluedI k = true → cellE k W H t s (bX W i d) (bY W H i d) = 0 ∧ cellX k W H t s (bX W i d) (bY W H i d) = qx ∧ cellY k W H t s (bX W i d) (bY W H i d) = qy
  inn : b = true → first W ≤ qx ∧ qx < first W + W ∧ qx - first W + W * (qy - first H) = (K : Int) ∧ K < W * H
  next : besT k W H t s i (d + 1) = if b = true ∧ d ≠ 4 then fun x y => if x = i ∧ y = K then besT k W H t s i d x y + 1 else besT k W H t s i d x y else besT k W H t s i d
theorem besT_le (k : Int) (W H : Nat) (t s : Int) {i d : Nat} (hd : d ≤ 9) (x y : Nat) : besT k W H t s i d x y ≤ 9 := by
  have key : ∀ (m : Nat) (x : Nat), m ≤ 9 → (besNp k W H t s x m).count y ≤ 9 := fun m x hm => Nat.le_trans List.count_le_length (Nat.le_trans (List.length_filterMap_le _ _) (by simpa using hm))
  unfold besT
  split
  · exact key 9 x (Nat.le_refl _)
  · split
    · exact key d i hd
    · omega
theorem besT_end (k : Int) (W H : Nat) (t s : Int) {n x y : Nat} (hx : x < n) : besT k W H t s n 0 x y = besC k W H t s x y := by unfold besT; rw [if_pos hx]
theorem besT_nil (k : Int) (W H : Nat) (t s : Int) : besT k W H t s 0 0 = fun _ _ => 0 := by
  funext x y; unfold besT; by_cases h : x = 0 <;> simp [h, besNp]
end Go.Proofs.Ytfdehecekghlmaa
