/-
  No cell of these rows narrows 'for every input' (looked for: loops, veiled, ifaces, maps, wideKeys, modest, calm, conditions, laid).
  DERIVED. THE GIVEN ROWS OF THIS SEAT. 8 by the template 'for every input the law returns true; each argument reads behind the call as it read before'; 0 by the template 'total and deterministic' (their statements: YtfdehecekghlmaaTotals.lean).
  GIVEN WITH THE SEED: the statements are not yours to turn. If you find one false, say at which input.
  Laid BY PROGRAM, IN A SANDBOX (cutbox-rows.mjs): the forced cells as the released guide's own fill.sh prints them over the translation ec51224e0a31db6b… (all of the seat's roots in one cut). By AI agents, Wed Nov 11 2026. No macro, syntax, notation, axiom, sorry.
-/
import Derived.Test.YtfdehecekghlmaaChecked
import GoSem.Claim
import GoSem.ClaimJoined
import GoSem.ClaimMapViews
import Derived.JoinedTies
import Derived.KernelRfl
namespace Go.Proofs.Ytfdehecekghlmaa
/- THE CELL 'sum', in the pinned program and in every row, IS THE sha256 OF THE DUMP (.gsa) THAT YtfdehecekghlmaaProg.lean LOADS. Nothing in Lean hashes anything: it is a label: what it is worth is what the hold of that sum in a sandbox is worth. -/
noncomputable def Try.pinned : Pinned := { name := "ytfdehecekghlmaa", sum := "ec51224e0a31db6b2f04c503a9ab875b3d399d0784f4c2421efecb5d5df0bfdf", checked := Try.checked }
namespace Rows
def none {H : Type} : Left H := { results := [], args := [] }

/-- 'vivariumlaw06.FoldCell': WHATEVER THE INPUT: true; the input reads as it did. -/
def foldCellSpec : ChangeSpec := { name := "foldCell", fn := fun _ => fun
  | [d1, d2] => { results := [.lit (.bool true)], args := [d1, d2] }
  | _ => none }
def foldCellRow : OpenClaim := { program := "ytfdehecekghlmaa", sum := "ec51224e0a31db6b2f04c503a9ab875b3d399d0784f4c2421efecb5d5df0bfdf", func := "vivarium/vivariumlaw06.FoldCell", spec := "foldCell", unfollowed := true, recurses := true, apart := false }
def FoldCellSaid : Prop := foldCellRow.holds Try.pinned (OpenSpec.ofChange foldCellSpec)

/-- ITS FALSE NEIGHBOUR: 'it returns false'. Refute it at one input. -/
def foldCellWrong : ChangeSpec := { name := "foldCell", fn := fun _ => fun
  | [d1, d2] => { results := [.lit (.bool false)], args := [d1, d2] }
  | _ => none }
def FoldCellWrongFalsely : Prop := foldCellRow.holds Try.pinned (OpenSpec.ofChange foldCellWrong)

/-- 'vivariumlaw06.FoldRing': WHATEVER THE INPUT: true; the input reads as it did. -/
def foldRingSpec : ChangeSpec := { name := "foldRing", fn := fun _ => fun
  | [d1, d2] => { results := [.lit (.bool true)], args := [d1, d2] }
  | _ => none }
def foldRingRow : OpenClaim := { program := "ytfdehecekghlmaa", sum := "ec51224e0a31db6b2f04c503a9ab875b3d399d0784f4c2421efecb5d5df0bfdf", func := "vivarium/vivariumlaw06.FoldRing", spec := "foldRing", unfollowed := true, recurses := true, apart := false }
def FoldRingSaid : Prop := foldRingRow.holds Try.pinned (OpenSpec.ofChange foldRingSpec)

/-- ITS FALSE NEIGHBOUR: 'it returns false'. Refute it at one input. -/
def foldRingWrong : ChangeSpec := { name := "foldRing", fn := fun _ => fun
  | [d1, d2] => { results := [.lit (.bool false)], args := [d1, d2] }
  | _ => none }
def FoldRingWrongFalsely : Prop := foldRingRow.holds Try.pinned (OpenSpec.ofChange foldRingWrong)

/-- 'vivariumlaw06.FoldGlue': WHATEVER THE INPUT: true; the input reads as it did. -/
def foldGlueSpec : ChangeSpec := { name := "foldGlue", fn := fun _ => fun
  | [d1, d2] => { results := [.lit (.bool true)], args := [d1, d2] }
  | _ => none }
def foldGlueRow : OpenClaim := { program := "ytfdehecekghlmaa", sum := "ec51224e0a31db6b2f04c503a9ab875b3d399d0784f4c2421efecb5d5df0bfdf", func := "vivarium/vivariumlaw06.FoldGlue", spec := "foldGlue", unfollowed := true, recurses := true, apart := false }
def FoldGlueSaid : Prop := foldGlueRow.holds Try.pinned (OpenSpec.ofChange foldGlueSpec)

/-- ITS FALSE NEIGHBOUR: 'it returns false'. Refute it at one input. -/
def foldGlueWrong : ChangeSpec := { name := "foldGlue", fn := fun _ => fun
  | [d1, d2] => { results := [.lit (.bool false)], args := [d1, d2] }
  | _ => none }
def FoldGlueWrongFalsely : Prop := foldGlueRow.holds Try.pinned (OpenSpec.ofChange foldGlueWrong)

/-- 'vivariumlaw06.FoldBeside': WHATEVER THE INPUT: true; the input reads as it did. -/
def foldBesideSpec : ChangeSpec := { name := "foldBeside", fn := fun _ => fun
  | [d] => { results := [.lit (.bool true)], args := [d] }
  | _ => none }
def foldBesideRow : OpenClaim := { program := "ytfdehecekghlmaa", sum := "ec51224e0a31db6b2f04c503a9ab875b3d399d0784f4c2421efecb5d5df0bfdf", func := "vivarium/vivariumlaw06.FoldBeside", spec := "foldBeside", unfollowed := true, recurses := true, apart := false }
def FoldBesideSaid : Prop := foldBesideRow.holds Try.pinned (OpenSpec.ofChange foldBesideSpec)

/-- ITS FALSE NEIGHBOUR: 'it returns false'. Refute it at one input. -/
def foldBesideWrong : ChangeSpec := { name := "foldBeside", fn := fun _ => fun
  | [d] => { results := [.lit (.bool false)], args := [d] }
  | _ => none }
def FoldBesideWrongFalsely : Prop := foldBesideRow.holds Try.pinned (OpenSpec.ofChange foldBesideWrong)

/-- 'vivariumlaw06.FoldSame': WHATEVER THE INPUT: true; the input reads as it did. -/
def foldSameSpec : ChangeSpec := { name := "foldSame", fn := fun _ => fun
  | [d1, d2, d3] => { results := [.lit (.bool true)], args := [d1, d2, d3] }
  | _ => none }
def foldSameRow : OpenClaim := { program := "ytfdehecekghlmaa", sum := "ec51224e0a31db6b2f04c503a9ab875b3d399d0784f4c2421efecb5d5df0bfdf", func := "vivarium/vivariumlaw06.FoldSame", spec := "foldSame", unfollowed := true, recurses := true, apart := false }
def FoldSameSaid : Prop := foldSameRow.holds Try.pinned (OpenSpec.ofChange foldSameSpec)

/-- ITS FALSE NEIGHBOUR: 'it returns false'. Refute it at one input. -/
def foldSameWrong : ChangeSpec := { name := "foldSame", fn := fun _ => fun
  | [d1, d2, d3] => { results := [.lit (.bool false)], args := [d1, d2, d3] }
  | _ => none }
def FoldSameWrongFalsely : Prop := foldSameRow.holds Try.pinned (OpenSpec.ofChange foldSameWrong)

/-- 'vivariumlaw06.FoldSteps': WHATEVER THE INPUT: true; the input reads as it did. -/
def foldStepsSpec : ChangeSpec := { name := "foldSteps", fn := fun _ => fun
  | [d1, d2, d3, d4] => { results := [.lit (.bool true)], args := [d1, d2, d3, d4] }
  | _ => none }
def foldStepsRow : OpenClaim := { program := "ytfdehecekghlmaa", sum := "ec51224e0a31db6b2f04c503a9ab875b3d399d0784f4c2421efecb5d5df0bfdf", func := "vivarium/vivariumlaw06.FoldSteps", spec := "foldSteps", unfollowed := true, recurses := true, apart := false }
def FoldStepsSaid : Prop := foldStepsRow.holds Try.pinned (OpenSpec.ofChange foldStepsSpec)

/-- ITS FALSE NEIGHBOUR: 'it returns false'. Refute it at one input. -/
def foldStepsWrong : ChangeSpec := { name := "foldSteps", fn := fun _ => fun
  | [d1, d2, d3, d4] => { results := [.lit (.bool false)], args := [d1, d2, d3, d4] }
  | _ => none }
def FoldStepsWrongFalsely : Prop := foldStepsRow.holds Try.pinned (OpenSpec.ofChange foldStepsWrong)

/-- 'vivariumtop.TopGlued': WHATEVER THE INPUT: true; the input reads as it did. -/
def topGluedSpec : ChangeSpec := { name := "topGlued", fn := fun _ => fun
  | [d1, d2, d3] => { results := [.lit (.bool true)], args := [d1, d2, d3] }
  | _ => none }
def topGluedRow : OpenClaim := { program := "ytfdehecekghlmaa", sum := "ec51224e0a31db6b2f04c503a9ab875b3d399d0784f4c2421efecb5d5df0bfdf", func := "vivarium/vivariumtop.TopGlued", spec := "topGlued", unfollowed := true, recurses := true, apart := false }
def TopGluedSaid : Prop := topGluedRow.holds Try.pinned (OpenSpec.ofChange topGluedSpec)

/-- ITS FALSE NEIGHBOUR: 'it returns false'. Refute it at one input. -/
def topGluedWrong : ChangeSpec := { name := "topGlued", fn := fun _ => fun
  | [d1, d2, d3] => { results := [.lit (.bool false)], args := [d1, d2, d3] }
  | _ => none }
def TopGluedWrongFalsely : Prop := topGluedRow.holds Try.pinned (OpenSpec.ofChange topGluedWrong)

/-- 'vivariumlaw06.FoldGlued': WHATEVER THE INPUT: true; the input reads as it did. -/
def foldGluedSpec : ChangeSpec := { name := "foldGlued", fn := fun _ => fun
  | [d1, d2] => { results := [.lit (.bool true)], args := [d1, d2] }
  | _ => none }
def foldGluedRow : OpenClaim := { program := "ytfdehecekghlmaa", sum := "ec51224e0a31db6b2f04c503a9ab875b3d399d0784f4c2421efecb5d5df0bfdf", func := "vivarium/vivariumlaw06.FoldGlued", spec := "foldGlued", unfollowed := true, recurses := true, apart := false }
def FoldGluedSaid : Prop := foldGluedRow.holds Try.pinned (OpenSpec.ofChange foldGluedSpec)

/-- ITS FALSE NEIGHBOUR: 'it returns false'. Refute it at one input. -/
def foldGluedWrong : ChangeSpec := { name := "foldGlued", fn := fun _ => fun
  | [d1, d2] => { results := [.lit (.bool false)], args := [d1, d2] }
  | _ => none }
def FoldGluedWrongFalsely : Prop := foldGluedRow.holds Try.pinned (OpenSpec.ofChange foldGluedWrong)

/- THE SECOND FORM. 'bulk': how many values and letters a reading holds, each counted each time it is reached (what is shared counts as often as it is met; a slice's spare places count too). A statement '..UptoSaid' is the law's where the arguments, and the package variables that the reading takes, are together of bulk at most 1048576: NARROWER than '..Said'. Prove '..Said' where nothing that the law and all that it calls make is longer than what came in: it says more and counts as full. Else prove '..UptoSaid'. A law counts once. -/
mutual
def uptoBulk {H : Type} : DataW H → Nat
  | .lit (.string bytes) => bytes.length + 1
  | .lit _ => 1
  | .nil => 1
  | .ptr d => uptoBulk d + 1
  | .slice elems spare => uptoBulkAll elems + uptoBulkAll spare + 1
  | .agg parts => uptoBulkAll parts + 1
  | .iface _ d => uptoBulk d + 1
  | .map entries => uptoBulkEntries entries + 1
  | .held _ => 1
def uptoBulkAll {H : Type} : List (DataW H) → Nat
  | [] => 0
  | d :: r => uptoBulk d + uptoBulkAll r
def uptoBulkEntries {H : Type} : List (Lit × DataW H) → Nat
  | [] => 0
  | x :: r => uptoBulkEntry x + uptoBulkEntries r
def uptoBulkEntry {H : Type} : Lit × DataW H → Nat
  | (.string bytes, d) => bytes.length + uptoBulk d + 1
  | (_, d) => uptoBulk d + 1
 end
def uptoSmall : (H : Type) → List (DataW H) → Bool := fun _ ds => decide (uptoBulkAll ds ≤ 1048576)
def OpenSpec.upto (s : _root_.Go.ChangeSpec) : _root_.Go.OpenSpec := { _root_.Go.OpenSpec.ofChange s with cond := some uptoSmall }

/-- 'vivariumlaw06.FoldCell', WHERE WHAT IT READS IS OF BULK AT MOST 1048576: true; the input reads as it did. -/
def foldCellUptoRow : OpenClaim := { program := "ytfdehecekghlmaa", sum := "ec51224e0a31db6b2f04c503a9ab875b3d399d0784f4c2421efecb5d5df0bfdf", func := "vivarium/vivariumlaw06.FoldCell", spec := "foldCell", unfollowed := true, recurses := true, apart := false, narrowed := true }
def FoldCellUptoSaid : Prop := foldCellUptoRow.holds Try.pinned (OpenSpec.upto foldCellSpec)

/-- 'vivariumlaw06.FoldRing', WHERE WHAT IT READS IS OF BULK AT MOST 1048576: true; the input reads as it did. -/
def foldRingUptoRow : OpenClaim := { program := "ytfdehecekghlmaa", sum := "ec51224e0a31db6b2f04c503a9ab875b3d399d0784f4c2421efecb5d5df0bfdf", func := "vivarium/vivariumlaw06.FoldRing", spec := "foldRing", unfollowed := true, recurses := true, apart := false, narrowed := true }
def FoldRingUptoSaid : Prop := foldRingUptoRow.holds Try.pinned (OpenSpec.upto foldRingSpec)

/-- 'vivariumlaw06.FoldGlue', WHERE WHAT IT READS IS OF BULK AT MOST 1048576: true; the input reads as it did. -/
def foldGlueUptoRow : OpenClaim := { program := "ytfdehecekghlmaa", sum := "ec51224e0a31db6b2f04c503a9ab875b3d399d0784f4c2421efecb5d5df0bfdf", func := "vivarium/vivariumlaw06.FoldGlue", spec := "foldGlue", unfollowed := true, recurses := true, apart := false, narrowed := true }
def FoldGlueUptoSaid : Prop := foldGlueUptoRow.holds Try.pinned (OpenSpec.upto foldGlueSpec)

/-- 'vivariumlaw06.FoldBeside', WHERE WHAT IT READS IS OF BULK AT MOST 1048576: true; the input reads as it did. -/
def foldBesideUptoRow : OpenClaim := { program := "ytfdehecekghlmaa", sum := "ec51224e0a31db6b2f04c503a9ab875b3d399d0784f4c2421efecb5d5df0bfdf", func := "vivarium/vivariumlaw06.FoldBeside", spec := "foldBeside", unfollowed := true, recurses := true, apart := false, narrowed := true }
def FoldBesideUptoSaid : Prop := foldBesideUptoRow.holds Try.pinned (OpenSpec.upto foldBesideSpec)

/-- 'vivariumlaw06.FoldSame', WHERE WHAT IT READS IS OF BULK AT MOST 1048576: true; the input reads as it did. -/
def foldSameUptoRow : OpenClaim := { program := "ytfdehecekghlmaa", sum := "ec51224e0a31db6b2f04c503a9ab875b3d399d0784f4c2421efecb5d5df0bfdf", func := "vivarium/vivariumlaw06.FoldSame", spec := "foldSame", unfollowed := true, recurses := true, apart := false, narrowed := true }
def FoldSameUptoSaid : Prop := foldSameUptoRow.holds Try.pinned (OpenSpec.upto foldSameSpec)

/-- 'vivariumlaw06.FoldSteps', WHERE WHAT IT READS IS OF BULK AT MOST 1048576: true; the input reads as it did. -/
def foldStepsUptoRow : OpenClaim := { program := "ytfdehecekghlmaa", sum := "ec51224e0a31db6b2f04c503a9ab875b3d399d0784f4c2421efecb5d5df0bfdf", func := "vivarium/vivariumlaw06.FoldSteps", spec := "foldSteps", unfollowed := true, recurses := true, apart := false, narrowed := true }
def FoldStepsUptoSaid : Prop := foldStepsUptoRow.holds Try.pinned (OpenSpec.upto foldStepsSpec)

/-- 'vivariumtop.TopGlued', WHERE WHAT IT READS IS OF BULK AT MOST 1048576: true; the input reads as it did. -/
def topGluedUptoRow : OpenClaim := { program := "ytfdehecekghlmaa", sum := "ec51224e0a31db6b2f04c503a9ab875b3d399d0784f4c2421efecb5d5df0bfdf", func := "vivarium/vivariumtop.TopGlued", spec := "topGlued", unfollowed := true, recurses := true, apart := false, narrowed := true }
def TopGluedUptoSaid : Prop := topGluedUptoRow.holds Try.pinned (OpenSpec.upto topGluedSpec)

/-- 'vivariumlaw06.FoldGlued', WHERE WHAT IT READS IS OF BULK AT MOST 1048576: true; the input reads as it did. -/
def foldGluedUptoRow : OpenClaim := { program := "ytfdehecekghlmaa", sum := "ec51224e0a31db6b2f04c503a9ab875b3d399d0784f4c2421efecb5d5df0bfdf", func := "vivarium/vivariumlaw06.FoldGlued", spec := "foldGlued", unfollowed := true, recurses := true, apart := false, narrowed := true }
def FoldGluedUptoSaid : Prop := foldGluedUptoRow.holds Try.pinned (OpenSpec.upto foldGluedSpec)

end Rows
end Go.Proofs.Ytfdehecekghlmaa
