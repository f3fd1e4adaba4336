/-
  No cell of these rows narrows 'for every input' (looked for: loops, veiled, ifaces, maps, wideKeys, modest, calm, conditions, laid).
  DERIVED. THE GIVEN ROWS OF THIS SEAT. 6 by the template 'for every input the law returns true; each argument reads behind the call as it read before'; 0 by the template 'total and deterministic' (their statements: YtjhfiibfknhniaaTotals.lean).
  GIVEN WITH THE SEED: the statements are not yours to turn. If you find one false, say at which input.
  Laid BY PROGRAM, IN A SANDBOX (cutbox-rows.mjs): the forced cells as the released guide's own fill.sh prints them over the translation 62752eb8b0371844… (all of the seat's roots in one cut). By AI agents, Wed Nov 11 2026. No macro, syntax, notation, axiom, sorry.
-/
import Derived.Test.YtjhfiibfknhniaaChecked
import GoSem.Claim
import GoSem.ClaimJoined
import GoSem.ClaimMapViews
import Derived.JoinedTies
import Derived.KernelRfl
namespace Go.Proofs.Ytjhfiibfknhniaa
/- THE CELL 'sum', in the pinned program and in every row, IS THE sha256 OF THE DUMP (.gsa) THAT YtjhfiibfknhniaaProg.lean LOADS. Nothing in Lean hashes anything: it is a label: what it is worth is what the hold of that sum in a sandbox is worth. -/
noncomputable def Try.pinned : Pinned := { name := "ytjhfiibfknhniaa", sum := "62752eb8b03718440f8acb0b15d88ff5152e059b209ec13399ec30aea420201d", checked := Try.checked }
namespace Rows
def none {H : Type} : Left H := { results := [], args := [] }

/-- 'vivariumlaw13.FieldNames': WHATEVER THE INPUT: true; the input reads as it did. -/
def fieldNamesSpec : ChangeSpec := { name := "fieldNames", fn := fun _ => fun
  | [] => { results := [.lit (.bool true)], args := [] }
  | _ => none }
def fieldNamesRow : OpenClaim := { program := "ytjhfiibfknhniaa", sum := "62752eb8b03718440f8acb0b15d88ff5152e059b209ec13399ec30aea420201d", func := "vivarium/vivariumlaw13.FieldNames", spec := "fieldNames", unfollowed := true, recurses := true, apart := false }
def FieldNamesSaid : Prop := fieldNamesRow.holds Try.pinned (OpenSpec.ofChange fieldNamesSpec)

/-- ITS FALSE NEIGHBOUR: 'it returns false'. Refute it at one input. -/
def fieldNamesWrong : ChangeSpec := { name := "fieldNames", fn := fun _ => fun
  | [] => { results := [.lit (.bool false)], args := [] }
  | _ => none }
def FieldNamesWrongFalsely : Prop := fieldNamesRow.holds Try.pinned (OpenSpec.ofChange fieldNamesWrong)

/-- 'vivariumlaw13.FieldLines': WHATEVER THE INPUT: true; the input reads as it did. -/
def fieldLinesSpec : ChangeSpec := { name := "fieldLines", fn := fun _ => fun
  | [d1, d2] => { results := [.lit (.bool true)], args := [d1, d2] }
  | _ => none }
def fieldLinesRow : OpenClaim := { program := "ytjhfiibfknhniaa", sum := "62752eb8b03718440f8acb0b15d88ff5152e059b209ec13399ec30aea420201d", func := "vivarium/vivariumlaw13.FieldLines", spec := "fieldLines", unfollowed := true, recurses := true, apart := false }
def FieldLinesSaid : Prop := fieldLinesRow.holds Try.pinned (OpenSpec.ofChange fieldLinesSpec)

/-- ITS FALSE NEIGHBOUR: 'it returns false'. Refute it at one input. -/
def fieldLinesWrong : ChangeSpec := { name := "fieldLines", fn := fun _ => fun
  | [d1, d2] => { results := [.lit (.bool false)], args := [d1, d2] }
  | _ => none }
def FieldLinesWrongFalsely : Prop := fieldLinesRow.holds Try.pinned (OpenSpec.ofChange fieldLinesWrong)

/-- 'vivariumlaw13.FieldBoth': WHATEVER THE INPUT: true; the input reads as it did. -/
def fieldBothSpec : ChangeSpec := { name := "fieldBoth", fn := fun _ => fun
  | [d1, d2, d3] => { results := [.lit (.bool true)], args := [d1, d2, d3] }
  | _ => none }
def fieldBothRow : OpenClaim := { program := "ytjhfiibfknhniaa", sum := "62752eb8b03718440f8acb0b15d88ff5152e059b209ec13399ec30aea420201d", func := "vivarium/vivariumlaw13.FieldBoth", spec := "fieldBoth", unfollowed := true, recurses := true, apart := false }
def FieldBothSaid : Prop := fieldBothRow.holds Try.pinned (OpenSpec.ofChange fieldBothSpec)

/-- ITS FALSE NEIGHBOUR: 'it returns false'. Refute it at one input. -/
def fieldBothWrong : ChangeSpec := { name := "fieldBoth", fn := fun _ => fun
  | [d1, d2, d3] => { results := [.lit (.bool false)], args := [d1, d2, d3] }
  | _ => none }
def FieldBothWrongFalsely : Prop := fieldBothRow.holds Try.pinned (OpenSpec.ofChange fieldBothWrong)

/-- 'vivariumlaw13.FieldClones': WHATEVER THE INPUT: true; the input reads as it did. -/
def fieldClonesSpec : ChangeSpec := { name := "fieldClones", fn := fun _ => fun
  | [d1, d2, d3, d4, d5] => { results := [.lit (.bool true)], args := [d1, d2, d3, d4, d5] }
  | _ => none }
def fieldClonesRow : OpenClaim := { program := "ytjhfiibfknhniaa", sum := "62752eb8b03718440f8acb0b15d88ff5152e059b209ec13399ec30aea420201d", func := "vivarium/vivariumlaw13.FieldClones", spec := "fieldClones", unfollowed := true, recurses := true, apart := false }
def FieldClonesSaid : Prop := fieldClonesRow.holds Try.pinned (OpenSpec.ofChange fieldClonesSpec)

/-- ITS FALSE NEIGHBOUR: 'it returns false'. Refute it at one input. -/
def fieldClonesWrong : ChangeSpec := { name := "fieldClones", fn := fun _ => fun
  | [d1, d2, d3, d4, d5] => { results := [.lit (.bool false)], args := [d1, d2, d3, d4, d5] }
  | _ => none }
def FieldClonesWrongFalsely : Prop := fieldClonesRow.holds Try.pinned (OpenSpec.ofChange fieldClonesWrong)

/-- 'vivariumlaw13.FieldNone': WHATEVER THE INPUT: true; the input reads as it did. -/
def fieldNoneSpec : ChangeSpec := { name := "fieldNone", fn := fun _ => fun
  | [d1, d2, d3, d4, d5] => { results := [.lit (.bool true)], args := [d1, d2, d3, d4, d5] }
  | _ => none }
def fieldNoneRow : OpenClaim := { program := "ytjhfiibfknhniaa", sum := "62752eb8b03718440f8acb0b15d88ff5152e059b209ec13399ec30aea420201d", func := "vivarium/vivariumlaw13.FieldNone", spec := "fieldNone", unfollowed := true, recurses := true, apart := false }
def FieldNoneSaid : Prop := fieldNoneRow.holds Try.pinned (OpenSpec.ofChange fieldNoneSpec)

/-- ITS FALSE NEIGHBOUR: 'it returns false'. Refute it at one input. -/
def fieldNoneWrong : ChangeSpec := { name := "fieldNone", fn := fun _ => fun
  | [d1, d2, d3, d4, d5] => { results := [.lit (.bool false)], args := [d1, d2, d3, d4, d5] }
  | _ => none }
def FieldNoneWrongFalsely : Prop := fieldNoneRow.holds Try.pinned (OpenSpec.ofChange fieldNoneWrong)

/-- 'vivariumlaw13.FieldPlays': WHATEVER THE INPUT: true; the input reads as it did. -/
def fieldPlaysSpec : ChangeSpec := { name := "fieldPlays", fn := fun _ => fun
  | [d1, d2, d3, d4, d5] => { results := [.lit (.bool true)], args := [d1, d2, d3, d4, d5] }
  | _ => none }
def fieldPlaysRow : OpenClaim := { program := "ytjhfiibfknhniaa", sum := "62752eb8b03718440f8acb0b15d88ff5152e059b209ec13399ec30aea420201d", func := "vivarium/vivariumlaw13.FieldPlays", spec := "fieldPlays", unfollowed := true, recurses := true, apart := false }
def FieldPlaysSaid : Prop := fieldPlaysRow.holds Try.pinned (OpenSpec.ofChange fieldPlaysSpec)

/-- ITS FALSE NEIGHBOUR: 'it returns false'. Refute it at one input. -/
def fieldPlaysWrong : ChangeSpec := { name := "fieldPlays", fn := fun _ => fun
  | [d1, d2, d3, d4, d5] => { results := [.lit (.bool false)], args := [d1, d2, d3, d4, d5] }
  | _ => none }
def FieldPlaysWrongFalsely : Prop := fieldPlaysRow.holds Try.pinned (OpenSpec.ofChange fieldPlaysWrong)

/- THE SECOND FORM. 'bulk': how many values and letters a reading holds, each counted each time it is reached (what is shared counts as often as it is met; a slice's spare places count too). A statement '..UptoSaid' is the law's where the arguments, and the package variables that the reading takes, are together of bulk at most 1048576: NARROWER than '..Said'. Prove '..Said' where nothing that the law and all that it calls make is longer than what came in: it says more and counts as full. Else prove '..UptoSaid'. A law counts once. -/
mutual
def uptoBulk {H : Type} : DataW H → Nat
  | .lit (.string bytes) => bytes.length + 1
  | .lit _ => 1
  | .nil => 1
  | .ptr d => uptoBulk d + 1
  | .slice elems spare => uptoBulkAll elems + uptoBulkAll spare + 1
  | .agg parts => uptoBulkAll parts + 1
  | .iface _ d => uptoBulk d + 1
  | .map entries => uptoBulkEntries entries + 1
  | .held _ => 1
def uptoBulkAll {H : Type} : List (DataW H) → Nat
  | [] => 0
  | d :: r => uptoBulk d + uptoBulkAll r
def uptoBulkEntries {H : Type} : List (Lit × DataW H) → Nat
  | [] => 0
  | x :: r => uptoBulkEntry x + uptoBulkEntries r
def uptoBulkEntry {H : Type} : Lit × DataW H → Nat
  | (.string bytes, d) => bytes.length + uptoBulk d + 1
  | (_, d) => uptoBulk d + 1
 end
def uptoSmall : (H : Type) → List (DataW H) → Bool := fun _ ds => decide (uptoBulkAll ds ≤ 1048576)
def OpenSpec.upto (s : _root_.Go.ChangeSpec) : _root_.Go.OpenSpec := { _root_.Go.OpenSpec.ofChange s with cond := some uptoSmall }

/-- 'vivariumlaw13.FieldNames', WHERE WHAT IT READS IS OF BULK AT MOST 1048576: true; the input reads as it did. -/
def fieldNamesUptoRow : OpenClaim := { program := "ytjhfiibfknhniaa", sum := "62752eb8b03718440f8acb0b15d88ff5152e059b209ec13399ec30aea420201d", func := "vivarium/vivariumlaw13.FieldNames", spec := "fieldNames", unfollowed := true, recurses := true, apart := false, narrowed := true }
def FieldNamesUptoSaid : Prop := fieldNamesUptoRow.holds Try.pinned (OpenSpec.upto fieldNamesSpec)

/-- 'vivariumlaw13.FieldLines', WHERE WHAT IT READS IS OF BULK AT MOST 1048576: true; the input reads as it did. -/
def fieldLinesUptoRow : OpenClaim := { program := "ytjhfiibfknhniaa", sum := "62752eb8b03718440f8acb0b15d88ff5152e059b209ec13399ec30aea420201d", func := "vivarium/vivariumlaw13.FieldLines", spec := "fieldLines", unfollowed := true, recurses := true, apart := false, narrowed := true }
def FieldLinesUptoSaid : Prop := fieldLinesUptoRow.holds Try.pinned (OpenSpec.upto fieldLinesSpec)

/-- 'vivariumlaw13.FieldBoth', WHERE WHAT IT READS IS OF BULK AT MOST 1048576: true; the input reads as it did. -/
def fieldBothUptoRow : OpenClaim := { program := "ytjhfiibfknhniaa", sum := "62752eb8b03718440f8acb0b15d88ff5152e059b209ec13399ec30aea420201d", func := "vivarium/vivariumlaw13.FieldBoth", spec := "fieldBoth", unfollowed := true, recurses := true, apart := false, narrowed := true }
def FieldBothUptoSaid : Prop := fieldBothUptoRow.holds Try.pinned (OpenSpec.upto fieldBothSpec)

/-- 'vivariumlaw13.FieldClones', WHERE WHAT IT READS IS OF BULK AT MOST 1048576: true; the input reads as it did. -/
def fieldClonesUptoRow : OpenClaim := { program := "ytjhfiibfknhniaa", sum := "62752eb8b03718440f8acb0b15d88ff5152e059b209ec13399ec30aea420201d", func := "vivarium/vivariumlaw13.FieldClones", spec := "fieldClones", unfollowed := true, recurses := true, apart := false, narrowed := true }
def FieldClonesUptoSaid : Prop := fieldClonesUptoRow.holds Try.pinned (OpenSpec.upto fieldClonesSpec)

/-- 'vivariumlaw13.FieldNone', WHERE WHAT IT READS IS OF BULK AT MOST 1048576: true; the input reads as it did. -/
def fieldNoneUptoRow : OpenClaim := { program := "ytjhfiibfknhniaa", sum := "62752eb8b03718440f8acb0b15d88ff5152e059b209ec13399ec30aea420201d", func := "vivarium/vivariumlaw13.FieldNone", spec := "fieldNone", unfollowed := true, recurses := true, apart := false, narrowed := true }
def FieldNoneUptoSaid : Prop := fieldNoneUptoRow.holds Try.pinned (OpenSpec.upto fieldNoneSpec)

/-- 'vivariumlaw13.FieldPlays', WHERE WHAT IT READS IS OF BULK AT MOST 1048576: true; the input reads as it did. -/
def fieldPlaysUptoRow : OpenClaim := { program := "ytjhfiibfknhniaa", sum := "62752eb8b03718440f8acb0b15d88ff5152e059b209ec13399ec30aea420201d", func := "vivarium/vivariumlaw13.FieldPlays", spec := "fieldPlays", unfollowed := true, recurses := true, apart := false, narrowed := true }
def FieldPlaysUptoSaid : Prop := fieldPlaysUptoRow.holds Try.pinned (OpenSpec.upto fieldPlaysSpec)

end Rows
end Go.Proofs.Ytjhfiibfknhniaa
