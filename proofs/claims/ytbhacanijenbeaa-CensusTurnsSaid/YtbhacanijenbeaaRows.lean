/-
  No cell of these rows narrows 'for every input' (looked for: loops, veiled, ifaces, maps, wideKeys, modest, calm, conditions, laid).
  DERIVED. THE GIVEN ROWS OF THIS SEAT. 5 by the template 'for every input the law returns true; each argument reads behind the call as it read before'; 0 by the template 'total and deterministic' (their statements: YtbhacanijenbeaaTotals.lean).
  GIVEN WITH THE SEED: the statements are not yours to turn. If you find one false, say at which input.
  Laid BY PROGRAM, IN A SANDBOX (cutbox-rows.mjs): the forced cells as the released guide's own fill.sh prints them over the translation d05af168e3c6935f… (all of the seat's roots in one cut). By AI agents, Wed Nov 11 2026. No macro, syntax, notation, axiom, sorry.
-/
import Derived.Test.YtbhacanijenbeaaChecked
import GoSem.Claim
import GoSem.ClaimJoined
import GoSem.ClaimMapViews
import Derived.JoinedTies
import Derived.KernelRfl
namespace Go.Proofs.Ytbhacanijenbeaa
/- THE CELL 'sum', in the pinned program and in every row, IS THE sha256 OF THE DUMP (.gsa) THAT YtbhacanijenbeaaProg.lean LOADS. Nothing in Lean hashes anything: it is a label: what it is worth is what the hold of that sum in a sandbox is worth. -/
noncomputable def Try.pinned : Pinned := { name := "ytbhacanijenbeaa", sum := "d05af168e3c6935f23709c7fb9e01f6994910405d1d678e7d1dc1bf020b0a5e6", checked := Try.checked }
namespace Rows
def none {H : Type} : Left H := { results := [], args := [] }

/-- 'vivariumlaw28.CensusTurns': WHATEVER THE INPUT: true; the input reads as it did. -/
def censusTurnsSpec : ChangeSpec := { name := "censusTurns", fn := fun _ => fun
  | [d] => { results := [.lit (.bool true)], args := [d] }
  | _ => none }
def censusTurnsRow : OpenClaim := { program := "ytbhacanijenbeaa", sum := "d05af168e3c6935f23709c7fb9e01f6994910405d1d678e7d1dc1bf020b0a5e6", func := "vivarium/vivariumlaw28.CensusTurns", spec := "censusTurns", plainKeys := false, apart := false }
def CensusTurnsSaid : Prop := censusTurnsRow.holds Try.pinned (OpenSpec.ofChange censusTurnsSpec)

/-- ITS FALSE NEIGHBOUR: 'it returns false'. Refute it at one input. -/
def censusTurnsWrong : ChangeSpec := { name := "censusTurns", fn := fun _ => fun
  | [d] => { results := [.lit (.bool false)], args := [d] }
  | _ => none }
def CensusTurnsWrongFalsely : Prop := censusTurnsRow.holds Try.pinned (OpenSpec.ofChange censusTurnsWrong)

/-- 'vivariumlaw28.CensusLikeness': WHATEVER THE INPUT: true; the input reads as it did. -/
def censusLikenessSpec : ChangeSpec := { name := "censusLikeness", fn := fun _ => fun
  | [d1, d2] => { results := [.lit (.bool true)], args := [d1, d2] }
  | _ => none }
def censusLikenessRow : OpenClaim := { program := "ytbhacanijenbeaa", sum := "d05af168e3c6935f23709c7fb9e01f6994910405d1d678e7d1dc1bf020b0a5e6", func := "vivarium/vivariumlaw28.CensusLikeness", spec := "censusLikeness", inPlace := ["math.sqrt"], plainKeys := false, apart := false }
def CensusLikenessSaid : Prop := censusLikenessRow.holds Try.pinned (OpenSpec.ofChange censusLikenessSpec)

/-- ITS FALSE NEIGHBOUR: 'it returns false'. Refute it at one input. -/
def censusLikenessWrong : ChangeSpec := { name := "censusLikeness", fn := fun _ => fun
  | [d1, d2] => { results := [.lit (.bool false)], args := [d1, d2] }
  | _ => none }
def CensusLikenessWrongFalsely : Prop := censusLikenessRow.holds Try.pinned (OpenSpec.ofChange censusLikenessWrong)

/-- 'vivariumlaw28.CensusStates': WHATEVER THE INPUT: true; the input reads as it did. -/
def censusStatesSpec : ChangeSpec := { name := "censusStates", fn := fun _ => fun
  | [d] => { results := [.lit (.bool true)], args := [d] }
  | _ => none }
def censusStatesRow : OpenClaim := { program := "ytbhacanijenbeaa", sum := "d05af168e3c6935f23709c7fb9e01f6994910405d1d678e7d1dc1bf020b0a5e6", func := "vivarium/vivariumlaw28.CensusStates", spec := "censusStates", unfollowed := true, recurses := true, plainKeys := false, apart := false }
def CensusStatesSaid : Prop := censusStatesRow.holds Try.pinned (OpenSpec.ofChange censusStatesSpec)

/-- ITS FALSE NEIGHBOUR: 'it returns false'. Refute it at one input. -/
def censusStatesWrong : ChangeSpec := { name := "censusStates", fn := fun _ => fun
  | [d] => { results := [.lit (.bool false)], args := [d] }
  | _ => none }
def CensusStatesWrongFalsely : Prop := censusStatesRow.holds Try.pinned (OpenSpec.ofChange censusStatesWrong)

/-- 'vivariumlaw28.CensusNumbers': WHATEVER THE INPUT: true; the input reads as it did. -/
def censusNumbersSpec : ChangeSpec := { name := "censusNumbers", fn := fun _ => fun
  | [d1, d2] => { results := [.lit (.bool true)], args := [d1, d2] }
  | _ => none }
def censusNumbersRow : OpenClaim := { program := "ytbhacanijenbeaa", sum := "d05af168e3c6935f23709c7fb9e01f6994910405d1d678e7d1dc1bf020b0a5e6", func := "vivarium/vivariumlaw28.CensusNumbers", spec := "censusNumbers", unfollowed := true, recurses := true, plainKeys := false, apart := false }
def CensusNumbersSaid : Prop := censusNumbersRow.holds Try.pinned (OpenSpec.ofChange censusNumbersSpec)

/-- ITS FALSE NEIGHBOUR: 'it returns false'. Refute it at one input. -/
def censusNumbersWrong : ChangeSpec := { name := "censusNumbers", fn := fun _ => fun
  | [d1, d2] => { results := [.lit (.bool false)], args := [d1, d2] }
  | _ => none }
def CensusNumbersWrongFalsely : Prop := censusNumbersRow.holds Try.pinned (OpenSpec.ofChange censusNumbersWrong)

/-- 'vivariumlaw28.CensusGroups': WHATEVER THE INPUT: true; the input reads as it did. -/
def censusGroupsSpec : ChangeSpec := { name := "censusGroups", fn := fun _ => fun
  | [d1, d2] => { results := [.lit (.bool true)], args := [d1, d2] }
  | _ => none }
def censusGroupsRow : OpenClaim := { program := "ytbhacanijenbeaa", sum := "d05af168e3c6935f23709c7fb9e01f6994910405d1d678e7d1dc1bf020b0a5e6", func := "vivarium/vivariumlaw28.CensusGroups", spec := "censusGroups", unfollowed := true, recurses := true, plainKeys := false, apart := false }
def CensusGroupsSaid : Prop := censusGroupsRow.holds Try.pinned (OpenSpec.ofChange censusGroupsSpec)

/-- ITS FALSE NEIGHBOUR: 'it returns false'. Refute it at one input. -/
def censusGroupsWrong : ChangeSpec := { name := "censusGroups", fn := fun _ => fun
  | [d1, d2] => { results := [.lit (.bool false)], args := [d1, d2] }
  | _ => none }
def CensusGroupsWrongFalsely : Prop := censusGroupsRow.holds Try.pinned (OpenSpec.ofChange censusGroupsWrong)

/- THE SECOND FORM. 'bulk': how many values and letters a reading holds, each counted each time it is reached (what is shared counts as often as it is met; a slice's spare places count too). A statement '..UptoSaid' is the law's where the arguments, and the package variables that the reading takes, are together of bulk at most 1048576: NARROWER than '..Said'. Prove '..Said' where nothing that the law and all that it calls make is longer than what came in: it says more and counts as full. Else prove '..UptoSaid'. A law counts once. -/
mutual
def uptoBulk {H : Type} : DataW H → Nat
  | .lit (.string bytes) => bytes.length + 1
  | .lit _ => 1
  | .nil => 1
  | .ptr d => uptoBulk d + 1
  | .slice elems spare => uptoBulkAll elems + uptoBulkAll spare + 1
  | .agg parts => uptoBulkAll parts + 1
  | .iface _ d => uptoBulk d + 1
  | .map entries => uptoBulkEntries entries + 1
  | .held _ => 1
def uptoBulkAll {H : Type} : List (DataW H) → Nat
  | [] => 0
  | d :: r => uptoBulk d + uptoBulkAll r
def uptoBulkEntries {H : Type} : List (Lit × DataW H) → Nat
  | [] => 0
  | x :: r => uptoBulkEntry x + uptoBulkEntries r
def uptoBulkEntry {H : Type} : Lit × DataW H → Nat
  | (.string bytes, d) => bytes.length + uptoBulk d + 1
  | (_, d) => uptoBulk d + 1
 end
def uptoSmall : (H : Type) → List (DataW H) → Bool := fun _ ds => decide (uptoBulkAll ds ≤ 1048576)
def OpenSpec.upto (s : _root_.Go.ChangeSpec) : _root_.Go.OpenSpec := { _root_.Go.OpenSpec.ofChange s with cond := some uptoSmall }

/-- 'vivariumlaw28.CensusTurns', WHERE WHAT IT READS IS OF BULK AT MOST 1048576: true; the input reads as it did. -/
def censusTurnsUptoRow : OpenClaim := { program := "ytbhacanijenbeaa", sum := "d05af168e3c6935f23709c7fb9e01f6994910405d1d678e7d1dc1bf020b0a5e6", func := "vivarium/vivariumlaw28.CensusTurns", spec := "censusTurns", plainKeys := false, apart := false, narrowed := true }
def CensusTurnsUptoSaid : Prop := censusTurnsUptoRow.holds Try.pinned (OpenSpec.upto censusTurnsSpec)

/-- 'vivariumlaw28.CensusLikeness', WHERE WHAT IT READS IS OF BULK AT MOST 1048576: true; the input reads as it did. -/
def censusLikenessUptoRow : OpenClaim := { program := "ytbhacanijenbeaa", sum := "d05af168e3c6935f23709c7fb9e01f6994910405d1d678e7d1dc1bf020b0a5e6", func := "vivarium/vivariumlaw28.CensusLikeness", spec := "censusLikeness", inPlace := ["math.sqrt"], plainKeys := false, apart := false, narrowed := true }
def CensusLikenessUptoSaid : Prop := censusLikenessUptoRow.holds Try.pinned (OpenSpec.upto censusLikenessSpec)

/-- 'vivariumlaw28.CensusStates', WHERE WHAT IT READS IS OF BULK AT MOST 1048576: true; the input reads as it did. -/
def censusStatesUptoRow : OpenClaim := { program := "ytbhacanijenbeaa", sum := "d05af168e3c6935f23709c7fb9e01f6994910405d1d678e7d1dc1bf020b0a5e6", func := "vivarium/vivariumlaw28.CensusStates", spec := "censusStates", unfollowed := true, recurses := true, plainKeys := false, apart := false, narrowed := true }
def CensusStatesUptoSaid : Prop := censusStatesUptoRow.holds Try.pinned (OpenSpec.upto censusStatesSpec)

/-- 'vivariumlaw28.CensusNumbers', WHERE WHAT IT READS IS OF BULK AT MOST 1048576: true; the input reads as it did. -/
def censusNumbersUptoRow : OpenClaim := { program := "ytbhacanijenbeaa", sum := "d05af168e3c6935f23709c7fb9e01f6994910405d1d678e7d1dc1bf020b0a5e6", func := "vivarium/vivariumlaw28.CensusNumbers", spec := "censusNumbers", unfollowed := true, recurses := true, plainKeys := false, apart := false, narrowed := true }
def CensusNumbersUptoSaid : Prop := censusNumbersUptoRow.holds Try.pinned (OpenSpec.upto censusNumbersSpec)

/-- 'vivariumlaw28.CensusGroups', WHERE WHAT IT READS IS OF BULK AT MOST 1048576: true; the input reads as it did. -/
def censusGroupsUptoRow : OpenClaim := { program := "ytbhacanijenbeaa", sum := "d05af168e3c6935f23709c7fb9e01f6994910405d1d678e7d1dc1bf020b0a5e6", func := "vivarium/vivariumlaw28.CensusGroups", spec := "censusGroups", unfollowed := true, recurses := true, plainKeys := false, apart := false, narrowed := true }
def CensusGroupsUptoSaid : Prop := censusGroupsUptoRow.holds Try.pinned (OpenSpec.upto censusGroupsSpec)

end Rows
end Go.Proofs.Ytbhacanijenbeaa
