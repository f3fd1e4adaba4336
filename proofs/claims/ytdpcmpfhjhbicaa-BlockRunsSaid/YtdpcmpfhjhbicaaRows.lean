/-
  No cell of these rows narrows 'for every input' (looked for: loops, veiled, ifaces, maps, wideKeys, modest, calm, conditions, laid).
  DERIVED. THE GIVEN ROWS OF THIS SEAT. 9 by the template 'for every input the law returns true; each argument reads behind the call as it read before'; 0 by the template 'total and deterministic' (their statements: YtdpcmpfhjhbicaaTotals.lean).
  GIVEN WITH THE SEED: the statements are not yours to turn. If you find one false, say at which input.
  Laid BY PROGRAM, IN A SANDBOX (cutbox-rows.mjs): the forced cells as the released guide's own fill.sh prints them over the translation 5bceb24498fe8b25… (all of the seat's roots in one cut). By AI agents, Wed Nov 11 2026. No macro, syntax, notation, axiom, sorry.
-/
import Derived.Test.YtdpcmpfhjhbicaaChecked
import GoSem.Claim
import GoSem.ClaimJoined
import GoSem.ClaimMapViews
import Derived.JoinedTies
import Derived.KernelRfl
namespace Go.Proofs.Ytdpcmpfhjhbicaa
/- THE CELL 'sum', in the pinned program and in every row, IS THE sha256 OF THE DUMP (.gsa) THAT YtdpcmpfhjhbicaaProg.lean LOADS. Nothing in Lean hashes anything: it is a label: what it is worth is what the hold of that sum in a sandbox is worth. -/
noncomputable def Try.pinned : Pinned := { name := "ytdpcmpfhjhbicaa", sum := "5bceb24498fe8b25f1adac3378970b11ced7e161e3e5ad8ffc94499d851a2ea0", checked := Try.checked }
namespace Rows
def none {H : Type} : Left H := { results := [], args := [] }

/-- 'vivariumlaw29.BlockParses': WHATEVER THE INPUT: true; the input reads as it did. -/
def blockParsesSpec : ChangeSpec := { name := "blockParses", fn := fun _ => fun
  | [d] => { results := [.lit (.bool true)], args := [d] }
  | _ => none }
def blockParsesRow : OpenClaim := { program := "ytdpcmpfhjhbicaa", sum := "5bceb24498fe8b25f1adac3378970b11ced7e161e3e5ad8ffc94499d851a2ea0", func := "vivarium/vivariumlaw29.BlockParses", spec := "blockParses", unfollowed := true, recurses := true, apart := false }
def BlockParsesSaid : Prop := blockParsesRow.holds Try.pinned (OpenSpec.ofChange blockParsesSpec)

/-- ITS FALSE NEIGHBOUR: 'it returns false'. Refute it at one input. -/
def blockParsesWrong : ChangeSpec := { name := "blockParses", fn := fun _ => fun
  | [d] => { results := [.lit (.bool false)], args := [d] }
  | _ => none }
def BlockParsesWrongFalsely : Prop := blockParsesRow.holds Try.pinned (OpenSpec.ofChange blockParsesWrong)

/-- 'vivariumlaw29.BlockNone': WHATEVER THE INPUT: true; the input reads as it did. -/
def blockNoneSpec : ChangeSpec := { name := "blockNone", fn := fun _ => fun
  | [d1, d2, d3] => { results := [.lit (.bool true)], args := [d1, d2, d3] }
  | _ => none }
def blockNoneRow : OpenClaim := { program := "ytdpcmpfhjhbicaa", sum := "5bceb24498fe8b25f1adac3378970b11ced7e161e3e5ad8ffc94499d851a2ea0", func := "vivarium/vivariumlaw29.BlockNone", spec := "blockNone", unfollowed := true, recurses := true, apart := false }
def BlockNoneSaid : Prop := blockNoneRow.holds Try.pinned (OpenSpec.ofChange blockNoneSpec)

/-- ITS FALSE NEIGHBOUR: 'it returns false'. Refute it at one input. -/
def blockNoneWrong : ChangeSpec := { name := "blockNone", fn := fun _ => fun
  | [d1, d2, d3] => { results := [.lit (.bool false)], args := [d1, d2, d3] }
  | _ => none }
def BlockNoneWrongFalsely : Prop := blockNoneRow.holds Try.pinned (OpenSpec.ofChange blockNoneWrong)

/-- 'vivariumlaw29.BlockForm': WHATEVER THE INPUT: true; the input reads as it did. -/
def blockFormSpec : ChangeSpec := { name := "blockForm", fn := fun _ => fun
  | [d1, d2] => { results := [.lit (.bool true)], args := [d1, d2] }
  | _ => none }
def blockFormRow : OpenClaim := { program := "ytdpcmpfhjhbicaa", sum := "5bceb24498fe8b25f1adac3378970b11ced7e161e3e5ad8ffc94499d851a2ea0", func := "vivarium/vivariumlaw29.BlockForm", spec := "blockForm", unfollowed := true, recurses := true, apart := false }
def BlockFormSaid : Prop := blockFormRow.holds Try.pinned (OpenSpec.ofChange blockFormSpec)

/-- ITS FALSE NEIGHBOUR: 'it returns false'. Refute it at one input. -/
def blockFormWrong : ChangeSpec := { name := "blockForm", fn := fun _ => fun
  | [d1, d2] => { results := [.lit (.bool false)], args := [d1, d2] }
  | _ => none }
def BlockFormWrongFalsely : Prop := blockFormRow.holds Try.pinned (OpenSpec.ofChange blockFormWrong)

/-- 'vivariumlaw29.BlockAdds': WHATEVER THE INPUT: true; the input reads as it did. -/
def blockAddsSpec : ChangeSpec := { name := "blockAdds", fn := fun _ => fun
  | [d1, d2, d3, d4, d5] => { results := [.lit (.bool true)], args := [d1, d2, d3, d4, d5] }
  | _ => none }
def blockAddsRow : OpenClaim := { program := "ytdpcmpfhjhbicaa", sum := "5bceb24498fe8b25f1adac3378970b11ced7e161e3e5ad8ffc94499d851a2ea0", func := "vivarium/vivariumlaw29.BlockAdds", spec := "blockAdds", unfollowed := true, recurses := true, apart := false }
def BlockAddsSaid : Prop := blockAddsRow.holds Try.pinned (OpenSpec.ofChange blockAddsSpec)

/-- ITS FALSE NEIGHBOUR: 'it returns false'. Refute it at one input. -/
def blockAddsWrong : ChangeSpec := { name := "blockAdds", fn := fun _ => fun
  | [d1, d2, d3, d4, d5] => { results := [.lit (.bool false)], args := [d1, d2, d3, d4, d5] }
  | _ => none }
def BlockAddsWrongFalsely : Prop := blockAddsRow.holds Try.pinned (OpenSpec.ofChange blockAddsWrong)

/-- 'vivariumlaw29.BlockBack': WHATEVER THE INPUT: true; the input reads as it did. -/
def blockBackSpec : ChangeSpec := { name := "blockBack", fn := fun _ => fun
  | [d1, d2, d3, d4] => { results := [.lit (.bool true)], args := [d1, d2, d3, d4] }
  | _ => none }
def blockBackRow : OpenClaim := { program := "ytdpcmpfhjhbicaa", sum := "5bceb24498fe8b25f1adac3378970b11ced7e161e3e5ad8ffc94499d851a2ea0", func := "vivarium/vivariumlaw29.BlockBack", spec := "blockBack", unfollowed := true, recurses := true, apart := false }
def BlockBackSaid : Prop := blockBackRow.holds Try.pinned (OpenSpec.ofChange blockBackSpec)

/-- ITS FALSE NEIGHBOUR: 'it returns false'. Refute it at one input. -/
def blockBackWrong : ChangeSpec := { name := "blockBack", fn := fun _ => fun
  | [d1, d2, d3, d4] => { results := [.lit (.bool false)], args := [d1, d2, d3, d4] }
  | _ => none }
def BlockBackWrongFalsely : Prop := blockBackRow.holds Try.pinned (OpenSpec.ofChange blockBackWrong)

/-- 'vivariumlaw29.BlockRuns': WHATEVER THE INPUT: true; the input reads as it did. -/
def blockRunsSpec : ChangeSpec := { name := "blockRuns", fn := fun _ => fun
  | [d1, d2, d3, d4, d5] => { results := [.lit (.bool true)], args := [d1, d2, d3, d4, d5] }
  | _ => none }
def blockRunsRow : OpenClaim := { program := "ytdpcmpfhjhbicaa", sum := "5bceb24498fe8b25f1adac3378970b11ced7e161e3e5ad8ffc94499d851a2ea0", func := "vivarium/vivariumlaw29.BlockRuns", spec := "blockRuns", unfollowed := true, recurses := true, apart := false }
def BlockRunsSaid : Prop := blockRunsRow.holds Try.pinned (OpenSpec.ofChange blockRunsSpec)

/-- ITS FALSE NEIGHBOUR: 'it returns false'. Refute it at one input. -/
def blockRunsWrong : ChangeSpec := { name := "blockRuns", fn := fun _ => fun
  | [d1, d2, d3, d4, d5] => { results := [.lit (.bool false)], args := [d1, d2, d3, d4, d5] }
  | _ => none }
def BlockRunsWrongFalsely : Prop := blockRunsRow.holds Try.pinned (OpenSpec.ofChange blockRunsWrong)

/-- 'vivariumlaw29.BlockNames': WHATEVER THE INPUT: true; the input reads as it did. -/
def blockNamesSpec : ChangeSpec := { name := "blockNames", fn := fun _ => fun
  | [] => { results := [.lit (.bool true)], args := [] }
  | _ => none }
def blockNamesRow : OpenClaim := { program := "ytdpcmpfhjhbicaa", sum := "5bceb24498fe8b25f1adac3378970b11ced7e161e3e5ad8ffc94499d851a2ea0", func := "vivarium/vivariumlaw29.BlockNames", spec := "blockNames", unfollowed := true, recurses := true, apart := false }
def BlockNamesSaid : Prop := blockNamesRow.holds Try.pinned (OpenSpec.ofChange blockNamesSpec)

/-- ITS FALSE NEIGHBOUR: 'it returns false'. Refute it at one input. -/
def blockNamesWrong : ChangeSpec := { name := "blockNames", fn := fun _ => fun
  | [] => { results := [.lit (.bool false)], args := [] }
  | _ => none }
def BlockNamesWrongFalsely : Prop := blockNamesRow.holds Try.pinned (OpenSpec.ofChange blockNamesWrong)

/-- 'vivariumlaw29.BlockCounts': WHATEVER THE INPUT: true; the input reads as it did. -/
def blockCountsSpec : ChangeSpec := { name := "blockCounts", fn := fun _ => fun
  | [d1, d2, d3, d4] => { results := [.lit (.bool true)], args := [d1, d2, d3, d4] }
  | _ => none }
def blockCountsRow : OpenClaim := { program := "ytdpcmpfhjhbicaa", sum := "5bceb24498fe8b25f1adac3378970b11ced7e161e3e5ad8ffc94499d851a2ea0", func := "vivarium/vivariumlaw29.BlockCounts", spec := "blockCounts", unfollowed := true, recurses := true, apart := false }
def BlockCountsSaid : Prop := blockCountsRow.holds Try.pinned (OpenSpec.ofChange blockCountsSpec)

/-- ITS FALSE NEIGHBOUR: 'it returns false'. Refute it at one input. -/
def blockCountsWrong : ChangeSpec := { name := "blockCounts", fn := fun _ => fun
  | [d1, d2, d3, d4] => { results := [.lit (.bool false)], args := [d1, d2, d3, d4] }
  | _ => none }
def BlockCountsWrongFalsely : Prop := blockCountsRow.holds Try.pinned (OpenSpec.ofChange blockCountsWrong)

/-- 'vivariumlaw29.BlockRules': WHATEVER THE INPUT: true; the input reads as it did. -/
def blockRulesSpec : ChangeSpec := { name := "blockRules", fn := fun _ => fun
  | [d] => { results := [.lit (.bool true)], args := [d] }
  | _ => none }
def blockRulesRow : OpenClaim := { program := "ytdpcmpfhjhbicaa", sum := "5bceb24498fe8b25f1adac3378970b11ced7e161e3e5ad8ffc94499d851a2ea0", func := "vivarium/vivariumlaw29.BlockRules", spec := "blockRules", unfollowed := true, recurses := true, apart := false }
def BlockRulesSaid : Prop := blockRulesRow.holds Try.pinned (OpenSpec.ofChange blockRulesSpec)

/-- ITS FALSE NEIGHBOUR: 'it returns false'. Refute it at one input. -/
def blockRulesWrong : ChangeSpec := { name := "blockRules", fn := fun _ => fun
  | [d] => { results := [.lit (.bool false)], args := [d] }
  | _ => none }
def BlockRulesWrongFalsely : Prop := blockRulesRow.holds Try.pinned (OpenSpec.ofChange blockRulesWrong)

/- THE SECOND FORM. 'bulk': how many values and letters a reading holds, each counted each time it is reached (what is shared counts as often as it is met; a slice's spare places count too). A statement '..UptoSaid' is the law's where the arguments, and the package variables that the reading takes, are together of bulk at most 1048576: NARROWER than '..Said'. Prove '..Said' where nothing that the law and all that it calls make is longer than what came in: it says more and counts as full. Else prove '..UptoSaid'. A law counts once. -/
mutual
def uptoBulk {H : Type} : DataW H → Nat
  | .lit (.string bytes) => bytes.length + 1
  | .lit _ => 1
  | .nil => 1
  | .ptr d => uptoBulk d + 1
  | .slice elems spare => uptoBulkAll elems + uptoBulkAll spare + 1
  | .agg parts => uptoBulkAll parts + 1
  | .iface _ d => uptoBulk d + 1
  | .map entries => uptoBulkEntries entries + 1
  | .held _ => 1
def uptoBulkAll {H : Type} : List (DataW H) → Nat
  | [] => 0
  | d :: r => uptoBulk d + uptoBulkAll r
def uptoBulkEntries {H : Type} : List (Lit × DataW H) → Nat
  | [] => 0
  | x :: r => uptoBulkEntry x + uptoBulkEntries r
def uptoBulkEntry {H : Type} : Lit × DataW H → Nat
  | (.string bytes, d) => bytes.length + uptoBulk d + 1
  | (_, d) => uptoBulk d + 1
 end
def uptoSmall : (H : Type) → List (DataW H) → Bool := fun _ ds => decide (uptoBulkAll ds ≤ 1048576)
def OpenSpec.upto (s : _root_.Go.ChangeSpec) : _root_.Go.OpenSpec := { _root_.Go.OpenSpec.ofChange s with cond := some uptoSmall }

/-- 'vivariumlaw29.BlockParses', WHERE WHAT IT READS IS OF BULK AT MOST 1048576: true; the input reads as it did. -/
def blockParsesUptoRow : OpenClaim := { program := "ytdpcmpfhjhbicaa", sum := "5bceb24498fe8b25f1adac3378970b11ced7e161e3e5ad8ffc94499d851a2ea0", func := "vivarium/vivariumlaw29.BlockParses", spec := "blockParses", unfollowed := true, recurses := true, apart := false, narrowed := true }
def BlockParsesUptoSaid : Prop := blockParsesUptoRow.holds Try.pinned (OpenSpec.upto blockParsesSpec)

/-- 'vivariumlaw29.BlockNone', WHERE WHAT IT READS IS OF BULK AT MOST 1048576: true; the input reads as it did. -/
def blockNoneUptoRow : OpenClaim := { program := "ytdpcmpfhjhbicaa", sum := "5bceb24498fe8b25f1adac3378970b11ced7e161e3e5ad8ffc94499d851a2ea0", func := "vivarium/vivariumlaw29.BlockNone", spec := "blockNone", unfollowed := true, recurses := true, apart := false, narrowed := true }
def BlockNoneUptoSaid : Prop := blockNoneUptoRow.holds Try.pinned (OpenSpec.upto blockNoneSpec)

/-- 'vivariumlaw29.BlockForm', WHERE WHAT IT READS IS OF BULK AT MOST 1048576: true; the input reads as it did. -/
def blockFormUptoRow : OpenClaim := { program := "ytdpcmpfhjhbicaa", sum := "5bceb24498fe8b25f1adac3378970b11ced7e161e3e5ad8ffc94499d851a2ea0", func := "vivarium/vivariumlaw29.BlockForm", spec := "blockForm", unfollowed := true, recurses := true, apart := false, narrowed := true }
def BlockFormUptoSaid : Prop := blockFormUptoRow.holds Try.pinned (OpenSpec.upto blockFormSpec)

/-- 'vivariumlaw29.BlockAdds', WHERE WHAT IT READS IS OF BULK AT MOST 1048576: true; the input reads as it did. -/
def blockAddsUptoRow : OpenClaim := { program := "ytdpcmpfhjhbicaa", sum := "5bceb24498fe8b25f1adac3378970b11ced7e161e3e5ad8ffc94499d851a2ea0", func := "vivarium/vivariumlaw29.BlockAdds", spec := "blockAdds", unfollowed := true, recurses := true, apart := false, narrowed := true }
def BlockAddsUptoSaid : Prop := blockAddsUptoRow.holds Try.pinned (OpenSpec.upto blockAddsSpec)

/-- 'vivariumlaw29.BlockBack', WHERE WHAT IT READS IS OF BULK AT MOST 1048576: true; the input reads as it did. -/
def blockBackUptoRow : OpenClaim := { program := "ytdpcmpfhjhbicaa", sum := "5bceb24498fe8b25f1adac3378970b11ced7e161e3e5ad8ffc94499d851a2ea0", func := "vivarium/vivariumlaw29.BlockBack", spec := "blockBack", unfollowed := true, recurses := true, apart := false, narrowed := true }
def BlockBackUptoSaid : Prop := blockBackUptoRow.holds Try.pinned (OpenSpec.upto blockBackSpec)

/-- 'vivariumlaw29.BlockRuns', WHERE WHAT IT READS IS OF BULK AT MOST 1048576: true; the input reads as it did. -/
def blockRunsUptoRow : OpenClaim := { program := "ytdpcmpfhjhbicaa", sum := "5bceb24498fe8b25f1adac3378970b11ced7e161e3e5ad8ffc94499d851a2ea0", func := "vivarium/vivariumlaw29.BlockRuns", spec := "blockRuns", unfollowed := true, recurses := true, apart := false, narrowed := true }
def BlockRunsUptoSaid : Prop := blockRunsUptoRow.holds Try.pinned (OpenSpec.upto blockRunsSpec)

/-- 'vivariumlaw29.BlockNames', WHERE WHAT IT READS IS OF BULK AT MOST 1048576: true; the input reads as it did. -/
def blockNamesUptoRow : OpenClaim := { program := "ytdpcmpfhjhbicaa", sum := "5bceb24498fe8b25f1adac3378970b11ced7e161e3e5ad8ffc94499d851a2ea0", func := "vivarium/vivariumlaw29.BlockNames", spec := "blockNames", unfollowed := true, recurses := true, apart := false, narrowed := true }
def BlockNamesUptoSaid : Prop := blockNamesUptoRow.holds Try.pinned (OpenSpec.upto blockNamesSpec)

/-- 'vivariumlaw29.BlockCounts', WHERE WHAT IT READS IS OF BULK AT MOST 1048576: true; the input reads as it did. -/
def blockCountsUptoRow : OpenClaim := { program := "ytdpcmpfhjhbicaa", sum := "5bceb24498fe8b25f1adac3378970b11ced7e161e3e5ad8ffc94499d851a2ea0", func := "vivarium/vivariumlaw29.BlockCounts", spec := "blockCounts", unfollowed := true, recurses := true, apart := false, narrowed := true }
def BlockCountsUptoSaid : Prop := blockCountsUptoRow.holds Try.pinned (OpenSpec.upto blockCountsSpec)

/-- 'vivariumlaw29.BlockRules', WHERE WHAT IT READS IS OF BULK AT MOST 1048576: true; the input reads as it did. -/
def blockRulesUptoRow : OpenClaim := { program := "ytdpcmpfhjhbicaa", sum := "5bceb24498fe8b25f1adac3378970b11ced7e161e3e5ad8ffc94499d851a2ea0", func := "vivarium/vivariumlaw29.BlockRules", spec := "blockRules", unfollowed := true, recurses := true, apart := false, narrowed := true }
def BlockRulesUptoSaid : Prop := blockRulesUptoRow.holds Try.pinned (OpenSpec.upto blockRulesSpec)

end Rows
end Go.Proofs.Ytdpcmpfhjhbicaa
