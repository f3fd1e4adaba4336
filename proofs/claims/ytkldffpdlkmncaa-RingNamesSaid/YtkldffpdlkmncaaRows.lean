/-
  No cell of these rows narrows 'for every input' (looked for: loops, veiled, ifaces, maps, wideKeys, modest, calm, conditions, laid).
  DERIVED. THE GIVEN ROWS OF THIS SEAT. 7 by the template 'for every input the law returns true; each argument reads behind the call as it read before'; 0 by the template 'total and deterministic' (their statements: YtkldffpdlkmncaaTotals.lean).
  GIVEN WITH THE SEED: the statements are not yours to turn. If you find one false, say at which input.
  Laid BY PROGRAM, IN A SANDBOX (cutbox-rows.mjs): the forced cells as the released guide's own fill.sh prints them over the translation dcdc6b8fe2dcb32f… (all of the seat's roots in one cut). By AI agents, Wed Nov 11 2026. No macro, syntax, notation, axiom, sorry.
-/
import Derived.Test.YtkldffpdlkmncaaChecked
import GoSem.Claim
import GoSem.ClaimJoined
import GoSem.ClaimMapViews
import Derived.JoinedTies
import Derived.KernelRfl
namespace Go.Proofs.Ytkldffpdlkmncaa
/- THE CELL 'sum', in the pinned program and in every row, IS THE sha256 OF THE DUMP (.gsa) THAT YtkldffpdlkmncaaProg.lean LOADS. Nothing in Lean hashes anything: it is a label: what it is worth is what the hold of that sum in a sandbox is worth. -/
noncomputable def Try.pinned : Pinned := { name := "ytkldffpdlkmncaa", sum := "dcdc6b8fe2dcb32f6810916eb7b35eb23c533267bfd56fa2ed6045172828e2ec", checked := Try.checked }
namespace Rows
def none {H : Type} : Left H := { results := [], args := [] }

/-- 'vivariumlaw14.RingNone': WHATEVER THE INPUT: true; the input reads as it did. -/
def ringNoneSpec : ChangeSpec := { name := "ringNone", fn := fun _ => fun
  | [d] => { results := [.lit (.bool true)], args := [d] }
  | _ => none }
def ringNoneRow : OpenClaim := { program := "ytkldffpdlkmncaa", sum := "dcdc6b8fe2dcb32f6810916eb7b35eb23c533267bfd56fa2ed6045172828e2ec", func := "vivarium/vivariumlaw14.RingNone", spec := "ringNone", unfollowed := true, recurses := true, apart := false }
def RingNoneSaid : Prop := ringNoneRow.holds Try.pinned (OpenSpec.ofChange ringNoneSpec)

/-- ITS FALSE NEIGHBOUR: 'it returns false'. Refute it at one input. -/
def ringNoneWrong : ChangeSpec := { name := "ringNone", fn := fun _ => fun
  | [d] => { results := [.lit (.bool false)], args := [d] }
  | _ => none }
def RingNoneWrongFalsely : Prop := ringNoneRow.holds Try.pinned (OpenSpec.ofChange ringNoneWrong)

/-- 'vivariumlaw14.RingArounds': WHATEVER THE INPUT: true; the input reads as it did. -/
def ringAroundsSpec : ChangeSpec := { name := "ringArounds", fn := fun _ => fun
  | [d1, d2, d3, d4] => { results := [.lit (.bool true)], args := [d1, d2, d3, d4] }
  | _ => none }
def ringAroundsRow : OpenClaim := { program := "ytkldffpdlkmncaa", sum := "dcdc6b8fe2dcb32f6810916eb7b35eb23c533267bfd56fa2ed6045172828e2ec", func := "vivarium/vivariumlaw14.RingArounds", spec := "ringArounds", unfollowed := true, recurses := true, apart := false }
def RingAroundsSaid : Prop := ringAroundsRow.holds Try.pinned (OpenSpec.ofChange ringAroundsSpec)

/-- ITS FALSE NEIGHBOUR: 'it returns false'. Refute it at one input. -/
def ringAroundsWrong : ChangeSpec := { name := "ringArounds", fn := fun _ => fun
  | [d1, d2, d3, d4] => { results := [.lit (.bool false)], args := [d1, d2, d3, d4] }
  | _ => none }
def RingAroundsWrongFalsely : Prop := ringAroundsRow.holds Try.pinned (OpenSpec.ofChange ringAroundsWrong)

/-- 'vivariumlaw14.RingGlues': WHATEVER THE INPUT: true; the input reads as it did. -/
def ringGluesSpec : ChangeSpec := { name := "ringGlues", fn := fun _ => fun
  | [d1, d2, d3, d4] => { results := [.lit (.bool true)], args := [d1, d2, d3, d4] }
  | _ => none }
def ringGluesRow : OpenClaim := { program := "ytkldffpdlkmncaa", sum := "dcdc6b8fe2dcb32f6810916eb7b35eb23c533267bfd56fa2ed6045172828e2ec", func := "vivarium/vivariumlaw14.RingGlues", spec := "ringGlues", unfollowed := true, recurses := true, apart := false }
def RingGluesSaid : Prop := ringGluesRow.holds Try.pinned (OpenSpec.ofChange ringGluesSpec)

/-- ITS FALSE NEIGHBOUR: 'it returns false'. Refute it at one input. -/
def ringGluesWrong : ChangeSpec := { name := "ringGlues", fn := fun _ => fun
  | [d1, d2, d3, d4] => { results := [.lit (.bool false)], args := [d1, d2, d3, d4] }
  | _ => none }
def RingGluesWrongFalsely : Prop := ringGluesRow.holds Try.pinned (OpenSpec.ofChange ringGluesWrong)

/-- 'vivariumlaw14.RingNames': WHATEVER THE INPUT: true; the input reads as it did. -/
def ringNamesSpec : ChangeSpec := { name := "ringNames", fn := fun _ => fun
  | [] => { results := [.lit (.bool true)], args := [] }
  | _ => none }
def ringNamesRow : OpenClaim := { program := "ytkldffpdlkmncaa", sum := "dcdc6b8fe2dcb32f6810916eb7b35eb23c533267bfd56fa2ed6045172828e2ec", func := "vivarium/vivariumlaw14.RingNames", spec := "ringNames", unfollowed := true, recurses := true, apart := false }
def RingNamesSaid : Prop := ringNamesRow.holds Try.pinned (OpenSpec.ofChange ringNamesSpec)

/-- ITS FALSE NEIGHBOUR: 'it returns false'. Refute it at one input. -/
def ringNamesWrong : ChangeSpec := { name := "ringNames", fn := fun _ => fun
  | [] => { results := [.lit (.bool false)], args := [] }
  | _ => none }
def RingNamesWrongFalsely : Prop := ringNamesRow.holds Try.pinned (OpenSpec.ofChange ringNamesWrong)

/-- 'vivariumlaw14.RingFrames': WHATEVER THE INPUT: true; the input reads as it did. -/
def ringFramesSpec : ChangeSpec := { name := "ringFrames", fn := fun _ => fun
  | [d1, d2] => { results := [.lit (.bool true)], args := [d1, d2] }
  | _ => none }
def ringFramesRow : OpenClaim := { program := "ytkldffpdlkmncaa", sum := "dcdc6b8fe2dcb32f6810916eb7b35eb23c533267bfd56fa2ed6045172828e2ec", func := "vivarium/vivariumlaw14.RingFrames", spec := "ringFrames", unfollowed := true, recurses := true, apart := false }
def RingFramesSaid : Prop := ringFramesRow.holds Try.pinned (OpenSpec.ofChange ringFramesSpec)

/-- ITS FALSE NEIGHBOUR: 'it returns false'. Refute it at one input. -/
def ringFramesWrong : ChangeSpec := { name := "ringFrames", fn := fun _ => fun
  | [d1, d2] => { results := [.lit (.bool false)], args := [d1, d2] }
  | _ => none }
def RingFramesWrongFalsely : Prop := ringFramesRow.holds Try.pinned (OpenSpec.ofChange ringFramesWrong)

/-- 'vivariumlaw14.RingRows': WHATEVER THE INPUT: true; the input reads as it did. -/
def ringRowsSpec : ChangeSpec := { name := "ringRows", fn := fun _ => fun
  | [d1, d2] => { results := [.lit (.bool true)], args := [d1, d2] }
  | _ => none }
def ringRowsRow : OpenClaim := { program := "ytkldffpdlkmncaa", sum := "dcdc6b8fe2dcb32f6810916eb7b35eb23c533267bfd56fa2ed6045172828e2ec", func := "vivarium/vivariumlaw14.RingRows", spec := "ringRows", unfollowed := true, recurses := true, apart := false }
def RingRowsSaid : Prop := ringRowsRow.holds Try.pinned (OpenSpec.ofChange ringRowsSpec)

/-- ITS FALSE NEIGHBOUR: 'it returns false'. Refute it at one input. -/
def ringRowsWrong : ChangeSpec := { name := "ringRows", fn := fun _ => fun
  | [d1, d2] => { results := [.lit (.bool false)], args := [d1, d2] }
  | _ => none }
def RingRowsWrongFalsely : Prop := ringRowsRow.holds Try.pinned (OpenSpec.ofChange ringRowsWrong)

/-- 'vivariumlaw14.RingAlike': WHATEVER THE INPUT: true; the input reads as it did. -/
def ringAlikeSpec : ChangeSpec := { name := "ringAlike", fn := fun _ => fun
  | [d1, d2] => { results := [.lit (.bool true)], args := [d1, d2] }
  | _ => none }
def ringAlikeRow : OpenClaim := { program := "ytkldffpdlkmncaa", sum := "dcdc6b8fe2dcb32f6810916eb7b35eb23c533267bfd56fa2ed6045172828e2ec", func := "vivarium/vivariumlaw14.RingAlike", spec := "ringAlike", unfollowed := true, recurses := true, apart := false }
def RingAlikeSaid : Prop := ringAlikeRow.holds Try.pinned (OpenSpec.ofChange ringAlikeSpec)

/-- ITS FALSE NEIGHBOUR: 'it returns false'. Refute it at one input. -/
def ringAlikeWrong : ChangeSpec := { name := "ringAlike", fn := fun _ => fun
  | [d1, d2] => { results := [.lit (.bool false)], args := [d1, d2] }
  | _ => none }
def RingAlikeWrongFalsely : Prop := ringAlikeRow.holds Try.pinned (OpenSpec.ofChange ringAlikeWrong)

/- THE SECOND FORM. 'bulk': how many values and letters a reading holds, each counted each time it is reached (what is shared counts as often as it is met; a slice's spare places count too). A statement '..UptoSaid' is the law's where the arguments, and the package variables that the reading takes, are together of bulk at most 1048576: NARROWER than '..Said'. Prove '..Said' where nothing that the law and all that it calls make is longer than what came in: it says more and counts as full. Else prove '..UptoSaid'. A law counts once. -/
mutual
def uptoBulk {H : Type} : DataW H → Nat
  | .lit (.string bytes) => bytes.length + 1
  | .lit _ => 1
  | .nil => 1
  | .ptr d => uptoBulk d + 1
  | .slice elems spare => uptoBulkAll elems + uptoBulkAll spare + 1
  | .agg parts => uptoBulkAll parts + 1
  | .iface _ d => uptoBulk d + 1
  | .map entries => uptoBulkEntries entries + 1
  | .held _ => 1
def uptoBulkAll {H : Type} : List (DataW H) → Nat
  | [] => 0
  | d :: r => uptoBulk d + uptoBulkAll r
def uptoBulkEntries {H : Type} : List (Lit × DataW H) → Nat
  | [] => 0
  | x :: r => uptoBulkEntry x + uptoBulkEntries r
def uptoBulkEntry {H : Type} : Lit × DataW H → Nat
  | (.string bytes, d) => bytes.length + uptoBulk d + 1
  | (_, d) => uptoBulk d + 1
 end
def uptoSmall : (H : Type) → List (DataW H) → Bool := fun _ ds => decide (uptoBulkAll ds ≤ 1048576)
def OpenSpec.upto (s : _root_.Go.ChangeSpec) : _root_.Go.OpenSpec := { _root_.Go.OpenSpec.ofChange s with cond := some uptoSmall }

/-- 'vivariumlaw14.RingNone', WHERE WHAT IT READS IS OF BULK AT MOST 1048576: true; the input reads as it did. -/
def ringNoneUptoRow : OpenClaim := { program := "ytkldffpdlkmncaa", sum := "dcdc6b8fe2dcb32f6810916eb7b35eb23c533267bfd56fa2ed6045172828e2ec", func := "vivarium/vivariumlaw14.RingNone", spec := "ringNone", unfollowed := true, recurses := true, apart := false, narrowed := true }
def RingNoneUptoSaid : Prop := ringNoneUptoRow.holds Try.pinned (OpenSpec.upto ringNoneSpec)

/-- 'vivariumlaw14.RingArounds', WHERE WHAT IT READS IS OF BULK AT MOST 1048576: true; the input reads as it did. -/
def ringAroundsUptoRow : OpenClaim := { program := "ytkldffpdlkmncaa", sum := "dcdc6b8fe2dcb32f6810916eb7b35eb23c533267bfd56fa2ed6045172828e2ec", func := "vivarium/vivariumlaw14.RingArounds", spec := "ringArounds", unfollowed := true, recurses := true, apart := false, narrowed := true }
def RingAroundsUptoSaid : Prop := ringAroundsUptoRow.holds Try.pinned (OpenSpec.upto ringAroundsSpec)

/-- 'vivariumlaw14.RingGlues', WHERE WHAT IT READS IS OF BULK AT MOST 1048576: true; the input reads as it did. -/
def ringGluesUptoRow : OpenClaim := { program := "ytkldffpdlkmncaa", sum := "dcdc6b8fe2dcb32f6810916eb7b35eb23c533267bfd56fa2ed6045172828e2ec", func := "vivarium/vivariumlaw14.RingGlues", spec := "ringGlues", unfollowed := true, recurses := true, apart := false, narrowed := true }
def RingGluesUptoSaid : Prop := ringGluesUptoRow.holds Try.pinned (OpenSpec.upto ringGluesSpec)

/-- 'vivariumlaw14.RingNames', WHERE WHAT IT READS IS OF BULK AT MOST 1048576: true; the input reads as it did. -/
def ringNamesUptoRow : OpenClaim := { program := "ytkldffpdlkmncaa", sum := "dcdc6b8fe2dcb32f6810916eb7b35eb23c533267bfd56fa2ed6045172828e2ec", func := "vivarium/vivariumlaw14.RingNames", spec := "ringNames", unfollowed := true, recurses := true, apart := false, narrowed := true }
def RingNamesUptoSaid : Prop := ringNamesUptoRow.holds Try.pinned (OpenSpec.upto ringNamesSpec)

/-- 'vivariumlaw14.RingFrames', WHERE WHAT IT READS IS OF BULK AT MOST 1048576: true; the input reads as it did. -/
def ringFramesUptoRow : OpenClaim := { program := "ytkldffpdlkmncaa", sum := "dcdc6b8fe2dcb32f6810916eb7b35eb23c533267bfd56fa2ed6045172828e2ec", func := "vivarium/vivariumlaw14.RingFrames", spec := "ringFrames", unfollowed := true, recurses := true, apart := false, narrowed := true }
def RingFramesUptoSaid : Prop := ringFramesUptoRow.holds Try.pinned (OpenSpec.upto ringFramesSpec)

/-- 'vivariumlaw14.RingRows', WHERE WHAT IT READS IS OF BULK AT MOST 1048576: true; the input reads as it did. -/
def ringRowsUptoRow : OpenClaim := { program := "ytkldffpdlkmncaa", sum := "dcdc6b8fe2dcb32f6810916eb7b35eb23c533267bfd56fa2ed6045172828e2ec", func := "vivarium/vivariumlaw14.RingRows", spec := "ringRows", unfollowed := true, recurses := true, apart := false, narrowed := true }
def RingRowsUptoSaid : Prop := ringRowsUptoRow.holds Try.pinned (OpenSpec.upto ringRowsSpec)

/-- 'vivariumlaw14.RingAlike', WHERE WHAT IT READS IS OF BULK AT MOST 1048576: true; the input reads as it did. -/
def ringAlikeUptoRow : OpenClaim := { program := "ytkldffpdlkmncaa", sum := "dcdc6b8fe2dcb32f6810916eb7b35eb23c533267bfd56fa2ed6045172828e2ec", func := "vivarium/vivariumlaw14.RingAlike", spec := "ringAlike", unfollowed := true, recurses := true, apart := false, narrowed := true }
def RingAlikeUptoSaid : Prop := ringAlikeUptoRow.holds Try.pinned (OpenSpec.upto ringAlikeSpec)

end Rows
end Go.Proofs.Ytkldffpdlkmncaa
