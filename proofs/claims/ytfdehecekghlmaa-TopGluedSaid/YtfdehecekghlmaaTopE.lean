/- The walk of the law TopGlued, whatever comes. -/
import Derived.Test.YtfdehecekghlmaaTopD
set_option linter.unusedVariables false
set_option linter.unusedSimpArgs false
namespace Go.Proofs.Ytfdehecekghlmaa
open Go.RowKit Go.Viv

theorem TopGlued_walk {k W H t s x y : Int} {ad : Option Addr} {n c : Nat} {l : List Int} (w : World) (bk : 0 ≤ k ∧ k ≤ 255) (bW : -9223372036854775808 ≤ W ∧ W ≤ 9223372036854775807) (bH : -9223372036854775808 ≤ H ∧ H ≤ 9223372036854775807) (bt : 0 ≤ t ∧ t ≤ 255) (bs : -9223372036854775808 ≤ s ∧ s ≤ 9223372036854775807) (bx : -9223372036854775808 ≤ x ∧ x ≤ 9223372036854775807) (by_ : -9223372036854775808 ≤ y ∧ y ≤ 9223372036854775807)
    (hln : l.length = n) (_ : n * 1 ≤ 140737488351232) (hz : ∀ z ∈ l, (Lit.int .u8 z).wf = true) (hl : 0 < n → ∃ b off, ad = some ⟨b, off, none⟩ ∧ ∀ (i : Nat) (z : Int), l[i]? = some z → w.cell? ⟨b, off + i, none⟩ = some (.int .u8 z)) :
    Calls Try.prog 9 #[topoV k W H t s, pt x y, .slice ad n c] w (Ret (.bool true) w) := by
  have hz2 : ∀ z ∈ l, 0 ≤ z ∧ z ≤ 255 := fun z h => wf_u8 (hz z h)
  by_cases h : checkE k W H t s = 0
  · cases hg : gluedI k
    · exact Top_no2 k W H t s x y ad n c w bt.1 h hg
    · cases hn : tnear x y
      · exact Top_no3 k W H t s x y ad n c w bt.1 h hg hn
      · exact Top_yes k W H t s x y ad n c l w bt.1 h hg hn hln hz2 hl
  · exact Top_no1 k W H t s x y ad n c w bt.1 h
end Go.Proofs.Ytfdehecekghlmaa
