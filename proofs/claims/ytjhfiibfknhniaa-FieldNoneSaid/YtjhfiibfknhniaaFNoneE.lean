/- The walk of the law FieldNone, whatever comes. -/
import Derived.Test.YtjhfiibfknhniaaFNoneL
import Derived.Test.YtjhfiibfknhniaaLawKit
import Derived.Test.YtjhfiibfknhniaaLawKit0
set_option linter.unusedVariables false
set_option linter.unusedSimpArgs false
namespace Go.Proofs.Ytjhfiibfknhniaa
open Go.RowKit

/-- a row that came in, as a row that reads -/
theorem rd_of {w : World} {k : IntKind} {A : Option Addr} {n : Nat} {l : List Int} (hn : l.length = n) (hl : 0 < n → ∃ b off, A = some ⟨b, off, none⟩ ∧ ∀ (i : Nat) (z : Int), l[i]? = some z → w.cell? ⟨b, off + i, none⟩ = some (.int k z)) : Rd w A (l.map (.int k)) := by
  by_cases h : 0 < n
  · obtain ⟨b, off, rfl, hc⟩ := hl h
    refine Rd.of_at fun j u hu => ?_
    rw [List.getElem?_map] at hu
    obtain ⟨z, hz, rfl⟩ := Option.map_eq_some_iff.1 hu
    exact hc j z hz
  · have : l = [] := List.eq_nil_of_length_eq_zero (by omega)
    subst this
    exact .nil _

theorem FieldNone_wk {x y s : Int} {A : Option Addr} {n c : Nat} {l : List Int} (w : World) (_ : -9223372036854775808 ≤ x ∧ x ≤ 9223372036854775807) (_ : -9223372036854775808 ≤ y ∧ y ≤ 9223372036854775807) (_ : 0 ≤ s ∧ s ≤ 255)
    (hln : l.length = n) (hsz : n * 1 ≤ 140737488351232) (hz : ∀ z ∈ l, (Lit.int .u8 z).wf = true) (hl : 0 < n → ∃ b off, A = some ⟨b, off, none⟩ ∧ ∀ (i : Nat) (z : Int), l[i]? = some z → w.cell? ⟨b, off + i, none⟩ = some (.int .u8 z)) (on : Bool) :
    Calls Try.prog 7 #[.int .i64 x, .int .i64 y, .int .u8 s, .slice A n c, .bool on] w (Ret (.bool true) w) :=
  FieldNone_walk x y s A n c l on w (rd_of hln hl) hln hsz fun z h => wf_u8 (hz z h)
end Go.Proofs.Ytjhfiibfknhniaa
