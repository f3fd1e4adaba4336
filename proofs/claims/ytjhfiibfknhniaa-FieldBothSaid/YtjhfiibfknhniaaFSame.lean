/- The laws' own comparison of two rows of bytes. -/
import Derived.Test.YtjhfiibfknhniaaRd
set_option linter.unusedVariables false
set_option linter.unusedSimpArgs false
namespace Go.Proofs.Ytjhfiibfknhniaa
open Go.RowKit

theorem same13 {A B : Option Addr} {n m c d : Nat} {la lb : List Int} (w : World) (ha : Rd w A (la.map (.int .u8))) (hb : Rd w B (lb.map (.int .u8))) (hn : la.length = n) (hm : lb.length = m) (ba : ∀ x ∈ la, 0 ≤ x ∧ x ≤ 255) (bb : ∀ x ∈ lb, 0 ≤ x ∧ x ≤ 255) :
    Calls Try.prog 13 #[.slice A n c, .slice B m d] w fun e w' => e = .returned (.bool (decide (la = lb))) ∧ w = w' := by
  have c1 := run_string_rd (P := Try.prog) (c := c) Try.underlying28 Try.underlying5 Try.underlying9 ha hn
  have c2 := run_string_rd (P := Try.prog) (c := d) Try.underlying28 Try.underlying5 Try.underlying9 hb hm
  have H := Lib.hid hn; have H2 := Lib.hid hm; clear hn hm ha hb
  go_enter Try.func13, Try.ntmps13
  go_wp2
  go_ret
  exact ⟨by rw [← beq_str ba bb]; rfl, rfl⟩
theorem same13_eq {A B : Option Addr} {n m c d : Nat} {la : List Int} (w : World) (ha : Rd w A (la.map (.int .u8))) (hb : Rd w B (la.map (.int .u8))) (hn : la.length = n) (hm : la.length = m) (ba : ∀ x ∈ la, 0 ≤ x ∧ x ≤ 255) :
    Calls Try.prog 13 #[.slice A n c, .slice B m d] w fun e w' => e = .returned (.bool true) ∧ w = w' :=
  (same13 w ha hb hn hm ba ba).mono fun e w' ⟨h1, h2⟩ => ⟨by rw [h1]; simp, h2⟩
end Go.Proofs.Ytjhfiibfknhniaa
