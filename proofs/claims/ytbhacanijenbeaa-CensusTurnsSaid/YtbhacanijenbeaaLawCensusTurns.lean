/- CensusTurns: the given statement, out of the walk. No condition: whatever the row of numbers. -/
import Derived.Test.YtbhacanijenbeaaLawKit0
import Derived.Test.YtbhacanijenbeaaCTurnsD
set_option linter.unusedVariables false
namespace Go.Proofs.Ytbhacanijenbeaa
open Go.ChangeShapes Go.WideShapes Go.ChangeAt Go.RowKit

theorem CensusTurns_walk (a : Option Addr) (n c : Nat) (l : List Int) (w : World) (hn : l.length = n) (hsz : n * 8 ≤ 140737488351232) (hl : 0 < n → ∃ b off, a = some ⟨b, off, none⟩ ∧ ∀ (i : Nat) (x : Int), l[i]? = some x → w.cell? ⟨b, off + i, none⟩ = some (.int .i64 x)) :
    Calls Try.prog 3 #[.slice a n c] w (Ret (.bool true) w) := by
  by_cases hp : 0 < n
  · obtain ⟨b, off, rfl, hc⟩ := hl hp
    exact CensusTurns_some b off n c l w hn hp hsz hc
  · obtain rfl : n = 0 := by omega
    exact CensusTurns_zero a c w

set_option maxRecDepth 100000 in
theorem censusTurns_lifted (os : Os) (started : os.Started) (H : Type) (enc : TypeId × Value → H) :
    ReturnsInHanded {} Try.checked os 3 .any (Rows.censusTurnsSpec.pre6 enc Try.prog Try.f3 Rows.censusTurnsRow.domain false) (Rows.censusTurnsSpec.post enc Try.prog Try.f3 false true false false) := by
  refine returnsInHanded_of_change_sized (C := Try.checked) own0 started (by kernel_rfl) Try.func3
    (ChangeSpec.witness6 (enc := enc) (C := Try.checked) false ⟨#[], #[.slice none 0 0], []⟩ 8 (by kernel_rfl) (by kernel_rfl) (by kernel_rfl) (by kernel_rfl)) ?_
  intro W base args ds gs before hval0 hW hcnd hsz0 _
  have hsz : (DataW.weightsEach Try.prog (Try.f3.params.toList ++ Rows.censusTurnsSpec.plain.varTypes Try.prog) (ds ++ gs)).all (· ≤ reachBytes) = true := hsz0
  have hval : ∀ (j : Nat) t v, Try.f3.params[j]? = some t → args[j]? = some v → Value.okWide Try.prog W .any base t v := hval0
  have hW' := hW
  obtain ⟨p, q, hA0, hV, rfl, hfz, hnd⟩ := hW
  have hA : DataW.TrodAll enc Try.prog W 0 (fun _ => true) true Try.f3.params.toList args.toList ds p := hA0
  rw [Try.params3] at hA hval hsz
  obtain ⟨v0, vs0, d0, ds0, p0, q0, hargs, rfl, rfl, h0, r0⟩ := trodAll_cons hA
  obtain ⟨rfl, rfl, rfl⟩ := trodAll_nil r0
  obtain rfl : args = #[v0] := by cases args; simp_all
  obtain ⟨rfl, rfl⟩ := trodVars_none hV
  have k0 := h0
  have lt0 : ∀ x ∈ p0, x.block < W.heap.size := by obtain ⟨m, hm⟩ := k0; exact DataW.trod_lt m _ _ _ hm
  obtain ⟨a, n, c, l, e0, hn, hb, _, hl⟩ := open_row Try.underlying22 Try.underlying3 (by kernel_rfl) (by kernel_rfl) hsz (j := 0) (t := 22) (B := 8) rfl rfl (hval 0 22 v0 rfl rfl) h0
  subst e0
  clear hA0 hval0 hsz0
  refine (CensusTurns_walk a n c l W hn hb hl).mono fun e W' ⟨he, bel⟩ => ?_
  subst he
  exact ⟨_, rfl, _, _, _, [], _, [], hW', trodAll_mk1 (shut_bool Try.underlying4 _), (trodAll_cons_mk (Below.trod laidOut0 (by kernel_rfl) (of_decide_eq_true (by kernel_rfl)) k0 bel lt0) trodAll_mk0), rfl, bel.frame _, fun h => by cases h⟩

theorem censusTurns_over : Rows.censusTurnsRow.holds Try.pinned (OpenSpec.ofChange Rows.censusTurnsSpec) :=
  OpenClaim.holds_of_wide 3 Try.f3 rfl rfl rfl rfl rfl rfl rfl ⟨rfl, rfl, rfl, rfl, rfl⟩ rfl rfl rfl rfl rfl (by kernel_rfl) Try.func3 (by kernel_rfl)
    (of_decide_eq_true (by kernel_rfl)) (by unfold Func.isWrapper; first | (rw [if_pos (by decide +kernel)]; kernel_rfl) | (rw [if_neg (by decide +kernel)]; exact ⟨rfl, rfl⟩))
    (fun os started H enc _ => censusTurns_lifted os started H enc)

theorem censusTurns_holds : Rows.CensusTurnsSaid := censusTurns_over

end Go.Proofs.Ytbhacanijenbeaa
