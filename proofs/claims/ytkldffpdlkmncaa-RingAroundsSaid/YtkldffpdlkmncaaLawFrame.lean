/- Arguments of laws, opened: a frame. -/
import Derived.Test.YtkldffpdlkmncaaLawKit
import Derived.ChangeSlices
import Derived.Test.YtkldffpdlkmncaaRd
set_option linter.unusedVariables false
set_option linter.unusedSimpArgs false
namespace Go.Proofs.Ytkldffpdlkmncaa
open Go.ChangeShapes Go.WideShapes Go.ChangeAt Go.RowKit Go.Joins Go.Deep

theorem array3 {α : Type} {cs : Array α} (h : cs.size = 3) : ∃ c0 c1 c2, cs = #[c0, c1, c2] := by
  obtain ⟨l⟩ := cs
  match l, h with
  | [c0, c1, c2], _ => exact ⟨c0, c1, c2, rfl⟩
set_option maxRecDepth 100000 in
theorem open_frame {H : Type} {enc : TypeId × Value → H} {w : World} {base : Nat} {spare : Nat → Bool} {held : Bool} {r : Reach} {b0 : Nat} {v : Value} {d : DataW H} {ps : List MemPlace} {ts : List TypeId} {ds : List (DataW H)} {j : Nat}
    (hsz : (DataW.weightsEach Try.prog ts ds).all (· ≤ reachBytes) = true) (ht : ts[j]? = some 34) (hd : ds[j]? = some d)
    (hv : Value.okWide Try.prog w r b0 34 v) (h : DataW.Trod enc Try.prog w base spare held 34 v d ps) :
    ∃ (W Ht : Int) (a : Option Addr) (n c : Nat) (l : List Int), v = .agg #[.int .i64 W, .int .i64 Ht, .slice a n c] ∧ (-9223372036854775808 ≤ W ∧ W ≤ 9223372036854775807) ∧ (-9223372036854775808 ≤ Ht ∧ Ht ≤ 9223372036854775807) ∧ l.length = n ∧ n ≤ 140737488351232 ∧ (0 < n → ∃ b off, a = some ⟨b, off, none⟩) ∧ Rd w a (l.map (.int .u8)) ∧ ∀ z ∈ l, 0 ≤ z ∧ z ≤ 255 := by
  obtain ⟨cs, rfl, hsz3⟩ := okWide_struct Try.underlying34 hv
  obtain ⟨c0, c1, c2, rfl⟩ := array3 (hsz3.trans (show Try.prog.cellsOf 34 = 3 by kernel_rfl))
  obtain ⟨fuel, hf⟩ := h
  obtain ⟨xs, m, _, hx, hl, hlen, hfs⟩ := DataW.trod_struct Try.underlying34 hf
  have q0 : Try.prog.cellsOf 3 = 1 := by kernel_rfl
  have q2 : Try.prog.cellsOf 32 = 1 := by kernel_rfl
  have hB1 : Try.prog.bytesOf 5 = 1 := by kernel_rfl
  match xs, hlen with
  | [y0, y1, y2], _ =>
    have t0 := hfs 0 _ rfl; have t1 := hfs 1 _ rfl; have t2 := hfs 2 _ rfl
    simp [Value.cells, q0, q2] at t0 t1 t2
    obtain ⟨z0, e0, _, w0⟩ := DataW.trod_int Try.underlying3 t0
    obtain ⟨z1, e1, _, w1⟩ := DataW.trod_int Try.underlying3 t1
    simp at e0 e1
    subst e0 e1
    rcases open_ints Try.underlying32 Try.underlying5 (by kernel_rfl) t2 with ⟨hc2, _⟩ | ⟨ad, L, cc, zs, hc2, _, hl2, hm2, hz2, hx2, hcell2, hwz2⟩
    · simp at hc2
      subst hc2
      exact ⟨z0, z1, none, 0, 0, [], rfl, wf_i64 w0, wf_i64 w1, rfl, by omega, fun h => absurd h (by omega), Rd.nil _, by simp⟩
    · simp at hc2
      subst hc2
      have hlz : L ≤ zs.length := by rw [hz2]; split <;> omega
      have hmem : ((lits (H := H) .u8 (zs.take L)).length + (lits (H := H) .u8 (zs.drop L)).length) * Try.prog.bytesOf 5 ∈ DataW.weightsEach Try.prog ts ds := by
        refine DataW.weights_mem_each ht hd _ ?_
        obtain ⟨hd1, _⟩ := Prod.mk.inj hx
        rw [hd1, DataW.weights, Try.underlying34]
        refine DataW.weights_mem_each (j := 2) (t := 32) (d := y2.1) rfl rfl _ ?_
        rw [hx2]
        simp only
        rw [DataW.weights, Try.underlying32]
        exact List.mem_cons_self
      have hb := List.all_eq_true.1 hsz _ hmem
      rw [hB1] at hb
      simp [lits, reachBytes] at hb
      refine ⟨z0, z1, some ad, L, cc, zs.take L, rfl, wf_i64 w0, wf_i64 w1, by simp; omega, by omega, fun hp => ?_, ⟨fun h => (by cases h), fun ad' ha j u hu => ?_⟩, fun z hz => wf_u8 (hwz2 z (List.mem_of_mem_take hz))⟩
      · obtain ⟨b, off, e, _⟩ := ints_at hcell2 (by omega)
        exact ⟨b, off, by rw [e]⟩
      · obtain rfl := Option.some.inj ha
        rw [List.getElem?_map] at hu
        obtain ⟨z, hz, rfl⟩ := Option.map_eq_some_iff.1 hu
        have hj : j < L := by have := (List.getElem?_eq_some_iff.1 hz).1; simp at this; omega
        rw [hcell2 j (by omega)]
        rw [List.getElem?_take_of_lt hj] at hz
        simp [List.getD, hz]
end Go.Proofs.Ytkldffpdlkmncaa
