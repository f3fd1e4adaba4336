/- An argument of a law, opened: sixteen bytes, by value. -/
import Derived.Test.YtdpcmpfhjhbicaaLawKit
import Derived.Test.YtdpcmpfhjhbicaaBkA
set_option linter.unusedVariables false
set_option linter.unusedSimpArgs false
namespace Go.Proofs.Ytdpcmpfhjhbicaa
open Go.ChangeShapes Go.WideShapes Go.ChangeAt Go.RowKit Go.Joins Go.Deep Go.Viv

set_option maxRecDepth 100000 in
theorem open_arr16 {H : Type} {enc : TypeId × Value → H} {w : World} {base : Nat} {spare : Nat → Bool} {held : Bool} {r : Reach} {b0 : Nat} {v : Value} {d : DataW H} {p : List MemPlace} (hv : Value.okWide Try.prog w r b0 23 v) (h : DataW.Trod enc Try.prog w base spare held 23 v d p) :
    ∃ b, v = .agg (arr b) ∧ Arr16 b := by
  have hv2 := hv
  simp only [Value.okWide, Try.underlying23] at hv2
  obtain ⟨cs, rfl, hsz, _⟩ := hv2
  have hc16 : Try.prog.cellsOf 23 = 16 := by kernel_rfl
  have hc1 : Try.prog.cellsOf 5 = 1 := by kernel_rfl
  rw [hc16] at hsz
  obtain ⟨fuel, hf⟩ := h
  obtain ⟨xs, m, _, _, _, hlen, he⟩ := DataW.trod_array Try.underlying23 hf
  have key : ∀ i, i < 16 → ∃ z : Int, cs[i]? = some (.int .u8 z) ∧ 0 ≤ z ∧ z ≤ 255 := by
    intro i hi
    have h1 := he i hi
    rw [hc1, Nat.mul_one] at h1
    have hlt : i < xs.length := by omega
    rw [List.getElem?_eq_getElem hlt] at h1
    obtain ⟨z, e0, _, w0⟩ := DataW.trod_int Try.underlying5 h1
    have h2 := congrArg (fun l : List Value => l[0]?) e0
    simp [Value.cells] at h2
    exact ⟨z, h2, (wf_u8 w0).1, (wf_u8 w0).2⟩
  refine ⟨(List.range 16).map fun i => match cs[i]? with | some (Value.int _ z) => z | _ => 0, ?_, by simp, fun n hn => ?_⟩
  · congr 1
    apply Array.ext
    · rw [hsz, arr_size]; simp
    · intro i h1 h2
      have hi : i < 16 := by omega
      obtain ⟨z, hz, _⟩ := key i hi
      have e1 : cs[i] = .int .u8 z := by rw [Array.getElem?_eq_getElem h1] at hz; exact Option.some.inj hz
      rw [e1]
      have e2 := arr_at (b := (List.range 16).map fun i => match cs[i]? with | some (Value.int _ z) => z | _ => 0) (k := i) (by simpa using hi)
      rw [Array.getElem?_eq_getElem h2] at e2
      rw [Option.some.inj e2]
      simp [nth, hi, hz]
  · obtain ⟨z, hz, h0, h1⟩ := key n hn
    simp only [nth, List.getD_eq_getElem?_getD, List.getElem?_map, List.getElem?_range hn, Option.map_some, Option.getD_some, hz]
    exact ⟨h0, h1⟩
end Go.Proofs.Ytdpcmpfhjhbicaa
