/- Rows of rows of bytes that come in, opened. -/
import Derived.Test.YtjhfiibfknhniaaLawKit
import Derived.Test.YtjhfiibfknhniaaLawKit0
import Derived.Test.YtjhfiibfknhniaaFLnM
import Derived.Deep.Matrix
set_option linter.unusedVariables false
set_option linter.unusedSimpArgs false
namespace Go.Proofs.Ytjhfiibfknhniaa
open Go.ChangeShapes Go.WideShapes Go.ChangeAt Go.RowKit Go.Deep

theorem weights_in {H : Type} {P : Program} {e : TypeId} {d : DataW H} {n : Nat} (hn : n ∈ d.weights P e) : ∀ {l : List (DataW H)}, d ∈ l → n ∈ DataW.weightsAll P e l
  | a :: r, h => by
    rw [DataW.weightsAll, List.mem_append]
    rcases List.mem_cons.1 h with rfl | h
    · exact .inl hn
    · exact .inr (weights_in hn h)

set_option maxRecDepth 100000 in
theorem open_lines {H : Type} {enc : TypeId × Value → H} {w : World} {base : Nat} {held : Bool} {r : Reach} {b0 : Nat} {v : Value} {d : DataW H} {ps : List MemPlace} {ts : List TypeId} {ds : List (DataW H)} {j : Nat}
    (hsz : (DataW.weightsEach Try.prog ts ds).all (· ≤ reachBytes) = true) (ht : ts[j]? = some 27) (hd : ds[j]? = some d)
    (hv : Value.okWide Try.prog w r b0 27 v) (h : DataW.Trod enc Try.prog w base (fun _ => true) held 27 v d ps) :
    ∃ (a : Option Addr) (n c : Nat) (ls : List (List Int)), v = .slice a n c ∧ ls.length = n ∧ n ≤ 140737488351232 ∧ LnsAt w a ls := by
  obtain ⟨a, n, c, rfl⟩ := okWide_slice Try.underlying27 hv
  obtain ⟨fuel, hf⟩ := h
  rcases open_int_rows Try.underlying27 Try.underlying28 Try.underlying5 (by kernel_rfl) (by kernel_rfl) hf with ⟨hcs, _⟩ | ⟨x, l, cp, A, L, C, Z, hcs, _, hl, _, hx, hr⟩
  · simp [Value.cells] at hcs
    obtain ⟨rfl, rfl, rfl⟩ := hcs
    exact ⟨none, 0, 0, [], rfl, rfl, by omega, fun h => absurd h (by decide), [], .nil _, fun r l h => by simp at h⟩
  · simp [Value.cells] at hcs
    obtain ⟨rfl, rfl, rfl⟩ := hcs
    obtain ⟨hx, _⟩ := Prod.mk.inj hx
    subst hx
    have hB : Try.prog.bytesOf 28 = 24 := by kernel_rfl
    have hB1 : Try.prog.bytesOf 5 = 1 := by kernel_rfl
    have z := sized_slice hsz ht hd Try.underlying27
    rw [hB] at z
    simp only [List.length_map, List.length_range] at z
    have hin : ∀ r, r < n → (L r) ≤ 140737488351232 := fun r hrn => by
      obtain ⟨_, h2, h3, h4, _, h6, _⟩ := hr r (by omega)
      cases hA : A r with
      | none => have := h6 hA; omega
      | some a' =>
        have hmem : ((lits (H := H) .u8 ((Z r).take (L r))).length + (lits (H := H) .u8 ((Z r).drop (L r))).length) * Try.prog.bytesOf 5 ∈ DataW.weightsEach Try.prog ts ds := by
          refine DataW.weights_mem_each ht hd _ ?_
          rw [DataW.weights, Try.underlying27]
          refine List.mem_cons_of_mem _ (List.mem_append_left _ (weights_in (d := intRow .u8 (A r) (L r) (Z r)) ?_ (List.mem_map.2 ⟨r, List.mem_range.2 hrn, rfl⟩)))
          rw [hA]
          simp only [intRow]
          rw [DataW.weights, Try.underlying28]
          exact List.mem_cons_self
        have := List.all_eq_true.1 hsz _ hmem
        rw [hB1] at this
        simp [lits, reachBytes] at this
        omega
    have hat : 0 < n → ∃ b off, x = ⟨b, off, none⟩ := fun hp => by
      obtain ⟨b, off, spot⟩ := x
      have h0 := (hr 0 (by omega)).1
      have hs : spot = none := by simpa [Addr.add] using World.cell?_spot h0
      subst hs
      exact ⟨b, off, rfl⟩
    refine ⟨some x, n, c, (List.range n).map fun r => (Z r).take (L r), rfl, by simp, by unfold reachBytes at z; omega, fun hp => ?_, (List.range n).map fun r => .slice (A r) (L r) (C r), ?_, ?_⟩
    · obtain ⟨b, off, rfl⟩ := hat (by simpa using hp)
      exact ⟨b, off, rfl⟩
    · refine ⟨fun h => (by cases h), fun ad ha k u hu => ?_⟩
      obtain rfl := Option.some.inj ha
      have hk : k < n := by have := (List.getElem?_eq_some_iff.1 hu).1; simpa using this
      rw [List.getElem?_map, List.getElem?_range hk] at hu
      obtain rfl := Option.some.inj hu
      exact (hr k (by omega)).1
    · intro r l hlr
      have hk : r < n := by have := (List.getElem?_eq_some_iff.1 hlr).1; simpa using this
      rw [List.getElem?_map, List.getElem?_range hk] at hlr
      obtain rfl := Option.some.inj hlr
      obtain ⟨_, h2, h3, h4, h5, h6, h7⟩ := hr r (by omega)
      have hlen : ((Z r).take (L r)).length = L r := by simp; omega
      refine ⟨A r, C r, ?_, ?_, by rw [hlen]; exact hin r hk, fun z hz => wf_u8 (h5 z (List.mem_of_mem_take hz))⟩
      · rw [List.getElem?_map, List.getElem?_range hk, hlen]; rfl
      · refine ⟨fun hA => ?_, fun ad ha k u hu => ?_⟩
        · have := h6 hA
          have : L r = 0 := by omega
          simp [this]
        · rw [List.getElem?_map] at hu
          obtain ⟨z, hz, rfl⟩ := Option.map_eq_some_iff.1 hu
          have hkL : k < L r := by have := (List.getElem?_eq_some_iff.1 hz).1; simp at this; omega
          rw [(h7 ad ha).2 k (by omega)]
          rw [List.getElem?_take_of_lt hkL] at hz
          simp [List.getD, hz]
end Go.Proofs.Ytjhfiibfknhniaa
