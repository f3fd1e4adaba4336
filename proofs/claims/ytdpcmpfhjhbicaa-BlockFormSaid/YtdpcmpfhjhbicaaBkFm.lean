/- BlockForm: the plain law. -/
import Derived.Test.YtdpcmpfhjhbicaaBkN
import Derived.Test.YtdpcmpfhjhbicaaBkPr
set_option linter.unusedVariables false
set_option linter.unusedSimpArgs false
namespace Go.Proofs.Ytdpcmpfhjhbicaa
open Go.RowKit Go.Viv

theorem sbt_str {xs : List Int} (h : ∀ x ∈ xs, 0 ≤ x ∧ x ≤ 255) {k : Nat} (hk : k < xs.length) : sbt (strOfNums xs) k = xs[k] := by
  unfold sbt
  rw [strOfNums_data]
  have := h xs[k] (List.getElem_mem hk)
  simp [hk, List.getD]
  omega
theorem prL_eq (b : List Int) (k : Nat) : prL b k = 77 :: (List.range k).map fun j => dch (nth b j).toNat := by
  induction k with
  | zero => rfl
  | succ k ih => rw [prL, ih, List.range_succ]; simp
theorem digI_dch {n : Nat} (h : n < 16) : digI (dch n) = n := by
  unfold digI dch
  split <;> (split <;> (try split) <;> (try split)) <;> omega
section
variable {b : List Int}
theorem prL_bd (hb : Arr16 b) (hc : checkB b = 0) : ∀ x ∈ prL b 16, 0 ≤ x ∧ x ≤ 255 := by
  intro x hx
  rw [prL_eq] at hx
  rcases List.mem_cons.1 hx with rfl | hx
  · omega
  · obtain ⟨j, hj, rfl⟩ := List.mem_map.1 hx
    have hj := List.mem_range.1 hj
    have := (ruleOk hb hc).bd j hj
    have := dch_bd (nth b j).toNat (by omega)
    omega
theorem print_size (hc : checkB b = 0) : (printS b).size = 17 := by
  unfold printS; rw [if_pos hc, strOfNums_size, prL_length]
theorem print_zero (hb : Arr16 b) (hc : checkB b = 0) : sbt (printS b) 0 = 77 := by
  unfold printS; rw [if_pos hc, sbt_str (prL_bd hb hc) (by rw [prL_length]; omega)]
  simp [prL_eq]
theorem print_at (hb : Arr16 b) (hc : checkB b = 0) {j : Nat} (hj : j < 16) : sbt (printS b) (j + 1) = dch (nth b j).toNat := by
  unfold printS; rw [if_pos hc, sbt_str (prL_bd hb hc) (by rw [prL_length]; omega)]
  simp [prL_eq]
theorem print_good (hb : Arr16 b) (hc : checkB b = 0) : fbad (printS b) = 17 := by
  refine fbad_none fun j hj => ?_
  unfold badB
  rw [print_size hc]
  rcases j with _ | j
  · simp [print_zero hb hc]
  · have := (ruleOk hb hc).bd j (by omega)
    rw [print_at hb hc (by omega), digI_dch (by omega)]
    simp; omega
end
theorem digsK_nth (s : ByteArray) : ∀ k, k ≤ 16 → ∀ j, j < k → nth (digsK s k) j = digI (sbt s (j + 1))
  | 0, _, j, hj => absurd hj (by omega)
  | k + 1, hk, j, hj => by
    rw [digsK, nth_set]
    by_cases e : k = j
    · subst e; rw [if_pos ⟨rfl, by rw [digsK_length]; omega⟩]
    · rw [if_neg (fun h => e h.1)]; exact digsK_nth s k (by omega) j (by omega)
/-- a rule is read again from its text -/
theorem parse_print {b : List Int} (hb : Arr16 b) (hc : checkB b = 0) : parseV (printS b) = .tuple #[.agg (arr b), .int .i64 0, .int .i64 0] := by
  rw [parse_ok (by rw [print_size hc]; omega) (by rw [print_size hc]; omega) (print_good hb hc)]
  rw [show digsK (printS b) 16 = b from nth_ext (by rw [digsK_length, hb.len]) fun k hk => by
    rw [digsK_length] at hk
    have := (ruleOk hb hc).bd k hk
    rw [digsK_nth _ 16 (by omega) k hk, print_at hb hc hk, digI_dch (by omega)]
    omega]
/-- a text that is read -/
theorem fbad_all {s : ByteArray} (h : fbad s = 17) : ∀ j, j < 17 → badB s j = false := by
  intro j hj
  unfold fbad at h
  cases e : (List.range 17).find? (badB s) with
  | some a =>
    rw [e] at h
    have ha : a = 17 := h
    have := List.mem_of_find?_eq_some e
    rw [ha] at this
    simp at this
  | none =>
    have := List.find?_eq_none.1 e j (List.mem_range.2 hj)
    simpa using this
theorem parse_yes {s : ByteArray} (h : parseE s = 0) : s.size = 17 ∧ fbad s = 17 ∧ parseL s = digsK s 16 := by
  have e := h
  unfold parseE at h
  split at h
  · omega
  · split at h
    · omega
    · next h1 h2 =>
      have hf : ¬ fbad s < 17 := fun x => h2 (.inl x)
      have hs : ¬ 17 < s.size := fun x => h2 (.inr x)
      have hf2 : fbad s ≤ 17 := by
        by_cases hh : ∀ j, j < 17 → badB s j = false
        · rw [fbad_none hh]; omega
        · unfold fbad
          cases e : (List.range 17).find? (badB s) with
          | some a => have := List.mem_range.1 (List.mem_of_find?_eq_some e); show a ≤ 17; omega
          | none => exact Nat.le_refl _
      have hf3 : fbad s = 17 := by omega
      have h16 := fbad_all hf3 16 (by omega)
      have hsz : ¬ s.size ≤ 16 := by
        intro hx
        unfold badB at h16
        simp [hx] at h16
      exact ⟨by omega, hf3, by unfold parseL; rw [if_pos e]⟩
theorem parse_no {s : ByteArray} (h : parseE s ≠ 0) : 0 ≤ parseN s ∧ parseN s ≤ s.size ∧ parseL s = List.replicate 16 0 := by
  refine ⟨?_, ?_, by unfold parseL; rw [if_neg h]⟩
  · unfold parseN; split; omega; split; omega; split <;> omega
  · unfold parseN
    split
    · omega
    · split
      · next h1 h2 =>
        have hh : ∀ i, i < fbad s → badB s i = false := fun i hi => by
          unfold fbad at hi
          cases e : (List.range 17).find? (badB s) with
          | some a =>
            rw [e] at hi
            have hi : i < a := hi
            rcases hv : badB s i with _ | _
            · rfl
            · have := List.find?_range_eq_some.1 e
              simp_all
          | none =>
            rw [e] at hi
            have ha : i < 17 := hi
            have := List.find?_eq_none.1 e i (List.mem_range.2 ha)
            simpa using this
        rcases hz : fbad s with _ | k
        · omega
        · have := hh k (by omega)
          unfold badB at this
          simp at this
          omega
      · split <;> omega
/-- the great letter -/
def upA (c : Int) : Int := if 97 ≤ c ∧ c ≤ 122 then c - 32 else c
theorem dch_digI {c : Int} (h : 0 ≤ digI c) : dch (digI c).toNat = upA c := by
  have hd := digI_bd c
  have := (dch_eq (n := (digI c).toNat) (by omega) c).2 (by omega)
  rw [this]
  unfold upI upA
  unfold digI at h
  split at h <;> (try split at h) <;> (try split at h) <;> (split <;> split) <;> omega
theorem form_letters {s : ByteArray} (h : parseE s = 0) : Arr16 (parseL s) ∧ checkB (parseL s) = 0 ∧ ∀ j, j < 17 → sbt (printS (parseL s)) j = upA (sbt s j) := by
  obtain ⟨hs, hf, hL⟩ := parse_yes h
  have hg := fbad_all hf
  have hd : ∀ j, j < 16 → 0 ≤ digI (sbt s (j + 1)) := fun j hj => by
    have := hg (j + 1) (by omega)
    unfold badB at this
    simp at this
    omega
  rw [hL]
  have hn := fun j (hj : j < 16) => digsK_nth s 16 (by omega) j hj
  have hA : Arr16 (digsK s 16) := ⟨digsK_length s 16, fun j hj => by
    rw [hn j hj]; have := hd j hj; have := digI_bd (sbt s (j + 1)); omega⟩
  have hC : checkB (digsK s 16) = 0 := checkB_ok fun j hj => by
    rw [digsK_length] at hj
    rw [hn j hj]; exact (digI_bd _).2
  refine ⟨hA, hC, fun j hj => ?_⟩
  rcases j with _ | j
  · rw [print_zero hA hC]
    have := hg 0 (by omega)
    unfold badB at this
    simp [hs] at this
    unfold upA
    split <;> omega
  · rw [print_at hA hC (by omega), hn j (by omega), dch_digI (hd j (by omega))]
end Go.Proofs.Ytdpcmpfhjhbicaa
