/- The least rectangle of places, as plain numbers. -/
set_option linter.unusedVariables false
set_option linter.unusedSimpArgs false
namespace Go.Viv
/-- the least and the greatest of numbers, 0 of none -/
def low : List Int → Int
  | [] => 0
  | a :: l => l.foldl min a
def high : List Int → Int
  | [] => 0
  | a :: l => l.foldl max a
theorem low_snoc (l : List Int) (a : Int) : low (l ++ [a]) = if l = [] then a else min (low l) a := by
  cases l with
  | nil => rfl
  | cons b l => simp [low]
theorem high_snoc (l : List Int) (a : Int) : high (l ++ [a]) = if l = [] then a else max (high l) a := by
  cases l with
  | nil => rfl
  | cons b l => simp [high]
theorem foldl_min_le (l : List Int) (a : Int) : l.foldl min a ≤ a ∧ ∀ x ∈ l, l.foldl min a ≤ x := by
  induction l generalizing a with
  | nil => simp
  | cons b l ih =>
    obtain ⟨h1, h2⟩ := ih (min a b)
    simp only [List.foldl_cons]
    refine ⟨by omega, fun x hx => ?_⟩
    rcases List.mem_cons.1 hx with rfl | hx
    · omega
    · exact h2 x hx
theorem foldl_max_le (l : List Int) (a : Int) : a ≤ l.foldl max a ∧ ∀ x ∈ l, x ≤ l.foldl max a := by
  induction l generalizing a with
  | nil => simp
  | cons b l ih =>
    obtain ⟨h1, h2⟩ := ih (max a b)
    simp only [List.foldl_cons]
    refine ⟨by omega, fun x hx => ?_⟩
    rcases List.mem_cons.1 hx with rfl | hx
    · omega
    · exact h2 x hx
theorem foldl_min_mem (l : List Int) (a : Int) : l.foldl min a = a ∨ l.foldl min a ∈ l := by
  induction l generalizing a with
  | nil => simp
  | cons b l ih =>
    simp only [List.foldl_cons]
    rcases ih (min a b) with h | h
    · rcases Int.le_total a b with h' | h'
      · exact .inl (by rw [h]; omega)
      · exact .inr (by rw [h]; simp; omega)
    · exact .inr (List.mem_cons_of_mem _ h)
theorem foldl_max_mem (l : List Int) (a : Int) : l.foldl max a = a ∨ l.foldl max a ∈ l := by
  induction l generalizing a with
  | nil => simp
  | cons b l ih =>
    simp only [List.foldl_cons]
    rcases ih (max a b) with h | h
    · rcases Int.le_total a b with h' | h'
      · exact .inr (by rw [h]; simp; omega)
      · exact .inl (by rw [h]; omega)
    · exact .inr (List.mem_cons_of_mem _ h)
theorem low_mem {l : List Int} (h : l ≠ []) : low l ∈ l := by
  cases l with
  | nil => exact absurd rfl h
  | cons a l => rcases foldl_min_mem l a with e | e <;> simp [low, e]
theorem high_mem {l : List Int} (h : l ≠ []) : high l ∈ l := by
  cases l with
  | nil => exact absurd rfl h
  | cons a l => rcases foldl_max_mem l a with e | e <;> simp [high, e]
theorem low_le {l : List Int} {x : Int} (h : x ∈ l) : low l ≤ x := by
  cases l with
  | nil => cases h
  | cons a l =>
    rcases List.mem_cons.1 h with rfl | h
    · exact (foldl_min_le l x).1
    · exact (foldl_min_le l a).2 x h
theorem le_high {l : List Int} {x : Int} (h : x ∈ l) : x ≤ high l := by
  cases l with
  | nil => cases h
  | cons a l =>
    rcases List.mem_cons.1 h with rfl | h
    · exact (foldl_max_le l x).1
    · exact (foldl_max_le l a).2 x h
theorem low_range {l : List Int} {a b : Int} (h : ∀ x ∈ l, a ≤ x ∧ x ≤ b) (ha : a ≤ 0) (hb : 0 ≤ b) : a ≤ low l ∧ low l ≤ b := by
  by_cases e : l = []
  · subst e; simp [low]; omega
  · exact h _ (low_mem e)
theorem high_range {l : List Int} {a b : Int} (h : ∀ x ∈ l, a ≤ x ∧ x ≤ b) (ha : a ≤ 0) (hb : 0 ≤ b) : a ≤ high l ∧ high l ≤ b := by
  by_cases e : l = []
  · subst e; simp [high]; omega
  · exact h _ (high_mem e)
theorem low_le_high (l : List Int) : low l ≤ high l := by
  cases l with
  | nil => simp [low, high]
  | cons a l => exact Int.le_trans (foldl_min_le l a).1 (foldl_max_le l a).1
end Go.Viv
