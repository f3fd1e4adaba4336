/- The plain law of sums turned by quarters. -/
import Derived.Test.YtbhacanijenbeaaB0
set_option linter.unusedVariables false
set_option linter.unusedSimpArgs false
namespace Go.Viv

def crI (r : Int) : Int := if r = 0 then 1 else if r = 2 then -1 else 0
def ciI (r : Int) : Int := if r = 1 then 1 else if r = 3 then -1 else 0
/-- the sum of the first n numbers, turned k quarters a place: real part, imaginary part -/
def sR (l : List Int) (k : Int) : Nat → Int
  | 0 => 0
  | n + 1 => sR l k n + crI ((n * k) % 4) * (l[n]?.getD 0)
def sI (l : List Int) (k : Int) : Nat → Int
  | 0 => 0
  | n + 1 => sI l k n + ciI ((n * k) % 4) * (l[n]?.getD 0)

theorem crI_b (r x B : Int) (h1 : -B ≤ x) (h2 : x ≤ B) : -B ≤ crI r * x ∧ crI r * x ≤ B := by
  unfold crI; (repeat' split) <;> omega
theorem ciI_b (r x B : Int) (h1 : -B ≤ x) (h2 : x ≤ B) : -B ≤ ciI r * x ∧ ciI r * x ≤ B := by
  unfold ciI; (repeat' split) <;> omega
theorem near_get {l : List Int} {n j : Nat} {x : Int} (h : (l.take n).all nearI = true) (hj : j < n) (hx : l[j]? = some x) : -1099511627776 ≤ x ∧ x ≤ 1099511627776 := by
  have hm : x ∈ l.take n := List.mem_of_getElem? (i := j) (by rw [List.getElem?_take_of_lt hj]; exact hx)
  have := List.all_eq_true.1 h x hm
  unfold nearI at this; simpa using this
theorem near_getD {l : List Int} {n j : Nat} (h : (l.take n).all nearI = true) (hj : j < n) : -1099511627776 ≤ l[j]?.getD 0 ∧ l[j]?.getD 0 ≤ 1099511627776 := by
  cases hx : l[j]? with
  | none => simp
  | some x => simpa using near_get h hj hx
theorem sR_b {l : List Int} (k : Int) {n : Nat} : ∀ {m : Nat}, m ≤ n → (l.take n).all nearI = true → -(m * 1099511627776 : Int) ≤ sR l k m ∧ sR l k m ≤ m * 1099511627776
  | 0, _, _ => by simp [sR]
  | m + 1, hm, h => by
    have ih := sR_b k (m := m) (by omega) h
    have hx := near_getD h (show m < n by omega)
    have := crI_b ((m * k) % 4) _ _ hx.1 hx.2
    simp only [sR]; push_cast; omega
theorem sI_b {l : List Int} (k : Int) {n : Nat} : ∀ {m : Nat}, m ≤ n → (l.take n).all nearI = true → -(m * 1099511627776 : Int) ≤ sI l k m ∧ sI l k m ≤ m * 1099511627776
  | 0, _, _ => by simp [sI]
  | m + 1, hm, h => by
    have ih := sI_b k (m := m) (by omega) h
    have hx := near_getD h (show m < n by omega)
    have := ciI_b ((m * k) % 4) _ _ hx.1 hx.2
    simp only [sI]; push_cast; omega

def turnsE (l : List Int) : Int := if 4096 < l.length then 6 else if l.all nearI = true then 0 else 5
def turnsR (l : List Int) (k : Int) : Int := if turnsE l = 0 then sR l k l.length else 0
def turnsI (l : List Int) (k : Int) : Int := if turnsE l = 0 then sI l k l.length else 0
theorem allI_false {l : List Int} {j : Nat} {x : Int} (h : l[j]? = some x) (hn : nearI x = false) : l.all nearI = false := by
  rw [← Bool.not_eq_true]
  intro ha
  have := List.all_eq_true.1 ha _ (List.mem_of_getElem? h)
  exact absurd this (by rw [hn]; simp)
theorem allI_snoc {l : List Int} {j : Nat} {x : Int} (ha : (l.take j).all nearI = true) (h : l[j]? = some x) (hn : nearI x = true) : (l.take (j + 1)).all nearI = true := by
  rw [List.take_add_one, h]
  simp only [Option.toList_some, List.all_append, ha, Bool.true_and, List.all_cons, List.all_nil, Bool.and_true]
  exact hn
theorem turns_b (l : List Int) (k : Int) : (turnsR l k).natAbs ≤ 9007199254740992 ∧ (turnsI l k).natAbs ≤ 9007199254740992 := by
  unfold turnsR turnsI
  by_cases h : turnsE l = 0
  · rw [if_pos h, if_pos h]
    unfold turnsE at h
    split at h
    · omega
    · split at h
      · rename_i h1 h2
        have ha : (l.take l.length).all nearI = true := by rw [List.take_length]; exact h2
        have h3 := sR_b k (Nat.le_refl l.length) ha
        have h4 := sI_b k (Nat.le_refl l.length) ha
        omega
      · omega
  · rw [if_neg h, if_neg h]; decide

theorem step_r {l : List Int} {j : Nat} {x : Int} (hx : l[j]? = some x) (k : Int) : sR l k (j + 1) = sR l k j + crI ((j * k) % 4) * x ∧ sI l k (j + 1) = sI l k j + ciI ((j * k) % 4) * x := by
  simp [sR, sI, hx]

end Go.Viv
