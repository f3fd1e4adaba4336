/- up, order: numbers and rules out of any numbers. -/
import Derived.Test.YtdpcmpfhjhbicaaBkN
set_option linter.unusedVariables false
set_option linter.unusedSimpArgs false
namespace Go.Proofs.Ytdpcmpfhjhbicaa
open Go.RowKit Go.Viv

theorem tmod_bd {a n : Int} (h : 0 < n) : -n < a.tmod n ∧ a.tmod n < n := by
  have := Int.tmod_lt_of_pos a h
  have := Int.lt_tmod_of_pos a h
  omega
theorem tmod_up {a n : Int} (h : 0 < n) : (a.tmod n + n).tmod n = a % n := by
  have hb := tmod_bd (a := a) h
  rw [Int.tmod_eq_emod_of_nonneg (by omega), Int.add_emod_right]
  have e : a.tmod n = a - n * a.tdiv n := by have := Int.mul_tdiv_add_tmod a n; omega
  rw [e, Int.sub_mul_emod_self_left]
set_option maxRecDepth 20000 in
theorem up_calls (a n : Int) (w : World) (h : 0 < n) (hn : n ≤ 4611686018427387904) (ha : -9223372036854775808 ≤ a) (ha2 : a ≤ 9223372036854775807) : Calls Try.prog 19 #[.int .i64 a, .int .i64 n] w fun e w' => e = .returned (.int .i64 (a % n)) ∧ w = w' := by
  obtain ⟨b0, b1⟩ := tmod_bd (a := a) h
  have hu := tmod_up (a := a) h
  have hz : (n == 0) = false := by simp; omega
  have hm : (n == -1) = false := by simp; omega
  have e0 := Int.emod_nonneg a (show n ≠ 0 by omega)
  have e1 := Int.emod_lt_of_pos a h
  go_enter Try.func19, Try.ntmps19
  go_wp2
  go_ret
  exact ⟨rfl, rfl⟩

/-- the numbers 0 to k - 1, each at its own place -/
def idL : Nat → List Int
  | 0 => List.replicate 16 0
  | k + 1 => (idL k).set k k
theorem idL_length : ∀ k, (idL k).length = 16
  | 0 => rfl
  | k + 1 => by rw [idL, List.length_set, idL_length k]
/-- two places exchanged -/
def swL (b : List Int) (i j : Nat) : List Int := (b.set i (nth b j)).set j (nth b i)
theorem swL_length (b : List Int) (i j : Nat) : (swL b i j).length = b.length := by simp [swL]
theorem swL_at {b : List Int} {i j : Nat} (hi : i < b.length) (hj : j < b.length) (k : Nat) : nth (swL b i j) k = if k = j then nth b i else if k = i then nth b j else nth b k := by
  unfold swL
  rw [nth_set, nth_set]
  simp only [List.length_set, hi, hj, and_true, @eq_comm _ k j, @eq_comm _ k i]
/-- where the number k goes -/
def ordJ (l : List Int) (k : Nat) : Nat := (l.getD k 0 % 16).toNat
theorem ordJ_lt (l : List Int) (k : Nat) : ordJ l k < 16 := by unfold ordJ; omega
def ordF (l : List Int) : Nat → List Int
  | 0 => idL 16
  | k + 1 => swL (ordF l k) k (ordJ l k)
theorem ordF_length (l : List Int) : ∀ k, (ordF l k).length = 16
  | 0 => rfl
  | k + 1 => by rw [ordF, swL_length, ordF_length l k]
/-- an order: sixteen numbers below sixteen, no two alike -/
structure Perm16 (b : List Int) : Prop where
  len : b.length = 16
  bd : ∀ k, k < 16 → 0 ≤ nth b k ∧ nth b k < 16
  inj : ∀ i j, i < 16 → j < 16 → nth b i = nth b j → i = j
theorem Perm16.sw {b : List Int} (h : Perm16 b) {i j : Nat} (hi : i < 16) (hj : j < 16) : Perm16 (swL b i j) := by
  have hl := h.len
  refine ⟨by rw [swL_length, hl], fun k hk => ?_, fun p q hp hq he => ?_⟩
  · rw [swL_at (by omega) (by omega)]
    split
    · exact h.bd i hi
    · split
      · exact h.bd j hj
      · exact h.bd k hk
  · rw [swL_at (by omega) (by omega), swL_at (by omega) (by omega)] at he
    have h1 := h.inj
    split at he <;> split at he <;> (try split at he) <;> (try split at he)
    all_goals (first | omega | (have := h1 _ _ (by omega) (by omega) he; omega))
theorem id_at : ∀ k : Nat, k < 16 → nth (idL 16) k = k := by decide
theorem id16 : Perm16 (idL 16) := ⟨rfl, by decide, fun i j hi hj h => by rw [id_at i hi, id_at j hj] at h; omega⟩
theorem ordF_perm (l : List Int) : ∀ k, k ≤ 16 → Perm16 (ordF l k)
  | 0, _ => id16
  | k + 1, hk => (ordF_perm l k (by omega)).sw (by omega) (ordJ_lt l k)
/-- law29.order -/
def orderL (l : List Int) : List Int := ordF l (min 16 l.length)
theorem orderL_perm (l : List Int) : Perm16 (orderL l) := ordF_perm l _ (by omega)
theorem Perm16.arr {b : List Int} (h : Perm16 b) : Arr16 b := ⟨h.len, fun k hk => by have := h.bd k hk; omega⟩
theorem Perm16.ok {b : List Int} (h : Perm16 b) : checkB b = 0 := checkB_ok fun k hk => by have := h.bd k (by rw [h.len] at hk; exact hk); omega
theorem Perm16.turns {b : List Int} (h : Perm16 b) : turnsB b = true := (turnsB_iff h.arr h.ok).2 h.inj
end Go.Proofs.Ytdpcmpfhjhbicaa
