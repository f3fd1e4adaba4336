/- The document's rules of blocks: Check, Turns, Counts, Back. -/
import Derived.Test.YtdpcmpfhjhbicaaBkPr
import Derived.Test.YtdpcmpfhjhbicaaBkB
import Derived.Test.YtdpcmpfhjhbicaaBkC
set_option linter.unusedVariables false
set_option linter.unusedSimpArgs false
namespace Go.Proofs.Ytdpcmpfhjhbicaa
open Go.RowKit Go.Viv

theorem bdrewN' (w : World) (n : Nat) {B : Nat} (hB : B ≤ w.heap.size) : Below B w (w.drewN n) := ⟨rfl, rfl, rfl, Nat.le_refl _, fun _ _ => rfl⟩
theorem arr_cell {w : World} {g : Nat} {b : List Int} (h : w.heap[g]? = some (.cells (arr b) 23 (0, 0))) {k : Nat} (hk : k < b.length) : w.cell? ⟨g, k, none⟩ = some (.int .u8 (nth b k)) := by
  rw [bk_cell h, arr_at hk]

set_option maxRecDepth 20000 in
set_option maxHeartbeats 1000000 in
theorem rCheck_calls {b : List Int} (hb : Arr16 b) (w : World) : Calls Try.prog 40 #[.agg (arr b)] w (Ret (.int .i64 (checkB b)) w) := by
  have KO := bk_new w (.cells (arr b) 23)
  have hB := boxed w (.cells (arr b) 23)
  go_enter Try.func40, Try.ntmps40
  go_wp2_with (first | fail)
  generalize (w.alloc (.cells (arr b) 23)) = W0 at *
  have HKO := Lib.hid KO; clear KO
  go_loop [3] (fun i => ∃ k : Nat, i = .int .i64 k ∧ k ≤ 16 ∧ Hid (∀ j, j < k → nth b j ≤ 15)) (fun i => 16 - (intOf i).toNat)
  case atStart => exact ⟨0, rfl, by omega, fun _ h => absurd h (by omega)⟩
  case round =>
    obtain ⟨k, rfl, hk, HK⟩ := hrel
    by_cases hlt : k < 16
    · have hix := arr_cell HKO.out (k := k) (by rw [hb.len]; exact hlt)
      have hbd := hb.bd k hlt
      by_cases hg : nth b k ≤ 15
      · have HK2 : Hid (∀ j, j < k + 1 → nth b j ≤ 15) := fun j hj => by
          by_cases e : j = k
          · subst e; exact hg
          · exact HK.out j (by omega)
        generalize nth b k = n at *
        go_wp2
        go_round
        case rel => exact ⟨k + 1, by go_num, by omega, HK2⟩
        case measure => simp [intOf]; omega
      · have HC := Lib.hid (checkB_bad (b := b) (k := k) (by rw [hb.len]; exact hlt) (by omega))
        generalize nth b k = n at *
        go_wp2
        go_ret
        exact Ret.of (by rw [HC.out]; rfl) hB
    · have HC := Lib.hid (checkB_ok (b := b) (fun j hj => HK.out j (by rw [hb.len] at hj; omega)))
      go_wp2
      go_ret
      exact Ret.of (by rw [HC.out]; rfl) hB

theorem turns_no {b : List Int} (hb : Arr16 b) (hc : checkB b = 0) {i k : Nat} (hi : i < 16) (hk : k < i) (h : nth b i = nth b k) : turnsB b = false := by
  cases ht : turnsB b
  · rfl
  · have := (turnsB_iff hb hc).1 ht i k hi (by omega) h; omega
theorem turns_yes {b : List Int} (hb : Arr16 b) (hc : checkB b = 0) (h : ∀ a, a < 16 → ∀ c, c < a → nth b a ≠ nth b c) : turnsB b = true :=
  (turnsB_iff hb hc).2 fun i j hi hj e => by
    rcases Nat.lt_trichotomy i j with h1 | h1 | h1
    · exact absurd e.symm (h j hj i h1)
    · exact h1
    · exact absurd e (h i hi j h1)

set_option maxRecDepth 20000 in
set_option maxHeartbeats 2000000 in
theorem rTurns_bad {b : List Int} (hb : Arr16 b) (hc : checkB b = 290) (w : World) : Calls Try.prog 37 #[.agg (arr b)] w (Ret (.tuple #[.bool false, .int .i64 290]) w) := by
  have KO := bk_new w (.cells (arr b) 23)
  have hi := arr_info hb.len
  have hB := boxed w (.cells (arr b) 23)
  have HC := rCheck_calls hb (w.alloc (.cells (arr b) 23))
  rw [hc] at HC
  have HC' := Lib.hid HC; clear HC hc
  go_enter Try.func37, Try.ntmps37
  go_wp2_with (first | (go_at_call 40; ((with_reducible refine HC'.out.mono ?_); rintro e w1 ⟨rfl, hb1⟩)) | (refine wpList_load_row (by rfl) 23 _ (by rfl) w.heap.size (by rfl) 23 _ (0, 0) _ KO Try.underlying23 rfl hi ?_))
  go_ret2
  exact Ret.one (hB.trans (hb1.mono hB.size))

set_option maxRecDepth 20000 in
set_option maxHeartbeats 2000000 in
theorem rTurns_ok {b : List Int} (hb : Arr16 b) (hc : checkB b = 0) (w : World) : Calls Try.prog 37 #[.agg (arr b)] w (Ret (.tuple #[.bool (turnsB b), .int .i64 0]) w) := by
  have KO := bk_new w (.cells (arr b) 23)
  have hi := arr_info hb.len
  have hB := boxed w (.cells (arr b) 23)
  have HC := rCheck_calls hb (w.alloc (.cells (arr b) 23))
  have HH := Lib.hid hc
  rw [hc] at HC
  have HC' := Lib.hid HC; clear HC hc
  go_enter Try.func37, Try.ntmps37
  go_wp2_with (first | (go_at_call 40; ((with_reducible refine HC'.out.mono ?_); rintro e w1 ⟨rfl, hb1⟩; have HK1 := Lib.hid (bk_below KO hb1); have HB1 := Lib.hid (hB.trans (hb1.mono hB.size)))) | (refine wpList_load_row (by rfl) 23 _ (by rfl) w.heap.size (by rfl) 23 _ (0, 0) _ KO Try.underlying23 rfl hi ?_))
  clear KO hB hb1 hi
  go_loopw [5] (fun i wr => ∃ k : Nat, i = .int .i64 k ∧ k ≤ 16 ∧ Hid (∀ a, a < k → ∀ c, c < a → nth b a ≠ nth b c) ∧ Hid (wr.heap[w.heap.size]? = some (.cells (arr b) 23 (0, 0))) ∧ Below w.heap.size w wr) (fun i _ => 16 - (intOf i).toNat)
  case atStart => exact ⟨0, rfl, by omega, fun _ h => absurd h (by omega), HK1.out, HB1.out⟩
  clear HK1 HB1
  obtain ⟨i, rfl, hi, HI, KW, hB⟩ := hrel
  by_cases hlt : i < 16
  · go_wp2_with (first | fail)
    obtain ⟨wo, rfl⟩ : ∃ wo : World, wo = wr := ⟨_, rfl⟩
    go_loopw [6] (fun v wr => ∃ k : Nat, v = .int .i64 k ∧ k ≤ i ∧ Hid (∀ c, c < k → nth b i ≠ nth b c) ∧ Hid (wr.heap[w.heap.size]? = some (.cells (arr b) 23 (0, 0))) ∧ Below w.heap.size w wr) (fun v _ => i - (intOf v).toNat)
    case atStart => exact ⟨0, rfl, by omega, fun _ h => absurd h (by omega), KW.out, hB⟩
    clear KW hB
    obtain ⟨k, rfl, hk, HK, KW, hB⟩ := hrel
    by_cases hkl : k < i
    · have c1 := arr_cell KW.out (k := i) (by rw [hb.len]; exact hlt)
      have c2 := arr_cell KW.out (k := k) (by rw [hb.len]; omega)
      have i1 : (0 : Int) ≤ (i : Int) := by omega
      have i2 : (i : Int) < 16 := by omega
      have k1 : (0 : Int) ≤ (k : Int) := by omega
      have k2 : (k : Int) < 16 := by omega
      by_cases he : nth b i = nth b k
      · have HN := Lib.hid (turns_no hb HH.out hlt hkl he)
        have heq : (nth b i == nth b k) = true := by simp [he]
        clear he
        generalize nth b i = x at *
        generalize nth b k = y at *
        go_wp2_with (first | fail)
        go_quiet (fail)
        go_wp2
        go_ret2
        exact Ret.of (by rw [HN.out]; rfl) (hB.trans (bdrewN' _ _ hB.size))
      · have HK2 : Hid (∀ c, c < k + 1 → nth b i ≠ nth b c) := fun c hcc => by
          by_cases e : c = k
          · subst e; exact he
          · exact HK.out c (by omega)
        have heq : (nth b i == nth b k) = false := by simp [he]
        clear he
        generalize nth b i = x at *
        generalize nth b k = y at *
        go_wp2_with (first | fail)
        go_quiet (fail)
        go_wp2
        go_roundw
        case rel => exact ⟨k + 1, by go_num, by omega, HK2, bk_drewN KW.out _, hB.trans (bdrewN' _ _ hB.size)⟩
        case measure => simp [intOf]; omega
    · obtain rfl : k = i := by omega
      have HI2 : Hid (∀ a, a < k + 1 → ∀ c, c < a → nth b a ≠ nth b c) := fun a ha c hcc => by
        by_cases e : a = k
        · subst e; exact HK.out c hcc
        · exact HI.out a (by omega) c hcc
      go_wp2
      go_roundw
      case rel => exact ⟨k + 1, by go_num, by omega, HI2, KW, hB⟩
      case measure => simp [intOf]; omega
  · obtain rfl : i = 16 := by omega
    have HN := Lib.hid (turns_yes hb HH.out HI.out)
    go_wp2
    go_ret2
    exact Ret.of (by rw [HN.out]; rfl) hB
theorem rTurns_calls {b : List Int} (hb : Arr16 b) (w : World) : Calls Try.prog 37 #[.agg (arr b)] w (Ret (.tuple #[.bool (turnsB b), .int .i64 (checkB b)]) w) := by
  rcases checkB_two b with hc | hc
  · rw [hc]; exact rTurns_ok hb hc w
  · rw [hc, show turnsB b = false by unfold turnsB; simp [hc]]; exact rTurns_bad hb hc w
end Go.Proofs.Ytdpcmpfhjhbicaa
