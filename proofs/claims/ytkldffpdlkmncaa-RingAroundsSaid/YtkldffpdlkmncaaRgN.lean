/- RingArounds: rows of one's own, written over; the answer of Around, with or without an error. -/
import Derived.Test.YtkldffpdlkmncaaRgL
import Derived.Test.YtkldffpdlkmncaaRgH
set_option linter.unusedVariables false
set_option linter.unusedSimpArgs false
namespace Go.Proofs.Ytkldffpdlkmncaa
open Go.RowKit Go.Viv

theorem own_lt {w : World} {base size n : Nat} {e : TypeId} {v : Value} {xs : List Value} (h : w.ownsRow base e size v n xs) : ∀ k, v.ownBlock = some k → k < w.heap.size := by
  intro k hk
  rcases h.2 with ⟨rfl, _⟩ | ⟨g, cap, cur, rfl, hb, hg, _⟩
  · cases hk
  · obtain rfl : g = k := by simpa [Value.ownBlock] using hk
    exact bk_lt hg
theorem own_keep {w w' : World} {base size n : Nat} {e : TypeId} {v : Value} {xs : List Value} (h : w.ownsRow base e size v n xs) (hk : ∀ k, v.ownBlock = some k → w'.heap[k]? = w.heap[k]?) : w'.ownsRow base e size v n xs := by
  refine ⟨h.1, ?_⟩
  rcases h.2 with h0 | ⟨g, cap, cur, hv, hb, hg, hr⟩
  · exact .inl h0
  · exact .inr ⟨g, cap, cur, hv, hb, (hk g (by rw [hv]; rfl)).trans hg, hr⟩
/-- a call that writes over a row of one's own -/
def OverP (base m : Nat) (v : Value) (xs : List Value) (w : World) (e : Ending) (w' : World) : Prop :=
  e = .returned (.tuple #[]) ∧ w'.ownsRow base 5 1 v m xs ∧ Below base w w' ∧ (∀ b, b < w.heap.size → some b ≠ v.ownBlock → w'.heap[b]? = w.heap[b]?) ∧ w.heap.size ≤ w'.heap.size
theorem lfull_own {base m : Nat} {v : Value} {xs : List Value} {z : Int} {w : World} (hO : w.ownsRow base 5 1 v m xs) (hb : base ≤ w.heap.size) (hm : m ≤ 1000) :
    Calls Try.prog 18 #[v, .int .u8 z] w (OverP base m v (List.replicate m (.int .u8 z)) w) := by
  have hlt := own_lt hO
  have hge := own_block hO
  rcases hO.2 with ⟨rfl, rfl⟩ | ⟨g, cap, cur, rfl, hbg, hg, hmc, hcm, hsz, ht⟩
  · refine (lfull_nil 0 none z w).mono ?_
    rintro e w' ⟨rfl, rfl⟩
    exact ⟨rfl, World.ownsRow_nil _ _ _ _, Below.refl _ _, fun _ _ _ => rfl, Nat.le_refl _⟩
  · refine (lfull_calls hg (by omega) (by omega)).mono ?_
    rintro e w' ⟨rfl, ⟨cur', k1, k2, k3⟩, hw⟩
    refine ⟨rfl, ⟨by simp, .inr ⟨g, cap, cur', rfl, hbg, k1, hmc, hcm, by omega, ?_⟩⟩, hw.below hb (fun k hk => by rw [hk]; exact hbg), fun b h1 h2 => hw.block b h1 (fun hbg => h2 (by rw [hbg]; rfl)), hw.size⟩
    apply List.ext_getElem?
    intro i
    by_cases hi : i < m
    · rw [List.getElem?_take_of_lt (by omega)]
      have := k3 i (by omega)
      rw [if_pos (by omega)] at this
      simp [hi]
      simpa using this
    · rw [List.getElem?_eq_none (by simp; omega), List.getElem?_eq_none (by simp; omega)]

/-- what Around answers, with or without an error -/
def arA (cells : List Int) (W H : Int) (n : Nat) (k x y : Int) : List Int := if arE W H n k x y = 0 then arL cells W x y k else []
def AnsP (L : List Int) (E : Int) (w : World) (e : Ending) (w' : World) : Prop :=
  ∃ v, e = .returned (.tuple #[v, .int .i64 E]) ∧ w'.ownsRow w.heap.size 5 1 v L.length (L.map (.int .u8)) ∧ Below w.heap.size w w'
section
variable {W H k x y : Int} {A : Option Addr} {n c : Nat} {cells : List Int} {w : World}
theorem arA_len (cells : List Int) (W H : Int) (n : Nat) (k x y : Int) : (arA cells W H n k x y).length ≤ 8 := by
  unfold arA
  split
  · simp [arL]; exact hdL_le k 8
  · simp
theorem arA_bd (hz : ∀ z ∈ cells, 0 ≤ z ∧ z ≤ 255) : ∀ z ∈ arA cells W H n k x y, 0 ≤ z ∧ z ≤ 255 := by
  intro z h
  unfold arA at h
  split at h
  · unfold arL at h
    obtain ⟨p, _, rfl⟩ := List.mem_map.1 h
    rw [List.getD_eq_getElem?_getD]
    cases hq : cells[(arI W x y p).toNat]? with
    | none => simp
    | some u => simpa using hz u (List.mem_of_getElem? hq)
  · simp at h
theorem rgAround_any (hc : Rd w A (cells.map (.int .u8))) (hl : cells.length = n) : Calls Try.prog 16 #[.agg #[.int .i64 W, .int .i64 H, .slice A n c], .int .u8 k, .int .i64 x, .int .i64 y] w (AnsP (arA cells W H n k x y) (arE W H n k x y) w) := by
  by_cases h : arE W H n k x y = 0
  · refine (rgAround_yes h hc hl).mono ?_
    rintro e w' ⟨v, rfl, hO, hb⟩
    refine ⟨v, by rw [h], ?_, hb⟩
    unfold arA
    rw [if_pos h]
    simpa [arL] using hO
  · refine (rgAround_no h w).mono ?_
    rintro e w' ⟨rfl, hb⟩
    refine ⟨_, rfl, ?_, hb⟩
    unfold arA
    rw [if_neg h]
    exact World.ownsRow_nil _ _ _ _
theorem rRAround_any (hc : Rd w A (cells.map (.int .u8))) (hl : cells.length = n) : Calls Try.prog 14 #[.agg #[.int .i64 W, .int .i64 H, .slice A n c], .int .u8 k, .int .i64 x, .int .i64 y] w (AnsP (arA cells W H n k x y) (arE W H n k x y) w) := by
  by_cases h : arE W H n k x y = 0
  · refine (rRAround_yes h hc hl).mono ?_
    rintro e w' ⟨v, rfl, hO, hb⟩
    refine ⟨v, by rw [h], ?_, hb⟩
    unfold arA
    rw [if_pos h]
    simpa [arL] using hO
  · refine (rRAround_no h w).mono ?_
    rintro e w' ⟨rfl, hb⟩
    refine ⟨_, rfl, ?_, hb⟩
    unfold arA
    rw [if_neg h]
    exact World.ownsRow_nil _ _ _ _
end
end Go.Proofs.Ytkldffpdlkmncaa
