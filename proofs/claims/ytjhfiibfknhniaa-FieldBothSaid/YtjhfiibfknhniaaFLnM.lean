/- Lists of rows of bytes; what Lay makes of them; New at whatever numbers. -/
import Derived.Test.YtjhfiibfknhniaaFAlive
set_option linter.unusedVariables false
set_option linter.unusedSimpArgs false
namespace Go.Proofs.Ytjhfiibfknhniaa
open Go.RowKit

/-- at A lie these rows -/
def LnsAt (w : World) (A : Option Addr) (ls : List (List Int)) : Prop :=
  (0 < ls.length → ∃ b off, A = some ⟨b, off, none⟩) ∧ ∃ vs : List Value, Rd w A vs ∧ ∀ (r : Nat) l, ls[r]? = some l → ∃ A' c, vs[r]? = some (.slice A' l.length c) ∧ Rd w A' (l.map (.int .u8)) ∧ l.length ≤ 140737488351232 ∧ ∀ z ∈ l, 0 ≤ z ∧ z ≤ 255
theorem LnsAt.below {w w' : World} {A : Option Addr} {ls : List (List Int)} (h : LnsAt w A ls) (hb : Below w.heap.size w w') : LnsAt w' A ls := by
  obtain ⟨h0, vs, hr, h⟩ := h
  refine ⟨h0, vs, hr.below hb, fun r l hl => ?_⟩
  obtain ⟨A', c, h1, h2, h3⟩ := h r l hl
  exact ⟨A', c, h1, h2.below hb, h3⟩
/-- one of the rows -/
theorem LnsAt.row {w : World} {A : Option Addr} {ls : List (List Int)} (h : LnsAt w A ls) {r : Nat} (hr : r < ls.length) :
    ∃ b off A' c, A = some ⟨b, off, none⟩ ∧ w.cell? ⟨b, off + r, none⟩ = some (.slice A' (ls.getD r []).length c) ∧ Rd w A' ((ls.getD r []).map (.int .u8)) ∧ (ls.getD r []).length ≤ 140737488351232 ∧ ∀ z ∈ ls.getD r [], 0 ≤ z ∧ z ≤ 255 := by
  obtain ⟨h0, vs, hv, h⟩ := h
  obtain ⟨b, off, rfl⟩ := h0 (by omega)
  have e : ls[r]? = some (ls.getD r []) := by simp [List.getD, List.getElem?_eq_getElem hr]
  obtain ⟨A', c, h1, h2, h3, h4⟩ := h r _ e
  exact ⟨b, off, A', c, rfl, hv.at_ r _ h1, h2, h3, h4⟩

/-- a row of one's own lies in a block of one's own -/
theorem own_at {w : World} {base size n c m : Nat} {e : TypeId} {A : Option Addr} {xs : List Value} (h : w.ownsRow base e size (.slice A m c) n xs) (hn : 0 < n) : ∃ g, A = some ⟨g, 0, none⟩ ∧ base ≤ g ∧ g < w.heap.size := by
  rcases h.2 with ⟨h0, h1⟩ | ⟨g, cap, cur, hv, hb, hg, _⟩
  · have := h.1; subst h1; omega
  · injection hv with hA
    exact ⟨g, hA, hb, bk_lt hg⟩

def lnF (W : Nat) (ls : List (List Int)) (k y x : Nat) : Int := if y < k ∧ (ls.getD y []).length = W then (ls.getD y []).getD x 0 else 0
/-- a field of bytes, the first k rows laid -/
def LF (g : Nat) (S : Nat → Prop) (W H : Nat) (ls : List (List Int)) (k : Nat) (w : World) : Prop :=
  ∃ D, Fld g D S w ∧ D.W = W ∧ D.H = H ∧ D.St = 256 ∧ D.pk = false ∧ ∀ y x, y < H → x < W → D.f y x = lnF W ls k y x
theorem LF.below {g : Nat} {S : Nat → Prop} {W H : Nat} {ls : List (List Int)} {k : Nat} {w w' : World} (h : LF g S W H ls k w) (hb : Below w.heap.size w w') : LF g S W H ls k w' := by
  obtain ⟨D, h, r⟩ := h
  exact ⟨D, h.below hb, r⟩
theorem lf_zero {g : Nat} {S : Nat → Prop} {W H : Nat} {ls : List (List Int)} {w : World} (h : Fld g (zeroD W H 256 false) S w) : LF g S W H ls 0 w :=
  ⟨_, h, rfl, rfl, rfl, rfl, fun y x _ _ => by simp [lnF, zeroD]⟩
def lnE (W : Nat) (l : List Int) : Int := if l.length = W then 0 else 131
def allLn (W : Nat) (ls : List (List Int)) (k : Nat) : Bool := (ls.take k).all fun l => l.length == W
theorem allLn_succ (W : Nat) (ls : List (List Int)) {k : Nat} (hk : k < ls.length) : allLn W ls (k + 1) = (allLn W ls k && ((ls.getD k []).length == W)) := by
  unfold allLn
  rw [List.take_succ_eq_append_getElem hk, List.all_append]
  simp [List.getD, List.getElem?_eq_getElem hk]
theorem allLn_all {W : Nat} {ls : List (List Int)} (h : allLn W ls ls.length = true) {y : Nat} (hy : y < ls.length) : (ls.getD y []).length = W := by
  unfold allLn at h
  rw [List.take_length, List.all_eq_true] at h
  have := h (ls.getD y []) (by simp [List.getD, List.getElem?_eq_getElem hy])
  simpa using this

theorem lay_ln {g : Nat} {S : Nat → Prop} {W H : Nat} {ls : List (List Int)} {k : Nat} {w : World} {A : Option Addr} {c : Nat} (h : LF g S W H ls k w) (hH : H = ls.length) (hk : k < H) (h1 : 1 ≤ W) (hr : Rd w A ((ls.getD k []).map (.int .u8)))
    (hnb : (ls.getD k []).length ≤ 140737488351232) (hbl : ∀ z ∈ ls.getD k [], 0 ≤ z ∧ z ≤ 255) (hA : 0 < (ls.getD k []).length → ∃ b off, A = some ⟨b, off, none⟩ ∧ ¬ S b ∧ b < w.heap.size) :
    Calls Try.prog 11 #[.pointer (some ⟨g, 0, none⟩), .int .i64 k, .slice A (ls.getD k []).length c] w fun e w' => e = .returned (.int .i64 (lnE W (ls.getD k []))) ∧ LF g S W H ls (k + 1) w' ∧ Wrote S w w' := by
  obtain ⟨D, hF, eW, eH, eS, ep, hf⟩ := h
  refine (Lay_calls (k : Int) A _ c _ hF rfl (by omega) hr hbl hA).mono fun e w' ⟨he, hF', hw⟩ => ?_
  have hb0 : hasB D.W D.H 0 k = true := hasB_yes (by omega) (by omega) (by omega) (by omega)
  have hall : allB D.St (ls.getD k []) = true := by
    unfold allB
    rw [List.all_eq_true]
    intro z hz
    have := hbl z hz
    rw [eS]; simp; omega
  by_cases hl : (ls.getD k []).length = W
  · have e1 : layE D k (ls.getD k []) = 0 := by unfold layE; rw [if_pos hb0, if_pos (by rw [eW]; exact hl), if_pos hall]
    refine ⟨by rw [he, e1]; unfold lnE; rw [if_pos hl], ⟨D.lay k (ls.getD k []), hF', ?_⟩, hw⟩
    simp only [FD.lay, e1, if_true]
    refine ⟨eW, eH, eS, ep, fun y x hy hx => ?_⟩
    simp only [layF, Int.toNat_natCast]
    by_cases e : y = k
    · subst e
      unfold lnF
      rw [if_pos ⟨rfl, by rw [eW]; exact hx⟩, if_pos ⟨by omega, hl⟩]
    · rw [if_neg (fun h => e h.1), hf y x hy hx]
      unfold lnF
      by_cases hyk : y < k
      · simp [hyk, show y < k + 1 by omega]
      · simp [hyk, show ¬ y < k + 1 by omega]
  · have e1 : layE D k (ls.getD k []) = 131 := by unfold layE; rw [if_pos hb0, if_neg (by rw [eW]; exact hl)]
    refine ⟨by rw [he, e1]; unfold lnE; rw [if_neg hl], ⟨D.lay k (ls.getD k []), hF', ?_⟩, hw⟩
    simp only [FD.lay, e1]
    refine ⟨eW, eH, eS, ep, fun y x hy hx => ?_⟩
    show D.f y x = _
    rw [hf y x hy hx]
    unfold lnF
    by_cases e : y = k
    · subst e; rw [if_neg (fun h => hl h.2), if_neg (fun h => hl h.2)]
    · by_cases hyk : y < k
      · simp [hyk, show y < k + 1 by omega]
      · simp [hyk, show ¬ y < k + 1 by omega]

/-- New of 256 states, whatever the sides: a field, or none -/
def NewAny (W H : Int) (w : World) (e : Ending) (w' : World) : Prop :=
  (∃ g S, e = .returned (.tuple #[.pointer (some ⟨g, 0, none⟩), .int .i64 0]) ∧ 1 ≤ W ∧ W ≤ 65536 ∧ 1 ≤ H ∧ H ≤ 65536 ∧ Fld g (zeroD W.toNat H.toNat 256 false) S w' ∧ (∀ b, S b → w.heap.size ≤ b) ∧ Below w.heap.size w w') ∨
  (∃ n, e = .returned (.tuple #[.pointer none, .int .i64 n]) ∧ (n = 2 ∨ n = 4) ∧ w = w')
theorem New_any (W H : Int) (w : World) : Calls Try.prog 9 #[.int .i64 W, .int .i64 H, .int .i64 256, .bool false] w (NewAny W H w) := by
  by_cases h : W < 1 ∨ 65536 < W ∨ H < 1 ∨ 65536 < H
  · exact (New_arg W H 256 false w (by omega)).mono fun e w' ⟨a, b⟩ => .inr ⟨2, a, .inl rfl, b⟩
  · obtain ⟨W, rfl⟩ := Int.eq_ofNat_of_zero_le (show 0 ≤ W by omega)
    obtain ⟨H, rfl⟩ := Int.eq_ofNat_of_zero_le (show 0 ≤ H by omega)
    by_cases hm : W * H ≤ 1048576
    · refine (New_yes W H 256 false w (by omega) (by omega) (by omega) (by omega) (by omega) (by omega) (by simp) hm).mono fun e w' ⟨g, S, he, hF, hS, hb⟩ => .inl ⟨g, S, he, by omega, by omega, by omega, by omega, ?_, hS, hb⟩
      simpa using hF
    · refine (New_budget W H 256 false w (by omega) (by omega) (by omega) (by omega) (by omega) (by omega) (by simp) ?_).mono fun e w' ⟨a, b⟩ => .inr ⟨4, a, .inr rfl, b⟩
      have : ((W * H : Nat) : Int) = (W : Int) * H := Int.natCast_mul W H
      omega
end Go.Proofs.Ytjhfiibfknhniaa
