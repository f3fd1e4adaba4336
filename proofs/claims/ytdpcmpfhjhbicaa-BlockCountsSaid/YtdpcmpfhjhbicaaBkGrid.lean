/- A plane or a torus with even sides of 2 to 12, and a field on it (Grid.made). -/
import Derived.Test.YtdpcmpfhjhbicaaKept
import Derived.Test.YtdpcmpfhjhbicaaBkUp
set_option linter.unusedVariables false
set_option linter.unusedSimpArgs false
namespace Go.Proofs.Ytdpcmpfhjhbicaa
open Go.RowKit Go.Viv

theorem and64g (x : Int) : bits BinOp.and IntKind.i64 x 1 = x % 2 := by
  have e1 : (BitVec.ofInt 64 1).toNat = 1 := by decide
  have e : (BitVec.ofInt 64 x &&& BitVec.ofInt 64 1).toNat = (x % 2).toNat := by
    rw [BitVec.toNat_and, e1, BitVec.toNat_ofInt, Nat.and_one_is_mod]
    omega
  show IntKind.i64.wrap (((BitVec.ofInt 64 x &&& BitVec.ofInt 64 1).toNat : Nat) : Int) = _
  rw [e, IntKind.wrap_i64]
  omega

/-- a side -/
def gdS (a : Int) : Nat := (2 + 2 * (a % 6)).toNat
theorem gdS_eq (a : Int) : 2 + 2 * (a % 6) = (gdS a : Int) := by unfold gdS; omega
theorem gdS_bd (a : Int) : 2 ≤ gdS a ∧ gdS a ≤ 12 ∧ gdS a % 2 = 0 := by unfold gdS; omega
def gdK (torus : Bool) : Int := if torus then 2 else 1
/-- the shift, if there is one -/
def gdB (torus : Bool) (W H turn by_ : Int) : Int := if torus then 2 * (by_ % ((if turn % 2 = 1 then H else W) / 2)) else 0
def gdT (torus : Bool) (W H turn by_ : Int) : Int := if 0 < gdB torus W H turn by_ then (if turn % 2 = 1 then 2 else 1) else 0

theorem gd_ok (torus : Bool) (W H turn by_ : Int) (hw : 2 ≤ W ∧ W ≤ 12 ∧ W % 2 = 0) (hh : 2 ≤ H ∧ H ≤ 12 ∧ H % 2 = 0) : gridE (gdK torus) W H (gdT torus W H turn by_) (gdB torus W H turn by_) = 0 ∧ 0 ≤ gdT torus W H turn by_ := by
  cases torus
  · have e1 : gdB false W H turn by_ = 0 := rfl
    have e2 : gdT false W H turn by_ = 0 := rfl
    rw [e1, e2]
    unfold gridE checkE gdK
    simp only [Bool.false_eq_true, if_false]
    omega
  · by_cases ht : turn % 2 = 1
    · have e1 : gdB true W H turn by_ = 2 * (by_ % (H / 2)) := by unfold gdB; simp [ht]
      have e2 : gdT true W H turn by_ = if 0 < gdB true W H turn by_ then 2 else 0 := by unfold gdT; simp [ht]
      have h0 := Int.emod_nonneg by_ (show H / 2 ≠ 0 by omega)
      have h1 := Int.emod_lt_of_pos by_ (show 0 < H / 2 by omega)
      rw [e2, e1]
      generalize by_ % (H / 2) = z at *
      clear e1 e2
      have : gdK true = 2 := rfl
      rw [this]
      unfold gridE checkE
      split <;> omega
    · have e1 : gdB true W H turn by_ = 2 * (by_ % (W / 2)) := by unfold gdB; simp [ht]
      have e2 : gdT true W H turn by_ = if 0 < gdB true W H turn by_ then 1 else 0 := by unfold gdT; simp [ht]
      have h0 := Int.emod_nonneg by_ (show W / 2 ≠ 0 by omega)
      have h1 := Int.emod_lt_of_pos by_ (show 0 < W / 2 by omega)
      rw [e2, e1]
      generalize by_ % (W / 2) = z at *
      clear e1 e2
      have : gdK true = 2 := rfl
      rw [this]
      unfold gridE checkE
      split <;> omega

abbrev gdV (torus packed : Bool) (W H turn by_ : Int) (A : Option Addr) (n c : Nat) : Value := .agg #[.bool torus, .bool packed, .int .i64 W, .int .i64 H, .int .i64 turn, .int .i64 by_, .slice A n c]
/-- the topology's value -/
abbrev gdTopo (torus : Bool) (W H turn by_ : Int) : Value := topoV (gdK torus) (gdS W) (gdS H) (gdT torus (gdS W) (gdS H) turn by_) (gdB torus (gdS W) (gdS H) turn by_)
/-- what made comes to -/
def MadeP (torus packed : Bool) (W H turn by_ : Int) (l : List Int) (w : World) (e : Ending) (w' : World) : Prop :=
  ∃ g S, e = .returned (.tuple #[gdTopo torus W H turn by_, .pointer (some ⟨g, 0, none⟩), .bool true]) ∧ Fld g (keptD (gdS W) (gdS H) 2 packed l) S w' ∧ (∀ b, S b → w.heap.size ≤ b) ∧ Below w.heap.size w w'

theorem five_far {w : World} {g b : Nat} {v0 v1 v2 v3 v4 : Value} (h : b ≠ g) : (((((w.setCell ⟨g, 0, none⟩ v0).setCell ⟨g, 1, none⟩ v1).setCell ⟨g, 2, none⟩ v2).setCell ⟨g, 3, none⟩ v3).setCell ⟨g, 4, none⟩ v4).heap[b]? = w.heap[b]? :=
  ((((Below.heap_setCell _ _ _ b h).trans (Below.heap_setCell _ _ _ b h)).trans (Below.heap_setCell _ _ _ b h)).trans (Below.heap_setCell _ _ _ b h)).trans (Below.heap_setCell _ _ _ b h)
theorem five_below {w w' : World} {B g : Nat} {v0 v1 v2 v3 v4 : Value} (hB : Below B w w') (h : B ≤ g) : Below B w (((((w'.setCell ⟨g, 0, none⟩ v0).setCell ⟨g, 1, none⟩ v1).setCell ⟨g, 2, none⟩ v2).setCell ⟨g, 3, none⟩ v3).setCell ⟨g, 4, none⟩ v4) :=
  ((((hB.setCell h _).setCell h _).setCell h _).setCell h _).setCell h _
/-- one way on, for all ways that come to one end -/
theorem share {P G : Prop} (h : P → G) (k : P) : G := h k

set_option maxRecDepth 20000 in
set_option maxHeartbeats 3000000 in
theorem made_calls (torus packed : Bool) (W H turn by_ : Int) (A : Option Addr) (n c : Nat) (l : List Int) (w : World) (bW : -9223372036854775808 ≤ W ∧ W ≤ 9223372036854775807) (bH : -9223372036854775808 ≤ H ∧ H ≤ 9223372036854775807) (bT : -9223372036854775808 ≤ turn ∧ turn ≤ 9223372036854775807) (bB : -9223372036854775808 ≤ by_ ∧ by_ ≤ 9223372036854775807)
    (hn : l.length = n) (hnb : n ≤ 9223372036854775807) (hA : 0 < n → ∃ b off, A = some ⟨b, off, none⟩) (hr : Rd w A (l.map (.int .u8))) (hbl : ∀ z ∈ l, 0 ≤ z ∧ z ≤ 255) :
    Calls Try.prog 18 #[gdV torus packed W H turn by_ A n c] w (MadeP torus packed W H turn by_ l w) := by
  have K0 := bk_alloc (bk_new w (.cells #[.bool torus, .bool packed, .int .i64 W, .int .i64 H, .int .i64 turn, .int .i64 by_, .slice A n c] 46)) (.cells #[.int .u8 0, .int .i64 0, .int .i64 0, .int .u8 0, .int .i64 0] 29)
  have K1 := bk_newn (w.alloc (.cells #[.bool torus, .bool packed, .int .i64 W, .int .i64 H, .int .i64 turn, .int .i64 by_, .slice A n c] 46)) (.cells #[.int .u8 0, .int .i64 0, .int .i64 0, .int .u8 0, .int .i64 0] 29) (w.heap.size + 1) (by simp)
  have B0 := (boxed w (.cells #[.bool torus, .bool packed, .int .i64 W, .int .i64 H, .int .i64 turn, .int .i64 by_, .slice A n c] 46)).alloc (by simp) (.cells #[.int .u8 0, .int .i64 0, .int .i64 0, .int .u8 0, .int .i64 0] 29)
  have C1 := Lib.hid (fun w => up_calls W 6 w (by omega) (by omega) bW.1 bW.2)
  have C2 := Lib.hid (fun w => up_calls H 6 w (by omega) (by omega) bH.1 bH.2)
  have eW := gdS_eq W; have eH := gdS_eq H
  obtain ⟨w1, w2, w3⟩ := gdS_bd W
  obtain ⟨h1, h2, h3⟩ := gdS_bd H
  have m0 := Int.emod_nonneg W (show (6 : Int) ≠ 0 by omega); have m1 := Int.emod_lt_of_pos W (show (0 : Int) < 6 by omega)
  have m2 := Int.emod_nonneg H (show (6 : Int) ≠ 0 by omega); have m3 := Int.emod_lt_of_pos H (show (0 : Int) < 6 by omega)
  go_enter Try.func18, Try.ntmps18
  go_wp2_with (first | fail)
  generalize (w.alloc (.cells #[.bool torus, .bool packed, .int .i64 W, .int .i64 H, .int .i64 turn, .int .i64 by_, .slice A n c] 46)).alloc (.cells #[.int .u8 0, .int .i64 0, .int .i64 0, .int .u8 0, .int .i64 0] 29) = W0 at *
  have k0 := bk_cell K0
  apply share
  · intro rest
    go_region_held3 (fun w' => w'.cell? ⟨w.heap.size, 2, none⟩ = some (.int .i64 W) ∧ w'.cell? ⟨w.heap.size, 3, none⟩ = some (.int .i64 H))
      (first | go_keep)
      (first | (go_at_call 19; ((with_reducible refine (C1.out _).mono ?_); rintro e w' ⟨rfl, rfl⟩)) | (go_at_call 19; ((with_reducible refine (C2.out _).mono ?_); rintro e w' ⟨rfl, rfl⟩)))
    all_goals exact rest
  have eW2 : IntKind.i64.wrap (2 + IntKind.i64.wrap (2 * (W % 6))) = (gdS W : Int) := by rw [IntKind.wrap_i64, IntKind.wrap_i64]; omega
  have eH2 : IntKind.i64.wrap (2 + IntKind.i64.wrap (2 * (H % 6))) = (gdS H : Int) := by rw [IntKind.wrap_i64, IntKind.wrap_i64]; omega
  rw [eW2, eH2]
  have KT := bk_drew (bk_new W0 (.cells #[.int .u8 1, .int .i64 (gdS W), .int .i64 (gdS H), .int .u8 0, .int .i64 0] 29))
  have KG := bk_drew (bk_alloc K0 (.cells #[.int .u8 1, .int .i64 (gdS W), .int .i64 (gdS H), .int .u8 0, .int .i64 0] 29))
  have KR := bk_drew (bk_alloc K1 (.cells #[.int .u8 1, .int .i64 (gdS W), .int .i64 (gdS H), .int .u8 0, .int .i64 0] 29))
  have B1 := (B0.alloc B0.size (.cells #[.int .u8 1, .int .i64 (gdS W), .int .i64 (gdS H), .int .u8 0, .int .i64 0] 29)).drew
  have hlt := bk_lt K1
  generalize (W0.alloc (.cells #[.int .u8 1, .int .i64 (gdS W), .int .i64 (gdS H), .int .u8 0, .int .i64 0] 29)).drew = W1 at *
  generalize W0.heap.size = tb at *
  clear k0 K0 K1 B0 C1 C2 eW2 eH2 m0 m1 m2 m3 eW eH
  have hcT := bk_cell KT; have hcG := bk_cell KG
  have hfT := bk_free KT
  cases torus
  · have eqK : gdK false = 1 := rfl
    have eqT : gdT false (gdS W) (gdS H) turn by_ = 0 := rfl
    have eqB : gdB false (gdS W) (gdS H) turn by_ = 0 := rfl
    go_wp2_with (first | fail)
    have KT3 := bk_alloc KT (.cells #[.int .i64 (gdS W), .int .i64 (gdS H), .int .i64 2, .bool packed, .slice A n c] 59)
    have KR3 := bk_alloc KR (.cells #[.int .i64 (gdS W), .int .i64 (gdS H), .int .i64 2, .bool packed, .slice A n c] 59)
    have B3 := B1.alloc B1.size (.cells #[.int .i64 (gdS W), .int .i64 (gdS H), .int .i64 2, .bool packed, .slice A n c] 59)
    clear hcT hcG hfT
    generalize (W1.alloc (.cells #[.int .i64 (gdS W), .int .i64 (gdS H), .int .i64 2, .bool packed, .slice A n c] 59)) = W3 at *
    refine (Kept_yes (gdS W) (gdS H) 2 packed A n c l W3 (by omega) (by omega) (by omega) (by omega) (by omega) (by omega) (fun _ => by omega) (Nat.le_trans (Nat.mul_le_mul w2 h2) (by omega)) hn hnb hA (hr.below B3) hbl).mono ?_
    rintro e w4 ⟨g, q, cb, S, rfl, hF4, hRF, hS4, hq4, hc4, hn1, hn2, hb4⟩
    have hcT4 := bk_cell (bk_below KT3 hb4)
    have KR4 := bk_below KR3 hb4
    have hcR4 := bk_cell KR4
    have hfR4 := bk_free KR4
    have B4 := next B3 hb4
    have hS5 : ∀ b, S b → w.heap.size + 1 < b := fun b hb => by have := hS4 b hb; have := bk_lt KR3; omega
    have HF4 := Lib.hid hF4
    clear hF4 hRF
    go_wp2
    refine end_ctt (w.heap.size + 1) 29 rfl rfl rfl Try.underlying29 rfl ⟨_, bk_set (bk_set (bk_set (bk_set (bk_set KR4 0 _) 1 _) 2 _) 3 _) 4 _, by kernel_rfl, ?_⟩
    refine ⟨g, S, by simp only [gdTopo, eqK, eqT, eqB]; rfl, HF4.out.keep fun b hb => five_far (by have := hS5 b hb; omega), fun b hb => by have := hS5 b hb; omega, five_below B4 (by omega)⟩
  · have hand := and64g turn
    have eqK : gdK true = 2 := rfl
    have KT2 : (W1.setCell ⟨tb, 0, none⟩ (.int .u8 2)).heap[tb]? = some (.cells #[.int .u8 2, .int .i64 (gdS W), .int .i64 (gdS H), .int .u8 0, .int .i64 0] 29 (0, 0)) := bk_eq (bk_set KT 0 (.int .u8 2)) (by simp)
    have KG2 := bk_far (p := ⟨tb, 0, none⟩) KG (by show w.heap.size ≠ tb; omega) (.int .u8 2)
    have KR2 := bk_far (p := ⟨tb, 0, none⟩) KR (by show w.heap.size + 1 ≠ tb; omega) (.int .u8 2)
    have B2 := B1.setCell (p := ⟨tb, 0, none⟩) (by show w.heap.size ≤ tb; omega) (.int .u8 2)
    by_cases ht : turn % 2 = 1
    · rw [ht] at hand
      have eqB0 : gdB true (gdS W) (gdS H) turn by_ = 2 * (by_ % ((gdS H : Int) / 2)) := by unfold gdB; simp [ht]
      have eqT0 : gdT true (gdS W) (gdS H) turn by_ = if 0 < gdB true (gdS W) (gdS H) turn by_ then 2 else 0 := by unfold gdT; simp [ht]
      have CU := Lib.hid (fun w => up_calls by_ ((gdS H : Int) / 2) w (by omega) (by omega) bB.1 bB.2)
      have z0 := Int.emod_nonneg by_ (show (gdS H : Int) / 2 ≠ 0 by omega)
      have z1 := Int.emod_lt_of_pos by_ (show 0 < (gdS H : Int) / 2 by omega)
      rw [eqB0] at eqT0
      go_wp2_with (first | fail)
      refine (CU.out _).mono ?_
      rintro e w' ⟨rfl, rfl⟩
      clear KT KG KR B1 hcT hcG hfT CU
      generalize (W1.setCell ⟨tb, 0, none⟩ (.int .u8 2)) = W2 at *
      generalize by_ % ((gdS H : Int) / 2) = z at *
      have hcT := bk_cell KT2; have hcG := bk_cell KG2; have hfT := bk_free KT2
      by_cases hp : 0 < 2 * z
      · have eqT : gdT true (gdS W) (gdS H) turn by_ = 2 := by rw [eqT0, if_pos hp]
        have eqB := eqB0
        have KT5 : ((W2.setCell ⟨tb, 3, none⟩ (.int .u8 2)).setCell ⟨tb, 4, none⟩ (.int .i64 (2 * z))).heap[tb]? = some (.cells #[.int .u8 2, .int .i64 (gdS W), .int .i64 (gdS H), .int .u8 2, .int .i64 (2 * z)] 29 (0, 0)) := bk_eq (bk_set (bk_set KT2 3 _) 4 _) (by simp)
        have KR5 := bk_far (p := ⟨tb, 4, none⟩) (bk_far (p := ⟨tb, 3, none⟩) KR2 (by show w.heap.size + 1 ≠ tb; omega) (.int .u8 2)) (by show w.heap.size + 1 ≠ tb; omega) (.int .i64 (2 * z))
        have B5 := (B2.setCell (p := ⟨tb, 3, none⟩) (by show w.heap.size ≤ tb; omega) (.int .u8 2)).setCell (p := ⟨tb, 4, none⟩) (by show w.heap.size ≤ tb; omega) (.int .i64 (2 * z))
        go_wp2_with (first | fail)
        have KT3 := bk_alloc KT5 (.cells #[.int .i64 (gdS W), .int .i64 (gdS H), .int .i64 2, .bool packed, .slice A n c] 59)
        have KR3 := bk_alloc KR5 (.cells #[.int .i64 (gdS W), .int .i64 (gdS H), .int .i64 2, .bool packed, .slice A n c] 59)
        have B3 := B5.alloc B5.size (.cells #[.int .i64 (gdS W), .int .i64 (gdS H), .int .i64 2, .bool packed, .slice A n c] 59)
        clear hcT hcG hfT
        generalize (((W2.setCell ⟨tb, 3, none⟩ (.int .u8 2)).setCell ⟨tb, 4, none⟩ (.int .i64 (2 * z))).alloc (.cells #[.int .i64 (gdS W), .int .i64 (gdS H), .int .i64 2, .bool packed, .slice A n c] 59)) = W3 at *
        refine (Kept_yes (gdS W) (gdS H) 2 packed A n c l W3 (by omega) (by omega) (by omega) (by omega) (by omega) (by omega) (fun _ => by omega) (Nat.le_trans (Nat.mul_le_mul w2 h2) (by omega)) hn hnb hA (hr.below B3) hbl).mono ?_
        rintro e w4 ⟨g, q, cb, S, rfl, hF4, hRF, hS4, hq4, hc4, hn1, hn2, hb4⟩
        have hcT4 := bk_cell (bk_below KT3 hb4)
        have KR4 := bk_below KR3 hb4
        have hcR4 := bk_cell KR4
        have hfR4 := bk_free KR4
        have B4 := next B3 hb4
        have hS5 : ∀ b, S b → w.heap.size + 1 < b := fun b hb => by have := hS4 b hb; have := bk_lt KR3; omega
        have HF4 := Lib.hid hF4
        clear hF4 hRF
        go_wp2
        refine end_ctt (w.heap.size + 1) 29 rfl rfl rfl Try.underlying29 rfl ⟨_, bk_set (bk_set (bk_set (bk_set (bk_set KR4 0 _) 1 _) 2 _) 3 _) 4 _, by kernel_rfl, ?_⟩
        refine ⟨g, S, by simp only [gdTopo, eqK, eqT, eqB]; rfl, HF4.out.keep fun b hb => five_far (by have := hS5 b hb; omega), fun b hb => by have := hS5 b hb; omega, five_below B4 (by omega)⟩
      · have eqT : gdT true (gdS W) (gdS H) turn by_ = 0 := by rw [eqT0, if_neg hp]
        obtain rfl : z = 0 := by omega
        have eqB : gdB true (gdS W) (gdS H) turn by_ = 0 := eqB0
        go_wp2_with (first | fail)
        have KT3 := bk_alloc KT2 (.cells #[.int .i64 (gdS W), .int .i64 (gdS H), .int .i64 2, .bool packed, .slice A n c] 59)
        have KR3 := bk_alloc KR2 (.cells #[.int .i64 (gdS W), .int .i64 (gdS H), .int .i64 2, .bool packed, .slice A n c] 59)
        have B3 := B2.alloc B2.size (.cells #[.int .i64 (gdS W), .int .i64 (gdS H), .int .i64 2, .bool packed, .slice A n c] 59)
        clear hcT hcG hfT
        generalize (W2.alloc (.cells #[.int .i64 (gdS W), .int .i64 (gdS H), .int .i64 2, .bool packed, .slice A n c] 59)) = W3 at *
        refine (Kept_yes (gdS W) (gdS H) 2 packed A n c l W3 (by omega) (by omega) (by omega) (by omega) (by omega) (by omega) (fun _ => by omega) (Nat.le_trans (Nat.mul_le_mul w2 h2) (by omega)) hn hnb hA (hr.below B3) hbl).mono ?_
        rintro e w4 ⟨g, q, cb, S, rfl, hF4, hRF, hS4, hq4, hc4, hn1, hn2, hb4⟩
        have hcT4 := bk_cell (bk_below KT3 hb4)
        have KR4 := bk_below KR3 hb4
        have hcR4 := bk_cell KR4
        have hfR4 := bk_free KR4
        have B4 := next B3 hb4
        have hS5 : ∀ b, S b → w.heap.size + 1 < b := fun b hb => by have := hS4 b hb; have := bk_lt KR3; omega
        have HF4 := Lib.hid hF4
        clear hF4 hRF
        go_wp2
        refine end_ctt (w.heap.size + 1) 29 rfl rfl rfl Try.underlying29 rfl ⟨_, bk_set (bk_set (bk_set (bk_set (bk_set KR4 0 _) 1 _) 2 _) 3 _) 4 _, by kernel_rfl, ?_⟩
        refine ⟨g, S, by simp only [gdTopo, eqK, eqT, eqB]; rfl, HF4.out.keep fun b hb => five_far (by have := hS5 b hb; omega), fun b hb => by have := hS5 b hb; omega, five_below B4 (by omega)⟩
    · rw [show turn % 2 = 0 by omega] at hand
      have eqB0 : gdB true (gdS W) (gdS H) turn by_ = 2 * (by_ % ((gdS W : Int) / 2)) := by unfold gdB; simp [ht]
      have eqT0 : gdT true (gdS W) (gdS H) turn by_ = if 0 < gdB true (gdS W) (gdS H) turn by_ then 1 else 0 := by unfold gdT; simp [ht]
      have CU := Lib.hid (fun w => up_calls by_ ((gdS W : Int) / 2) w (by omega) (by omega) bB.1 bB.2)
      have z0 := Int.emod_nonneg by_ (show (gdS W : Int) / 2 ≠ 0 by omega)
      have z1 := Int.emod_lt_of_pos by_ (show 0 < (gdS W : Int) / 2 by omega)
      rw [eqB0] at eqT0
      go_wp2_with (first | fail)
      refine (CU.out _).mono ?_
      rintro e w' ⟨rfl, rfl⟩
      clear KT KG KR B1 hcT hcG hfT CU
      generalize (W1.setCell ⟨tb, 0, none⟩ (.int .u8 2)) = W2 at *
      generalize by_ % ((gdS W : Int) / 2) = z at *
      have hcT := bk_cell KT2; have hcG := bk_cell KG2; have hfT := bk_free KT2
      by_cases hp : 0 < 2 * z
      · have eqT : gdT true (gdS W) (gdS H) turn by_ = 1 := by rw [eqT0, if_pos hp]
        have eqB := eqB0
        have KT5 : ((W2.setCell ⟨tb, 3, none⟩ (.int .u8 1)).setCell ⟨tb, 4, none⟩ (.int .i64 (2 * z))).heap[tb]? = some (.cells #[.int .u8 2, .int .i64 (gdS W), .int .i64 (gdS H), .int .u8 1, .int .i64 (2 * z)] 29 (0, 0)) := bk_eq (bk_set (bk_set KT2 3 _) 4 _) (by simp)
        have KR5 := bk_far (p := ⟨tb, 4, none⟩) (bk_far (p := ⟨tb, 3, none⟩) KR2 (by show w.heap.size + 1 ≠ tb; omega) (.int .u8 1)) (by show w.heap.size + 1 ≠ tb; omega) (.int .i64 (2 * z))
        have B5 := (B2.setCell (p := ⟨tb, 3, none⟩) (by show w.heap.size ≤ tb; omega) (.int .u8 1)).setCell (p := ⟨tb, 4, none⟩) (by show w.heap.size ≤ tb; omega) (.int .i64 (2 * z))
        go_wp2_with (first | fail)
        have KT3 := bk_alloc KT5 (.cells #[.int .i64 (gdS W), .int .i64 (gdS H), .int .i64 2, .bool packed, .slice A n c] 59)
        have KR3 := bk_alloc KR5 (.cells #[.int .i64 (gdS W), .int .i64 (gdS H), .int .i64 2, .bool packed, .slice A n c] 59)
        have B3 := B5.alloc B5.size (.cells #[.int .i64 (gdS W), .int .i64 (gdS H), .int .i64 2, .bool packed, .slice A n c] 59)
        clear hcT hcG hfT
        generalize (((W2.setCell ⟨tb, 3, none⟩ (.int .u8 1)).setCell ⟨tb, 4, none⟩ (.int .i64 (2 * z))).alloc (.cells #[.int .i64 (gdS W), .int .i64 (gdS H), .int .i64 2, .bool packed, .slice A n c] 59)) = W3 at *
        refine (Kept_yes (gdS W) (gdS H) 2 packed A n c l W3 (by omega) (by omega) (by omega) (by omega) (by omega) (by omega) (fun _ => by omega) (Nat.le_trans (Nat.mul_le_mul w2 h2) (by omega)) hn hnb hA (hr.below B3) hbl).mono ?_
        rintro e w4 ⟨g, q, cb, S, rfl, hF4, hRF, hS4, hq4, hc4, hn1, hn2, hb4⟩
        have hcT4 := bk_cell (bk_below KT3 hb4)
        have KR4 := bk_below KR3 hb4
        have hcR4 := bk_cell KR4
        have hfR4 := bk_free KR4
        have B4 := next B3 hb4
        have hS5 : ∀ b, S b → w.heap.size + 1 < b := fun b hb => by have := hS4 b hb; have := bk_lt KR3; omega
        have HF4 := Lib.hid hF4
        clear hF4 hRF
        go_wp2
        refine end_ctt (w.heap.size + 1) 29 rfl rfl rfl Try.underlying29 rfl ⟨_, bk_set (bk_set (bk_set (bk_set (bk_set KR4 0 _) 1 _) 2 _) 3 _) 4 _, by kernel_rfl, ?_⟩
        refine ⟨g, S, by simp only [gdTopo, eqK, eqT, eqB]; rfl, HF4.out.keep fun b hb => five_far (by have := hS5 b hb; omega), fun b hb => by have := hS5 b hb; omega, five_below B4 (by omega)⟩
      · have eqT : gdT true (gdS W) (gdS H) turn by_ = 0 := by rw [eqT0, if_neg hp]
        obtain rfl : z = 0 := by omega
        have eqB : gdB true (gdS W) (gdS H) turn by_ = 0 := eqB0
        go_wp2_with (first | fail)
        have KT3 := bk_alloc KT2 (.cells #[.int .i64 (gdS W), .int .i64 (gdS H), .int .i64 2, .bool packed, .slice A n c] 59)
        have KR3 := bk_alloc KR2 (.cells #[.int .i64 (gdS W), .int .i64 (gdS H), .int .i64 2, .bool packed, .slice A n c] 59)
        have B3 := B2.alloc B2.size (.cells #[.int .i64 (gdS W), .int .i64 (gdS H), .int .i64 2, .bool packed, .slice A n c] 59)
        clear hcT hcG hfT
        generalize (W2.alloc (.cells #[.int .i64 (gdS W), .int .i64 (gdS H), .int .i64 2, .bool packed, .slice A n c] 59)) = W3 at *
        refine (Kept_yes (gdS W) (gdS H) 2 packed A n c l W3 (by omega) (by omega) (by omega) (by omega) (by omega) (by omega) (fun _ => by omega) (Nat.le_trans (Nat.mul_le_mul w2 h2) (by omega)) hn hnb hA (hr.below B3) hbl).mono ?_
        rintro e w4 ⟨g, q, cb, S, rfl, hF4, hRF, hS4, hq4, hc4, hn1, hn2, hb4⟩
        have hcT4 := bk_cell (bk_below KT3 hb4)
        have KR4 := bk_below KR3 hb4
        have hcR4 := bk_cell KR4
        have hfR4 := bk_free KR4
        have B4 := next B3 hb4
        have hS5 : ∀ b, S b → w.heap.size + 1 < b := fun b hb => by have := hS4 b hb; have := bk_lt KR3; omega
        have HF4 := Lib.hid hF4
        clear hF4 hRF
        go_wp2
        refine end_ctt (w.heap.size + 1) 29 rfl rfl rfl Try.underlying29 rfl ⟨_, bk_set (bk_set (bk_set (bk_set (bk_set KR4 0 _) 1 _) 2 _) 3 _) 4 _, by kernel_rfl, ?_⟩
        refine ⟨g, S, by simp only [gdTopo, eqK, eqT, eqB]; rfl, HF4.out.keep fun b hb => five_far (by have := hS5 b hb; omega), fun b hb => by have := hS5 b hb; omega, five_below B4 (by omega)⟩
end Go.Proofs.Ytdpcmpfhjhbicaa
