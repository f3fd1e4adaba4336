/- ring: Around, where there is an answer. -/
import Derived.Test.YtkldffpdlkmncaaRgD
set_option linter.unusedVariables false
set_option linter.unusedSimpArgs false
namespace Go.Proofs.Ytkldffpdlkmncaa
open Go.RowKit Go.Viv

theorem ar_some {w : World} {A : Option Addr} {xs : List Value} (h : Rd w A xs) (hp : 0 < xs.length) : ∃ b off, A = some ⟨b, off, none⟩ := by
  cases A with
  | none => have := h.1 rfl; subst this; simp at hp
  | some ad =>
    obtain ⟨b, off, spot⟩ := ad
    have h0 := h.2 _ rfl 0 (xs[0]) (List.getElem?_eq_getElem hp)
    have hs : spot = none := by simpa [Addr.add] using World.cell?_spot h0
    subst hs
    exact ⟨b, off, rfl⟩
/-- points that lie at the head of a block -/
structure PtAt (g : Nat) (L : List (Int × Int)) (w : World) : Prop where
  ex : ∃ cur, w.heap[g]? = some (.cells cur 56 (0, 0)) ∧ ∀ (j : Nat) u, (ptsV L)[j]? = some u → cur[j]? = some u
theorem PtAt.rd {g : Nat} {L : List (Int × Int)} {w : World} (h : PtAt g L w) : Rd w (some ⟨g, 0, none⟩) (ptsV L) := let ⟨_, a, b⟩ := h.ex; Rd.of_block a b
theorem PtAt.below {g : Nat} {L : List (Int × Int)} {w w' : World} (h : PtAt g L w) (hb : Below w.heap.size w w') : PtAt g L w' := let ⟨c, a, b⟩ := h.ex; ⟨c, bk_below a hb, b⟩
theorem PtAt.grown {g : Nat} {L : List (Int × Int)} {w w' : World} {base size n : Nat} {e : TypeId} {v : Value} {xs : List Value} (h : PtAt g L w) (ho : w.ownsRow base e size v n xs) (hne : e ≠ 56) (hg : w.grownBy w' v.ownBlock) : PtAt g L w' := let ⟨c, a, b⟩ := h.ex; ⟨c, (hg.block g (bk_lt a) (own_ne ho a hne)).trans a, b⟩
theorem own_pos {w : World} {base n : Nat} {v : Value} {L : List (Int × Int)} (h : w.ownsRow base 56 2 v n (ptsV L)) (hp : 0 < n) : ∃ g cap, v = .slice (some ⟨g, 0, none⟩) n cap ∧ PtAt g L w := by
  rcases h.2 with ⟨_, h0⟩ | ⟨g, cap, cur, rfl, _, hg, _, _, _, ht⟩
  · omega
  · refine ⟨g, cap, rfl, cur, hg, fun j u hu => ?_⟩
    rw [← ht] at hu
    have h1 := (List.getElem?_eq_some_iff.1 hu).1
    simp at h1
    rw [List.getElem?_take_of_lt (by omega)] at hu
    simpa using hu
theorem Rd.below' {w w' : World} {A : Option Addr} {xs : List Value} (h : Rd w A xs) (hb : Below w.heap.size w w') : Rd w' A xs := h.below hb
theorem ar_wrap {a b : Int} (h : a = b) (h1 : -4611686018427387904 ≤ b) (h2 : b ≤ 4611686018427387904) : IntKind.i64.wrap a = b := by rw [h, IntKind.wrap_i64]; omega
theorem arE_ok {W H k x y : Int} {n : Nat} (h : arE W H n k x y = 0) : rgChE W H n = 0 ∧ hdE k = 0 ∧ (1 ≤ W ∧ W ≤ 65536 ∧ 1 ≤ H ∧ H ≤ 65536 ∧ (n : Int) = (W + 2) * (H + 2)) ∧ (0 ≤ x ∧ x < W ∧ 0 ≤ y ∧ y < H) := by
  unfold arE at h
  by_cases h1 : rgChE W H n = 0
  · rw [if_neg (by simp [h1])] at h
    by_cases h2 : hdE k = 0
    · rw [if_neg (by simp [h2])] at h
      by_cases h3 : x < 0 ∨ W ≤ x ∨ y < 0 ∨ H ≤ y
      · rw [if_pos h3] at h; cases h
      · refine ⟨h1, h2, ?_, by omega⟩
        unfold rgChE at h1
        by_cases h4 : W < 1 ∨ 65536 < W ∨ H < 1 ∨ 65536 < H ∨ 1048576 < W * H ∨ (n : Int) ≠ (W + 2) * (H + 2)
        · rw [if_pos h4] at h1; cases h1
        · generalize (W + 2) * (H + 2) = q at *
          generalize W * H = p at *
          omega
    · rw [if_pos h2] at h; cases h
  · rw [if_pos h1] at h; exact absurd h h1

set_option maxRecDepth 20000 in
set_option maxHeartbeats 4000000 in
theorem rgAround_yes {W H k x y : Int} {A : Option Addr} {n c : Nat} {cells : List Int} {w : World} (hE : arE W H n k x y = 0) (hc : Rd w A (cells.map (.int .u8))) (hl : cells.length = n) :
    Calls Try.prog 16 #[.agg #[.int .i64 W, .int .i64 H, .slice A n c], .int .u8 k, .int .i64 x, .int .i64 y] w (AroundP cells W k x y w) := by
  obtain ⟨h1, h2, ⟨a1, a2, a3, a4, a5⟩, ⟨x0, x1, y0, y1⟩⟩ := arE_ok hE
  have cc := fun w => rgCheck_calls W H A n c w
  rw [h1] at cc
  have cy := fun w => hdOff_yes h2 w
  have hpos := hdL_pos h2
  have m3 : 0 < (W + 2) * (H + 2) := Int.mul_pos (by omega) (by omega)
  have m4 : (W + 2) * (H + 2) ≤ 65538 * 65538 := Int.mul_le_mul (by omega) (by omega) (by omega) (by omega)
  obtain ⟨BA, off, rfl⟩ := ar_some hc (by rw [List.length_map]; omega)
  have hn0 : 0 < n := by omega
  have hnb : n ≤ 4295229444 := by omega
  have KF := bk_new w (.cells #[.int .i64 W, .int .i64 H, .slice (some ⟨BA, off, none⟩) n c] 34)
  have kf := bk_cell KF
  have hB := boxed w (.cells #[.int .i64 W, .int .i64 H, .slice (some ⟨BA, off, none⟩) n c] 34)
  have HKF := Lib.hid KF; have HB := Lib.hid hB; have CC := Lib.hid cc; have CY := Lib.hid cy; have HC := Lib.hid hc
  have d1 : decide (x < 0) = false := decide_eq_false (by omega)
  have d2 : decide (W ≤ x) = false := decide_eq_false (by omega)
  have d3 : decide (y < 0) = false := decide_eq_false (by omega)
  have d4 : decide (H ≤ y) = false := decide_eq_false (by omega)
  have HIX : Hid (∀ p, p ∈ hdL k 8 → 0 ≤ arI W x y p ∧ arI W x y p < (n : Int)) := fun p hp => by rw [a5]; exact arI_bd (hdL_bd hp) x0 x1 y0 y1
  have HLE := hdL_le k 8
  obtain ⟨L, hL⟩ : ∃ L, hdL k 8 = L := ⟨_, rfl⟩
  obtain ⟨R, hR⟩ : ∃ R : List Value, (arL cells W x y k).map (.int .u8) = R := ⟨_, rfl⟩
  have hRl : R.length = L.length := by rw [← hR, ← hL]; simp [arL]
  have HRJ : Hid (∀ (j : Nat) (p : Int × Int), L[j]? = some p → R[j]? = some (.int .u8 (cells.getD (arI W x y p).toNat 0))) := fun j p hp => by
    rw [← hR, ← hL] at *
    simp [arL, hp]
  have HBD : Hid (∀ p, p ∈ L → (-1 ≤ p.1 ∧ p.1 ≤ 1) ∧ (-1 ≤ p.2 ∧ p.2 ≤ 1)) := fun p hp => hdL_bd (by rw [hL]; exact hp)
  rw [hL] at HLE hpos HIX
  have HL := Lib.hid hL; have HR := Lib.hid hR; have HRL := Lib.hid hRl; have HNL := Lib.hid hl
  clear hc hE h1 h2 cc cy hL hR hRl hl KF hB m3 m4 a5
  have hmk := rd_make0 (P := Try.prog) Try.underlying32 u8info L.length (by omega) (by omega)
  simp only [Nat.mul_one] at hmk
  go_enter Try.func16, Try.ntmps16
  go_wp2_with (first
    | (go_at_call 15; ((with_reducible refine (CC.out _).mono ?_); rintro e w1 ⟨rfl, hb1⟩; have HK1 := Lib.hid (bk_below HKF.out hb1); have HB1 := Lib.hid (next HB.out hb1); have kf1 := bk_cell HK1.out))
    | (go_at_call 48; ((with_reducible refine (CY.out _).mono ?_); rintro e w2 ⟨v, rfl, hown, hb2⟩; have HK2 := Lib.hid (bk_below HK1.out hb2); have HB2 := Lib.hid (next HB1.out hb2); have kf2 := bk_cell HK2.out; rw [HL.out] at hown; obtain ⟨g, cap, rfl, hrd⟩ := own_pos hown hpos)))
  have HRD := Lib.hid hrd
  have HO0 : Hid (World.ownsRow (w2.alloc (.cells (madeCells #[.int .u8 0] L.length) 5)) w.heap.size 5 1 (.slice (some ⟨w2.heap.size, 0, none⟩) 0 L.length) 0 []) := (own_made0 w2 w.heap.size 5 (.int .u8 0) L.length HB2.out.size (by unfold maxLen; omega) (by simp [madeCells]))
  have HK3 := Lib.hid (bk_alloc HK2.out (.cells (madeCells #[.int .u8 0] L.length) 5))
  have HRD3 := Lib.hid (hrd.below (boxed w2 (.cells (madeCells #[.int .u8 0] L.length) 5)))
  have HB3 := Lib.hid (HB2.out.alloc HB2.out.size (.cells (madeCells #[.int .u8 0] L.length) 5))
  clear hown hrd hb1 hb2 kf kf1 kf2 HK1 HB1 HRD CC CY
  generalize (w2.alloc (.cells (madeCells #[.int .u8 0] L.length) 5)) = W0 at *
  clear hmk
  generalize w2.heap.size = B0 at *
  go_loopw [13, 51] (fun l vj wr => ∃ j : Nat, vj = .int .i64 (j : Int) ∧ j ≤ L.length ∧ Hid (wr.ownsRow w.heap.size 5 1 l j (R.take j)) ∧ Hid (wr.heap[w.heap.size]? = some (.cells #[.int .i64 W, .int .i64 H, .slice (some ⟨BA, off, none⟩) n c] 34 (0, 0))) ∧ Hid (PtAt g L wr) ∧ Hid (Below w.heap.size w wr)) (fun _ vj _ => L.length - (intOf vj).toNat)
  case atStart => exact ⟨0, rfl, by omega, HO0, HK3, HRD3, HB3⟩
  clear HO0 HK3 HRD3 HB3
  obtain ⟨j, rfl, hj, HO, HK, HP, HB⟩ := hrel
  refine wp_hideQ fun Q1 hQ1 => ?_
  by_cases hlt : j < L.length
  · have hji : (j : Int) < (L.length : Int) := by omega
    obtain ⟨⟨a, b⟩, hp⟩ : ∃ p, L[j]? = some p := ⟨_, List.getElem?_eq_getElem hlt⟩
    have hmem : (a, b) ∈ L := List.mem_of_getElem? hp
    have hbd := HBD.out _ hmem
    have hix := HIX.out _ hmem
    have hrj := HRJ.out j _ hp
    obtain ⟨p1, p2⟩ := ptsV_at hp
    have kx := HP.out.rd.at_ _ _ p1
    have ky := HP.out.rd.at_ _ _ p2
    simp only [Nat.zero_add] at kx ky
    obtain ⟨i, hi⟩ : ∃ i : Nat, arI W x y (a, b) = (i : Int) := Int.eq_ofNat_of_zero_le hix.1
    rw [hi] at hix hrj
    simp only [Int.toNat_natCast] at hrj
    obtain ⟨z, hz⟩ : ∃ z, cells.getD i 0 = z := ⟨_, rfl⟩
    rw [hz] at hrj
    have hin : i < n := by omega
    have hzc : (cells.map (Value.int .u8))[i]? = some (.int .u8 z) := by
      rw [List.getElem?_map, List.getElem?_eq_getElem (by rw [HNL.out]; exact hin)]
      have : cells.getD i 0 = cells[i]'(by rw [HNL.out]; exact hin) := by simp [List.getD, HNL.out, hin]
      rw [← hz, this]; rfl
    have HT : Hid (R.take (j + 1) = R.take j ++ [.int .u8 z]) := by show _ = _; rw [List.take_add_one, hrj]; rfl
    obtain ⟨q1, hq1⟩ : ∃ q, y + b = q := ⟨_, rfl⟩
    obtain ⟨q2, hq2⟩ : ∃ q, q1 + 1 = q := ⟨_, rfl⟩
    obtain ⟨W2, hW2⟩ : ∃ q, W + 2 = q := ⟨_, rfl⟩
    obtain ⟨q3, hq3⟩ : ∃ q, q2 * W2 = q := ⟨_, rfl⟩
    obtain ⟨q4, hq4⟩ : ∃ q, q3 + x = q := ⟨_, rfl⟩
    obtain ⟨q5, hq5⟩ : ∃ q, q4 + a = q := ⟨_, rfl⟩
    have hi2 : q5 + 1 = (i : Int) := by rw [← hi, ← hq5, ← hq4, ← hq3, ← hq2, ← hq1, ← hW2]; rfl
    obtain ⟨⟨ba1, ba2⟩, bb1, bb2⟩ := hbd
    simp only at ba1 ba2 bb1 bb2
    have hv1 := ar_wrap hq1 (by omega) (by omega)
    have hv2 := ar_wrap hq2 (by omega) (by omega)
    have hvW := ar_wrap hW2 (by omega) (by omega)
    have hv3 := ar_wrap hq3 (by omega) (by omega)
    have hv4 := ar_wrap hq4 (by omega) (by omega)
    have hv5 := ar_wrap hq5 (by omega) (by omega)
    have hv6 := ar_wrap hi2 (by omega) (by omega)
    clear hp hmem hix hrj p1 p2 hz hi hq1 hq2 hW2 hq3 hq4 hq5 hi2
    have HO2 := Lib.hid (own_below HO.out (boxed wr (.cells #[.int .i64 a, .int .i64 b] 56)))
    have HK2 := Lib.hid (bk_alloc HK.out (.cells #[.int .i64 a, .int .i64 b] 56))
    have HP2 := Lib.hid (HP.out.below (boxed wr (.cells #[.int .i64 a, .int .i64 b] 56)))
    have HB2 := Lib.hid (HB.out.alloc HB.out.size (.cells #[.int .i64 a, .int .i64 b] 56))
    have kp2 := bk_cell (bk_new wr (.cells #[.int .i64 a, .int .i64 b] 56))
    have kf2 := bk_cell HK2.out
    have kc2 := (HC.out.below' HB2.out).at_ i _ hzc
    have HO3 := Lib.hid (own_below HO2.out (boxed _ (.cells #[.int .u8 z] 5)))
    have HK3 := Lib.hid (bk_alloc HK2.out (.cells #[.int .u8 z] 5))
    have HP3 := Lib.hid (HP2.out.below (boxed _ (.cells #[.int .u8 z] 5)))
    have HB3 := Lib.hid (HB2.out.alloc HB2.out.size (.cells #[.int .u8 z] 5))
    have KN3 : Hid (((wr.alloc (.cells #[.int .i64 a, .int .i64 b] 56)).alloc (.cells #[.int .u8 z] 5)).heap[wr.heap.size + 1]? = some (.cells #[.int .u8 z] 5 (0, 0))) := bk_newn _ _ _ (by simp)
    have hs3 := HB3.out.size
    go_wp2_with (first | (at_builtin; (refine app_own rfl (.tmp 55) (.tmp 75) 32 rfl w.heap.size 5 _ 1 1 Try.underlying32 u8info rfl (by decide) (by decide) _ _ _ (by rfl) HO3.out (by omega) _ 5 #[.int .u8 z] (by rfl) KN3.out rfl (by intro z hz; simp at hz; subst hz; rfl) hs3 ?_); intro v' w3 hown3 hb3 hgr3))
    have HK4 := Lib.hid ((hgr3.block _ (bk_lt HK3.out) (own_ne HO3.out HK3.out (by decide))).trans HK3.out)
    have HP4 := Lib.hid (HP3.out.grown HO3.out (by decide) hgr3)
    have HB4 := Lib.hid (HB3.out.trans hb3)
    have HO4 := Lib.hid hown3
    clear hown3 hb3 hgr3
    refine hQ1.out _ _ _ ?_
    refine And.intro ?_ ?measure
    (repeat apply Exists.intro)
    refine ⟨?rel, rfl⟩
    case rel => exact ⟨j + 1, by first | rfl | go_num, by omega, by show World.ownsRow _ _ _ _ _ _ _; rw [HT.out]; exact HO4.out, HK4.out, HP4.out, HB4.out⟩
    case measure => simp [intOf]; omega
  · obtain rfl : j = L.length := by omega
    have HR2 : Hid (R.take L.length = R) := by show _ = _; rw [← HRL.out, List.take_length]
    go_wp2_with (first | fail)
    refine hQ1.out _ _ _ ?_
    simp only [Exit.then, Exit.inBlock]
    go_wp2_with (first | fail)
    go_ret2
    refine ⟨_, rfl, ?_, HB.out⟩
    rw [HL.out, HR.out, ← HR2.out]
    exact HO.out
end Go.Proofs.Ytkldffpdlkmncaa
