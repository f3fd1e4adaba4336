/- ring: the neighbours of each cell of a frame (beside). -/
import Derived.Test.YtkldffpdlkmncaaRgE
import Derived.BigQuiet
import Derived.Deep.QuietTactic
set_option linter.unusedVariables false
set_option linter.unusedSimpArgs false
namespace Go.Proofs.Ytkldffpdlkmncaa
open Go.RowKit Go.Viv

theorem bd_drewN (w : World) (n : Nat) : Below w.heap.size w (w.drewN n) := ⟨rfl, rfl, rfl, Nat.le_refl _, fun _ _ => rfl⟩
theorem arE_in {W H k x y : Int} {n : Nat} (h1 : 1 ≤ W ∧ W ≤ 9) (h2 : 1 ≤ H ∧ H ≤ 9) (hn : (n : Int) = (W + 2) * (H + 2)) (hk : hdE k = 0) (hx : 0 ≤ x ∧ x < W) (hy : 0 ≤ y ∧ y < H) : arE W H n k x y = 0 := by
  have hm : W * H ≤ 9 * 9 := Int.mul_le_mul h1.2 h2.2 (by omega) (by omega)
  have e : rgChE W H n = 0 := by unfold rgChE; rw [if_neg (by rw [hn]; omega)]
  unfold arE
  rw [if_neg (by rw [e]; simp), if_neg (by rw [hk]; simp), if_neg (by omega)]

set_option maxRecDepth 20000 in
set_option maxHeartbeats 8000000 in
theorem beside_calls {W H n c BA off : Nat} {k : Int} {cells : List Int} {w : World} (hW : 1 ≤ W ∧ W ≤ 9) (hH : 1 ≤ H ∧ H ≤ 9) (hn : n = (W + 2) * (H + 2)) (hk : hdE k = 0) (hr : Rd w (some ⟨BA, off, none⟩) (cells.map (.int .u8))) (hl : cells.length = n) :
    Calls Try.prog 25 #[.agg #[.int .i64 W, .int .i64 H, .slice (some ⟨BA, off, none⟩) n c], .int .u8 k] w (Ret (.bool true) w) := by
  have hnI : (n : Int) = ((W : Int) + 2) * ((H : Int) + 2) := by rw [hn]; simp [Int.natCast_mul]
  have hn121 : n ≤ 121 := by rw [hn]; exact Nat.mul_le_mul (show W + 2 ≤ 11 by omega) (show H + 2 ≤ 11 by omega)
  have HA : Hid (∀ (x y : Nat) w', x < W → y < H → Rd w' (some ⟨BA, off, none⟩) (cells.map (.int .u8)) → Calls Try.prog 16 #[.agg #[.int .i64 W, .int .i64 H, .slice (some ⟨BA, off, none⟩) n c], .int .u8 k, .int .i64 x, .int .i64 y] w' (AroundP cells W k x y w')) := fun x y w' hx hy h => rgAround_yes (arE_in (by omega) (by omega) hnI hk (by omega) (by omega)) h hl
  have CY := Lib.hid (fun w => hdOff_yes hk w)
  have HIX : Hid (∀ p, p ∈ hdL k 8 → ∀ x y : Nat, x < W → y < H → 0 ≤ arI W x y p ∧ arI W x y p < (n : Int)) := fun p hp x y hx hy => by rw [hnI]; exact arI_bd (hdL_bd hp) (by omega) (by omega) (by omega) (by omega)
  have HBD : Hid (∀ p, p ∈ hdL k 8 → (-1 ≤ p.1 ∧ p.1 ≤ 1) ∧ (-1 ≤ p.2 ∧ p.2 ≤ 1)) := fun p hp => hdL_bd hp
  have hpos := hdL_pos hk
  have h8 := hdL_le k 8
  have KF := Lib.hid (bk_new w (.cells #[.int .i64 W, .int .i64 H, .slice (some ⟨BA, off, none⟩) n c] 34))
  have HB := Lib.hid (boxed w (.cells #[.int .i64 W, .int .i64 H, .slice (some ⟨BA, off, none⟩) n c] 34))
  have HRw := Lib.hid hr; have HL := Lib.hid hl
  obtain ⟨L, hL⟩ : ∃ L, hdL k 8 = L := ⟨_, rfl⟩
  rw [hL] at HIX HBD hpos h8
  have HLL := Lib.hid hL
  clear hr hl hk hn hnI hL
  go_enter Try.func25, Try.ntmps25
  go_wp2_with (first | (go_at_call 48; ((with_reducible refine (CY.out _).mono ?_); rintro e w2 ⟨v, rfl, hown, hb2⟩; have KF2 := Lib.hid (bk_below KF.out hb2); have HB2 := Lib.hid (next HB.out hb2); rw [HLL.out] at hown; obtain ⟨g, cap, rfl, hP⟩ := own_pos hown hpos)))
  have HP2 := Lib.hid hP
  clear hown hP hb2 KF HB
  go_loopw [7] (fun vy wr => ∃ y : Nat, vy = .int .i64 (y : Int) ∧ y ≤ H ∧ Hid (wr.heap[w.heap.size]? = some (.cells #[.int .i64 W, .int .i64 H, .slice (some ⟨BA, off, none⟩) n c] 34 (0, 0))) ∧ Hid (PtAt g L wr) ∧ Hid (Below w.heap.size w wr)) (fun vy _ => H - (intOf vy).toNat)
  case atStart => exact ⟨0, rfl, by omega, KF2, HP2, HB2⟩
  clear KF2 HP2 HB2
  obtain ⟨y, rfl, hy, KF, HP, HB⟩ := hrel
  refine wp_hideQ fun Q1 hQ1 => ?_
  have kf := bk_cell KF.out
  by_cases hyl : y < H
  · have hyi : (y : Int) < (H : Int) := by omega
    go_wp2_with (first | fail)
    go_loopw [8] (fun vx wr => ∃ x : Nat, vx = .int .i64 (x : Int) ∧ x ≤ W ∧ Hid (wr.heap[w.heap.size]? = some (.cells #[.int .i64 W, .int .i64 H, .slice (some ⟨BA, off, none⟩) n c] 34 (0, 0))) ∧ Hid (PtAt g L wr) ∧ Hid (Below w.heap.size w wr)) (fun vx _ => W - (intOf vx).toNat)
    case atStart => exact ⟨0, rfl, by omega, KF, HP, HB⟩
    clear KF HP HB kf
    obtain ⟨x, rfl, hx, KF, HP, HB⟩ := hrel
    refine wp_hideQ fun Q2 hQ2 => ?_
    have kf := bk_cell KF.out
    by_cases hxl : x < W
    · have hxi : (x : Int) < (W : Int) := by omega
      go_wp2_with (first | fail)
      refine (HA.out x y _ hxl hyl (HRw.out.below HB.out)).mono ?_
      rintro e w3 ⟨v, rfl, hown, hb3⟩
      rw [HLL.out] at hown
      have KF3 := Lib.hid (bk_below KF.out hb3)
      have HP3 := Lib.hid (HP.out.below hb3)
      have HB3 := Lib.hid (next HB.out hb3)
      obtain ⟨As, cs, rfl⟩ := own_slice hown
      have hsr := Rd.of_own hown
      obtain ⟨bs, os, rfl⟩ := ar_some hsr (by rw [List.length_map]; show 0 < (arL cells W x y k).length; unfold arL; rw [List.length_map, HLL.out]; exact hpos)
      have HSR := Lib.hid hsr
      clear hown hsr hb3 KF HP HB kf
      go_wp2_with (first | fail)
      go_loopw [11] (fun vi wr => ∃ i : Nat, vi = .int .i64 (i : Int) ∧ i ≤ L.length ∧ Hid (wr.heap[w.heap.size]? = some (.cells #[.int .i64 W, .int .i64 H, .slice (some ⟨BA, off, none⟩) n c] 34 (0, 0))) ∧ Hid (PtAt g L wr) ∧ Hid (Rd wr (some ⟨bs, os, none⟩) ((arL cells W x y k).map (.int .u8))) ∧ Hid (Below w.heap.size w wr)) (fun vi _ => L.length - (intOf vi).toNat)
      case atStart => exact ⟨0, rfl, by omega, KF3, HP3, HSR, HB3⟩
      clear KF3 HP3 HSR HB3
      obtain ⟨i, rfl, hi, KF, HP, HS, HB⟩ := hrel
      refine wp_hideQ fun Q3 hQ3 => ?_
      by_cases hil : i < L.length
      · have hii : (i : Int) < (L.length : Int) := by omega
        obtain ⟨⟨a, b⟩, hp⟩ : ∃ p, L[i]? = some p := ⟨_, List.getElem?_eq_getElem hil⟩
        have hmem : (a, b) ∈ L := List.mem_of_getElem? hp
        obtain ⟨⟨ba1, ba2⟩, bb1, bb2⟩ := HBD.out _ hmem
        simp only at ba1 ba2 bb1 bb2
        have hix := HIX.out _ hmem x y hxl hyl
        obtain ⟨p1, p2⟩ := ptsV_at hp
        have kx := HP.out.rd.at_ _ _ p1
        have ky := HP.out.rd.at_ _ _ p2
        simp only [Nat.zero_add] at kx ky
        obtain ⟨q, hq⟩ : ∃ q : Nat, arI W x y (a, b) = (q : Int) := Int.eq_ofNat_of_zero_le hix.1
        obtain ⟨z, hz⟩ : ∃ z, cells.getD q 0 = z := ⟨_, rfl⟩
        have hqn : q < n := by omega
        have hsv : ((arL cells W x y k).map (Value.int .u8))[i]? = some (.int .u8 z) := by
          unfold arL
          rw [HLL.out, List.getElem?_map, List.getElem?_map, hp]
          simp only [Option.map_some]
          rw [hq, Int.toNat_natCast, hz]
        have hcv : (cells.map (Value.int .u8))[q]? = some (.int .u8 z) := by
          rw [List.getElem?_map, List.getElem?_eq_getElem (by rw [HL.out]; exact hqn)]
          rw [← hz]
          simp [List.getD, HL.out, hqn]
        have ks := HS.out.at_ i _ hsv
        have kc := (HRw.out.below HB.out).at_ q _ hcv
        obtain ⟨q1, hq1⟩ : ∃ q, (y : Int) + b = q := ⟨_, rfl⟩
        obtain ⟨q2, hq2⟩ : ∃ q, q1 + 1 = q := ⟨_, rfl⟩
        obtain ⟨W2, hW2⟩ : ∃ q, (W : Int) + 2 = q := ⟨_, rfl⟩
        obtain ⟨q3, hq3⟩ : ∃ q, q2 * W2 = q := ⟨_, rfl⟩
        obtain ⟨q4, hq4⟩ : ∃ q, q3 + (x : Int) = q := ⟨_, rfl⟩
        obtain ⟨q5, hq5⟩ : ∃ q, q4 + a = q := ⟨_, rfl⟩
        have hi2 : q5 + 1 = (q : Int) := by rw [← hq, ← hq5, ← hq4, ← hq3, ← hq2, ← hq1, ← hW2]; rfl
        have hv1 := ar_wrap hq1 (by omega) (by omega)
        have hv2 := ar_wrap hq2 (by omega) (by omega)
        have hvW := ar_wrap hW2 (by omega) (by omega)
        have hv3 := ar_wrap hq3 (by omega) (by omega)
        have hv4 := ar_wrap hq4 (by omega) (by omega)
        have hv5 := ar_wrap hq5 (by omega) (by omega)
        have hv6 := ar_wrap hi2 (by omega) (by omega)
        have kf := bk_cell KF.out
        clear hp hmem hix p1 p2 hq hz hsv hcv hq1 hq2 hW2 hq3 hq4 hq5 hi2
        go_wp2_with (first | fail)
        go_quiet (fail)
        have KF4 := Lib.hid (bk_drewN KF.out nq)
        have HP4 := Lib.hid (HP.out.below (bd_drewN wr nq))
        have HS4 := Lib.hid (HS.out.drewN nq)
        have HB4 := Lib.hid (next HB.out (bd_drewN wr nq))
        clear KF HP HS HB kx ky ks kc kf
        generalize wr.drewN nq = W5 at *
        go_wp2_with (first | fail)
        refine hQ3.out _ _ _ ?_
        refine And.intro ?_ ?measure
        (repeat apply Exists.intro)
        refine ⟨?rel, rfl⟩
        case rel => exact ⟨i + 1, by first | rfl | go_num, by omega, KF4, HP4, HS4, HB4⟩
        case measure => simp [intOf]; omega
      · obtain rfl : i = L.length := by omega
        go_wp2_with (first | fail)
        refine hQ3.out _ _ _ ?_
        simp only [Exit.then, Exit.inBlock]
        go_wp2_with (first | fail)
        refine hQ2.out _ _ _ ?_
        refine And.intro ?_ ?measure
        (repeat apply Exists.intro)
        refine ⟨?rel, rfl⟩
        case rel => exact ⟨x + 1, by first | rfl | go_num, by omega, KF, HP, HB⟩
        case measure => simp [intOf]; omega
    · obtain rfl : x = W := by omega
      go_wp2_with (first | fail)
      refine hQ2.out _ _ _ ?_
      simp only [Exit.then, Exit.inBlock]
      go_wp2_with (first | fail)
      refine hQ1.out _ _ _ ?_
      refine And.intro ?_ ?measure
      (repeat apply Exists.intro)
      refine ⟨?rel, rfl⟩
      case rel => exact ⟨y + 1, by first | rfl | go_num, by omega, KF, HP, HB⟩
      case measure => simp [intOf]; omega
  · obtain rfl : y = H := by omega
    go_wp2_with (first | fail)
    refine hQ1.out _ _ _ ?_
    simp only [Exit.then, Exit.inBlock]
    go_wp2_with (first | fail)
    go_ret
    exact Ret.of rfl HB.out
end Go.Proofs.Ytkldffpdlkmncaa
