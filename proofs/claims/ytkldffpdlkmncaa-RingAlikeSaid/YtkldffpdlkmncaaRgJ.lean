/- ring: the document's Offsets, At, Around. -/
import Derived.Test.YtkldffpdlkmncaaRgG
import Derived.Deep.AppendLies
import Derived.Deep.RegionHeldLaw
set_option linter.unusedVariables false
set_option linter.unusedSimpArgs false
namespace Go.Proofs.Ytkldffpdlkmncaa
open Go.RowKit Go.Viv

/-- what the document's Offsets comes to -/
def ROffP (k : Int) (w : World) (e : Ending) (w' : World) : Prop :=
  ∃ g, e = .returned (.tuple #[.slice (some ⟨g, 0, none⟩) (hdL k 8).length (hdL k 8).length, .int .i64 0]) ∧ w.heap.size ≤ g ∧ PtAt g (hdL k 8) w' ∧ Below w.heap.size w w'
theorem rOff_no {k : Int} (hk : hdE k ≠ 0) (w : World) : Calls Try.prog 46 #[.int .u8 k] w (Ret (.tuple #[.slice none 0 0, .int .i64 (hdE k)]) w) := by
  have h3 : ¬ (k = 1 ∨ k = 2 ∨ k = 3) := fun h => hk (by unfold hdE; rw [if_pos h])
  have hE : Hid (hdE k = 70) := by show _ = _; unfold hdE; rw [if_neg h3]
  have n1 : ¬ k = 1 := by omega
  have n2 : ¬ k = 2 := by omega
  have n3 : ¬ k = 3 := by omega
  clear hk h3
  go_enter Try.func46, Try.ntmps46
  go_wp2
  go_ret2
  exact Ret.of (by rw [hE.out]; rfl) (Below.refl _ _)
set_option maxRecDepth 20000 in
theorem rOff_yes {k : Int} (hk : hdE k = 0) (w : World) : Calls Try.prog 46 #[.int .u8 k] w (ROffP k w) := by
  have h3 : k = 1 ∨ k = 2 ∨ k = 3 := by
    by_cases h : k = 1 ∨ k = 2 ∨ k = 3
    · exact h
    · unfold hdE at hk; rw [if_neg h] at hk; cases hk
  clear hk
  rcases h3 with rfl | rfl | rfl
  all_goals
    go_enter Try.func46, Try.ntmps46
    go_wp2
    go_ret2
    exact ⟨_, rfl, Nat.le_refl _, ⟨_, bk_new _ _, fun j u hu => by simpa [hdL, hdB, hdX, hdY, ptsV, List.range, List.range.loop] using hu⟩, boxed _ _⟩

set_option maxRecDepth 20000 in
theorem rAt_calls {W H x y : Int} {BA off n c i : Nat} {cells : List Int} {w : World} (hW : 0 ≤ W ∧ W ≤ 65536) (hx : -1 ≤ x ∧ x ≤ 65536) (hy : -1 ≤ y ∧ y ≤ 65536) (hi : (y + 1) * (W + 2) + x + 1 = (i : Int)) (hin : i < n) (hnb : n ≤ 4295229444) (hc : Rd w (some ⟨BA, off, none⟩) (cells.map (.int .u8))) (hl : cells.length = n) :
    Calls Try.prog 47 #[.agg #[.int .i64 W, .int .i64 H, .slice (some ⟨BA, off, none⟩) n c], .int .i64 x, .int .i64 y] w (Ret (.int .u8 (cells.getD i 0)) w) := by
  have KF := bk_new w (.cells #[.int .i64 W, .int .i64 H, .slice (some ⟨BA, off, none⟩) n c] 34)
  have kf := bk_cell KF
  have hB := Lib.hid (boxed w (.cells #[.int .i64 W, .int .i64 H, .slice (some ⟨BA, off, none⟩) n c] 34))
  have hzc : (cells.map (Value.int .u8))[i]? = some (.int .u8 (cells.getD i 0)) := by
    rw [List.getElem?_map, List.getElem?_eq_getElem (by rw [hl]; exact hin)]
    simp [List.getD, hl, hin]
  have kc := (hc.below hB.out).at_ i _ hzc
  obtain ⟨z, hz⟩ : ∃ z, cells.getD i 0 = z := ⟨_, rfl⟩
  rw [hz] at kc ⊢
  obtain ⟨q1, hq1⟩ : ∃ q, y + 1 = q := ⟨_, rfl⟩
  obtain ⟨W2, hW2⟩ : ∃ q, W + 2 = q := ⟨_, rfl⟩
  obtain ⟨q3, hq3⟩ : ∃ q, q1 * W2 = q := ⟨_, rfl⟩
  obtain ⟨q4, hq4⟩ : ∃ q, q3 + x = q := ⟨_, rfl⟩
  have hi2 : q4 + 1 = (i : Int) := by rw [← hi, ← hq4, ← hq3, ← hq1, ← hW2]
  have hv1 := ar_wrap hq1 (by omega) (by omega)
  have hvW := ar_wrap hW2 (by omega) (by omega)
  have hv3 := ar_wrap hq3 (by omega) (by omega)
  have hv4 := ar_wrap hq4 (by omega) (by omega)
  have hv6 := ar_wrap hi2 (by omega) (by omega)
  clear hi hq1 hW2 hq3 hq4 hi2 hz hzc hc hl KF
  go_enter Try.func47, Try.ntmps47
  go_wp2
  go_ret
  exact Ret.of rfl hB.out
theorem undrew {w w1 : World} (h : Below w.drew.heap.size w.drew w1) : Below w.heap.size w w1 := ⟨h.os, h.tape, h.output, h.size, h.block⟩
/-- append of one element, s of one's own, in a region that draws -/
theorem step_own1 {P : Program} {ops : Array Oper} {o : Oper} {a : Act} {w : World} {K : Act → World → Prop} {Q : Exit → Act → World → Prop} {E : Prop} (hgd : o.guard = none) (s x : Operand) (t : TypeId)
    (ho : o.op = .call { callee := .builtin .append, args := #[s, x], argTypes := #[t, t] })
    (base : Nat) (e : TypeId) (z : Value) (size bytes : Nat) (ht : P.underlying t = some (.slice e)) (hinfo : (P.info? e).map (fun i => (i.zero, i.size, i.bytes)) = some (some z, size, bytes))
    (hzs : z.cells.size = size) (hsz : 0 < size) (hby : bytes ≤ 1000)
    (v : Value) (n : Nat) (xs : List Value) (hs : a.eval s = v) (hown : w.ownsRow base e size v n xs) (hn : n ≤ 10000000)
    (g : Nat) (tt : TypeId) (cs : Array Value) (hx : a.eval x = .slice (some ⟨g, 0, none⟩) 1 1) (hg : w.heap[g]? = some (.cells cs tt (0, 0))) (hcs : cs.size = size) (h1 : ∀ u ∈ cs.toList, u.oneCell' = true) (hbase : base ≤ w.heap.size)
    (h : ∀ v' w', w'.ownsRow base e size v' (n + 1) (xs ++ cs.toList) → Below base w w' → w.grownBy w' v.ownBlock → K (a.put o.dst v') w') :
    if Region.wanted o (yielded ops a.tmps) = true then Oper.wp P o a w K Q else E := by
  obtain ⟨i, hi, hz, hs1, hb1⟩ := info_parts hinfo
  refine step_append_lies w hgd s x t ho base e i z size bytes ht hi hz hs1 hb1 hzs hsz v n xs hs hown ⟨g, 0, none⟩ 1 1 cs.toList hx (by simp [hcs]) (news_at hg) h1 (by decide) (by unfold maxLen; omega) (by
    have : (n + 1) * bytes ≤ 10000001 * 1000 := Nat.mul_le_mul (by omega) hby
    omega) hbase w.heap.size rfl ?_
  intro g' cap w' hown' hgr _ _
  exact h _ w' hown' ((Below.refl _ _).grown hgr hbase (own_block hown)) hgr
theorem box5 {w w1 : World} (h : Below w.heap.size w w1) (o : Obj) : Below w.heap.size w (w1.alloc o) := h.alloc h.size o
theorem arHeld {W H : Int} {T g j BA off n c : Nat} {L : List (Int × Int)} {a b : Int} {w w' : World} (hK : w.heap[T]? = some (.cells #[.int .i64 W, .int .i64 H, .slice (some ⟨BA, off, none⟩) n c] 34 (0, 0))) (hP : PtAt g L w) (hp : L[j]? = some (a, b)) (hb : Below w.heap.size w w') :
    w'.cell? ⟨T, 0, none⟩ = some (.int .i64 W) ∧ w'.cell? ⟨T, 1, none⟩ = some (.int .i64 H) ∧ w'.cell? ⟨T, 2, none⟩ = some (.slice (some ⟨BA, off, none⟩) n c) ∧ w'.cell? ⟨g, j * 2, none⟩ = some (.int .i64 a) ∧ w'.cell? ⟨g, j * 2 + 1, none⟩ = some (.int .i64 b) := by
  obtain ⟨p1, p2⟩ := ptsV_at hp
  have kx := (hP.below hb).rd.at_ _ _ p1
  have ky := (hP.below hb).rd.at_ _ _ p2
  simp only [Nat.zero_add] at kx ky
  exact ⟨bk_cell (bk_below hK hb) 0, bk_cell (bk_below hK hb) 1, bk_cell (bk_below hK hb) 2, kx, ky⟩

theorem arHeldG {W H : Int} {T g j BA off n c base m : Nat} {L : List (Int × Int)} {a b : Int} {w w1 w' : World} {v : Value} {xs : List Value} (hK : w.heap[T]? = some (.cells #[.int .i64 W, .int .i64 H, .slice (some ⟨BA, off, none⟩) n c] 34 (0, 0))) (hP : PtAt g L w) (hp : L[j]? = some (a, b)) (hb : Below w.heap.size w w1) (ho : w1.ownsRow base 5 1 v m xs) (hg : w1.grownBy w' v.ownBlock) :
    w'.cell? ⟨T, 0, none⟩ = some (.int .i64 W) ∧ w'.cell? ⟨T, 1, none⟩ = some (.int .i64 H) ∧ w'.cell? ⟨T, 2, none⟩ = some (.slice (some ⟨BA, off, none⟩) n c) ∧ w'.cell? ⟨g, j * 2, none⟩ = some (.int .i64 a) ∧ w'.cell? ⟨g, j * 2 + 1, none⟩ = some (.int .i64 b) := by
  have hK1 := bk_below hK hb
  have hP1 := (hP.below hb).grown ho (by decide) hg
  have hK2 := (hg.block T (bk_lt hK1) (own_ne ho hK1 (by decide))).trans hK1
  obtain ⟨p1, p2⟩ := ptsV_at hp
  have kx := hP1.rd.at_ _ _ p1
  have ky := hP1.rd.at_ _ _ p2
  simp only [Nat.zero_add] at kx ky
  exact ⟨bk_cell hK2 0, bk_cell hK2 1, bk_cell hK2 2, kx, ky⟩

set_option maxRecDepth 20000 in
set_option maxHeartbeats 4000000 in
theorem rRAround_yes {W H k x y : Int} {A : Option Addr} {n c : Nat} {cells : List Int} {w : World} (hE : arE W H n k x y = 0) (hc : Rd w A (cells.map (.int .u8))) (hl : cells.length = n) :
    Calls Try.prog 14 #[.agg #[.int .i64 W, .int .i64 H, .slice A n c], .int .u8 k, .int .i64 x, .int .i64 y] w (AroundP cells W k x y w) := by
  obtain ⟨h1, h2, ⟨a1, a2, a3, a4, a5⟩, ⟨x0, x1, y0, y1⟩⟩ := arE_ok hE
  have cc := fun w => rgRCheck_calls W H A n c w
  rw [h1] at cc
  have cy := fun w => rOff_yes h2 w
  have hpos := hdL_pos h2
  have m3 : 0 < (W + 2) * (H + 2) := Int.mul_pos (by omega) (by omega)
  have m4 : (W + 2) * (H + 2) ≤ 65538 * 65538 := Int.mul_le_mul (by omega) (by omega) (by omega) (by omega)
  obtain ⟨BA, off, rfl⟩ := ar_some hc (by rw [List.length_map]; omega)
  have hn0 : 0 < n := by omega
  have hnb : n ≤ 4295229444 := by omega
  have KF := bk_new w (.cells #[.int .i64 W, .int .i64 H, .slice (some ⟨BA, off, none⟩) n c] 34)
  have kf := bk_cell KF
  have hB := boxed w (.cells #[.int .i64 W, .int .i64 H, .slice (some ⟨BA, off, none⟩) n c] 34)
  have HKF := Lib.hid KF; have HB := Lib.hid hB; have CC := Lib.hid cc; have CY := Lib.hid cy; have HC := Lib.hid hc
  have d1 : decide (x < 0) = false := decide_eq_false (by omega)
  have d2 : decide (W ≤ x) = false := decide_eq_false (by omega)
  have d3 : decide (y < 0) = false := decide_eq_false (by omega)
  have d4 : decide (H ≤ y) = false := decide_eq_false (by omega)
  have HIX : Hid (∀ p, p ∈ hdL k 8 → 0 ≤ arI W x y p ∧ arI W x y p < (n : Int)) := fun p hp => by rw [a5]; exact arI_bd (hdL_bd hp) x0 x1 y0 y1
  have HLE := hdL_le k 8
  obtain ⟨L, hL⟩ : ∃ L, hdL k 8 = L := ⟨_, rfl⟩
  obtain ⟨R, hR⟩ : ∃ R : List Value, (arL cells W x y k).map (.int .u8) = R := ⟨_, rfl⟩
  have hRl : R.length = L.length := by rw [← hR, ← hL]; simp [arL]
  have HRJ : Hid (∀ (j : Nat) (p : Int × Int), L[j]? = some p → R[j]? = some (.int .u8 (cells.getD (arI W x y p).toNat 0))) := fun j p hp => by
    rw [← hR, ← hL] at *
    simp [arL, hp]
  have HBD : Hid (∀ p, p ∈ L → (-1 ≤ p.1 ∧ p.1 ≤ 1) ∧ (-1 ≤ p.2 ∧ p.2 ≤ 1)) := fun p hp => hdL_bd (by rw [hL]; exact hp)
  rw [hL] at HLE hpos HIX
  have HL := Lib.hid hL; have HR := Lib.hid hR; have HRL := Lib.hid hRl; have HNL := Lib.hid hl
  clear hc hE h1 h2 cc cy hL hR hRl hl KF hB m3 m4 a5
  go_enter Try.func14, Try.ntmps14
  go_wp2_with (first
    | (go_at_call 17; ((with_reducible refine (CC.out _).mono ?_); rintro e w1 ⟨rfl, hb1⟩; have HK1 := Lib.hid (bk_below HKF.out hb1); have HB1 := Lib.hid (next HB.out hb1); have kf1 := bk_cell HK1.out))
    | (go_at_call 46; ((with_reducible refine (CY.out _).mono ?_); rintro e w2 ⟨g, rfl, hgge, hrd, hb2⟩; have HK2 := Lib.hid (bk_below HK1.out hb2); have HB2 := Lib.hid (next HB1.out hb2); have kf2 := bk_cell HK2.out; rw [HL.out] at hrd ⊢)))
  have HRD3 := Lib.hid hrd
  have HK3 := HK2; have HB3 := HB2
  clear hrd hb1 hb2 kf kf1 kf2 HK1 HB1 HK2 HB2 CC CY hgge
  go_loopw [13, 14] (fun l vj wr => ∃ j : Nat, vj = .int .i64 (j : Int) ∧ j ≤ L.length ∧ Hid (wr.ownsRow w.heap.size 5 1 l j (R.take j)) ∧ Hid (wr.heap[w.heap.size]? = some (.cells #[.int .i64 W, .int .i64 H, .slice (some ⟨BA, off, none⟩) n c] 34 (0, 0))) ∧ Hid (PtAt g L wr) ∧ Hid (Below w.heap.size w wr)) (fun _ vj _ => L.length - (intOf vj).toNat)
  case atStart => exact ⟨0, rfl, by omega, World.ownsRow_nil _ _ _ _, HK3, HRD3, HB3⟩
  clear HK3 HRD3 HB3
  obtain ⟨j, rfl, hj, HO, HK, HP, HB⟩ := hrel
  by_cases hlt : j < L.length
  · have hji : (j : Int) < (L.length : Int) := by omega
    obtain ⟨⟨a, b⟩, hp⟩ : ∃ p, L[j]? = some p := ⟨_, List.getElem?_eq_getElem hlt⟩
    have hmem : (a, b) ∈ L := List.mem_of_getElem? hp
    have hbd := HBD.out _ hmem
    have hix := HIX.out _ hmem
    have hrj := HRJ.out j _ hp
    obtain ⟨p1, p2⟩ := ptsV_at hp
    have kx := HP.out.rd.at_ _ _ p1
    have ky := HP.out.rd.at_ _ _ p2
    simp only [Nat.zero_add] at kx ky
    obtain ⟨i, hi⟩ : ∃ i : Nat, arI W x y (a, b) = (i : Int) := Int.eq_ofNat_of_zero_le hix.1
    rw [hi] at hix hrj
    simp only [Int.toNat_natCast] at hrj
    obtain ⟨z, hz⟩ : ∃ z, cells.getD i 0 = z := ⟨_, rfl⟩
    rw [hz] at hrj
    have hin : i < n := by omega
    have hzc : (cells.map (Value.int .u8))[i]? = some (.int .u8 z) := by
      rw [List.getElem?_map, List.getElem?_eq_getElem (by rw [HNL.out]; exact hin)]
      have : cells.getD i 0 = cells[i]'(by rw [HNL.out]; exact hin) := by simp [List.getD, HNL.out, hin]
      rw [← hz, this]; rfl
    have HT : Hid (R.take (j + 1) = R.take j ++ [.int .u8 z]) := by show _ = _; rw [List.take_add_one, hrj]; rfl
    obtain ⟨⟨ba1, ba2⟩, bb1, bb2⟩ := hbd
    simp only at ba1 ba2 bb1 bb2
    have hi2 : (y + b + 1) * (W + 2) + (x + a) + 1 = (i : Int) := by rw [← hi]; unfold arI; simp only; omega
    have hxa := ar_wrap (a := x + a) rfl (by omega) (by omega)
    have hyb := ar_wrap (a := y + b) rfl (by omega) (by omega)
    have CA : Hid (∀ w', Below w.heap.size w w' → Calls Try.prog 47 #[.agg #[.int .i64 W, .int .i64 H, .slice (some ⟨BA, off, none⟩) n c], .int .i64 (x + a), .int .i64 (y + b)] w' (Ret (.int .u8 z) w')) := fun w' hb => by
      have := rAt_calls (H := H) (c := c) (x := x + a) (y := y + b) (w := w') ⟨by omega, a2⟩ (by omega) (by omega) hi2 hin hnb (HC.out.below hb) HNL.out
      rwa [hz] at this
    have HPP := Lib.hid hp
    clear hp hmem hix hrj p1 p2 hz hi hi2 hzc
    have kf := bk_cell HK.out
    have HKX := Lib.hid kx; have HKY := Lib.hid ky
    have hs := HB.out.size
    have HO1 : Hid (wr.drew.ownsRow w.heap.size 5 1 _ j (R.take j)) := own_below HO.out (Below.refl _ _).drew
    go_wp2_with (first | fail)
    go_region_held_law (fun w' => w'.cell? ⟨w.heap.size, 0, none⟩ = some (.int .i64 W) ∧ w'.cell? ⟨w.heap.size, 1, none⟩ = some (.int .i64 H) ∧ w'.cell? ⟨w.heap.size, 2, none⟩ = some (.slice (some ⟨BA, off, none⟩) n c) ∧ w'.cell? ⟨g, j * 2, none⟩ = some (.int .i64 a) ∧ w'.cell? ⟨g, j * 2 + 1, none⟩ = some (.int .i64 b))
      (first | exact arHeld HK.out HP.out HPP.out (Below.refl _ _).drew | exact arHeld HK.out HP.out HPP.out hb5 | exact arHeld HK.out HP.out HPP.out (box5 hb5 _) | exact arHeldG HK.out HP.out HPP.out (box5 hb5 _) (own_below HO.out (box5 hb5 _)) hgr3)
      ((first | (go_at_call 47; ((with_reducible refine (CA.out _ HB.out.drew).mono ?_); rintro e w5 ⟨rfl, hb5⟩; replace hb5 := undrew hb5)) | (refine step_own1 (by rfl) (.tmp 51) (.tmp 68) 32 (by rfl) w.heap.size 5 _ 1 1 Try.underlying32 u8info rfl (by decide) (by decide) _ _ _ (by rfl) (own_below HO.out (box5 hb5 (.cells #[.int .u8 z] 5))) (by omega) _ 5 #[.int .u8 z] (by rfl) (bk_new w5 (.cells #[.int .u8 z] 5)) rfl (by intro z hz; simp at hz; subst hz; rfl) (Nat.le_trans hs (box5 hb5 (.cells #[.int .u8 z] 5)).size) ?_; intro v' w3 hown3 hb3 hgr3)))
    have hB7 := box5 hb5 (.cells #[.int .u8 z] 5)
    have HO7 := own_below HO.out hB7
    have HK7 := bk_below HK.out hB7
    have HK4 := Lib.hid ((hgr3.block _ (bk_lt HK7) (own_ne HO7 HK7 (by decide))).trans HK7)
    have HP4 := Lib.hid ((HP.out.below hB7).grown HO7 (by decide) hgr3)
    have HB4 := Lib.hid ((next HB.out hB7).trans hb3)
    have HO4 := Lib.hid hown3
    clear hown3 hb3 hgr3 hB7 HO7 HK7 hb5
    go_wp2_with (first | fail)
    go_roundw
    case rel => exact ⟨j + 1, by first | rfl | go_num, by omega, by show World.ownsRow _ _ _ _ _ _ _; rw [HT.out]; exact HO4.out, HK4.out, HP4.out, HB4.out⟩
    case measure => simp [intOf]; omega
  · obtain rfl : j = L.length := by omega
    have HR2 : Hid (R.take L.length = R) := by show _ = _; rw [← HRL.out, List.take_length]
    go_wp2_with (first | fail)
    go_ret2
    refine ⟨_, rfl, ?_, HB.out⟩
    rw [HL.out, HR.out, ← HR2.out]
    exact HO.out
set_option maxRecDepth 20000 in
set_option maxHeartbeats 4000000 in
theorem rRAround_no {W H k x y : Int} {A : Option Addr} {n c : Nat} (hE : arE W H n k x y ≠ 0) (w : World) :
    Calls Try.prog 14 #[.agg #[.int .i64 W, .int .i64 H, .slice A n c], .int .u8 k, .int .i64 x, .int .i64 y] w (Ret (.tuple #[.slice none 0 0, .int .i64 (arE W H n k x y)]) w) := by
  obtain ⟨E, hEE⟩ : ∃ E, rgChE W H n = E := ⟨_, rfl⟩
  obtain ⟨D, hDD⟩ : ∃ D, hdE k = D := ⟨_, rfl⟩
  have hAR : Hid (arE W H n k x y = if E ≠ 0 then E else if D ≠ 0 then 70 else if x < 0 ∨ W ≤ x ∨ y < 0 ∨ H ≤ y then 130 else 0) := by show _ = _; unfold arE; rw [hEE, hDD]
  have hNE := Lib.hid hE
  have cc := fun w => rgRCheck_calls W H A n c w
  rw [hEE] at cc
  have ch : D ≠ 0 → ∀ w, Calls Try.prog 46 #[.int .u8 k] w (Ret (.tuple #[.slice none 0 0, .int .i64 D]) w) := fun h w => by
    have := rOff_no (k := k) (by rw [hDD]; exact h) w
    rwa [hDD] at this
  have cy : D = 0 → ∀ w, Calls Try.prog 46 #[.int .u8 k] w (ROffP k w) := fun h w => rOff_yes (k := k) (by rw [hDD]; exact h) w
  have CC := Lib.hid cc; have CH := Lib.hid ch; have CY := Lib.hid cy
  clear cc ch cy
  have KF := Lib.hid (bk_new w (.cells #[.int .i64 W, .int .i64 H, .slice A n c] 34))
  have kf := bk_cell KF.out
  have hB := Lib.hid (boxed w (.cells #[.int .i64 W, .int .i64 H, .slice A n c] 34))
  clear hE hEE hDD
  by_cases h1 : E = 0
  rotate_left
  · have h1' : (E != 0) = true := bne_iff_ne.2 h1
    have H1 := Lib.hid h1
    clear h1
    go_enter Try.func14, Try.ntmps14
    go_wp2_with (first | (go_at_call 17; ((with_reducible refine (CC.out _).mono ?_); rintro e w1 ⟨rfl, hb1⟩)))
    go_ret2
    exact Ret.of (by rw [hAR.out, if_pos H1.out]; rfl) (next hB.out hb1)
  subst h1
  by_cases h2 : D = 0
  rotate_left
  · have h2' : (D != 0) = true := bne_iff_ne.2 h2
    have H2 := Lib.hid h2
    clear h2
    go_enter Try.func14, Try.ntmps14
    go_wp2_with (first | (go_at_call 17; ((with_reducible refine (CC.out _).mono ?_); rintro e w1 ⟨rfl, hb1⟩)) | (go_at_call 46; ((with_reducible refine (CH.out H2.out _).mono ?_); rintro e w2 ⟨rfl, hb2⟩)))
    go_ret2
    exact Ret.of (by rw [hAR.out, if_neg (by simp), if_pos H2.out]; rfl) (next (next hB.out hb1) hb2)
  subst h2
  have CY2 : Hid (∀ w, Calls Try.prog 46 #[.int .u8 k] w (ROffP k w)) := CY.out rfl
  clear CY CH
  have h3 : x < 0 ∨ (¬ x < 0 ∧ W ≤ x) ∨ (¬ x < 0 ∧ ¬ W ≤ x ∧ y < 0) ∨ (¬ x < 0 ∧ ¬ W ≤ x ∧ ¬ y < 0 ∧ H ≤ y) := by
    have := hNE.out
    rw [hAR.out, if_neg (by simp), if_neg (by simp)] at this
    have : x < 0 ∨ W ≤ x ∨ y < 0 ∨ H ≤ y := by
      by_cases h : x < 0 ∨ W ≤ x ∨ y < 0 ∨ H ≤ y
      · exact h
      · rw [if_neg h] at this; exact absurd rfl this
    omega
  have HA : Hid (arE W H n k x y = 130) := by
    show _ = _
    rw [hAR.out, if_neg (by simp), if_neg (by simp), if_pos (by omega)]
  rcases h3 with h3 | ⟨h3, h4⟩ | ⟨h3, h4, h5⟩ | ⟨h3, h4, h5, h6⟩
  all_goals
    go_enter Try.func14, Try.ntmps14
    go_wp2_with (first | (go_at_call 17; ((with_reducible refine (CC.out _).mono ?_); rintro e w1 ⟨rfl, hb1⟩; have kf1 := bk_cell (bk_below KF.out hb1))) | (go_at_call 46; ((with_reducible refine (CY2.out _).mono ?_); rintro e w2 ⟨g, rfl, hge, hrd, hb2⟩; have kf2 := bk_cell (bk_below (bk_below KF.out hb1) hb2))))
    go_ret2
    exact Ret.of (by rw [HA.out]; rfl) (next (next hB.out hb1) hb2)

end Go.Proofs.Ytkldffpdlkmncaa
