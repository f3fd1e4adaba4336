/- A rule that keeps how many live, out of any numbers (keeping). -/
import Derived.Test.YtdpcmpfhjhbicaaBkKp
import Derived.Test.YtdpcmpfhjhbicaaRfNew
import Derived.RegionTactic
import Derived.ChangeAlike
import Derived.BigRegion
set_option linter.unusedVariables false
set_option linter.unusedSimpArgs false
namespace Go.Proofs.Ytdpcmpfhjhbicaa
open Go.RowKit Go.Viv

/-- where a group begins, and how long it is -/
def kpO (i : Nat) : Nat := if i = 0 then 0 else if i = 1 then 4 else if i = 2 then 10 else 14
def kpG (i : Nat) : Nat := if i = 1 then 6 else 4
theorem kpO_next : ∀ i, i < 3 → kpO i + kpG i = kpO (i + 1) := by decide
theorem kp_at : ∀ i, i < 3 → ∀ j, j < kpG i → kpS (kpO i + j) = kpO i ∧ kpN (kpO i + j) = kpG i ∧ kpO i + j < 14 := by decide
theorem kp_bd : ∀ k, k < 14 → 0 ≤ nth kpP k ∧ nth kpP k < 16 := by decide
/-- the row of a group -/
def kpRow (i : Nat) : List Int := (kpP.drop (kpO i)).take (kpG i)
theorem kpRow_at : ∀ i, i < 3 → ∀ j, j < kpG i → nth (kpRow i) j = nth kpP (kpO i + j) ∧ (kpRow i).length = kpG i := by decide
/-- what is known while the groups are gone through -/
structure KpSt (l : List Int) (k : Nat) (w wr : World) : Prop where
  r : wr.heap[w.heap.size]? = some (.cells (arr (List.replicate 16 0)) 23 (0, 0))
  g : ∀ i, i < 3 → wr.heap[w.heap.size + 1 + i]? = some (.cells (arr (kpRow i)) 5 (0, 0))
  gg : wr.heap[w.heap.size + 1 + 1 + 1 + 1]? = some (.cells #[.slice (some ⟨w.heap.size + 1, 0, none⟩) 4 4, .slice (some ⟨w.heap.size + 1 + 1, 0, none⟩) 6 6, .slice (some ⟨w.heap.size + 1 + 1 + 1, 0, none⟩) 4 4] 44 (0, 0))
  b : wr.heap[w.heap.size + 1 + 1 + 1 + 1 + 1]? = some (.cells (arr (keepF l k)) 23 (0, 0))
  bl : Below w.heap.size w wr
theorem KpSt.next {l : List Int} {k p : Nat} {V : Int} {w wr : World} (h : KpSt l k w wr) (hp : (p : Int) = nth kpP k) (hV : V = kpV l k) : KpSt l (k + 1) w (wr.setCell ⟨w.heap.size + 1 + 1 + 1 + 1 + 1, p, none⟩ (.int .u8 V)).drew := by
  refine ⟨bk_drew (bk_far h.r (by show w.heap.size ≠ w.heap.size + 1 + 1 + 1 + 1 + 1; omega) _), fun i hi => bk_drew (bk_far (h.g i hi) (by show w.heap.size + 1 + i ≠ w.heap.size + 1 + 1 + 1 + 1 + 1; omega) _), bk_drew (bk_far h.gg (by show w.heap.size + 1 + 1 + 1 + 1 ≠ w.heap.size + 1 + 1 + 1 + 1 + 1; omega) _), ?_, (h.bl.setCell (p := ⟨w.heap.size + 1 + 1 + 1 + 1 + 1, p, none⟩) (by show w.heap.size ≤ w.heap.size + 1 + 1 + 1 + 1 + 1; omega) _).drew⟩
  have := arr_bk h.b p V
  rw [keepF, ← hp, show ((p : Int)).toNat = p by omega, ← hV]
  exact bk_drew this
theorem KpSt.drew {l : List Int} {k : Nat} {w wr : World} (h : KpSt l k w wr) : KpSt l k w wr.drew := ⟨bk_drew h.r, fun i hi => bk_drew (h.g i hi), bk_drew h.gg, bk_drew h.b, h.bl.drew⟩
theorem KpSt.sl {l : List Int} {k : Nat} {w wr : World} (h : KpSt l k w wr) (i : Nat) (hi : i < 3) : wr.cell? ⟨w.heap.size + 1 + 1 + 1 + 1, i, none⟩ = some (.slice (some ⟨w.heap.size + 1 + i, 0, none⟩) (kpG i) (kpG i)) := by
  rw [bk_cell h.gg i]
  rcases (show i = 0 ∨ i = 1 ∨ i = 2 by omega) with rfl | rfl | rfl <;> rfl
theorem KpSt.at_ {l : List Int} {k : Nat} {w wr : World} (h : KpSt l k w wr) (i : Nat) (hi : i < 3) (j : Nat) (hj : j < kpG i) : wr.cell? ⟨w.heap.size + 1 + i, j, none⟩ = some (.int .u8 (nth kpP (kpO i + j))) := by
  have := kpRow_at i hi j hj
  rw [bk_cell (h.g i hi) j, arr_at (by omega), this.1]
theorem keep_start (l : List Int) (w : World) : KpSt l 0 w ((((((w.alloc (.cells #[.int .u8 0, .int .u8 0, .int .u8 0, .int .u8 0, .int .u8 0, .int .u8 0, .int .u8 0, .int .u8 0, .int .u8 0, .int .u8 0, .int .u8 0, .int .u8 0, .int .u8 0, .int .u8 0, .int .u8 0, .int .u8 0] 23)).alloc (.cells #[.int .u8 1, .int .u8 2, .int .u8 4, .int .u8 8] 5)).alloc (.cells #[.int .u8 3, .int .u8 5, .int .u8 6, .int .u8 9, .int .u8 10, .int .u8 12] 5)).alloc (.cells #[.int .u8 7, .int .u8 11, .int .u8 13, .int .u8 14] 5)).alloc (.cells #[.slice (some ⟨w.heap.size + 1, 0, none⟩) 4 4, .slice (some ⟨w.heap.size + 1 + 1, 0, none⟩) 6 6, .slice (some ⟨w.heap.size + 1 + 1 + 1, 0, none⟩) 4 4] 44)).alloc (.cells #[.int .u8 0, .int .u8 0, .int .u8 0, .int .u8 0, .int .u8 0, .int .u8 0, .int .u8 0, .int .u8 0, .int .u8 0, .int .u8 0, .int .u8 0, .int .u8 0, .int .u8 0, .int .u8 0, .int .u8 0, .int .u8 15] 23)) := by
  refine ⟨bk_alloc (bk_alloc (bk_alloc (bk_alloc (bk_alloc (bk_new w _) _) _) _) _) _, fun i hi => ?_, bk_alloc (bk_newn _ _ _ (by simp)) _, bk_newn _ _ _ (by simp), ((((((boxed w _).alloc (by simp) _).alloc (by simp; omega) _).alloc (by simp; omega) _).alloc (by simp; omega) _).alloc (by simp; omega) _)⟩
  rcases (show i = 0 ∨ i = 1 ∨ i = 2 by omega) with rfl | rfl | rfl
  · exact bk_alloc (bk_alloc (bk_alloc (bk_alloc (bk_newn (w.alloc _) _ _ (by simp)) _) _) _) _
  · exact bk_alloc (bk_alloc (bk_alloc (bk_newn ((w.alloc _).alloc _) _ _ (by simp)) _) _) _
  · exact bk_alloc (bk_alloc (bk_newn (((w.alloc _).alloc _).alloc _) _ _ (by simp)) _) _

set_option maxRecDepth 20000 in
set_option maxHeartbeats 3000000 in
theorem keeping_calls (A : Option Addr) (n c : Nat) (l : List Int) (w : World) (hn : l.length = n) (hnb : n ≤ 9223372036854775807) (hA : 0 < n → ∃ b off, A = some ⟨b, off, none⟩) (hr : Rd w A (l.map (.int .u8))) (hbl : ∀ z ∈ l, 0 ≤ z ∧ z ≤ 255) :
    Calls Try.prog 35 #[.slice A n c] w (Ret (.agg (arr (keepF l 14))) w) := by
  have HN := Lib.hid hn; have HA := Lib.hid hA; have HR := Lib.hid hr; have HBL := Lib.hid hbl
  have H0 := Lib.hid (keep_start l w)
  clear hn hA hr hbl
  go_enter Try.func35, Try.ntmps35
  go_wp2_with (first | fail)
  generalize ((((((w.alloc (.cells #[.int .u8 0, .int .u8 0, .int .u8 0, .int .u8 0, .int .u8 0, .int .u8 0, .int .u8 0, .int .u8 0, .int .u8 0, .int .u8 0, .int .u8 0, .int .u8 0, .int .u8 0, .int .u8 0, .int .u8 0, .int .u8 0] 23)).alloc (.cells #[.int .u8 1, .int .u8 2, .int .u8 4, .int .u8 8] 5)).alloc (.cells #[.int .u8 3, .int .u8 5, .int .u8 6, .int .u8 9, .int .u8 10, .int .u8 12] 5)).alloc (.cells #[.int .u8 7, .int .u8 11, .int .u8 13, .int .u8 14] 5)).alloc (.cells #[.slice (some ⟨w.heap.size + 1, 0, none⟩) 4 4, .slice (some ⟨w.heap.size + 1 + 1, 0, none⟩) 6 6, .slice (some ⟨w.heap.size + 1 + 1 + 1, 0, none⟩) 4 4] 44)).alloc (.cells #[.int .u8 0, .int .u8 0, .int .u8 0, .int .u8 0, .int .u8 0, .int .u8 0, .int .u8 0, .int .u8 0, .int .u8 0, .int .u8 0, .int .u8 0, .int .u8 0, .int .u8 0, .int .u8 0, .int .u8 0, .int .u8 15] 23)) = W0 at *
  go_loopw [5, 6] (fun vk vi wr => ∃ i : Nat, vk = .int .i64 (kpO i : Int) ∧ vi = .int .i64 (i : Int) ∧ i ≤ 3 ∧ Hid (KpSt l (kpO i) w wr)) (fun _ vi _ => 3 - (intOf vi).toNat)
  case atStart => exact ⟨0, rfl, rfl, by omega, H0⟩
  clear H0
  obtain ⟨i, rfl, rfl, hi, HS⟩ := hrel
  by_cases hlt : i < 3
  · have hlI : (i : Int) < 3 := by omega
    go_wp2_with (first | fail)
    have HS0 : Hid (KpSt l (kpO i + 0) w wr) := HS
    clear HS
    go_loopw [5, 7] (fun vk vj wx => ∃ j : Nat, vk = .int .i64 ((kpO i : Int) + (j : Int)) ∧ vj = .int .i64 (j : Int) ∧ j ≤ kpG i ∧ Hid (KpSt l (kpO i + j) w wx)) (fun _ vj _ => kpG i - (intOf vj).toNat)
    case atStart => exact ⟨0, by simp, rfl, Nat.zero_le _, HS0⟩
    clear HS0
    obtain ⟨j, rfl, rfl, hj, HX⟩ := hrel
    have hsl := HX.out.sl i hlt
    by_cases hjl : j < kpG i
    · obtain ⟨hk1, hk2, hk3⟩ := kp_at i hlt j hjl
      have hpb := kp_bd (kpO i + j) hk3
      obtain ⟨p, hp⟩ := Int.eq_ofNat_of_zero_le hpb.1
      have hp16 : p < 16 := by omega
      have hpI : (p : Int) < 16 := by omega
      have hjI : (j : Int) < (kpG i : Int) := by omega
      have hG : kpG i ≤ 6 := by unfold kpG; split <;> omega
      have hO : kpO i ≤ 14 := by unfold kpO; split <;> (try split) <;> (try split) <;> omega
      have hJ := kpJ_lt l (kpO i + j)
      rw [hk2] at hJ
      have hV : Hid (nth kpP (kpO i + kpJ l (kpO i + j)) = kpV l (kpO i + j)) := by show _ = _; unfold kpV; rw [hk1]
      have hk2H := Lib.hid hk2
      clear hk1 hk2 hpb
      by_cases hin : kpO i + j < n
      · have hinI : (kpO i : Int) + (j : Int) < (n : Int) := by omega
        obtain ⟨b, off, rfl⟩ := HA.out (by omega)
        obtain ⟨q, hq⟩ : ∃ q, q = kpJ l (kpO i + j) := ⟨_, rfl⟩
        have HQ := Lib.hid hq
        have hqI : (q : Int) < (kpG i : Int) := by omega
        clear hq
        have hz : l[kpO i + j]? = some (l.getD (kpO i + j) 0) := by rw [List.getD_eq_getElem?_getD, List.getElem?_eq_getElem (by rw [HN.out]; exact hin)]; rfl
        have hra := ((HR.out.below HX.out.bl).at_ (kpO i + j) (.int .u8 (l.getD (kpO i + j) 0)) (by rw [List.getElem?_map, hz]; rfl))
        have hzb := HBL.out _ (List.mem_of_getElem? hz)
        have hzq : l.getD (kpO i + j) 0 % (kpG i : Int) = (q : Int) := by
          rw [HQ.out]; unfold kpJ; rw [if_pos (by rw [HN.out]; exact hin), hk2H.out]
          have := Int.emod_nonneg (l.getD (kpO i + j) 0) (show (kpG i : Int) ≠ 0 by omega)
          omega
        have hgz : ((kpG i : Int) == 0) = false := by simp; omega
        have hgm : ((kpG i : Int) == -1) = false := by simp
        generalize l.getD (kpO i + j) 0 = z at *
        clear hz
        go_wp2_with (first | fail)
        go_region
        rw [hzq]
        have HX1 := Lib.hid HX.out.drew
        clear hra hsl
        generalize wr.drew = W1 at *
        have hs1 := HX1.out.sl i hlt
        have ha1 := HX1.out.at_ i hlt j hjl
        rw [hp] at ha1
        have ha2 := HX1.out.at_ i hlt (kpJ l (kpO i + j)) hJ
        rw [hV.out, ← HQ.out] at ha2
        have hcb := bk_cell HX1.out.b p
        rw [arr_at (by rw [keepF_length]; omega)] at hcb
        have hfb := bk_free HX1.out.b p
        have HX2 := Lib.hid (HX1.out.next (p := p) (V := kpV l (kpO i + j)) hp.symm rfl)
        clear HX1 hp
        generalize nth (keepF l (kpO i + j)) p = cur at *
        generalize kpV l (kpO i + j) = V at *
        clear HX hzb hzq
        go_wp2_with (first | fail)
        go_region
        go_wp2
        go_roundw
        case rel => exact ⟨j + 1, by go_num, by go_num, by omega, HX2⟩
        case measure => simp [intOf]; omega
      · have hinI : ¬ ((kpO i : Int) + (j : Int) < (n : Int)) := by omega
        obtain ⟨q, hq, hq0⟩ : ∃ q, q = kpJ l (kpO i + j) ∧ q = 0 := ⟨_, rfl, by unfold kpJ; rw [if_neg (by rw [HN.out]; exact hin)]⟩
        have HQ := Lib.hid hq
        clear hq
        subst hq0
        have hqI : (0 : Int) < (kpG i : Int) := by omega
        have HX1 := Lib.hid HX.out
        clear hsl
        have hs1 := HX1.out.sl i hlt
        have ha1 := HX1.out.at_ i hlt j hjl
        rw [hp] at ha1
        have ha2 := HX1.out.at_ i hlt (kpJ l (kpO i + j)) hJ
        rw [hV.out, ← HQ.out] at ha2
        have hcb := bk_cell HX1.out.b p
        rw [arr_at (by rw [keepF_length]; omega)] at hcb
        have hfb := bk_free HX1.out.b p
        have HX2 := Lib.hid (HX1.out.next (p := p) (V := kpV l (kpO i + j)) hp.symm rfl)
        clear HX1 hp
        generalize nth (keepF l (kpO i + j)) p = cur at *
        generalize kpV l (kpO i + j) = V at *
        clear HX
        go_wp2_with (first | fail)
        go_region
        go_wp2
        go_roundw
        case rel => exact ⟨j + 1, by go_num, by go_num, by omega, HX2⟩
        case measure => simp [intOf]; omega
    · obtain rfl : j = kpG i := by omega
      have HX2 : Hid (KpSt l (kpO (i + 1)) w wr) := by show KpSt _ _ _ _; rw [← kpO_next i hlt]; exact HX.out
      have hO2 : (kpO i : Int) + (kpG i : Int) = (kpO (i + 1) : Int) := by rw [← kpO_next i hlt]; omega
      have hirr : ¬ ((kpG i : Int) < (kpG i : Int)) := by omega
      clear HX
      go_wp2
      go_roundw
      case rel => exact ⟨i + 1, by rw [hO2], by go_num, by omega, HX2⟩
      case measure => simp [intOf]; omega
  · obtain rfl : i = 3 := by omega
    have hi := arr_info (keepF_length l 14)
    have HB : Hid (wr.heap[w.heap.size + 1 + 1 + 1 + 1 + 1]? = some (.cells (arr (keepF l 14)) 23 (0, 0))) := HS.out.b
    have hR := HS.out.r
    go_wp2_with (first | (refine wpList_load_row (by rfl) 23 _ (by rfl) (w.heap.size + 1 + 1 + 1 + 1 + 1) (by rfl) 23 _ (0, 0) _ HB.out Try.underlying23 rfl hi ?_) | (refine wpList_store_row (by rfl) 23 _ _ (by rfl) w.heap.size (arr (keepF l 14)) (by rfl) (by rfl) 23 _ hR hi (by rw [arr_size, arr_size, keepF_length]; rfl) (arr_one _) ?_))
    refine end_c w.heap.size 23 rfl rfl rfl Try.underlying23 rfl ⟨_, setRow_heap _ _ _ _ _ _ hR, hi, Ret.of rfl ?_⟩
    exact below_setRow HS.out.bl (Nat.le_refl _) _
end Go.Proofs.Ytdpcmpfhjhbicaa
