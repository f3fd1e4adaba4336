/- Lay. -/
import Derived.Test.YtkldffpdlkmncaaFLine
set_option linter.unusedVariables false
set_option linter.unusedSimpArgs false
namespace Go.Proofs.Ytkldffpdlkmncaa
open Go.RowKit

def allB (St : Int) (l : List Int) : Bool := l.all fun s => decide (s < St)
def layE (D : FD) (y : Int) (l : List Int) : Int := if hasB D.W D.H 0 y then (if l.length = D.W then (if allB D.St l then 0 else 7) else 131) else 130
/-- the first k cells of a row are made others -/
def layF (f : Nat → Nat → Int) (y k : Nat) (l : List Int) : Nat → Nat → Int := fun y' x' => if y' = y ∧ x' < k then l.getD x' 0 else f y' x'
def FD.lay (D : FD) (y : Int) (l : List Int) : FD := if layE D y l = 0 then { D with f := layF D.f y.toNat D.W l } else D

theorem layF_step (f : Nat → Nat → Int) (y k : Nat) (l : List Int) : setF (layF f y k l) y k (l.getD k 0) = layF f y (k + 1) l := by
  funext y' x'
  unfold setF layF
  by_cases e : y' = y
  · by_cases e2 : x' = k
    · subst e e2; simp
    · subst e
      by_cases e3 : x' < k
      · rw [if_neg (by simp [e2]), if_pos ⟨rfl, e3⟩, if_pos ⟨rfl, by omega⟩]
      · rw [if_neg (by simp [e2]), if_neg (by simp [e3]), if_neg (by simp; omega)]
  · simp [e]

/-- the ways that change nothing -/
theorem Lay_no {g : Nat} {D : FD} {S : Nat → Prop} {w : World} (y : Int) (A : Option Addr) (n c : Nat) (h : Fld g D S w) (hy : hasB D.W D.H 0 y = false) :
    Calls Try.prog 38 #[.pointer (some ⟨g, 0, none⟩), .int .i64 y, .slice A n c] w fun e w' => e = .returned (.int .i64 130) ∧ Below w.heap.size w w' := by
  obtain ⟨gr, G, a, hS⟩ := h.ex
  obtain ⟨c, hc⟩ := a.fld
  have H0 := none_no h
  have hcc := bk_cell hc
  have HB := Lib.hid hy
  clear hy a hS hc h
  go_enter Try.func38, Try.ntmps38
  go_wp2_with (first | (go_at_call 54; ((with_reducible refine H0.mono ?_); rintro e w' ⟨rfl, rfl⟩)) | (go_at_call 55; ((with_reducible refine (has_calls _ _ _ _ _ _).mono ?_); rintro e w1 ⟨rfl, hb1⟩; rw [HB.out])))
  go_ret
  exact ⟨rfl, hb1⟩
theorem Lay_len {g : Nat} {D : FD} {S : Nat → Prop} {w : World} (y : Int) (A : Option Addr) (n c : Nat) (h : Fld g D S w) (hy : hasB D.W D.H 0 y = true) (hn : ¬ n = D.W) (hnb : n ≤ 9223372036854775807) :
    Calls Try.prog 38 #[.pointer (some ⟨g, 0, none⟩), .int .i64 y, .slice A n c] w fun e w' => e = .returned (.int .i64 131) ∧ Below w.heap.size w w' := by
  obtain ⟨gr, G, a, hS⟩ := h.ex
  obtain ⟨c, hc⟩ := a.fld
  have H0 := none_no h
  have hcc := bk_cell hc
  have b2 := a.ok.w1
  have HB := Lib.hid hy; have HC := Lib.hid hc
  have hne : ((n : Int) != (D.W : Int)) = true := by rw [bne_iff_ne]; omega
  clear hy a hS hc h
  go_enter Try.func38, Try.ntmps38
  go_wp2_with (first | (go_at_call 54; ((with_reducible refine H0.mono ?_); rintro e w' ⟨rfl, rfl⟩)) | (go_at_call 55; ((with_reducible refine (has_calls _ _ _ _ _ _).mono ?_); rintro e w1 ⟨rfl, hb1⟩; rw [HB.out]; have hc1 := bk_cell (bk_below HC.out hb1))))
  go_ret
  exact ⟨rfl, hb1⟩

/-- what a row that fits comes to -/
def LayPost (g : Nat) (D : FD) (S : Nat → Prop) (y : Nat) (l : List Int) (w : World) (e : Ending) (w' : World) : Prop :=
  e = .returned (.int .i64 (if allB D.St l then 0 else 7)) ∧ Fld g (if allB D.St l then { D with f := layF D.f y D.W l } else D) S w' ∧ Wrote S w w'

set_option maxRecDepth 20000 in
set_option maxHeartbeats 3000000 in
theorem Lay_in {g : Nat} {D : FD} {S : Nat → Prop} {w : World} (y : Nat) (b off c : Nat) (l : List Int) (h : Fld g D S w) (hy : y < D.H) (hn : l.length = D.W) (hr : Rd w (some ⟨b, off, none⟩) (l.map (.int .u8))) (hbl : ∀ z ∈ l, 0 ≤ z ∧ z ≤ 255) (hbS : ¬ S b) (hblt : b < w.heap.size) :
    Calls Try.prog 38 #[.pointer (some ⟨g, 0, none⟩), .int .i64 y, .slice (some ⟨b, off, none⟩) D.W c] w (LayPost g D S y l w) := by
  obtain ⟨gr, G, a, hS⟩ := h.ex
  obtain ⟨c, hc⟩ := a.fld
  have H0 := none_no h
  have hcc := bk_cell hc
  have b1 := a.ok.h1; have b2 := a.ok.w1; have b3 := a.ok.w0
  have HB := Lib.hid (hasB_yes (W := D.W) (H := D.H) (x := 0) (y := y) (by omega) (by omega) (by omega) (by omega))
  have hne : ((D.W : Int) != (D.W : Int)) = false := by simp
  have hm := meth_set D.pk (.slice (some ⟨gr, 0, none⟩) D.H c)
  have he := ent_set D.pk
  have HN := Lib.hid hn; have HR := Lib.hid hr; have HBL := Lib.hid hbl; have HBS := Lib.hid hbS
  have HA := Lib.hid a; have HC := Lib.hid hc; have HS := Lib.hid hS; have HF := Lib.hid h
  clear a hS hc h hn hr hbl hbS
  go_enter Try.func38, Try.ntmps38
  go_wp2_with (first | (go_at_call 54; ((with_reducible refine H0.mono ?_); rintro e w' ⟨rfl, rfl⟩)) | (go_at_call 55; ((with_reducible refine (has_calls _ _ _ _ _ _).mono ?_); rintro e w1 ⟨rfl, hb1⟩; rw [HB.out]; have hc1 := bk_cell (bk_below HC.out hb1))))
  clear hc1
  go_loopw [33] (fun i wr => ∃ (k : Nat), i = .int .i64 k ∧ k ≤ D.W ∧ Hid (∀ j, j < k → l.getD j 0 < D.St) ∧ Below w.heap.size w wr) (fun i _ => D.W - (intOf i).toNat)
  case atStart => exact ⟨0, rfl, Nat.zero_le _, (fun _ h => absurd h (by omega)), hb1⟩
  clear hb1
  obtain ⟨k, rfl, hk, HP, hB⟩ := hrel
  by_cases hlt : k < D.W
  · have hc1 := bk_cell (bk_below HC.out hB)
    have hlk : l[k]? = some (l.getD k 0) := by rw [List.getElem?_eq_getElem (by rw [HN.out]; exact hlt)]; simp [List.getD, List.getElem?_eq_getElem (show k < l.length by rw [HN.out]; exact hlt)]
    have hcl : wr.cell? ⟨b, off + k, none⟩ = some (.int .u8 (l.getD k 0)) := (HR.out.below hB).at_ k _ (by rw [List.getElem?_map, hlk]; rfl)
    have hz := HBL.out (l.getD k 0) (List.mem_of_getElem? hlk)
    generalize hzk : l.getD k 0 = z at *
    have HZ := Lib.hid hzk; clear hzk hlk
    by_cases hs : z < D.St
    · have HK := Lib.hid (show decide (z < D.St) = true by simpa using hs)
      have HP2 : Hid (∀ j, j < k + 1 → l.getD j 0 < D.St) := fun j hj => by
        by_cases e : j = k
        · subst e; rw [HZ.out]; exact hs
        · exact HP.out j (by omega)
      clear hs
      go_wp2_with (first | (go_at_call 57; ((with_reducible refine (knows_calls _ _ _ _ _ hz.1 hz.2).mono ?_); rintro e w2 ⟨rfl, hb2⟩; rw [HK.out])))
      have hB2 := hB.trans (hb2.mono hB.size)
      go_roundw
      case rel => exact ⟨k + 1, by go_num, by omega, HP2, hB2⟩
      case measure => simp [intOf]; omega
    · have HK := Lib.hid (show decide (z < D.St) = false by simpa using hs)
      have HAL : Hid (allB D.St l = false) := by
        show allB D.St l = false
        unfold allB
        rw [List.all_eq_false]
        refine ⟨z, ?_, by simpa using hs⟩
        have h1 := HZ.out
        have : k < l.length := by rw [HN.out]; exact hlt
        simp only [List.getD, List.getElem?_eq_getElem this, Option.getD_some] at h1
        rw [← h1]; exact List.getElem_mem _
      clear hs
      go_wp2_with (first | (go_at_call 57; ((with_reducible refine (knows_calls _ _ _ _ _ hz.1 hz.2).mono ?_); rintro e w2 ⟨rfl, hb2⟩; rw [HK.out])))
      have hB2 := hB.trans (hb2.mono hB.size)
      go_ret
      refine ⟨by rw [HAL.out]; rfl, ?_, Wrote.of_below hB2⟩
      rw [HAL.out]
      exact HF.out.below hB2
  · obtain rfl : k = D.W := by omega
    have HAL : Hid (allB D.St l = true) := by
      show allB D.St l = true
      unfold allB
      rw [List.all_eq_true]
      intro z hz
      obtain ⟨j, hj, rfl⟩ := List.getElem_of_mem hz
      have := HP.out j (by rw [← HN.out]; exact hj)
      simp only [List.getD, List.getElem?_eq_getElem hj, Option.getD_some] at this
      simpa using this
    go_wp2_with (first | fail)
    go_loopw [47] (fun i wr => ∃ (k : Nat), i = .int .i64 k ∧ k ≤ D.W ∧ Hid (StoreAt D.pk gr D.W D.H (layF D.f y k l) G wr) ∧ Wrote (bytesS gr D.H G) w wr) (fun i _ => D.W - (intOf i).toNat)
    case atStart => exact ⟨0, rfl, Nat.zero_le _, (HA.out.later hB).st.cong (fun y' x' _ _ => by simp [layF]), Wrote.of_below hB⟩
    clear hB
    rename_i wr0 _ _
    obtain ⟨k, rfl, hk, HQ, hw⟩ := hrel
    by_cases hlt : k < D.W
    · have hlk : l[k]? = some (l.getD k 0) := by rw [List.getElem?_eq_getElem (by rw [HN.out]; exact hlt)]; simp [List.getD, List.getElem?_eq_getElem (show k < l.length by rw [HN.out]; exact hlt)]
      have hbb : ¬ bytesS gr D.H G b := fun hb => HBS.out ((HS.out b).2 (.inr hb))
      have hcl : wr.cell? ⟨b, off + k, none⟩ = some (.int .u8 (l.getD k 0)) := (World.cell?_of_block (hw.block b hblt hbb)).trans (HR.out.at_ k _ (by rw [List.getElem?_map, hlk]; rfl))
      have hfl := (hw.block g (bk_lt HC.out) (store_ne HA.out.st HC.out)).trans HC.out
      have hc1 := bk_cell hfl
      have hz := HBL.out (l.getD k 0) (List.mem_of_getElem? hlk)
      have hs := HP.out k hlt
      have hstep := Lib.hid (layF_step D.f y k l)
      generalize hzk : l.getD k 0 = z at *
      have HZ := Lib.hid hzk; clear hzk hlk hbb
      have HFL := Lib.hid hfl; clear hfl
      go_wp2_with (first | fail)
      refine (store_set HQ.out k y z hlt hy hz.1 (fun hp => by have := HA.out.ok.ps hp; omega) b1 b2).mono ?_
      rintro e w2 ⟨rfl, hst, hw2⟩
      rw [hstep.out] at hst
      have hst := Lib.hid hst
      have hw3 := hw.trans hw2
      clear hw hw2
      go_wp2
      go_roundw
      case rel => exact ⟨k + 1, by go_num, by omega, hst, hw3⟩
      case measure => simp [intOf]; omega
    · obtain rfl : k = D.W := by omega
      go_wp2
      go_ret
      obtain ⟨r1, r2⟩ := Fld.turned HA.out HS.out HQ.out hw (fun y' x' hy' hx' => by
        unfold layF
        split
        · have h1 := HP.out x' hx'
          have h2 := HBL.out (l.getD x' 0) (by have : x' < l.length := by rw [HN.out]; exact hx'
                                               simp [List.getD, List.getElem?_eq_getElem this])
          exact ⟨h2.1, h1⟩
        · exact HA.out.ok.bd y' x' hy' hx')
      refine ⟨by rw [HAL.out]; rfl, ?_, r2⟩
      rw [HAL.out]
      exact r1
end Go.Proofs.Ytkldffpdlkmncaa
