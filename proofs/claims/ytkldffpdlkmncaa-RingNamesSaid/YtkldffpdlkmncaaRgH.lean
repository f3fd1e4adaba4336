/- ring: the law's own first look. -/
import Derived.Test.YtkldffpdlkmncaaRgG
set_option linter.unusedVariables false
set_option linter.unusedSimpArgs false
namespace Go.Proofs.Ytkldffpdlkmncaa
open Go.RowKit Go.Viv

def rD0 : FD := zeroD 2 2 5 false
def rD1 : FD := ⟨2, 2, 5, false, layF rD0.f 0 2 [1, 2]⟩
def rD2 : FD := ⟨2, 2, 5, false, layF rD1.f 1 2 [3, 4]⟩
theorem rD_lay1 : rD0.lay 0 [1, 2] = rD1 := by unfold FD.lay; rw [if_pos (by decide)]; rfl
theorem rD_lay2 : rD1.lay 1 [3, 4] = rD2 := by unfold FD.lay; rw [if_pos (by decide)]; rfl
theorem rD_e1 : layE rD0 0 [1, 2] = 0 := by decide
theorem rD_e2 : layE rD1 1 [3, 4] = 0 := by decide
def rL : List Int := [1, 4, 3, 2, 4, 1, 2, 3, 2, 3, 4, 1, 3, 2, 1, 4]
theorem rL_at : ∀ i, i < 16 → rL[i]? = some (rgS 4 ((2 : Nat) : Int) ((2 : Nat) : Int) 0 0 rD2.f (((i % 4 : Nat) : Int) - 1) (((i / 4 : Nat) : Int) - 1)) := by decide +kernel
theorem rA_l : arL rL 2 0 0 2 = [4, 2, 3, 4] := by decide +kernel
theorem rA_e : arE 2 2 16 2 0 0 = 0 := by decide +kernel

/-- a row that is done reads as a list -/
theorem OutAt.rd {T : TypeId} {BO n : Nat} {F : Nat → Value} {wr : World} {l : List Int} (h : OutAt T BO n F (fun _ => True) wr) (hl : l.length = n) (hF : ∀ i, i < n → (l.map (Value.int .u8))[i]? = some (F i)) : Rd wr (some ⟨BO, 0, none⟩) (l.map (.int .u8)) := by
  obtain ⟨cs, a, b, c⟩ := h.ex
  refine Rd.of_block a fun j u hu => ?_
  have hj : j < n := by have := (List.getElem?_eq_some_iff.1 hu).1; simpa [hl] using this
  rw [c j hj trivial, ← hF j hj, hu]

set_option maxRecDepth 20000 in
set_option maxHeartbeats 4000000 in
theorem alive14 (w : World) : Calls Try.prog 10 #[] w (Ret (.bool true) w) := by
  have C1 : Hid (∀ w, Calls Try.prog 26 #[.int .i64 2, .int .i64 2, .int .i64 5, .bool false] w (NewP 2 2 5 false w)) := fun w => New_yes 2 2 5 false w (by omega) (by omega) (by omega) (by omega) (by omega) (by omega) (by simp) (by omega)
  have C2 : Hid (∀ (g b : Nat) (S : Nat → Prop) (w : World), Fld g rD0 S w → Rd w (some ⟨b, 0, none⟩) ([1, 2].map (Value.int .u8)) → ¬ S b → b < w.heap.size → Calls Try.prog 38 #[.pointer (some ⟨g, 0, none⟩), .int .i64 0, .slice (some ⟨b, 0, none⟩) 2 2] w fun e w' => e = .returned (.int .i64 0) ∧ Fld g rD1 S w' ∧ Wrote S w w') := fun g b S w h hr hs hb => by
    have := Lay_calls 0 (some ⟨b, 0, none⟩) 2 2 [1, 2] h rfl (by omega) hr (by decide) (fun _ => ⟨b, 0, rfl, hs, hb⟩)
    refine this.mono ?_
    rintro e w' ⟨h1, h2, h3⟩
    rw [rD_lay1] at h2; rw [rD_e1] at h1
    exact ⟨h1, h2, h3⟩
  have C3 : Hid (∀ (g b : Nat) (S : Nat → Prop) (w : World), Fld g rD1 S w → Rd w (some ⟨b, 0, none⟩) ([3, 4].map (Value.int .u8)) → ¬ S b → b < w.heap.size → Calls Try.prog 38 #[.pointer (some ⟨g, 0, none⟩), .int .i64 1, .slice (some ⟨b, 0, none⟩) 2 2] w fun e w' => e = .returned (.int .i64 0) ∧ Fld g rD2 S w' ∧ Wrote S w w') := fun g b S w h hr hs hb => by
    have := Lay_calls 1 (some ⟨b, 0, none⟩) 2 2 [3, 4] h rfl (by omega) hr (by decide) (fun _ => ⟨b, 0, rfl, hs, hb⟩)
    refine this.mono ?_
    rintro e w' ⟨h1, h2, h3⟩
    rw [rD_lay2] at h2; rw [rD_e2] at h1
    exact ⟨h1, h2, h3⟩
  have C4 : Hid (∀ (g : Nat) (S : Nat → Prop) (w : World), Fld g rD2 S w → Calls Try.prog 11 #[topoV 4 2 2 0 0, .pointer (some ⟨g, 0, none⟩)] w fun e w' => ∃ go, e = .returned (.tuple #[.agg #[.int .i64 2, .int .i64 2, .slice (some ⟨go, 0, none⟩) 16 16], .int .i64 0]) ∧ Rd w' (some ⟨go, 0, none⟩) (rL.map (.int .u8)) ∧ Below w.heap.size w w') := fun g S w h => by
    have := rgBytes_yes (k := 4) (W := 2) (H := 2) (t := 0) (s := 0) (by decide) (by decide) h
    refine this.mono ?_
    rintro e w' ⟨go, h1, h2, h3, h4⟩
    refine ⟨go, h1, h3.rd rfl (fun i hi => ?_), h4⟩
    rw [List.getElem?_map, rL_at i hi]
    rfl
  have C5 : Hid (∀ (go : Nat) (w : World), Rd w (some ⟨go, 0, none⟩) (rL.map (.int .u8)) → Calls Try.prog 16 #[.agg #[.int .i64 2, .int .i64 2, .slice (some ⟨go, 0, none⟩) 16 16], .int .u8 2, .int .i64 0, .int .i64 0] w fun e w' => ∃ g c, e = .returned (.tuple #[.slice (some ⟨g, 0, none⟩) 4 c, .int .i64 0]) ∧ Rd w' (some ⟨g, 0, none⟩) ([4, 2, 3, 4].map (.int .u8)) ∧ Below w.heap.size w w') := fun go w hr => by
    refine (rgAround_yes rA_e hr rfl).mono ?_
    rintro e w' ⟨v, h1, h2, h3⟩
    rw [rA_l] at h2
    obtain ⟨A, c, rfl⟩ := own_slice h2
    have hrd := Rd.of_own h2
    obtain ⟨b, off, rfl⟩ := ar_some hrd (by decide)
    rcases h2.2 with ⟨_, h0⟩ | ⟨g', cap, cur, hv, _⟩
    · cases h0
    · obtain ⟨⟨rfl, rfl⟩, -⟩ : (b = g' ∧ off = 0) ∧ c = cap := by simpa using hv
      exact ⟨b, c, h1, hrd, h3⟩
  have C6 : Hid (∀ (g : Nat) (S : Nat → Prop) (w : World), Fld g rD2 S w → Calls Try.prog 12 #[topoV 4 2 2 0 0, .pointer (some ⟨g, 0, none⟩)] w (Ret (.tuple #[.slice none 0 0, .int .i64 132]) w)) := fun g S w h => rgRows_pack (k := 4) (W := 2) (H := 2) (t := 0) (s := 0) (by decide) (by decide) h (by decide)
  go_enter Try.func10, Try.ntmps10
  go_wp2_with (first | fail)
  refine (C1.out _).mono ?_
  rintro e w1 ⟨g, S, rfl, hF, hge, hb1⟩
  have HG := Lib.hid hge; clear hge
  have HF1 := Lib.hid (hF.below (boxed w1 (.cells #[.int .u8 1, .int .u8 2] 5)))
  have HB1 := Lib.hid (hb1.alloc hb1.size (.cells #[.int .u8 1, .int .u8 2] 5))
  have HL1 : Hid (∀ b, S b → b < w1.heap.size) := hF.lt
  clear hF hb1
  go_wp2_with (first | fail)
  refine (C2.out _ _ _ _ HF1.out (Rd.of_block (bk_new w1 _) fun j u hu => by simpa using hu) (fun h => by have := HL1.out _ h; omega) (by simp)).mono ?_
  rintro e w2 ⟨rfl, hF2, hw2⟩
  have HB2 := Lib.hid (HB1.out.trans (hw2.below HB1.out.size HG.out))
  have HF2 := Lib.hid (hF2.below (boxed w2 (.cells #[.int .u8 3, .int .u8 4] 5)))
  have HB2 := Lib.hid (HB2.out.alloc HB2.out.size (.cells #[.int .u8 3, .int .u8 4] 5))
  have HL2 : Hid (∀ b, S b → b < w2.heap.size) := hF2.lt
  clear hF2 hw2 HB1 HF1 HL1
  go_wp2_with (first | fail)
  refine (C3.out _ _ _ _ HF2.out (Rd.of_block (bk_new w2 _) fun j u hu => by simpa using hu) (fun h => by have := HL2.out _ h; omega) (by simp)).mono ?_
  rintro e w3 ⟨rfl, hF3, hw3⟩
  have HB3 := Lib.hid (HB2.out.trans (hw3.below HB2.out.size HG.out))
  have HF3 := Lib.hid hF3
  clear hF3 hw3 HB2 HF2 HL2
  go_wp2_with (first | fail)
  refine (C4.out _ _ _ HF3.out).mono ?_
  rintro e w4 ⟨go, rfl, hr, hb⟩
  have KA := bk_new w4 (.cells #[.int .i64 2, .int .i64 2, .slice (some ⟨go, 0, none⟩) 16 16] 34)
  have hbb := boxed w4 (.cells #[.int .i64 2, .int .i64 2, .slice (some ⟨go, 0, none⟩) 16 16] 34)
  have HR4 := Lib.hid (hr.below hbb)
  have HF4 := Lib.hid ((HF3.out.below hb).below hbb)
  have HB4 := Lib.hid (next (next HB3.out hb) hbb)
  have ka := bk_cell KA
  have HKA := Lib.hid KA
  clear hr hb hbb KA HF3 HB3
  go_wp2_with (first | fail)
  refine (C5.out _ _ HR4.out).mono ?_
  rintro e w5 ⟨ga, ca, rfl, hra, hb⟩
  have HRa := Lib.hid hra
  have HR5 := Lib.hid (HR4.out.below hb)
  have HF5 := Lib.hid (HF4.out.below hb)
  have HB5 := Lib.hid (next HB4.out hb)
  have HK5 := Lib.hid (bk_below HKA.out hb)
  clear hra hb ka HKA HR4 HF4 HB4
  go_wp2_with (first | fail)
  refine (C6.out _ _ _ HF5.out).mono ?_
  rintro e w6 ⟨rfl, hb⟩
  have HRa6 := Lib.hid (HRa.out.below hb)
  have HR6 := Lib.hid (HR5.out.below hb)
  have HB6 := Lib.hid (next HB5.out hb)
  have k6 := bk_cell (bk_below HK5.out hb)
  clear hb HK5 HRa HR5 HF5 HB5 C1 C2 C3 C4 C5 C6
  have hb7 := boxed w6 (.cells #[.int .u8 1, .int .u8 4, .int .u8 3, .int .u8 2, .int .u8 4, .int .u8 1, .int .u8 2, .int .u8 3, .int .u8 2, .int .u8 3, .int .u8 4, .int .u8 1, .int .u8 3, .int .u8 2, .int .u8 1, .int .u8 4] 5)
  have hb8 := boxed (w6.alloc (.cells #[.int .u8 1, .int .u8 4, .int .u8 3, .int .u8 2, .int .u8 4, .int .u8 1, .int .u8 2, .int .u8 3, .int .u8 2, .int .u8 3, .int .u8 4, .int .u8 1, .int .u8 3, .int .u8 2, .int .u8 1, .int .u8 4] 5)) (.cells #[.int .u8 4, .int .u8 2, .int .u8 3, .int .u8 4] 5)
  have K8 : ((w6.alloc (.cells #[.int .u8 1, .int .u8 4, .int .u8 3, .int .u8 2, .int .u8 4, .int .u8 1, .int .u8 2, .int .u8 3, .int .u8 2, .int .u8 3, .int .u8 4, .int .u8 1, .int .u8 3, .int .u8 2, .int .u8 1, .int .u8 4] 5)).alloc (.cells #[.int .u8 4, .int .u8 2, .int .u8 3, .int .u8 4] 5)).heap[w6.heap.size + 1]? = some (.cells #[.int .u8 4, .int .u8 2, .int .u8 3, .int .u8 4] 5 (0, 0)) := bk_newn _ _ _ (by simp)
  have hs1 := run_string_rd (P := Try.prog) (src := 32) (dst := 9) Try.underlying32 Try.underlying5 Try.underlying9 (c := 16) HR6.out (n := 16) rfl
  have hs2 := run_string_rd (P := Try.prog) (src := 32) (dst := 9) Try.underlying32 Try.underlying5 Try.underlying9 (c := 16) (l := rL) (Rd.of_block (bk_new w6 (.cells #[.int .u8 1, .int .u8 4, .int .u8 3, .int .u8 2, .int .u8 4, .int .u8 1, .int .u8 2, .int .u8 3, .int .u8 2, .int .u8 3, .int .u8 4, .int .u8 1, .int .u8 3, .int .u8 2, .int .u8 1, .int .u8 4] 5)) fun j u hu => by simpa [rL] using hu) (n := 16) rfl
  have hs3 := run_string_rd (P := Try.prog) (src := 32) (dst := 9) Try.underlying32 Try.underlying5 Try.underlying9 (c := ca) (HRa6.out.below hb7) (n := 4) rfl
  have hs4 := run_string_rd (P := Try.prog) (src := 32) (dst := 9) Try.underlying32 Try.underlying5 Try.underlying9 (c := 4) (l := [4, 2, 3, 4]) (Rd.of_block K8 fun j u hu => by simpa using hu) (n := 4) rfl
  have HB8 := Lib.hid (next (next HB6.out hb7) hb8)
  have he1 : ((strOfNums rL).toList == (strOfNums rL).toList) = true := by simp
  have he2 : ((strOfNums [4, 2, 3, 4]).toList == (strOfNums [4, 2, 3, 4]).toList) = true := by simp
  clear hb7 hb8 K8 HRa6 HR6 HB6
  generalize strOfNums rL = X at *
  generalize strOfNums [4, 2, 3, 4] = Y at *
  go_wp2
  go_ret
  exact Ret.of rfl HB8.out
end Go.Proofs.Ytkldffpdlkmncaa
