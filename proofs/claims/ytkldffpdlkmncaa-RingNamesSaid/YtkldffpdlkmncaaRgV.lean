/- RingNames: the walk. -/
import Derived.Test.YtkldffpdlkmncaaRgR
import Derived.Test.YtkldffpdlkmncaaRgH
set_option linter.unusedVariables false
set_option linter.unusedSimpArgs false
namespace Go.Proofs.Ytkldffpdlkmncaa
open Go.RowKit Go.Viv

def nD0 : FD := zeroD 65536 1 2 false
def nF : Nat → Nat → Int := setF (fun _ _ => 0) 0 65535 1
def nD1 : FD := ⟨65536, 1, 2, false, nF⟩
theorem nD_put : nD0.put 65535 0 1 = nD1 := by unfold FD.put; rw [if_pos (by decide), if_pos (by decide)]; rfl
theorem nD_e : setE nD0 65535 0 1 = 0 := by decide
theorem n_c0 : frF8 2 65536 1 0 0 nF 0 = .int .u8 1 := by
  have : rgS 2 ((65536 : Nat) : Int) ((1 : Nat) : Int) 0 0 nF (-1) (-1) = 1 := by decide +kernel
  show Value.int .u8 (rgS 2 ((65536 : Nat) : Int) ((1 : Nat) : Int) 0 0 nF (((0 % 65538 : Nat) : Int) - 1) (((0 / 65538 : Nat) : Int) - 1)) = _
  rw [show (((0 % 65538 : Nat) : Int) - 1) = -1 by decide, this]
theorem n_c1 : frF8 2 65536 1 0 0 nF 65536 = .int .u8 1 := by
  have : rgS 2 ((65536 : Nat) : Int) ((1 : Nat) : Int) 0 0 nF 65535 (-1) = 1 := by decide +kernel
  show Value.int .u8 (rgS 2 ((65536 : Nat) : Int) ((1 : Nat) : Int) 0 0 nF (((65536 % 65538 : Nat) : Int) - 1) (((65536 / 65538 : Nat) : Int) - 1)) = _
  rw [show (((65536 % 65538 : Nat) : Int) - 1) = 65535 by decide, show (((65536 / 65538 : Nat) : Int) - 1) = -1 by decide, this]
theorem n_c2 : frF8 2 65536 1 0 0 nF 65537 = .int .u8 0 := by
  have : rgS 2 ((65536 : Nat) : Int) ((1 : Nat) : Int) 0 0 nF 65536 (-1) = 0 := by decide +kernel
  show Value.int .u8 (rgS 2 ((65536 : Nat) : Int) ((1 : Nat) : Int) 0 0 nF (((65537 % 65538 : Nat) : Int) - 1) (((65537 / 65538 : Nat) : Int) - 1)) = _
  rw [show (((65537 % 65538 : Nat) : Int) - 1) = 65536 by decide, show (((65537 / 65538 : Nat) : Int) - 1) = -1 by decide, this]
theorem OutAt.cell_at {T : TypeId} {BO n j : Nat} {F : Nat → Value} {wr : World} {v : Value} (h : OutAt T BO n F (fun _ => True) wr) (hj : j < n) (hv : F j = v) : wr.cell? ⟨BO, j, none⟩ = some v := by
  obtain ⟨cs, a, b, c⟩ := h.ex
  rw [bk_cell a, c j hj trivial, hv]

set_option maxRecDepth 20000 in
set_option maxHeartbeats 8000000 in
theorem RingNames_walk (w : World) : Calls Try.prog 6 #[] w (Ret (.bool true) w) := by
  have C1 : Hid (∀ w, Calls Try.prog 26 #[.int .i64 65536, .int .i64 1, .int .i64 2, .bool false] w (NewP 65536 1 2 false w)) := fun w => New_yes 65536 1 2 false w (by omega) (by omega) (by omega) (by omega) (by omega) (by omega) (by simp) (by omega)
  have C2 : Hid (∀ (g : Nat) (S : Nat → Prop) (w : World), Fld g nD0 S w → Calls Try.prog 27 #[.pointer (some ⟨g, 0, none⟩), .int .i64 65535, .int .i64 0, .int .u8 1] w fun e w' => e = .returned (.int .i64 0) ∧ Fld g nD1 S w' ∧ Wrote S w w') := fun g S w h => by
    have := Set_calls 65535 0 1 h (by omega) (by omega)
    rw [nD_put, nD_e] at this
    exact this
  have C3 : Hid (∀ (g : Nat) (S : Nat → Prop) (w : World), Fld g nD1 S w → Calls Try.prog 11 #[topoV 2 65536 1 0 0, .pointer (some ⟨g, 0, none⟩)] w fun e w' => ∃ go, e = .returned (.tuple #[.agg #[.int .i64 65536, .int .i64 1, .slice (some ⟨go, 0, none⟩) 196614 196614], .int .i64 0]) ∧ OutAt 5 go 196614 (frF8 2 65536 1 0 0 nF) (fun _ => True) w' ∧ Below w.heap.size w w') := fun g S w h => by
    refine (rgBytes_yes (k := 2) (W := 65536) (H := 1) (t := 0) (s := 0) (by decide) (by decide) h).mono ?_
    rintro e w' ⟨go, h1, h2, h3, h4⟩
    exact ⟨go, h1, h3, h4⟩
  have C4 : Hid (∀ (g : Nat) (S : Nat → Prop) (w : World), Fld g nD1 S w → Calls Try.prog 12 #[topoV 2 65536 1 0 0, .pointer (some ⟨g, 0, none⟩)] w fun e w' => ∃ gr, e = .returned (.tuple #[.slice (some ⟨gr, 0, none⟩) 3 3, .int .i64 0]) ∧ w'.cell? ⟨gr, 4, none⟩ = some (.int .i64 65538) ∧ Below w.heap.size w w') := fun g S w h => by
    refine (rgRows_yes (k := 2) (W := 65536) (H := 1) (t := 0) (s := 0) (by decide) (by decide) h (by decide)).mono ?_
    rintro e w' ⟨gr, G, h1, h2, h3, h4⟩
    obtain ⟨c, a, _, d⟩ := h3.rows
    exact ⟨gr, h1, by rw [bk_cell a]; exact (d 2 (by omega)).1, h4⟩
  have C5 : Hid (∀ w, Calls Try.prog 26 #[.int .i64 3, .int .i64 4, .int .i64 2, .bool false] w (NewP 3 4 2 false w)) := fun w => New_yes 3 4 2 false w (by omega) (by omega) (by omega) (by omega) (by omega) (by omega) (by simp) (by omega)
  have C6 : Hid (∀ (g : Nat) (S : Nat → Prop) (w : World), Fld g (zeroD 3 4 2 false) S w → Calls Try.prog 11 #[topoV 2 3 5 0 0, .pointer (some ⟨g, 0, none⟩)] w (Ret (.tuple #[.agg #[.int .i64 0, .int .i64 0, .slice none 0 0], .int .i64 21]) w)) := fun g S w h => rgBytes_err (fun w' hb => rgAsked_calls (by decide) (h.below hb)) (by decide)
  have C7 : Hid (∀ (g : Nat) (S : Nat → Prop) (w : World), Fld g (zeroD 3 4 2 false) S w → Calls Try.prog 12 #[topoV 2 3 5 0 0, .pointer (some ⟨g, 0, none⟩)] w (Ret (.tuple #[.slice none 0 0, .int .i64 21]) w)) := fun g S w h => rgRows_err (fun w' hb => rgAsked_calls (by decide) (h.below hb)) (by decide)
  have C8 : Hid (∀ (g : Nat) (S : Nat → Prop) (w : World), Fld g (zeroD 3 4 2 false) S w → Calls Try.prog 11 #[topoV 99 0 4 0 0, .pointer (some ⟨g, 0, none⟩)] w (Ret (.tuple #[.agg #[.int .i64 0, .int .i64 0, .slice none 0 0], .int .i64 9]) w)) := fun g S w h => rgBytes_err (fun w' hb => rgAsked_calls (by decide) (h.below hb)) (by decide)
  have C9 : Hid (∀ (g : Nat) (S : Nat → Prop) (w : World), Fld g (zeroD 3 4 2 false) S w → Calls Try.prog 12 #[topoV 1 0 4 0 0, .pointer (some ⟨g, 0, none⟩)] w (Ret (.tuple #[.slice none 0 0, .int .i64 42]) w)) := fun g S w h => rgRows_err (fun w' hb => rgAsked_calls (by decide) (h.below hb)) (by decide)
  have C10 : Hid (∀ go w, Calls Try.prog 15 #[.agg #[.int .i64 65536, .int .i64 1, .slice (some ⟨go, 0, none⟩) 196614 196614]] w (Ret (.int .i64 0) w)) := fun go w => rgCheck_calls 65536 1 _ 196614 196614 w
  have C11 : Hid (∀ go w, Calls Try.prog 15 #[.agg #[.int .i64 65537, .int .i64 1, .slice (some ⟨go, 0, none⟩) 196617 196617]] w (Ret (.int .i64 140) w)) := fun go w => rgCheck_calls 65537 1 _ 196617 196617 w
  have hmk := run_makeN (P := Try.prog) Try.underlying32 u8info 196617 (by omega) (by omega)
  simp only [Nat.mul_one] at hmk
  have hmk2 : ∀ w, (Instr.makeSlice 32 (.int .i64 196617) (.int .i64 196617)).run Try.prog w = .ok (.slice (some ⟨w.heap.size, 0, none⟩) 196617 196617) (w.alloc (.cells (madeCells (Value.int .u8 0).cells 196617) 5)) := hmk
  clear hmk
  go_enter Try.func6, Try.ntmps6
  go_wp2_with (first | fail)
  refine (alive14 _).mono ?_
  rintro e w1 ⟨rfl, hb⟩
  have hs1 := hb.size
  have KT1 := Lib.hid (bk_new w1 (.cells #[.int .u8 2, .int .i64 65536, .int .i64 1, .int .u8 0, .int .i64 0] 23))
  have HB1 := Lib.hid (hb.alloc hb.size (.cells #[.int .u8 2, .int .i64 65536, .int .i64 1, .int .u8 0, .int .i64 0] 23))
  clear hb
  go_wp2_with (first | fail)
  refine (C1.out _).mono ?_
  rintro e w2 ⟨g, S, rfl, hF, hge, hb⟩
  have KT2 := Lib.hid (bk_below KT1.out hb)
  have HB2 := Lib.hid (next HB1.out hb)
  have HF2 := Lib.hid hF
  have NS : Hid (∀ b, S b → (w1.alloc (.cells #[.int .u8 2, .int .i64 65536, .int .i64 1, .int .u8 0, .int .i64 0] 23)).heap.size ≤ b) := hge
  clear hb hF hge KT1 HB1
  go_wp2_with (first | fail)
  refine (C2.out _ _ _ HF2.out).mono ?_
  rintro e w3 ⟨rfl, hF, hw⟩
  have hl1 := bk_lt KT2.out
  have KT3 := Lib.hid ((hw.block w1.heap.size hl1 (fun h => by have := NS.out _ h; simp at this; omega)).trans KT2.out)
  have HB3 := Lib.hid (HB2.out.trans (hw.below HB2.out.size (fun k hk => by have := NS.out _ hk; have h2 := HB2.out.size; simp at this; omega)))
  have HF3 := Lib.hid hF
  have kt3 := bk_cell KT3.out
  clear hF hw HF2 KT2 HB2 NS hl1
  go_wp2_with (first | fail)
  refine (C3.out _ _ _ HF3.out).mono ?_
  rintro e w4 ⟨go, rfl, hO, hb⟩
  have KA4 := Lib.hid (bk_new w4 (.cells #[.int .i64 65536, .int .i64 1, .slice (some ⟨go, 0, none⟩) 196614 196614] 34))
  have KT4 := Lib.hid (bk_alloc (bk_below KT3.out hb) (.cells #[.int .i64 65536, .int .i64 1, .slice (some ⟨go, 0, none⟩) 196614 196614] 34))
  have HO4 := Lib.hid (hO.below (boxed w4 (.cells #[.int .i64 65536, .int .i64 1, .slice (some ⟨go, 0, none⟩) 196614 196614] 34)))
  have HF4 := Lib.hid ((HF3.out.below hb).below (boxed w4 (.cells #[.int .i64 65536, .int .i64 1, .slice (some ⟨go, 0, none⟩) 196614 196614] 34)))
  have HB4 := Lib.hid ((next HB3.out hb).alloc (next HB3.out hb).size (.cells #[.int .i64 65536, .int .i64 1, .slice (some ⟨go, 0, none⟩) 196614 196614] 34))
  have kt4 := bk_cell KT4.out
  clear hO hb KT3 HF3 HB3 kt3
  go_wp2_with (first | fail)
  refine (C4.out _ _ _ HF4.out).mono ?_
  rintro e w5 ⟨gr, rfl, hc5, hb⟩
  have KA5 := Lib.hid (bk_below KA4.out hb)
  have HO5 := Lib.hid (HO4.out.below hb)
  have HB5 := Lib.hid (next HB4.out hb)
  have ka5 := bk_cell KA5.out
  clear hb KA4 KT4 HO4 HF4 HB4 kt4
  go_wp2_with (first | fail)
  refine (C5.out _).mono ?_
  rintro e w6 ⟨g2, S2, rfl, hF, _, hb⟩
  have KA6 := Lib.hid (bk_below KA5.out hb)
  have HO6 := Lib.hid (HO5.out.below hb)
  have HB6 := Lib.hid (next HB5.out hb)
  have HF6 := Lib.hid hF
  clear hb hF hc5 ka5 KA5 HO5 HB5
  go_wp2_with (first | fail)
  refine (C6.out _ _ _ HF6.out).mono ?_
  rintro e w7 ⟨rfl, hb⟩
  have KA7 := Lib.hid (bk_alloc (bk_below KA6.out hb) (.cells #[.int .i64 0, .int .i64 0, .slice none 0 0] 34))
  have HO7 := Lib.hid ((HO6.out.below hb).below (boxed w7 (.cells #[.int .i64 0, .int .i64 0, .slice none 0 0] 34)))
  have HB7 := Lib.hid ((next HB6.out hb).alloc (next HB6.out hb).size (.cells #[.int .i64 0, .int .i64 0, .slice none 0 0] 34))
  have HF7 := Lib.hid ((HF6.out.below hb).below (boxed w7 (.cells #[.int .i64 0, .int .i64 0, .slice none 0 0] 34)))
  clear hb KA6 HO6 HB6 HF6
  go_wp2_with (first | fail)
  refine (C7.out _ _ _ HF7.out).mono ?_
  rintro e w8 ⟨rfl, hb⟩
  have KA8 := Lib.hid (bk_below KA7.out hb)
  have HO8 := Lib.hid (HO7.out.below hb)
  have HB8 := Lib.hid (next HB7.out hb)
  have HF8 := Lib.hid (HF7.out.below hb)
  clear hb KA7 HO7 HB7 HF7
  go_wp2_with (first | fail)
  refine (C8.out _ _ _ HF8.out).mono ?_
  rintro e w9 ⟨rfl, hb⟩
  have KA9 := Lib.hid (bk_alloc (bk_below KA8.out hb) (.cells #[.int .i64 0, .int .i64 0, .slice none 0 0] 34))
  have HO9 := Lib.hid ((HO8.out.below hb).below (boxed w9 (.cells #[.int .i64 0, .int .i64 0, .slice none 0 0] 34)))
  have HB9 := Lib.hid ((next HB8.out hb).alloc (next HB8.out hb).size (.cells #[.int .i64 0, .int .i64 0, .slice none 0 0] 34))
  have HF9 := Lib.hid ((HF8.out.below hb).below (boxed w9 (.cells #[.int .i64 0, .int .i64 0, .slice none 0 0] 34)))
  clear hb KA8 HO8 HB8 HF8
  go_wp2_with (first | fail)
  refine (C9.out _ _ _ HF9.out).mono ?_
  rintro e w10 ⟨rfl, hb⟩
  have KA10 := Lib.hid (bk_below KA9.out hb)
  have HO10 := Lib.hid (HO9.out.below hb)
  have HB10 := Lib.hid (next HB9.out hb)
  have ka10 := bk_cell KA10.out
  have c0 := HO10.out.cell_at (j := 0) (by omega) n_c0
  have c1 := HO10.out.cell_at (j := 65536) (by omega) n_c1
  have c2 := HO10.out.cell_at (j := 65537) (by omega) n_c2
  clear hb KA9 HO9 HB9 HF9
  go_wp2_with (first | fail)
  refine (C10.out _ _).mono ?_
  rintro e w11 ⟨rfl, hb⟩
  have HB11 := Lib.hid (next HB10.out hb)
  have HB12 := Lib.hid (HB11.out.alloc HB11.out.size (.cells (madeCells #[.int .u8 0] 196617) 5))
  clear hb c0 c1 c2 ka10
  go_wp2_with (first | fail)
  refine (C11.out _ _).mono ?_
  rintro e w13 ⟨rfl, hb⟩
  go_wp2
  go_ret
  exact Ret.of rfl (next HB12.out hb)
theorem RingNames_law (w : World) : Calls Try.prog 6 #[] w (Ret (.bool true) w) := RingNames_walk w
end Go.Proofs.Ytkldffpdlkmncaa
