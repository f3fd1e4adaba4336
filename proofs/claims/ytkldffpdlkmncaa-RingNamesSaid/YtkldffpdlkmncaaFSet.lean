/- Set, Clear. -/
import Derived.Test.YtkldffpdlkmncaaFStore
set_option linter.unusedVariables false
set_option linter.unusedSimpArgs false
namespace Go.Proofs.Ytkldffpdlkmncaa
open Go.RowKit

theorem store_ne {pk : Bool} {gr W H g : Nat} {f : Nat → Nat → Int} {G : Nat → Nat} {w : World} {cs : Array Value} (h : StoreAt pk gr W H f G w) (hg : w.heap[g]? = some (.cells cs 31 (0, 0))) : ¬ bytesS gr H G g := by
  cases pk
  · rintro (rfl | ⟨y, hy, rfl⟩)
    · obtain ⟨cur, hc, _⟩ := BytesAt.rows h
      rw [hg] at hc; simp at hc
    · obtain ⟨cur, hc, _⟩ := BytesAt.row h y hy
      rw [hg] at hc; simp at hc
  · rintro (rfl | ⟨y, hy, rfl⟩)
    · obtain ⟨cur, hc, _⟩ := BitsAt.rows h
      rw [hg] at hc; simp at hc
    · obtain ⟨cur, hc, _⟩ := BitsAt.row h y hy
      rw [hg] at hc; simp at hc

/-- a field whose store has turned -/
theorem Fld.turned {g gr : Nat} {D : FD} {S : Nat → Prop} {G : Nat → Nat} {w w' : World} {f' : Nat → Nat → Int} (a : FieldAt g D gr G w) (hS : ∀ b, S b ↔ (b = g ∨ bytesS gr D.H G b))
    (hst : StoreAt D.pk gr D.W D.H f' G w') (hw : Wrote (bytesS gr D.H G) w w') (hbd : ∀ y x, y < D.H → x < D.W → 0 ≤ f' y x ∧ f' y x < D.St) : Fld g { D with f := f' } S w' ∧ Wrote S w w' := by
  obtain ⟨c, hc⟩ := a.fld
  refine ⟨⟨gr, G, ⟨⟨c, (hw.block g (bk_lt hc) (store_ne a.st hc)).trans hc⟩, hst, ⟨a.ok.w0, a.ok.w1, a.ok.h0, a.ok.h1, a.ok.wh, a.ok.s0, a.ok.s1, a.ok.ps, hbd⟩⟩, hS⟩, hw.more fun k _ hk => (hS k).2 (.inr hk)⟩

/-- what a field is behind Set -/
def FD.put (D : FD) (x y s : Int) : FD := if hasB D.W D.H x y then (if s < D.St then { D with f := setF D.f y.toNat x.toNat s } else D) else D
def setE (D : FD) (x y s : Int) : Int := if hasB D.W D.H x y then (if s < D.St then 0 else 7) else 130
theorem setF_bd {D : FD} (h : D.Ok) {x y : Nat} {s : Int} (h0 : 0 ≤ s) (h1 : s < D.St) : ∀ y' x', y' < D.H → x' < D.W → 0 ≤ setF D.f y x s y' x' ∧ setF D.f y x s y' x' < D.St := by
  intro y' x' hy hx
  unfold setF
  split
  · exact ⟨h0, h1⟩
  · exact h.bd y' x' hy hx

set_option maxRecDepth 20000 in
set_option maxHeartbeats 2000000 in
theorem Set_calls {g : Nat} {D : FD} {S : Nat → Prop} {w : World} (x y s : Int) (h : Fld g D S w) (hs0 : 0 ≤ s) (hs1 : s ≤ 255) :
    Calls Try.prog 27 #[.pointer (some ⟨g, 0, none⟩), .int .i64 x, .int .i64 y, .int .u8 s] w fun e w' => e = .returned (.int .i64 (setE D x y s)) ∧ Fld g (D.put x y s) S w' ∧ Wrote S w w' := by
  obtain ⟨gr, G, a, hS⟩ := h.ex
  obtain ⟨c, hc⟩ := a.fld
  have H0 := none_no h
  have hcc := bk_cell hc
  cases hb : hasB D.W D.H x y
  · have HB := Lib.hid hb
    have HE := Lib.hid (show setE D x y s = 130 by simp [setE, hb])
    have HD := Lib.hid (show D.put x y s = D by simp [FD.put, hb])
    have HF := Lib.hid h
    clear hb a hS hc h
    go_enter Try.func27, Try.ntmps27
    go_wp2_with (first | (go_at_call 54; ((with_reducible refine H0.mono ?_); rintro e w' ⟨rfl, rfl⟩)) | (go_at_call 55; ((with_reducible refine (has_calls _ _ _ _ _ _).mono ?_); rintro e w1 ⟨rfl, hb1⟩; rw [HB.out])))
    go_ret
    exact ⟨by rw [HE.out]; rfl, by rw [HD.out]; exact HF.out.below hb1, Wrote.of_below hb1⟩
  · by_cases hk : s < D.St
    · obtain ⟨h1, h2, h3, h4⟩ := hasB_of hb
      have HE := Lib.hid (show setE D x y s = 0 by simp [setE, hb, hk])
      have HD := Lib.hid (show D.put x y s = { D with f := setF D.f y.toNat x.toNat s } by simp [FD.put, hb, hk])
      have HB := Lib.hid hb; clear hb
      obtain ⟨x, rfl⟩ := Int.eq_ofNat_of_zero_le h1
      obtain ⟨y, rfl⟩ := Int.eq_ofNat_of_zero_le h3
      have b1 := a.ok.h1; have b2 := a.ok.w1
      have hm := meth_set D.pk (.slice (some ⟨gr, 0, none⟩) D.H c)
      have he := ent_set D.pk
      have HA := Lib.hid a; have HS := Lib.hid hS; have HC := Lib.hid hc
      have HK := Lib.hid (show decide (s < D.St) = true by simpa using hk)
      clear a hS hc h hk
      go_enter Try.func27, Try.ntmps27
      go_wp2_with (first | (go_at_call 54; ((with_reducible refine H0.mono ?_); rintro e w' ⟨rfl, rfl⟩)) | (go_at_call 55; ((with_reducible refine (has_calls _ _ _ _ _ _).mono ?_); rintro e w1 ⟨rfl, hb1⟩; rw [HB.out]; have hc1 := bk_cell (bk_below HC.out hb1))) | (go_at_call 57; ((with_reducible refine (knows_calls _ _ _ _ _ hs0 hs1).mono ?_); rintro e w2 ⟨rfl, hb2⟩; rw [HK.out]; have hc2 := bk_cell (bk_below (bk_below HC.out hb1) hb2))))
      have hbb := hb1.trans (hb2.mono hb1.size)
      refine (store_set (HA.out.st.keep fun b hb => hbb.block b (HA.out.st.lt b hb)) x y s (by omega) (by omega) hs0 (fun hp => by have := HA.out.ok.ps hp; have := HK.out; simp at this; omega) b1 b2).mono ?_
      rintro e w3 ⟨rfl, hst, hwr⟩
      have hst := Lib.hid hst
      go_wp2
      go_ret
      obtain ⟨r1, r2⟩ := Fld.turned HA.out HS.out hst.out ((Wrote.of_below hbb).trans hwr) (setF_bd HA.out.ok hs0 (by have := HK.out; simpa using this))
      exact ⟨by rw [HE.out]; rfl, by rw [HD.out]; exact r1, r2⟩
    · have HE := Lib.hid (show setE D x y s = 7 by simp [setE, hb, hk])
      have HD := Lib.hid (show D.put x y s = D by simp [FD.put, hb, hk])
      have HB := Lib.hid hb
      have HK := Lib.hid (show decide (s < D.St) = false by simpa using hk)
      have HF := Lib.hid h; have HC := Lib.hid hc
      clear hb a hS hc h hk
      go_enter Try.func27, Try.ntmps27
      go_wp2_with (first | (go_at_call 54; ((with_reducible refine H0.mono ?_); rintro e w' ⟨rfl, rfl⟩)) | (go_at_call 55; ((with_reducible refine (has_calls _ _ _ _ _ _).mono ?_); rintro e w1 ⟨rfl, hb1⟩; rw [HB.out]; have hc1 := bk_cell (bk_below HC.out hb1))) | (go_at_call 57; ((with_reducible refine (knows_calls _ _ _ _ _ hs0 hs1).mono ?_); rintro e w2 ⟨rfl, hb2⟩; rw [HK.out])))
      have hbb := hb1.trans (hb2.mono hb1.size)
      go_ret
      exact ⟨by rw [HE.out]; rfl, by rw [HD.out]; exact HF.out.below hbb, Wrote.of_below hbb⟩

end Go.Proofs.Ytkldffpdlkmncaa
