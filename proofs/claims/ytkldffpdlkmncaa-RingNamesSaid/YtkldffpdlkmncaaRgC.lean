/- ring: Bytes. -/
import Derived.Test.YtkldffpdlkmncaaRgF8
import Derived.BigRegion
import Derived.Deep.RegionHeld3
set_option linter.unusedVariables false
set_option linter.unusedSimpArgs false
namespace Go.Proofs.Ytkldffpdlkmncaa
open Go.RowKit Go.Viv

def cellR (b i : Nat) (w : World) : Value := (w.cell? ⟨b, i, none⟩).getD undef
theorem cellR_of {b i : Nat} {w : World} {cs : Array Value} {t : TypeId} (h : w.heap[b]? = some (.cells cs t (0, 0))) (hi : i < cs.size) : w.cell? ⟨b, i, none⟩ = some (cellR b i w) := by
  unfold cellR; rw [bk_cell h i, Array.getElem?_eq_getElem hi]; rfl

set_option maxRecDepth 20000 in
set_option maxHeartbeats 4000000 in
theorem rgBytes_err {k W H t s E : Int} {p : Value} {w : World} (hA : ∀ w', Below w.heap.size w w' → Calls Try.prog 39 #[topoV k W H t s, p] w' (Ret (.int .i64 E) w')) (hE : E ≠ 0) :
    Calls Try.prog 11 #[topoV k W H t s, p] w (Ret (.tuple #[.agg #[.int .i64 0, .int .i64 0, .slice none 0 0], .int .i64 E]) w) := by
  have KT := bk_alloc (bk_new w (.cells #[.int .u8 k, .int .i64 W, .int .i64 H, .int .u8 t, .int .i64 s] 23)) (.cells #[.int .i64 0, .int .i64 0, .slice none 0 0] 34)
  have KR : ((w.alloc (.cells #[.int .u8 k, .int .i64 W, .int .i64 H, .int .u8 t, .int .i64 s] 23)).alloc (.cells #[.int .i64 0, .int .i64 0, .slice none 0 0] 34)).heap[w.heap.size + 1]? = some (.cells #[.int .i64 0, .int .i64 0, .slice none 0 0] 34 (0, 0)) := bk_newn _ _ _ (by simp)
  have hBw : Below w.heap.size w ((w.alloc (.cells #[.int .u8 k, .int .i64 W, .int .i64 H, .int .u8 t, .int .i64 s] 23)).alloc (.cells #[.int .i64 0, .int .i64 0, .slice none 0 0] 34)) := (boxed _ _).alloc (by simp) _
  have kt := bk_cell KT
  have hE1 : (E != 0) = true := bne_iff_ne.2 hE
  have HA := Lib.hid hA
  clear hA hE
  go_enter Try.func11, Try.ntmps11
  go_wp2_with (first | fail)
  generalize ((w.alloc (.cells #[.int .u8 k, .int .i64 W, .int .i64 H, .int .u8 t, .int .i64 s] 23)).alloc (.cells #[.int .i64 0, .int .i64 0, .slice none 0 0] 34)) = W0 at *
  refine (HA.out _ hBw).mono ?_
  rintro e w1 ⟨rfl, hb1⟩
  have hB := Below.refl w1.heap.size w1
  replace hBw := next hBw hb1
  have KR1 := bk_below KR hb1
  have hc := bk_cell KR1; have hf := bk_free KR1
  clear KT KR kt HA
  go_wp2
  refine end_ct (w.heap.size + 1) 34 rfl rfl rfl Try.underlying34 rfl ?_
  apply Exists.intro
  refine ⟨(by repeat (with_reducible (first | exact KR1 | apply bk_set | refine bk_drew ?_ | refine bk_drewN ?_ _ | refine bk_alloc ?_ _ | refine bk_far ?_ (by simp; try omega) _))), by kernel_rfl, ?_⟩
  exact Ret.of rfl (by repeat (with_reducible (first | exact hBw.trans (hB.mono hBw.size) | refine Below.setCell ?_ (by have h1_ := hBw.size; have h2_ := hB.size; (try simp) <;> omega) _ | refine Below.drew ?_ | refine Below.alloc ?_ (by have h1_ := hBw.size; have h2_ := hB.size; (try simp) <;> omega) _)))

/-- what Bytes comes to -/
def BytesP (k : Int) (W H : Nat) (t s : Int) (f : Nat → Nat → Int) (w : World) (e : Ending) (w' : World) : Prop :=
  ∃ go, e = .returned (.tuple #[.agg #[.int .i64 W, .int .i64 H, .slice (some ⟨go, 0, none⟩) ((W + 2) * (H + 2)) ((W + 2) * (H + 2))], .int .i64 0]) ∧ w.heap.size ≤ go ∧ OutAt 5 go ((W + 2) * (H + 2)) (frF8 k W H t s f) (fun _ => True) w' ∧ Below w.heap.size w w'

theorem bytHeld {k W H t s : Int} {T R : Nat} {w' : World} (h1 : w'.heap[T]? = some (.cells #[.int .u8 k, .int .i64 W, .int .i64 H, .int .u8 t, .int .i64 s] 23 (0, 0))) (h2 : ∃ cs, w'.heap[R]? = some (.cells cs 34 (0, 0)) ∧ cs.size = 3) :
    w'.cell? ⟨T, 0, none⟩ = some (.int .u8 k) ∧ w'.cell? ⟨T, 1, none⟩ = some (.int .i64 W) ∧ w'.cell? ⟨T, 2, none⟩ = some (.int .i64 H) ∧ w'.cell? ⟨T, 3, none⟩ = some (.int .u8 t) ∧ w'.cell? ⟨T, 4, none⟩ = some (.int .i64 s) ∧
    w'.cell? ⟨R, 0, none⟩ = some (cellR R 0 w') ∧ w'.cell? ⟨R, 1, none⟩ = some (cellR R 1 w') ∧ w'.cell? ⟨R, 2, none⟩ = some (cellR R 2 w') ∧ w'.frozen? ⟨R, 0, none⟩ = false ∧ w'.frozen? ⟨R, 1, none⟩ = false ∧ w'.frozen? ⟨R, 2, none⟩ = false := by
  obtain ⟨cs, h2, h3⟩ := h2
  exact ⟨bk_cell h1 0, bk_cell h1 1, bk_cell h1 2, bk_cell h1 3, bk_cell h1 4, cellR_of h2 (by omega), cellR_of h2 (by omega), cellR_of h2 (by omega), bk_free h2 0, bk_free h2 1, bk_free h2 2⟩

set_option maxRecDepth 20000 in
set_option maxHeartbeats 4000000 in
theorem rgBytes_yes {k t s St : Int} {W H g : Nat} {pk : Bool} {f : Nat → Nat → Int} {S : Nat → Prop} {w : World} (t0 : 0 ≤ t) (hk : checkE k W H t s = 0) (hF : Fld g ⟨W, H, St, pk, f⟩ S w) :
    Calls Try.prog 11 #[topoV k W H t s, .pointer (some ⟨g, 0, none⟩)] w (BytesP k W H t s f w) := by
  have KT := bk_alloc (bk_new w (.cells #[.int .u8 k, .int .i64 W, .int .i64 H, .int .u8 t, .int .i64 s] 23)) (.cells #[.int .i64 0, .int .i64 0, .slice none 0 0] 34)
  have KR : ((w.alloc (.cells #[.int .u8 k, .int .i64 W, .int .i64 H, .int .u8 t, .int .i64 s] 23)).alloc (.cells #[.int .i64 0, .int .i64 0, .slice none 0 0] 34)).heap[w.heap.size + 1]? = some (.cells #[.int .i64 0, .int .i64 0, .slice none 0 0] 34 (0, 0)) := bk_newn _ _ _ (by simp)
  have hBw : Below w.heap.size w ((w.alloc (.cells #[.int .u8 k, .int .i64 W, .int .i64 H, .int .u8 t, .int .i64 s] 23)).alloc (.cells #[.int .i64 0, .int .i64 0, .slice none 0 0] 34)) := (boxed _ _).alloc (by simp) _
  have kt := bk_cell KT
  have o1 := hF.ok.w0; have o3 := hF.ok.h0
  have hA : ∀ w', Below w.heap.size w w' → Calls Try.prog 39 #[topoV k W H t s, .pointer (some ⟨g, 0, none⟩)] w' (Ret (.int .i64 0) w') := fun w' hb => by
    have := rgAsked_calls (k := k) (W := W) (H := H) (t := t) (s := s) t0 (hF.below hb)
    rwa [show rgE k W H t s ⟨W, H, St, pk, f⟩ = 0 by unfold rgE; rw [if_neg (by simp [hk]), if_neg (by show ¬ (_ ∨ _); simp at o1 o3; omega), if_neg (by simp)]] at this
  have hF8 : ∀ w', Below w.heap.size w w' → Calls Try.prog 40 #[topoV k W H t s, .pointer (some ⟨g, 0, none⟩), .func (.func 41) #[] #[]] w' (FrameP8 k W H t s f w') := fun w' hb => rgFrame8_calls t0 hk (hF.below hb)
  have HA := Lib.hid hA; have HF8 := Lib.hid hF8
  clear hA hF8 hF hk o1 o3
  go_enter Try.func11, Try.ntmps11
  go_wp2_with (first | fail)
  generalize ((w.alloc (.cells #[.int .u8 k, .int .i64 W, .int .i64 H, .int .u8 t, .int .i64 s] 23)).alloc (.cells #[.int .i64 0, .int .i64 0, .slice none 0 0] 34)) = W0 at *
  refine (HA.out _ hBw).mono ?_
  rintro e w1 ⟨rfl, hb1⟩
  replace hBw := next hBw hb1
  have KR1 := bk_below KR hb1; have KT1 := bk_below KT hb1
  have HB1 := Lib.hid hBw
  have hR : w.heap.size + 1 ≠ w.heap.size := by omega
  clear KT KR kt HA hBw hb1
  go_wp2_with (first | fail)
  generalize hRe : w.heap.size + 1 = R at *
  generalize hTe : w.heap.size = T at *
  go_region_held3 (fun w' => w'.cell? ⟨T, 0, none⟩ = some (.int .u8 k) ∧ w'.cell? ⟨T, 1, none⟩ = some (.int .i64 W) ∧ w'.cell? ⟨T, 2, none⟩ = some (.int .i64 H) ∧ w'.cell? ⟨T, 3, none⟩ = some (.int .u8 t) ∧ w'.cell? ⟨T, 4, none⟩ = some (.int .i64 s) ∧
      w'.cell? ⟨R, 0, none⟩ = some (cellR R 0 w') ∧ w'.cell? ⟨R, 1, none⟩ = some (cellR R 1 w') ∧ w'.cell? ⟨R, 2, none⟩ = some (cellR R 2 w') ∧ w'.frozen? ⟨R, 0, none⟩ = false ∧ w'.frozen? ⟨R, 1, none⟩ = false ∧ w'.frozen? ⟨R, 2, none⟩ = false)
    (first | exact bytHeld (bk_drew KT1) ⟨_, bk_drew KR1, rfl⟩ | exact bytHeld KT2 ⟨_, KR2, rfl⟩ | exact bytHeld (by repeat (with_reducible (first | exact KT2 | apply bk_set | refine bk_drew ?_ | refine bk_drewN ?_ _ | refine bk_alloc ?_ _ | refine bk_far ?_ (by simp; try omega) _))) ⟨_, (by repeat (with_reducible (first | exact KR2 | apply bk_set | refine bk_drew ?_ | refine bk_drewN ?_ _ | refine bk_alloc ?_ _ | refine bk_far ?_ (by simp; try omega) _))), by simp⟩)
    ((go_at_call 40; ((with_reducible refine (HF8.out _ HB1.out.drew).mono ?_); rintro e w2 ⟨go, rfl, hgo, HO, hb2⟩; have KT2 := bk_below (bk_drew KT1) hb2; have KR2 := bk_below (bk_drew KR1) hb2)))
  subst hRe
  subst hTe
  go_wp2
  refine end_ct (w.heap.size + 1) 34 rfl rfl rfl Try.underlying34 rfl ?_
  apply Exists.intro
  refine ⟨(by repeat (with_reducible (first | exact KR2 | apply bk_set | refine bk_drew ?_ | refine bk_drewN ?_ _ | refine bk_alloc ?_ _ | refine bk_far ?_ (by simp; try omega) _))), by kernel_rfl, ?_⟩
  have hs1 := HB1.out.size
  have hl1 := bk_lt KR1
  have hgo2 : w1.heap.size ≤ go := hgo
  have hne : go ≠ w.heap.size + 1 := by omega
  refine ⟨go, rfl, by omega, ?_, ?_⟩
  · obtain ⟨cs, a, b, c⟩ := HO.ex
    exact ⟨cs, bk_far (bk_far (bk_far a hne _) hne _) hne _, b, c⟩
  · have hb : Below w.heap.size w w2 := HB1.out.trans ((show Below w1.heap.size w1 w2 from ⟨hb2.os, hb2.tape, hb2.output, hb2.size, hb2.block⟩).mono hs1)
    exact ((hb.setCell (by simp) _).setCell (by simp) _).setCell (by simp) _
end Go.Proofs.Ytkldffpdlkmncaa
