/- The walks of iso's calls, on: Then. -/
import Derived.Test.YtfdehecekghlmaaMd
import Derived.Deep.RegionHeld3
set_option linter.unusedVariables false
set_option linter.unusedSimpArgs false
namespace Go.Proofs.Ytfdehecekghlmaa
open Go.RowKit Go.Viv
attribute [local go_sem] run_store_complex run_store_float

def thenK (ka kb : Int) (fb : Bool) : Int := (kb + (if fb = true then 4 - ka else ka)) % 4

theorem then_q {ka kb : Int} (fb : Bool) (a0 : 0 ≤ ka) (a3 : ka ≤ 3) (b0 : 0 ≤ kb) (b3 : kb ≤ 3) :
    0 ≤ thenK ka kb fb ∧ thenK ka kb fb ≤ 3 ∧ qre kb * qre ka - qim kb * (if fb = true then -qim ka else qim ka) = qre (thenK ka kb fb) ∧ qre kb * (if fb = true then -qim ka else qim ka) + qim kb * qre ka = qim (thenK ka kb fb) := by
  have h1 : ka = 0 ∨ ka = 1 ∨ ka = 2 ∨ ka = 3 := by omega
  have h2 : kb = 0 ∨ kb = 1 ∨ kb = 2 ∨ kb = 3 := by omega
  rcases h1 with rfl | rfl | rfl | rfl <;> rcases h2 with rfl | rfl | rfl | rfl <;> cases fb <;> decide

/-- what both boxes hold, and that nothing else has changed -/
def Held6 (W0 : World) (a b : Nat) (v0 v1 v2 u0 u1 u2 : Value) (w' : World) : Prop :=
  w'.cell? ⟨a, 0, none⟩ = some v0 ∧ w'.cell? ⟨a, 1, none⟩ = some v1 ∧ w'.cell? ⟨a, 2, none⟩ = some v2 ∧ w'.cell? ⟨b, 0, none⟩ = some u0 ∧ w'.cell? ⟨b, 1, none⟩ = some u1 ∧ w'.cell? ⟨b, 2, none⟩ = some u2 ∧ Below W0.heap.size W0 w'
theorem keep6 {W0 w' : World} {a b t : Nat} {v0 v1 v2 u0 u1 u2 : Value} (ha : W0.heap[a]? = some (.cells #[v0, v1, v2] t (0, 0))) (hb : W0.heap[b]? = some (.cells #[u0, u1, u2] t (0, 0))) (hB : Below W0.heap.size W0 w') : Held6 W0 a b v0 v1 v2 u0 u1 u2 w' := by
  have h1 := bk_below ha hB
  have h2 := bk_below hb hB
  exact ⟨(bk_cell h1 0).trans rfl, (bk_cell h1 1).trans rfl, (bk_cell h1 2).trans rfl, (bk_cell h2 0).trans rfl, (bk_cell h2 1).trans rfl, (bk_cell h2 2).trans rfl, hB⟩
theorem keep6n {W0 w' w2 : World} {a b t : Nat} {v0 v1 v2 u0 u1 u2 : Value} (ha : W0.heap[a]? = some (.cells #[v0, v1, v2] t (0, 0))) (hb : W0.heap[b]? = some (.cells #[u0, u1, u2] t (0, 0))) (h : Held6 W0 a b v0 v1 v2 u0 u1 u2 w') (h2 : Below w'.heap.size w' w2) : Held6 W0 a b v0 v1 v2 u0 u1 u2 w2 :=
  keep6 ha hb (next h.2.2.2.2.2.2 h2)
theorem keep6a {W0 w' : World} {a b t : Nat} {v0 v1 v2 u0 u1 u2 : Value} (ha : W0.heap[a]? = some (.cells #[v0, v1, v2] t (0, 0))) (hb : W0.heap[b]? = some (.cells #[u0, u1, u2] t (0, 0))) (h : Held6 W0 a b v0 v1 v2 u0 u1 u2 w') (o : Obj) : Held6 W0 a b v0 v1 v2 u0 u1 u2 (w'.alloc o) :=
  keep6 ha hb (next h.2.2.2.2.2.2 (boxed _ _))
theorem keep6s {W0 w' : World} {a b t : Nat} {v0 v1 v2 u0 u1 u2 : Value} (ha : W0.heap[a]? = some (.cells #[v0, v1, v2] t (0, 0))) (hb : W0.heap[b]? = some (.cells #[u0, u1, u2] t (0, 0))) (h : Held6 W0 a b v0 v1 v2 u0 u1 u2 w') {p : Addr} (hp : W0.heap.size ≤ p.block) (u : Value) : Held6 W0 a b v0 v1 v2 u0 u1 u2 (w'.setCell p u) :=
  keep6 ha hb (h.2.2.2.2.2.2.setCell hp u)
theorem up {w w1 : World} (h : Below w.heap.size w w1) : ∀ b, b < w.heap.size → b < w1.heap.size := fun b hb => Nat.lt_of_lt_of_le hb h.size
theorem below_other {W0 w' : World} {o o' : Obj} (h : Below W0.heap.size W0 (w'.alloc o)) (hs : W0.heap.size ≤ w'.heap.size) : Below W0.heap.size W0 (w'.alloc o') :=
  ⟨h.os, h.tape, h.output, by rw [World.size_alloc]; omega, fun k hk => by rw [Below.heap_alloc _ _ _ (by omega)]; have := h.block k hk; rwa [Below.heap_alloc _ _ _ (by omega)] at this⟩
theorem keep6o {W0 w' : World} {a b t : Nat} {v0 v1 v2 u0 u1 u2 : Value} {o o' : Obj} (ha : W0.heap[a]? = some (.cells #[v0, v1, v2] t (0, 0))) (hb : W0.heap[b]? = some (.cells #[u0, u1, u2] t (0, 0))) (h : Held6 W0 a b v0 v1 v2 u0 u1 u2 (w'.alloc o)) (hs : W0.heap.size ≤ w'.heap.size) : Held6 W0 a b v0 v1 v2 u0 u1 u2 (w'.alloc o') :=
  keep6 ha hb (below_other h.2.2.2.2.2.2 hs)

set_option maxHeartbeats 4000000 in
theorem Then_false (tr ti mr mi ur ui nr ni : Nat) (fa : Bool) (ka Xa Ya kb Xb Yb : Int) (w : World) (ha : IsIso tr ti mr mi ka Xa Ya) (hb : IsIso ur ui nr ni kb Xb Yb) (n1 : nearI Xa = true) (n2 : nearI Ya = true) (n3 : nearI Xb = true) (n4 : nearI Yb = true) (n5 : nearI (linX kb false Xa Ya + Xb) = true) (n6 : nearI (linY kb false Xa Ya + Yb) = true) :
    Calls Try.prog 44 #[isoV tr ti fa mr mi, isoV ur ui false nr ni] w (fun e w' => ∃ xr xi yr yi : Nat, e = .returned (.tuple #[isoV xr xi (fa) yr yi, .int .i64 0]) ∧ IsIso xr xi yr yi (thenK ka kb false) (linX kb false Xa Ya + Xb) (linY kb false Xa Ya + Yb) ∧ Below w.heap.size w w') := by
  have b1 := nearI_abs n1; have b2 := nearI_abs n2; have b3 := nearI_abs n3; have b4 := nearI_abs n4; have b5 := nearI_abs n5; have b6 := nearI_abs n6
  have HN1 : Hid ((nearI Xa && nearI Ya) = true) := by show _ = _; rw [n1, n2]; rfl
  have HN2 : Hid ((nearI Xb && nearI Yb) = true) := by show _ = _; rw [n3, n4]; rfl
  have HN3 : Hid ((nearI (linX kb false Xa Ya + Xb) && nearI (linY kb false Xa Ya + Yb)) = true) := by show _ = _; rw [n5, n6]; rfl
  clear n1 n2 n3 n4 n5 n6
  obtain ⟨qa, qb⟩ := q_bounds kb
  obtain ⟨qc, qd⟩ := q_bounds ka
  obtain ⟨t0, t3, tq1, tq2⟩ := then_q false ha.k0 ha.k3 hb.k0 hb.k3
  have TQ1 := Lib.hid tq1; have TQ2 := Lib.hid tq2; clear tq1 tq2
  obtain ⟨U, hU⟩ : ∃ U, linX kb false Xa Ya + Xb = U := ⟨_, rfl⟩
  obtain ⟨V, hV⟩ : ∃ V, linY kb false Xa Ya + Yb = V := ⟨_, rfl⟩
  rw [hU, hV] at HN3
  rw [hU] at b5 ⊢
  rw [hV] at b6 ⊢
  have LX := Lib.hid hU; have LY := Lib.hid hV; clear hU hV
  have KA : (((w.alloc (.cells #[.complex .f64 tr ti, .bool fa, .complex .f64 mr mi] 41)).alloc (.cells #[.complex .f64 ur ui, .bool false, .complex .f64 nr ni] 41)).alloc (.cells #[.complex .f64 0 0, .bool false, .complex .f64 0 0] 41)).heap[w.heap.size]? = some (.cells #[.complex .f64 tr ti, .bool fa, .complex .f64 mr mi] 41 (0, 0)) := (bk_alloc (bk_alloc (bk_new _ _) _) _)
  have KB : (((w.alloc (.cells #[.complex .f64 tr ti, .bool fa, .complex .f64 mr mi] 41)).alloc (.cells #[.complex .f64 ur ui, .bool false, .complex .f64 nr ni] 41)).alloc (.cells #[.complex .f64 0 0, .bool false, .complex .f64 0 0] 41)).heap[w.heap.size + 1]? = some (.cells #[.complex .f64 ur ui, .bool false, .complex .f64 nr ni] 41 (0, 0)) := (bk_alloc (by have := bk_new (w.alloc (.cells #[.complex .f64 tr ti, .bool fa, .complex .f64 mr mi] 41)) (.cells #[.complex .f64 ur ui, .bool false, .complex .f64 nr ni] 41); simpa only [World.size_alloc] using this) _)
  have KR : (((w.alloc (.cells #[.complex .f64 tr ti, .bool fa, .complex .f64 mr mi] 41)).alloc (.cells #[.complex .f64 ur ui, .bool false, .complex .f64 nr ni] 41)).alloc (.cells #[.complex .f64 0 0, .bool false, .complex .f64 0 0] 41)).heap[w.heap.size + 1 + 1]? = some (.cells #[.complex .f64 0 0, .bool false, .complex .f64 0 0] 41 (0, 0)) := (by have := bk_new ((w.alloc (.cells #[.complex .f64 tr ti, .bool fa, .complex .f64 mr mi] 41)).alloc (.cells #[.complex .f64 ur ui, .bool false, .complex .f64 nr ni] 41)) (.cells #[.complex .f64 0 0, .bool false, .complex .f64 0 0] 41); simpa only [World.size_alloc] using this)
  have hBw : Below w.heap.size w (((w.alloc (.cells #[.complex .f64 tr ti, .bool fa, .complex .f64 mr mi] 41)).alloc (.cells #[.complex .f64 ur ui, .bool false, .complex .f64 nr ni] 41)).alloc (.cells #[.complex .f64 0 0, .bool false, .complex .f64 0 0] 41)) := ((boxed _ _).alloc (by simp) _).alloc (by simp; try omega) _
  go_enter Try.func44, Try.ntmps44
  go_wp2_with (first | fail)
  generalize hW0 : (((w.alloc (.cells #[.complex .f64 tr ti, .bool fa, .complex .f64 mr mi] 41)).alloc (.cells #[.complex .f64 ur ui, .bool false, .complex .f64 nr ni] 41)).alloc (.cells #[.complex .f64 0 0, .bool false, .complex .f64 0 0] 41)) = W0 at *
  clear hW0
  have hB := same W0
  have KA0 := KA
  have KB0 := KB
  have KR0 := KR
  refine (Valid_calls _ _ _ _ _ _ _ _ _ ha (by omega) (by omega)).mono ?_
  rintro e w1 ⟨rfl, hb1⟩
  rw [HN1.out]
  replace hB := next hB hb1; replace KA := bk_below KA hb1; have hcKA := bk_cell KA; have hfKA := bk_free KA; have hlKA := bk_lt KA; replace KB := bk_below KB hb1; have hcKB := bk_cell KB; have hfKB := bk_free KB; have hlKB := bk_lt KB; replace KR := bk_below KR hb1; have hcKR := bk_cell KR; have hfKR := bk_free KR; have hlKR := bk_lt KR
  go_wp2_with (first | fail)
  refine (Valid_calls _ _ _ _ _ _ _ _ _ hb (by omega) (by omega)).mono ?_
  rintro e w2 ⟨rfl, hb1⟩
  rw [HN2.out]
  replace hB := next hB hb1; replace KA := bk_below KA hb1; have hcKA := bk_cell KA; have hfKA := bk_free KA; have hlKA := bk_lt KA; replace KB := bk_below KB hb1; have hcKB := bk_cell KB; have hfKB := bk_free KB; have hlKB := bk_lt KB; replace KR := bk_below KR hb1; have hcKR := bk_cell KR; have hfKR := bk_free KR; have hlKR := bk_lt KR
  go_wp2_with (first | fail)
  have wr := ha.tr; have wi := ha.ti
  obtain ⟨pr, pi, ep, wp, wq⟩ := cmul_some hb.tr hb.ti wr wi qa qb (by omega) (by omega)
  have f1 : ∀ w, (binOp .mul 39 (.complex .f64 ur ui) (.complex .f64 tr ti)).run Try.prog w = .ok (.complex .f64 pr pi) w := fun w => run_complex_mul w _ _ _ _ _ _ _ ep
  clear ep
  have hm : ∀ zr zi, IsW zr U → IsW zi V → IsIso pr pi zr zi (thenK ka kb false) U V := fun zr zi h1 h2 => ⟨t0, t3, TQ1.out ▸ wp, TQ2.out ▸ wq, h1, h2⟩
  skip
  have KAS := KA; have KBS := KB; have KRS := KR; have hBS := hB
  go_region_held3 (fun w' => w'.cell? ⟨w.heap.size, 0, none⟩ = some (.complex .f64 tr ti) ∧ w'.cell? ⟨w.heap.size, 1, none⟩ = some (.bool fa) ∧ w'.cell? ⟨w.heap.size, 2, none⟩ = some (.complex .f64 mr mi) ∧ w'.cell? ⟨w.heap.size + 1, 0, none⟩ = some (.complex .f64 ur ui) ∧ w'.cell? ⟨w.heap.size + 1, 1, none⟩ = some (.bool false) ∧ w'.cell? ⟨w.heap.size + 1, 2, none⟩ = some (.complex .f64 nr ni) ∧ Below w2.heap.size w2 w')
    (first | exact keep6 KAS KBS (Below.drew (same w2)) | exact keep6n KAS KBS (by assumption) hb1 | exact keep6a KAS KBS (by assumption) _ | exact keep6o KAS KBS (by assumption) (by omega) | exact keep6s KAS KBS (keep6s KAS KBS (keep6s KAS KBS (by assumption) (by dsimp only; omega) _) (by dsimp only; omega) _) (by dsimp only; omega) _)
    (first | (go_at_call 63; ((with_reducible refine (does_calls _ _ _ _ _ _ _ _ _ _ _ _ _ hb ha.mr ha.mi (by omega) (by omega) (by omega) (by omega)).mono ?_); rintro e w4 ⟨zr, zi, rfl, hzr, hzi, hb1⟩; have hbd := hb1; rw [LX.out] at hzr; rw [LY.out] at hzi; have hzr := Lib.hid hzr; have hzi := Lib.hid hzi; obtain ⟨hcz, hfz⟩ := bcell hb1; have hup := up hb1; have hsz := hb1.size; (try simp at hsz))) | (go_at_call 59; ((with_reducible refine (made_calls _ _ _ _ _ _ _ _ _ (hm _ _ hzr.out hzi.out) (by omega) (by omega)).mono ?_); rintro e w5 ⟨xr, xi, yr, yi, rfl, hx, hb1⟩; have hbm := hb1; obtain ⟨hcz2, hfz2⟩ := bcell hb1; have hup2 := up hb1; have hsz2 := hb1.size; (try simp at hsz2))))
  all_goals
    rename_i hH
    replace hB := hBS.trans (hH.2.2.2.2.2.2.mono hBS.size)
    replace KR := bk_below KRS hH.2.2.2.2.2.2
    first
      | (have KM : w5.heap[w2.heap.size]? = some _ := bk_below (bk_below (bk_drew (bk_new w2 _)) hbd) hbm
         have hcM := bk_cell KM; have hfM := bk_free KM; have hlM := bk_lt KM)
      | skip
    have hcR := bk_cell KR; have hfR := bk_free KR; have hlR := bk_lt KR
    clear hH
    go_wp2_with (first | fail)
    refine (Valid_calls _ _ _ _ _ _ _ _ _ hx (by omega) (by omega)).mono ?_
    rintro e w6 ⟨rfl, hb1⟩
    rw [HN3.out]
    obtain ⟨hcy, hfy⟩ := bcell hb1
    have hupy := up hb1
    replace hB := next hB hb1; replace KR := bk_below KR hb1; have hcKR := bk_cell KR; have hfKR := bk_free KR; have hlKR := bk_lt KR
    go_wp2_with (first | fail)
    refine end_ct (w.heap.size + 1 + 1) 41 rfl rfl rfl Try.underlying41 rfl ?_
    apply Exists.intro
    refine ⟨(by repeat (with_reducible (first | exact KR | apply bk_set | refine bk_drew ?_ | refine bk_drewN ?_ _ | refine bk_alloc ?_ _ | refine bk_far ?_ (by simp; try omega) _))), by kernel_rfl, ?_⟩
    exact ⟨_, _, _, _, rfl, hx, (by repeat (with_reducible (first | exact hBw.trans (hB.mono hBw.size) | refine Below.setCell ?_ (by have h1_ := hBw.size; have h2_ := hB.size; (try simp) <;> omega) _ | refine Below.drew ?_ | refine Below.alloc ?_ (by have h1_ := hBw.size; have h2_ := hB.size; (try simp) <;> omega) _)))⟩

end Go.Proofs.Ytfdehecekghlmaa
