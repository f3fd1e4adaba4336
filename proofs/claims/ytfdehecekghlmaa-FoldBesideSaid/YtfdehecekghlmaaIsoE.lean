/- The walks of iso's calls, on: Then, behind which a flip stands. -/
import Derived.Test.YtfdehecekghlmaaIsoD
set_option linter.unusedVariables false
set_option linter.unusedSimpArgs false
namespace Go.Proofs.Ytfdehecekghlmaa
open Go.RowKit Go.Viv
attribute [local go_sem] run_store_complex run_store_float

set_option maxHeartbeats 4000000 in
theorem Then_true (tr ti mr mi ur ui nr ni : Nat) (fa : Bool) (ka Xa Ya kb Xb Yb : Int) (w : World) (ha : IsIso tr ti mr mi ka Xa Ya) (hb : IsIso ur ui nr ni kb Xb Yb) (n1 : nearI Xa = true) (n2 : nearI Ya = true) (n3 : nearI Xb = true) (n4 : nearI Yb = true) (n5 : nearI (linX kb true Xa Ya + Xb) = true) (n6 : nearI (linY kb true Xa Ya + Yb) = true) :
    Calls Try.prog 44 #[isoV tr ti fa mr mi, isoV ur ui true nr ni] w (fun e w' => ∃ xr xi yr yi : Nat, e = .returned (.tuple #[isoV xr xi (!fa) yr yi, .int .i64 0]) ∧ IsIso xr xi yr yi (thenK ka kb true) (linX kb true Xa Ya + Xb) (linY kb true Xa Ya + Yb) ∧ Below w.heap.size w w') := by
  have b1 := nearI_abs n1; have b2 := nearI_abs n2; have b3 := nearI_abs n3; have b4 := nearI_abs n4; have b5 := nearI_abs n5; have b6 := nearI_abs n6
  have HN1 : Hid ((nearI Xa && nearI Ya) = true) := by show _ = _; rw [n1, n2]; rfl
  have HN2 : Hid ((nearI Xb && nearI Yb) = true) := by show _ = _; rw [n3, n4]; rfl
  have HN3 : Hid ((nearI (linX kb true Xa Ya + Xb) && nearI (linY kb true Xa Ya + Yb)) = true) := by show _ = _; rw [n5, n6]; rfl
  clear n1 n2 n3 n4 n5 n6
  obtain ⟨qa, qb⟩ := q_bounds kb
  obtain ⟨qc, qd⟩ := q_bounds ka
  obtain ⟨t0, t3, tq1, tq2⟩ := then_q true ha.k0 ha.k3 hb.k0 hb.k3
  have TQ1 := Lib.hid tq1; have TQ2 := Lib.hid tq2; clear tq1 tq2
  obtain ⟨U, hU⟩ : ∃ U, linX kb true Xa Ya + Xb = U := ⟨_, rfl⟩
  obtain ⟨V, hV⟩ : ∃ V, linY kb true Xa Ya + Yb = V := ⟨_, rfl⟩
  rw [hU, hV] at HN3
  rw [hU] at b5 ⊢
  rw [hV] at b6 ⊢
  have LX := Lib.hid hU; have LY := Lib.hid hV; clear hU hV
  have KA : (((w.alloc (.cells #[.complex .f64 tr ti, .bool fa, .complex .f64 mr mi] 41)).alloc (.cells #[.complex .f64 ur ui, .bool true, .complex .f64 nr ni] 41)).alloc (.cells #[.complex .f64 0 0, .bool false, .complex .f64 0 0] 41)).heap[w.heap.size]? = some (.cells #[.complex .f64 tr ti, .bool fa, .complex .f64 mr mi] 41 (0, 0)) := (bk_alloc (bk_alloc (bk_new _ _) _) _)
  have KB : (((w.alloc (.cells #[.complex .f64 tr ti, .bool fa, .complex .f64 mr mi] 41)).alloc (.cells #[.complex .f64 ur ui, .bool true, .complex .f64 nr ni] 41)).alloc (.cells #[.complex .f64 0 0, .bool false, .complex .f64 0 0] 41)).heap[w.heap.size + 1]? = some (.cells #[.complex .f64 ur ui, .bool true, .complex .f64 nr ni] 41 (0, 0)) := (bk_alloc (by have := bk_new (w.alloc (.cells #[.complex .f64 tr ti, .bool fa, .complex .f64 mr mi] 41)) (.cells #[.complex .f64 ur ui, .bool true, .complex .f64 nr ni] 41); simpa only [World.size_alloc] using this) _)
  have KR : (((w.alloc (.cells #[.complex .f64 tr ti, .bool fa, .complex .f64 mr mi] 41)).alloc (.cells #[.complex .f64 ur ui, .bool true, .complex .f64 nr ni] 41)).alloc (.cells #[.complex .f64 0 0, .bool false, .complex .f64 0 0] 41)).heap[w.heap.size + 1 + 1]? = some (.cells #[.complex .f64 0 0, .bool false, .complex .f64 0 0] 41 (0, 0)) := (by have := bk_new ((w.alloc (.cells #[.complex .f64 tr ti, .bool fa, .complex .f64 mr mi] 41)).alloc (.cells #[.complex .f64 ur ui, .bool true, .complex .f64 nr ni] 41)) (.cells #[.complex .f64 0 0, .bool false, .complex .f64 0 0] 41); simpa only [World.size_alloc] using this)
  have hBw : Below w.heap.size w (((w.alloc (.cells #[.complex .f64 tr ti, .bool fa, .complex .f64 mr mi] 41)).alloc (.cells #[.complex .f64 ur ui, .bool true, .complex .f64 nr ni] 41)).alloc (.cells #[.complex .f64 0 0, .bool false, .complex .f64 0 0] 41)) := ((boxed _ _).alloc (by simp) _).alloc (by simp; try omega) _
  go_enter Try.func44, Try.ntmps44
  go_wp2_with (first | fail)
  generalize hW0 : (((w.alloc (.cells #[.complex .f64 tr ti, .bool fa, .complex .f64 mr mi] 41)).alloc (.cells #[.complex .f64 ur ui, .bool true, .complex .f64 nr ni] 41)).alloc (.cells #[.complex .f64 0 0, .bool false, .complex .f64 0 0] 41)) = W0 at *
  clear hW0
  have hB := same W0
  have KA0 := KA
  have KB0 := KB
  have KR0 := KR
  refine (Valid_calls _ _ _ _ _ _ _ _ _ ha (by omega) (by omega)).mono ?_
  rintro e w1 ⟨rfl, hb1⟩
  rw [HN1.out]
  replace hB := next hB hb1; replace KA := bk_below KA hb1; have hcKA := bk_cell KA; have hfKA := bk_free KA; have hlKA := bk_lt KA; replace KB := bk_below KB hb1; have hcKB := bk_cell KB; have hfKB := bk_free KB; have hlKB := bk_lt KB; replace KR := bk_below KR hb1; have hcKR := bk_cell KR; have hfKR := bk_free KR; have hlKR := bk_lt KR
  go_wp2_with (first | fail)
  refine (Valid_calls _ _ _ _ _ _ _ _ _ hb (by omega) (by omega)).mono ?_
  rintro e w2 ⟨rfl, hb1⟩
  rw [HN2.out]
  replace hB := next hB hb1; replace KA := bk_below KA hb1; have hcKA := bk_cell KA; have hfKA := bk_free KA; have hlKA := bk_lt KA; replace KB := bk_below KB hb1; have hcKB := bk_cell KB; have hfKB := bk_free KB; have hlKB := bk_lt KB; replace KR := bk_below KR hb1; have hcKR := bk_cell KR; have hfKR := bk_free KR; have hlKR := bk_lt KR
  go_wp2_with (first | fail)
  refine (conj_calls _ _ _ _ _ ha.tr ha.ti).mono ?_
  rintro e w3 ⟨tr', ti', rfl, wr, wi, hb1⟩
  replace hB := next hB hb1; replace KA := bk_below KA hb1; have hcKA := bk_cell KA; have hfKA := bk_free KA; have hlKA := bk_lt KA; replace KB := bk_below KB hb1; have hcKB := bk_cell KB; have hfKB := bk_free KB; have hlKB := bk_lt KB; replace KR := bk_below KR hb1; have hcKR := bk_cell KR; have hfKR := bk_free KR; have hlKR := bk_lt KR
  obtain ⟨pr, pi, ep, wp, wq⟩ := cmul_some hb.tr hb.ti wr wi qa qb (by omega) (by omega)
  have f1 : ∀ w, (binOp .mul 39 (.complex .f64 ur ui) (.complex .f64 tr' ti')).run Try.prog w = .ok (.complex .f64 pr pi) w := fun w => run_complex_mul w _ _ _ _ _ _ _ ep
  clear ep
  have hm : ∀ zr zi, IsW zr U → IsW zi V → IsIso pr pi zr zi (thenK ka kb true) U V := fun zr zi h1 h2 => ⟨t0, t3, TQ1.out ▸ wp, TQ2.out ▸ wq, h1, h2⟩
  go_wp2_with (first | fail)
  have KAS := KA; have KBS := KB; have KRS := KR; have hBS := hB
  go_region_held3 (fun w' => w'.cell? ⟨w.heap.size, 0, none⟩ = some (.complex .f64 tr ti) ∧ w'.cell? ⟨w.heap.size, 1, none⟩ = some (.bool fa) ∧ w'.cell? ⟨w.heap.size, 2, none⟩ = some (.complex .f64 mr mi) ∧ w'.cell? ⟨w.heap.size + 1, 0, none⟩ = some (.complex .f64 ur ui) ∧ w'.cell? ⟨w.heap.size + 1, 1, none⟩ = some (.bool true) ∧ w'.cell? ⟨w.heap.size + 1, 2, none⟩ = some (.complex .f64 nr ni) ∧ Below w3.heap.size w3 w')
    (first | exact keep6 KAS KBS (Below.drew (same w3)) | exact keep6n KAS KBS (by assumption) hb1 | exact keep6a KAS KBS (by assumption) _ | exact keep6o KAS KBS (by assumption) (by omega) | exact keep6s KAS KBS (keep6s KAS KBS (keep6s KAS KBS (by assumption) (by dsimp only; omega) _) (by dsimp only; omega) _) (by dsimp only; omega) _)
    (first | (go_at_call 63; ((with_reducible refine (does_calls _ _ _ _ _ _ _ _ _ _ _ _ _ hb ha.mr ha.mi (by omega) (by omega) (by omega) (by omega)).mono ?_); rintro e w4 ⟨zr, zi, rfl, hzr, hzi, hb1⟩; have hbd := hb1; rw [LX.out] at hzr; rw [LY.out] at hzi; have hzr := Lib.hid hzr; have hzi := Lib.hid hzi; obtain ⟨hcz, hfz⟩ := bcell hb1; have hup := up hb1; have hsz := hb1.size; (try simp at hsz))) | (go_at_call 59; ((with_reducible refine (made_calls _ _ _ _ _ _ _ _ _ (hm _ _ hzr.out hzi.out) (by omega) (by omega)).mono ?_); rintro e w5 ⟨xr, xi, yr, yi, rfl, hx, hb1⟩; have hbm := hb1; obtain ⟨hcz2, hfz2⟩ := bcell hb1; have hup2 := up hb1; have hsz2 := hb1.size; (try simp at hsz2))))
  all_goals
    rename_i hH
    replace hB := hBS.trans (hH.2.2.2.2.2.2.mono hBS.size)
    replace KR := bk_below KRS hH.2.2.2.2.2.2
    first
      | (have KM : w5.heap[w3.heap.size]? = some _ := bk_below (bk_below (bk_drew (bk_new w3 _)) hbd) hbm
         have hcM := bk_cell KM; have hfM := bk_free KM; have hlM := bk_lt KM)
      | skip
    have hcR := bk_cell KR; have hfR := bk_free KR; have hlR := bk_lt KR
    clear hH
    go_wp2_with (first | fail)
    refine (Valid_calls _ _ _ _ _ _ _ _ _ hx (by omega) (by omega)).mono ?_
    rintro e w6 ⟨rfl, hb1⟩
    rw [HN3.out]
    obtain ⟨hcy, hfy⟩ := bcell hb1
    have hupy := up hb1
    replace hB := next hB hb1; replace KR := bk_below KR hb1; have hcKR := bk_cell KR; have hfKR := bk_free KR; have hlKR := bk_lt KR
    go_wp2_with (first | fail)
    refine end_ct (w.heap.size + 1 + 1) 41 rfl rfl rfl Try.underlying41 rfl ?_
    apply Exists.intro
    refine ⟨(by repeat (with_reducible (first | exact KR | apply bk_set | refine bk_drew ?_ | refine bk_drewN ?_ _ | refine bk_alloc ?_ _ | refine bk_far ?_ (by simp; try omega) _))), by kernel_rfl, ?_⟩
    exact ⟨_, _, _, _, rfl, hx, (by repeat (with_reducible (first | exact hBw.trans (hB.mono hBw.size) | refine Below.setCell ?_ (by have h1_ := hBw.size; have h2_ := hB.size; (try simp) <;> omega) _ | refine Below.drew ?_ | refine Below.alloc ?_ (by have h1_ := hBw.size; have h2_ := hB.size; (try simp) <;> omega) _)))⟩

end Go.Proofs.Ytfdehecekghlmaa
