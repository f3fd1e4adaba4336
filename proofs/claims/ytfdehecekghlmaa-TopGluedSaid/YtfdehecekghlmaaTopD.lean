/- The walk of the law TopGlued: the steps. -/
import Derived.Test.YtfdehecekghlmaaTopC
set_option linter.unusedVariables false
set_option linter.unusedSimpArgs false
namespace Go.Proofs.Ytfdehecekghlmaa
open Go.RowKit Go.Viv Go.Proofs.Ytfdehecekghlmaa.PFoldRing
attribute [local go_sem] run_store_complex run_store_float
set_option maxRecDepth 20000 in
set_option maxHeartbeats 3000000 in
theorem Top_yes (k W H t s x y : Int) (ad : Option Addr) (n c : Nat) (l : List Int) (w : World) (t0 : 0 ≤ t) (h : checkE k W H t s = 0) (hg : gluedI k = true) (hn : tnear x y = true) (hln : l.length = n) (hzb : ∀ z ∈ l, 0 ≤ z ∧ z ≤ 255)
    (hl : 0 < n → ∃ b off, ad = some ⟨b, off, none⟩ ∧ ∀ (i : Nat) (z : Int), l[i]? = some z → w.cell? ⟨b, off + i, none⟩ = some (.int .u8 z)) : Calls Try.prog 9 #[topoV k W H t s, pt x y, .slice ad n c] w (Ret (.bool true) w) := by
  have hok := topoOk t0 h
  obtain ⟨nx, ny⟩ := tnear_near hn
  obtain ⟨e0, _, _, a1, a2, a3, a4, e1, o1, o2⟩ := cell_facts hok h hg nx ny
  have c1 := fun w => refCheck_calls k W H t s w t0
  have c2 := fun w => refGlued_calls k W H t s w
  have c3 := fun w => tnear_calls x y w
  have c4 := fun w => Glue_calls k W H t s w t0
  have c5 := fun w => CellF_calls k W H t s x y w t0
  have c6 := fun w => CellF_calls k W H t s (cellX k W H t s x y) (cellY k W H t s x y) w t0
  have c7 := fun w => rHas_ok k W H t s (cellX k W H t s x y) (cellY k W H t s x y) w t0 h a1 a2 a3 a4
  have c8 := fun w => Ring_calls k W H t s x y w t0
  have rf := fun he => ring_facts hok h hg nx ny he
  rw [h] at c1; rw [hg] at c2; rw [hn] at c3
  rw [show glueE k W H t s = 0 from if_neg (by simp [h])] at c4
  rw [e0] at c5; rw [e1, o1, o2] at c6
  have ga := glue_at hok
  have stp := fun (m : Mv) (b : Bool) (qx qy : Int) hm hx hy hx' hy' => step_facts (m := m) (qx := qx) (qy := qy) b hok h hg hm hx hy hx' hy'
  have sm := fun (x' y' : Int) hx' hy' c1 c2 => same_facts (x := x) (y := y) (x' := x') (y' := y') hok h hg nx ny hx' hy' c1 c2
  have cf := fun (a b : Int) ha hb => (cell_facts (x := a) (y := b) hok h hg ha hb).1
  have cq := fun (a b : Int) w => CellF_calls k W H t s a b w t0
  have sq := fun (a b : Int) w => Same_calls k W H t s x y a b w t0
  obtain ⟨CX, hCX⟩ : ∃ P, cellX k W H t s x y = P := ⟨_, rfl⟩
  obtain ⟨CY, hCY⟩ : ∃ P, cellY k W H t s x y = P := ⟨_, rfl⟩
  obtain ⟨RX, hRX⟩ : ∃ P, ringX k W H t s x y = P := ⟨_, rfl⟩
  obtain ⟨RY, hRY⟩ : ∃ P, ringY k W H t s x y = P := ⟨_, rfl⟩
  obtain ⟨RB, hRB⟩ : ∃ P, ringB k W H t s x y = P := ⟨_, rfl⟩
  obtain ⟨RE, hRE⟩ : ∃ P, ringE k W H t s x y = P := ⟨_, rfl⟩
  have q0 : cellX k W H t s x y = CX ∧ cellY k W H t s x y = CY := ⟨hCX, hCY⟩
  rw [hCX, hCY] at c5 c6 c7 rf sm
  rw [hRX, hRY, hRB, hRE] at c8
  rw [hRX, hRY, hRB, hRE] at rf
  obtain ⟨L, hL⟩ : ∃ L, glueL k W H t s = L := ⟨_, rfl⟩
  rw [hL] at c4 ga stp
  have C1 := Lib.hid c1; have C2 := Lib.hid c2; have C3 := Lib.hid c3; have C4 := Lib.hid c4; have C5 := Lib.hid c5; have C6 := Lib.hid c6; have C7 := Lib.hid c7; have C8 := Lib.hid c8; have RF := Lib.hid rf; have GA := Lib.hid ga; have STP := Lib.hid stp; have SM := Lib.hid sm; have CF := Lib.hid cf; have CQ := Lib.hid cq; have SQ := Lib.hid sq; have Q0 := Lib.hid q0; have HT := Lib.hid hn; have HL := Lib.hid hl; have HZ := Lib.hid hzb; have HLN := Lib.hid hln
  clear c1 c2 c3 c4 c5 c6 c7 c8 rf ga stp sm cf cq sq q0 hCX hCY hRX hRY hRB hRE hL e0 e1 o1 o2 a1 a2 a3 a4 hn hl hzb hln h hg hok nx ny
  have K1 : ((w.alloc (.cells #[.int .u8 k, .int .i64 W, .int .i64 H, .int .u8 t, .int .i64 s] 23)).alloc (.cells #[.int .i64 x, .int .i64 y] 25)).heap[w.heap.size]? = some (.cells #[.int .u8 k, .int .i64 W, .int .i64 H, .int .u8 t, .int .i64 s] 23 (0, 0)) := (bk_alloc (bk_new _ _) _)
  have K2 : ((w.alloc (.cells #[.int .u8 k, .int .i64 W, .int .i64 H, .int .u8 t, .int .i64 s] 23)).alloc (.cells #[.int .i64 x, .int .i64 y] 25)).heap[w.heap.size + 1]? = some (.cells #[.int .i64 x, .int .i64 y] 25 (0, 0)) := (by have := bk_new (w.alloc (.cells #[.int .u8 k, .int .i64 W, .int .i64 H, .int .u8 t, .int .i64 s] 23)) (.cells #[.int .i64 x, .int .i64 y] 25); simpa only [World.size_alloc] using this)
  have hBw : Below w.heap.size w ((w.alloc (.cells #[.int .u8 k, .int .i64 W, .int .i64 H, .int .u8 t, .int .i64 s] 23)).alloc (.cells #[.int .i64 x, .int .i64 y] 25)) := (boxed _ _).alloc (by simp) _
  go_enter Try.func9, Try.ntmps9
  go_wp2_with (first | fail)
  generalize hW0 : ((w.alloc (.cells #[.int .u8 k, .int .i64 W, .int .i64 H, .int .u8 t, .int .i64 s] 23)).alloc (.cells #[.int .i64 x, .int .i64 y] 25)) = W0 at *
  clear hW0
  have hB := same W0
  have K10 := K1
  have K20 := K2
  refine (glues_calls _).mono ?_
  rintro e w1 ⟨rfl, hb1⟩
  replace hB := next hB hb1; replace K1 := bk_below K1 hb1; have hcK1 := bk_cell K1; have hfK1 := bk_free K1; have hlK1 := bk_lt K1; replace K2 := bk_below K2 hb1; have hcK2 := bk_cell K2; have hfK2 := bk_free K2; have hlK2 := bk_lt K2
  go_wp2_with (first | fail)
  refine (C1.out _).mono ?_
  rintro e w2 ⟨rfl, hb1⟩
  replace hB := next hB hb1; replace K1 := bk_below K1 hb1; have hcK1 := bk_cell K1; have hfK1 := bk_free K1; have hlK1 := bk_lt K1; replace K2 := bk_below K2 hb1; have hcK2 := bk_cell K2; have hfK2 := bk_free K2; have hlK2 := bk_lt K2
  go_wp2_with (first | fail)
  refine (C2.out _).mono ?_
  rintro e w3 ⟨rfl, hb1⟩
  replace hB := next hB hb1; replace K1 := bk_below K1 hb1; have hcK1 := bk_cell K1; have hfK1 := bk_free K1; have hlK1 := bk_lt K1; replace K2 := bk_below K2 hb1; have hcK2 := bk_cell K2; have hfK2 := bk_free K2; have hlK2 := bk_lt K2
  go_wp2_with (first | fail)
  refine (C3.out _).mono ?_
  rintro e w4 ⟨rfl, hb1⟩
  replace hB := next hB hb1; replace K1 := bk_below K1 hb1; have hcK1 := bk_cell K1; have hfK1 := bk_free K1; have hlK1 := bk_lt K1; replace K2 := bk_below K2 hb1; have hcK2 := bk_cell K2; have hfK2 := bk_free K2; have hlK2 := bk_lt K2
  go_wp2_with (first | fail)
  refine (C4.out _).mono ?_
  rintro e w5 ⟨vm, rfl, hb1, om⟩
  obtain ⟨N, hNL⟩ : ∃ N, L.length = N := ⟨_, rfl⟩
  rw [hNL] at om
  have HN := Lib.hid hNL; clear hNL
  replace hB := next hB hb1; replace K1 := bk_below K1 hb1; have hcK1 := bk_cell K1; have hfK1 := bk_free K1; have hlK1 := bk_lt K1; replace K2 := bk_below K2 hb1; have hcK2 := bk_cell K2; have hfK2 := bk_free K2; have hlK2 := bk_lt K2
  have hM := same w5
  go_wp2_with (first | fail)
  refine (C5.out _).mono ?_
  rintro e w6 ⟨rfl, hb1⟩
  replace hB := next hB hb1; replace K1 := bk_below K1 hb1; have hcK1 := bk_cell K1; have hfK1 := bk_free K1; have hlK1 := bk_lt K1; replace K2 := bk_below K2 hb1; have hcK2 := bk_cell K2; have hfK2 := bk_free K2; have hlK2 := bk_lt K2
  replace hM := next hM hb1
  have KC := bk_new w6 (.cells #[.int .i64 CX, .int .i64 CY] 25)
  go_wp2_with (first | fail)
  refine (C6.out _).mono ?_
  rintro e w7 ⟨rfl, hb1⟩
  replace hB := next hB (box hb1); replace K1 := bk_below K1 (box hb1); have hcK1 := bk_cell K1; have hfK1 := bk_free K1; have hlK1 := bk_lt K1; replace K2 := bk_below K2 (box hb1); have hcK2 := bk_cell K2; have hfK2 := bk_free K2; have hlK2 := bk_lt K2
  replace hM := next hM (box hb1)
  replace KC := bk_below KC hb1; have hcC := bk_cell KC; have hlC := bk_lt KC
  have KD := bk_new w7 (.cells #[.int .i64 CX, .int .i64 CY] 25)
  go_wp2_with (first | fail)
  refine (C7.out _).mono ?_
  rintro e w8 ⟨rfl, hb1⟩
  replace hB := next hB (box hb1); replace K1 := bk_below K1 (box hb1); have hcK1 := bk_cell K1; have hfK1 := bk_free K1; have hlK1 := bk_lt K1; replace K2 := bk_below K2 (box hb1); have hcK2 := bk_cell K2; have hfK2 := bk_free K2; have hlK2 := bk_lt K2
  replace hM := next hM (box hb1)
  replace KC := bk_below KC (box hb1); have hcC := bk_cell KC; have hlC := bk_lt KC
  replace KD := bk_below KD hb1; have hcD := bk_cell KD; have hlD := bk_lt KD
  go_wp2_with (first | fail)
  refine (C8.out _).mono ?_
  rintro e w9 ⟨rfl, hb1⟩
  replace hB := next hB hb1; replace K1 := bk_below K1 hb1; have hcK1 := bk_cell K1; have hfK1 := bk_free K1; have hlK1 := bk_lt K1; replace K2 := bk_below K2 hb1; have hcK2 := bk_cell K2; have hfK2 := bk_free K2; have hlK2 := bk_lt K2
  replace hM := next hM hb1
  replace KC := bk_below KC hb1; have hcC := bk_cell KC; have hlC := bk_lt KC
  clear KD hcD hlD
  have hring : (RE == 0) = false ∨ ((RE == 0) = true ∧ true = RB ∧ CX = RX ∧ CY = RY) := by
    by_cases hre : RE = 0
    · obtain ⟨q1, q2, q3⟩ := RF.out hre
      exact .inr ⟨by simpa using hre, q1.symm, q2.symm, q3.symm⟩
    · exact .inl (by simpa using hre)
  rcases hring with hre | ⟨hre, rfl, rfl, rfl⟩
  · go_wp2_with (first | fail)
    have K1S := K1; have K2S := K2; have KCS := KC
    have hB9 := hB
    rcases ownsRow_forms_ om with ⟨rfl, hN0⟩ | ⟨gm, cm, rfl⟩
    · have hR := (boxed w9 (.cells #[.int .i64 RX, .int .i64 RY] 25)).alloc (by simp) (.cells #[.int .i64 x, .int .i64 y] 25)
      refine wp_loop_rounds 1 ?_
      rw [rounds_succ]
      by_cases hp : 0 < n
      all_goals
        go_wp2
        go_ret
        exact Ret.of rfl (hBw.trans (Below.mono (hB.trans (Below.mono (by repeat (with_reducible (first | exact hR | refine Below.setCell ?_ (by have h2_ := hR.size; (try simp) <;> omega) _ | refine Below.alloc ?_ (by have h2_ := hR.size; (try simp) <;> omega) _))) hB.size)) hBw.size))
    · have hmv := Lib.hid ((mvs_of HN.out.symm om).below hM)
      have KQ := bk_newn (w9.alloc (.cells #[.int .i64 RX, .int .i64 RY] 25)) (.cells #[.int .i64 x, .int .i64 y] 25) (w9.heap.size + 1) (by simp)
      have hR := (boxed w9 (.cells #[.int .i64 RX, .int .i64 RY] 25)).alloc (by simp) (.cells #[.int .i64 x, .int .i64 y] 25)
      clear om hM K1 K2 KC hcK1 hcK2 hcC hlK1 hlK2 hlC
      go_loopw [19] (fun i wr => ∃ (j : Nat) (qx qy : Int), i = .int .i64 j ∧ j ≤ n ∧ j ≤ 1000 ∧ wr.heap[w9.heap.size + 1]? = some (.cells #[.int .i64 qx, .int .i64 qy] 25 (0, 0)) ∧ Hid (tnear qx qy = true) ∧ Hid (cellX k W H t s qx qy = CX ∧ cellY k W H t s qx qy = CY) ∧ Below w9.heap.size w9 wr) (fun i _ => n - (intOf i).toNat)
      case atStart => exact ⟨0, x, y, rfl, Nat.zero_le _, Nat.zero_le _, KQ, HT, Q0, hR⟩
      clear KQ hR
      obtain ⟨j, qx, qy, rfl, hj, hj2, KQ, HTQ, HQ, hR⟩ := hrel
      have K1 := bk_below K1S hR; have hcK1 := bk_cell K1; have hlK1 := bk_lt K1
      have K2 := bk_below K2S hR; have hcK2 := bk_cell K2; have hlK2 := bk_lt K2
      have KC := bk_below KCS hR; have hcKC := bk_cell KC; have hlKC := bk_lt KC
      have hcQ := bk_cell KQ; have hfQ := bk_free KQ; have hlQ := bk_lt KQ
      by_cases g1 : j < n
      · by_cases g2 : j < 1000
        · by_cases g3 : 0 < N
          · obtain ⟨b, off, rfl, hc⟩ := HL.out (by omega)
            obtain ⟨z, hz⟩ : ∃ z, l[j]? = some z := ⟨_, List.getElem?_eq_getElem (by rw [HLN.out]; exact g1)⟩
            have hcz : wr.cell? ⟨b, off + j, none⟩ = some (.int .u8 z) := cell_later (hBw.trans (Below.mono (hB.trans (hR.mono hB.size)) hBw.size)) (hc j z hz)
            have hbl := cell_lt hcz
            obtain ⟨z0, z1⟩ := HZ.out z (List.mem_of_getElem? hz)
            clear hc hz
            obtain ⟨D, hD⟩ : ∃ D, z.tdiv 2 = D := ⟨_, rfl⟩
            have hD2 : D = z / 2 := by rw [← hD]; exact Int.tdiv_eq_ediv_of_nonneg z0
            have D0 : 0 ≤ D := by omega
            have D1 : D ≤ 127 := by omega
            clear hD2
            obtain ⟨r, hr, hr2⟩ : ∃ r : Nat, D.tmod (N : Int) = (r : Int) ∧ r < N := by
              have e_ : D.tmod (N : Int) = D % N := Int.tmod_eq_emod_of_nonneg D0
              have p1 := Int.emod_nonneg D (by omega : (N : Int) ≠ 0)
              have p2 := Int.emod_lt_of_pos D (by omega : (0 : Int) < N)
              exact ⟨(D % N).toNat, by rw [e_]; omega, by omega⟩
            obtain ⟨m, hm⟩ : ∃ m, L[r]? = some m := ⟨_, List.getElem?_eq_getElem (by rw [HN.out]; exact hr2)⟩
            have hmem := List.mem_of_getElem? hm
            have hm0 : wr.cell? ⟨gm, r * 3, none⟩ = some (.complex .f64 (mvR m.k) 0) := cell_later hR (hmv.out r m hm).1
            have hm1 : wr.cell? ⟨gm, r * 3 + 1, none⟩ = some (.bool m.f) := cell_later hR (hmv.out r m hm).2.1
            have hm2 : wr.cell? ⟨gm, r * 3 + 2, none⟩ = some (.complex .f64 (fl m.x) (fl m.y)) := cell_later hR (hmv.out r m hm).2.2
            clear hm
            obtain ⟨ga1, ga2, ga3, ga4, ga5⟩ := GA.out m hmem
            obtain ⟨nqx, nqy⟩ := tnear_near HTQ.out
            have b1_ := nearI_abs ga1; have b2_ := nearI_abs ga2
            have KM := bk_new wr (.cells #[.complex .f64 (mvR m.k) 0, .bool m.f, .complex .f64 (fl m.x) (fl m.y)] 41)
            have hsz9 := hR.size
            have z2 := tmod_2 z
            rcases (show z.tmod 2 = 0 ∨ z.tmod 2 = 1 by have h_ := Int.tmod_nonneg 2 z0; omega) with hz2 | hz2
            · have hI : IsIso (mvR m.k) 0 (fl m.x) (fl m.y) m.k m.x m.y := mvR_isIso ga5 (isW_fl _ (by omega)) (isW_fl _ (by omega))
              have nX := ga1; have nY := ga2
              have hNXd : True := trivial
              clear ga3 ga4 b1_ b2_
              go_wp2_with (first | fail)
              clear hcz hm0 hm1 hm2 hr hD hz2
              replace hR := next9 hR (boxed wr (.cells #[.complex .f64 (mvR m.k) 0, .bool m.f, .complex .f64 (fl m.x) (fl m.y)] 41))
              replace KQ := bk_alloc KQ (.cells #[.complex .f64 (mvR m.k) 0, .bool m.f, .complex .f64 (fl m.x) (fl m.y)] 41)
              clear K1 K2 KC hcK1 hcK2 hcKC hlK1 hlK2 hlKC
              have at1 := fun w => AtM_calls _ _ _ _ m.f m.k m.x m.y qx qy w hI nX nY nqx nqy
              have at1 := fun w => (at1 w)
              obtain ⟨NX, hNX⟩ : ∃ P, linX m.k m.f qx qy + m.x = P := ⟨_, rfl⟩
              obtain ⟨NY, hNY⟩ : ∃ P, linY m.k m.f qx qy + m.y = P := ⟨_, rfl⟩
              rw [hNX, hNY] at at1
              have st1 := STP.out m false qx qy hmem nqx nqy
              have gx : fwdX (if false = true then bckM m else m) qx qy = NX := hNX
              have gy : fwdY (if false = true then bckM m else m) qx qy = NY := hNY
              rw [gx, gy] at st1
              clear gx gy hNX hNY
              have ST1 := Lib.hid st1; have AT1 := Lib.hid at1
              clear st1 at1
              cases hnr : (nearI NX && nearI NY)
              · have AT2 := AT1.out; rw [hnr] at AT2
                refine (AT2 _).mono ?_
                rintro e wa ⟨rfl, hb1⟩
                replace hR := next9 hR hb1
                clear AT1 AT2 ST1 hnr
                go_wp2_with (first | fail)
                refine (tnear_calls 0 0 _).mono ?_
                rintro e wb ⟨rfl, hb1⟩
                rw [show tnear 0 0 = true from by decide]
                replace hR := next9 hR (box hb1)
                go_wp2
                go_ret
                exact Ret.of rfl (hBw.trans (Below.mono (hB.trans (Below.mono (by repeat (with_reducible (first | exact hR | refine Below.setCell ?_ (by have h2_ := hR.size; (try simp) <;> omega) _ | refine Below.alloc ?_ (by have h2_ := hR.size; (try simp) <;> omega) _))) hB.size)) hBw.size))
              · have AT2 := AT1.out; rw [hnr] at AT2
                refine (AT2 _).mono ?_
                rintro e wa ⟨rfl, hb1⟩
                replace hR := next9 hR hb1
                replace KQ := bk_below KQ hb1
                simp only [Bool.and_eq_true] at hnr
                obtain ⟨cX, cY⟩ := ST1.out hnr.1 hnr.2
                rw [HQ.out.1] at cX; rw [HQ.out.2] at cY
                have e2 := CF.out NX NY hnr.1 hnr.2
                have s2 := SM.out NX NY hnr.1 hnr.2 cX cY
                have cl := CQ.out NX NY; have sl := SQ.out NX NY
                rw [cX, cY, e2] at cl
                rw [s2.1, s2.2] at sl
                have CL := Lib.hid cl; have SL := Lib.hid sl; have HQ2 := Lib.hid (And.intro cX cY)
                clear AT1 AT2 ST1 hnr cX cY e2 s2 cl sl
                have KX := bk_new wa (.cells #[.int .i64 NX, .int .i64 NY] 25)
                go_wp2_with (first | fail)
                refine (tnear_calls NX NY _).mono ?_
                rintro e wb ⟨rfl, hb1⟩
                replace hR := next9 hR (box hb1)
                replace KQ := bk_below KQ (box hb1)
                replace KX := bk_below KX hb1
                cases htn : tnear NX NY
                · clear CL SL HQ2 KX
                  go_wp2
                  go_ret
                  exact Ret.of rfl (hBw.trans (Below.mono (hB.trans (Below.mono (by repeat (with_reducible (first | exact hR | refine Below.setCell ?_ (by have h2_ := hR.size; (try simp) <;> omega) _ | refine Below.alloc ?_ (by have h2_ := hR.size; (try simp) <;> omega) _))) hB.size)) hBw.size))
                · have HTN := Lib.hid htn; clear htn
                  have hcX := bk_cell KX; have hlX := bk_lt KX
                  have K1 := bk_below K1S hR; have hcK1 := bk_cell K1; have hlK1 := bk_lt K1
                  have K2 := bk_below K2S hR; have hcK2 := bk_cell K2; have hlK2 := bk_lt K2
                  have KC := bk_below KCS hR; have hcKC := bk_cell KC; have hlKC := bk_lt KC
                  go_wp2_with (first | fail)
                  refine (CL.out _).mono ?_
                  rintro e wc ⟨rfl, hb1⟩
                  replace hR := next9 hR hb1
                  replace KQ := bk_below KQ hb1
                  replace KX := bk_below KX hb1; have hcX := bk_cell KX; have hlX := bk_lt KX
                  have K1 := bk_below K1S hR; have hcK1 := bk_cell K1; have hlK1 := bk_lt K1
                  have K2 := bk_below K2S hR; have hcK2 := bk_cell K2; have hlK2 := bk_lt K2
                  have KC := bk_below KCS hR; have hcKC := bk_cell KC; have hlKC := bk_lt KC
                  have KE := bk_new wc (.cells #[.int .i64 CX, .int .i64 CY] 25)
                  go_wp2_with (first | fail)
                  refine (SL.out _).mono ?_
                  rintro e wd ⟨rfl, hb1⟩
                  replace hR := next9 hR (box hb1)
                  replace KQ := bk_below KQ (box hb1); have hcQ := bk_cell KQ; have hfQ := bk_free KQ; have hlQ := bk_lt KQ
                  replace KX := bk_below KX (box hb1); have hcX := bk_cell KX; have hlX := bk_lt KX
                  replace KE := bk_below KE hb1; have hcE := bk_cell KE; have hlE := bk_lt KE
                  have K1 := bk_below K1S hR; have hcK1 := bk_cell K1; have hlK1 := bk_lt K1
                  have K2 := bk_below K2S hR; have hcK2 := bk_cell K2; have hlK2 := bk_lt K2
                  have KC := bk_below KCS hR; have hcKC := bk_cell KC; have hlKC := bk_lt KC
                  go_wp2
                  go_roundw
                  case rel => exact ⟨j + 1, NX, NY, by go_num, by omega, by omega, bk_eq (by repeat (with_reducible (first | exact KQ | apply bk_set | refine bk_drew ?_ | refine bk_drewN ?_ _ | refine bk_alloc ?_ _ | refine bk_far ?_ (by simp; try omega) _))) (by simp), HTN, HQ2, (by repeat (with_reducible (first | exact hR | refine Below.setCell ?_ (by simp) _)))⟩
                  case measure => simp [intOf]; omega
            · go_wp2_with (first | fail)
              refine (BackM_calls m _ ga5 ga1 ga2).mono ?_
              rintro e wk ⟨xr, xi, yr, yi, rfl, hI, hb1⟩
              rw [show (bckM m).f = m.f from rfl]
              have nX := ga3; have nY := ga4
              have hlQr := hlQ
              replace hR := next9 hR (box hb1)
              replace KQ := bk_below KQ (box hb1); have hcQ := bk_cell KQ; have hfQ := bk_free KQ; have hlQ := bk_lt KQ
              replace KM := bk_below KM hb1
              have hcM := bk_cell KM; have hfM := bk_free KM; have hlM := bk_lt KM
              clear hcz hm0 hm1 hm2 hr hD hz2 K1 K2 KC hcK1 hcK2 hcKC hlK1 hlK2 hlKC
              go_wp2_with (first | fail)
              have hR2 : Below w9.heap.size w9 ((((wk.setCell ⟨wr.heap.size, 0, none⟩ (.complex .f64 xr xi)).setCell ⟨wr.heap.size, 1, none⟩ (.bool m.f)).setCell ⟨wr.heap.size, 2, none⟩ (.complex .f64 yr yi)).alloc (.cells #[.complex .f64 xr xi, .bool m.f, .complex .f64 yr yi] 41)) := by
                repeat (with_reducible (first | exact hR | refine Below.setCell ?_ (by simp; try omega) _ | refine Below.alloc ?_ (by have h2_ := hR.size; (try simp) <;> omega) _))
              have KQ2 : ((((wk.setCell ⟨wr.heap.size, 0, none⟩ (.complex .f64 xr xi)).setCell ⟨wr.heap.size, 1, none⟩ (.bool m.f)).setCell ⟨wr.heap.size, 2, none⟩ (.complex .f64 yr yi)).alloc (.cells #[.complex .f64 xr xi, .bool m.f, .complex .f64 yr yi] 41)).heap[w9.heap.size + 1]? = some (.cells #[.int .i64 qx, .int .i64 qy] 25 (0, 0)) := (by repeat (with_reducible (first | exact KQ | apply bk_set | refine bk_drew ?_ | refine bk_drewN ?_ _ | refine bk_alloc ?_ _ | refine bk_far ?_ (by simp; try omega) _)))
              clear hR KQ hcQ hfQ KM hcM hfM hlM hb1
              generalize ((((wk.setCell ⟨wr.heap.size, 0, none⟩ (.complex .f64 xr xi)).setCell ⟨wr.heap.size, 1, none⟩ (.bool m.f)).setCell ⟨wr.heap.size, 2, none⟩ (.complex .f64 yr yi)).alloc (.cells #[.complex .f64 xr xi, .bool m.f, .complex .f64 yr yi] 41)) = wz at *
              have hR := hR2; have KQ := KQ2; clear hR2 KQ2
              have hlQ := bk_lt KQ
              have at1 := fun w => AtM_calls _ _ _ _ m.f (bckM m).k (bckM m).x (bckM m).y qx qy w hI nX nY nqx nqy
              have at1 := fun w => (at1 w)
              obtain ⟨NX, hNX⟩ : ∃ P, linX (bckM m).k m.f qx qy + (bckM m).x = P := ⟨_, rfl⟩
              obtain ⟨NY, hNY⟩ : ∃ P, linY (bckM m).k m.f qx qy + (bckM m).y = P := ⟨_, rfl⟩
              rw [hNX, hNY] at at1
              have st1 := STP.out m true qx qy hmem nqx nqy
              have gx : fwdX (if true = true then bckM m else m) qx qy = NX := hNX
              have gy : fwdY (if true = true then bckM m else m) qx qy = NY := hNY
              rw [gx, gy] at st1
              clear gx gy hNX hNY
              have ST1 := Lib.hid st1; have AT1 := Lib.hid at1
              clear st1 at1
              cases hnr : (nearI NX && nearI NY)
              · have AT2 := AT1.out; rw [hnr] at AT2
                refine (AT2 _).mono ?_
                rintro e wa ⟨rfl, hb1⟩
                replace hR := next9 hR hb1
                clear AT1 AT2 ST1 hnr
                go_wp2_with (first | fail)
                refine (tnear_calls 0 0 _).mono ?_
                rintro e wb ⟨rfl, hb1⟩
                rw [show tnear 0 0 = true from by decide]
                replace hR := next9 hR (box hb1)
                go_wp2
                go_ret
                exact Ret.of rfl (hBw.trans (Below.mono (hB.trans (Below.mono (by repeat (with_reducible (first | exact hR | refine Below.setCell ?_ (by have h2_ := hR.size; (try simp) <;> omega) _ | refine Below.alloc ?_ (by have h2_ := hR.size; (try simp) <;> omega) _))) hB.size)) hBw.size))
              · have AT2 := AT1.out; rw [hnr] at AT2
                refine (AT2 _).mono ?_
                rintro e wa ⟨rfl, hb1⟩
                replace hR := next9 hR hb1
                replace KQ := bk_below KQ hb1
                simp only [Bool.and_eq_true] at hnr
                obtain ⟨cX, cY⟩ := ST1.out hnr.1 hnr.2
                rw [HQ.out.1] at cX; rw [HQ.out.2] at cY
                have e2 := CF.out NX NY hnr.1 hnr.2
                have s2 := SM.out NX NY hnr.1 hnr.2 cX cY
                have cl := CQ.out NX NY; have sl := SQ.out NX NY
                rw [cX, cY, e2] at cl
                rw [s2.1, s2.2] at sl
                have CL := Lib.hid cl; have SL := Lib.hid sl; have HQ2 := Lib.hid (And.intro cX cY)
                clear AT1 AT2 ST1 hnr cX cY e2 s2 cl sl
                have KX := bk_new wa (.cells #[.int .i64 NX, .int .i64 NY] 25)
                go_wp2_with (first | fail)
                refine (tnear_calls NX NY _).mono ?_
                rintro e wb ⟨rfl, hb1⟩
                replace hR := next9 hR (box hb1)
                replace KQ := bk_below KQ (box hb1)
                replace KX := bk_below KX hb1
                cases htn : tnear NX NY
                · clear CL SL HQ2 KX
                  go_wp2
                  go_ret
                  exact Ret.of rfl (hBw.trans (Below.mono (hB.trans (Below.mono (by repeat (with_reducible (first | exact hR | refine Below.setCell ?_ (by have h2_ := hR.size; (try simp) <;> omega) _ | refine Below.alloc ?_ (by have h2_ := hR.size; (try simp) <;> omega) _))) hB.size)) hBw.size))
                · have HTN := Lib.hid htn; clear htn
                  have hcX := bk_cell KX; have hlX := bk_lt KX
                  have K1 := bk_below K1S hR; have hcK1 := bk_cell K1; have hlK1 := bk_lt K1
                  have K2 := bk_below K2S hR; have hcK2 := bk_cell K2; have hlK2 := bk_lt K2
                  have KC := bk_below KCS hR; have hcKC := bk_cell KC; have hlKC := bk_lt KC
                  go_wp2_with (first | fail)
                  refine (CL.out _).mono ?_
                  rintro e wc ⟨rfl, hb1⟩
                  replace hR := next9 hR hb1
                  replace KQ := bk_below KQ hb1
                  replace KX := bk_below KX hb1; have hcX := bk_cell KX; have hlX := bk_lt KX
                  have K1 := bk_below K1S hR; have hcK1 := bk_cell K1; have hlK1 := bk_lt K1
                  have K2 := bk_below K2S hR; have hcK2 := bk_cell K2; have hlK2 := bk_lt K2
                  have KC := bk_below KCS hR; have hcKC := bk_cell KC; have hlKC := bk_lt KC
                  have KE := bk_new wc (.cells #[.int .i64 CX, .int .i64 CY] 25)
                  go_wp2_with (first | fail)
                  refine (SL.out _).mono ?_
                  rintro e wd ⟨rfl, hb1⟩
                  replace hR := next9 hR (box hb1)
                  replace KQ := bk_below KQ (box hb1); have hcQ := bk_cell KQ; have hfQ := bk_free KQ; have hlQ := bk_lt KQ
                  replace KX := bk_below KX (box hb1); have hcX := bk_cell KX; have hlX := bk_lt KX
                  replace KE := bk_below KE hb1; have hcE := bk_cell KE; have hlE := bk_lt KE
                  have K1 := bk_below K1S hR; have hcK1 := bk_cell K1; have hlK1 := bk_lt K1
                  have K2 := bk_below K2S hR; have hcK2 := bk_cell K2; have hlK2 := bk_lt K2
                  have KC := bk_below KCS hR; have hcKC := bk_cell KC; have hlKC := bk_lt KC
                  go_wp2
                  go_roundw
                  case rel => exact ⟨j + 1, NX, NY, by go_num, by omega, by omega, bk_eq (by repeat (with_reducible (first | exact KQ | apply bk_set | refine bk_drew ?_ | refine bk_drewN ?_ _ | refine bk_alloc ?_ _ | refine bk_far ?_ (by simp; try omega) _))) (by simp), HTN, HQ2, (by repeat (with_reducible (first | exact hR | refine Below.setCell ?_ (by simp) _)))⟩
                  case measure => simp [intOf]; omega
          · go_wp2
            go_ret
            exact Ret.of rfl (hBw.trans (Below.mono (hB.trans (Below.mono (by repeat (with_reducible (first | exact hR | refine Below.setCell ?_ (by have h2_ := hR.size; (try simp) <;> omega) _ | refine Below.alloc ?_ (by have h2_ := hR.size; (try simp) <;> omega) _))) hB.size)) hBw.size))
        · go_wp2
          go_ret
          exact Ret.of rfl (hBw.trans (Below.mono (hB.trans (Below.mono (by repeat (with_reducible (first | exact hR | refine Below.setCell ?_ (by have h2_ := hR.size; (try simp) <;> omega) _ | refine Below.alloc ?_ (by have h2_ := hR.size; (try simp) <;> omega) _))) hB.size)) hBw.size))
      · go_wp2
        go_ret
        exact Ret.of rfl (hBw.trans (Below.mono (hB.trans (Below.mono (by repeat (with_reducible (first | exact hR | refine Below.setCell ?_ (by have h2_ := hR.size; (try simp) <;> omega) _ | refine Below.alloc ?_ (by have h2_ := hR.size; (try simp) <;> omega) _))) hB.size)) hBw.size))
  · go_wp2_with (first | fail)
    have K1S := K1; have K2S := K2; have KCS := KC
    have hB9 := hB
    rcases ownsRow_forms_ om with ⟨rfl, hN0⟩ | ⟨gm, cm, rfl⟩
    · have hR := (boxed w9 (.cells #[.int .i64 CX, .int .i64 CY] 25)).alloc (by simp) (.cells #[.int .i64 x, .int .i64 y] 25)
      refine wp_loop_rounds 1 ?_
      rw [rounds_succ]
      by_cases hp : 0 < n
      all_goals
        go_wp2
        go_ret
        exact Ret.of rfl (hBw.trans (Below.mono (hB.trans (Below.mono (by repeat (with_reducible (first | exact hR | refine Below.setCell ?_ (by have h2_ := hR.size; (try simp) <;> omega) _ | refine Below.alloc ?_ (by have h2_ := hR.size; (try simp) <;> omega) _))) hB.size)) hBw.size))
    · have hmv := Lib.hid ((mvs_of HN.out.symm om).below hM)
      have KQ := bk_newn (w9.alloc (.cells #[.int .i64 CX, .int .i64 CY] 25)) (.cells #[.int .i64 x, .int .i64 y] 25) (w9.heap.size + 1) (by simp)
      have hR := (boxed w9 (.cells #[.int .i64 CX, .int .i64 CY] 25)).alloc (by simp) (.cells #[.int .i64 x, .int .i64 y] 25)
      clear om hM K1 K2 KC hcK1 hcK2 hcC hlK1 hlK2 hlC
      go_loopw [19] (fun i wr => ∃ (j : Nat) (qx qy : Int), i = .int .i64 j ∧ j ≤ n ∧ j ≤ 1000 ∧ wr.heap[w9.heap.size + 1]? = some (.cells #[.int .i64 qx, .int .i64 qy] 25 (0, 0)) ∧ Hid (tnear qx qy = true) ∧ Hid (cellX k W H t s qx qy = CX ∧ cellY k W H t s qx qy = CY) ∧ Below w9.heap.size w9 wr) (fun i _ => n - (intOf i).toNat)
      case atStart => exact ⟨0, x, y, rfl, Nat.zero_le _, Nat.zero_le _, KQ, HT, Q0, hR⟩
      clear KQ hR
      obtain ⟨j, qx, qy, rfl, hj, hj2, KQ, HTQ, HQ, hR⟩ := hrel
      have K1 := bk_below K1S hR; have hcK1 := bk_cell K1; have hlK1 := bk_lt K1
      have K2 := bk_below K2S hR; have hcK2 := bk_cell K2; have hlK2 := bk_lt K2
      have KC := bk_below KCS hR; have hcKC := bk_cell KC; have hlKC := bk_lt KC
      have hcQ := bk_cell KQ; have hfQ := bk_free KQ; have hlQ := bk_lt KQ
      by_cases g1 : j < n
      · by_cases g2 : j < 1000
        · by_cases g3 : 0 < N
          · obtain ⟨b, off, rfl, hc⟩ := HL.out (by omega)
            obtain ⟨z, hz⟩ : ∃ z, l[j]? = some z := ⟨_, List.getElem?_eq_getElem (by rw [HLN.out]; exact g1)⟩
            have hcz : wr.cell? ⟨b, off + j, none⟩ = some (.int .u8 z) := cell_later (hBw.trans (Below.mono (hB.trans (hR.mono hB.size)) hBw.size)) (hc j z hz)
            have hbl := cell_lt hcz
            obtain ⟨z0, z1⟩ := HZ.out z (List.mem_of_getElem? hz)
            clear hc hz
            obtain ⟨D, hD⟩ : ∃ D, z.tdiv 2 = D := ⟨_, rfl⟩
            have hD2 : D = z / 2 := by rw [← hD]; exact Int.tdiv_eq_ediv_of_nonneg z0
            have D0 : 0 ≤ D := by omega
            have D1 : D ≤ 127 := by omega
            clear hD2
            obtain ⟨r, hr, hr2⟩ : ∃ r : Nat, D.tmod (N : Int) = (r : Int) ∧ r < N := by
              have e_ : D.tmod (N : Int) = D % N := Int.tmod_eq_emod_of_nonneg D0
              have p1 := Int.emod_nonneg D (by omega : (N : Int) ≠ 0)
              have p2 := Int.emod_lt_of_pos D (by omega : (0 : Int) < N)
              exact ⟨(D % N).toNat, by rw [e_]; omega, by omega⟩
            obtain ⟨m, hm⟩ : ∃ m, L[r]? = some m := ⟨_, List.getElem?_eq_getElem (by rw [HN.out]; exact hr2)⟩
            have hmem := List.mem_of_getElem? hm
            have hm0 : wr.cell? ⟨gm, r * 3, none⟩ = some (.complex .f64 (mvR m.k) 0) := cell_later hR (hmv.out r m hm).1
            have hm1 : wr.cell? ⟨gm, r * 3 + 1, none⟩ = some (.bool m.f) := cell_later hR (hmv.out r m hm).2.1
            have hm2 : wr.cell? ⟨gm, r * 3 + 2, none⟩ = some (.complex .f64 (fl m.x) (fl m.y)) := cell_later hR (hmv.out r m hm).2.2
            clear hm
            obtain ⟨ga1, ga2, ga3, ga4, ga5⟩ := GA.out m hmem
            obtain ⟨nqx, nqy⟩ := tnear_near HTQ.out
            have b1_ := nearI_abs ga1; have b2_ := nearI_abs ga2
            have KM := bk_new wr (.cells #[.complex .f64 (mvR m.k) 0, .bool m.f, .complex .f64 (fl m.x) (fl m.y)] 41)
            have hsz9 := hR.size
            have z2 := tmod_2 z
            rcases (show z.tmod 2 = 0 ∨ z.tmod 2 = 1 by have h_ := Int.tmod_nonneg 2 z0; omega) with hz2 | hz2
            · have hI : IsIso (mvR m.k) 0 (fl m.x) (fl m.y) m.k m.x m.y := mvR_isIso ga5 (isW_fl _ (by omega)) (isW_fl _ (by omega))
              have nX := ga1; have nY := ga2
              have hNXd : True := trivial
              clear ga3 ga4 b1_ b2_
              go_wp2_with (first | fail)
              clear hcz hm0 hm1 hm2 hr hD hz2
              replace hR := next9 hR (boxed wr (.cells #[.complex .f64 (mvR m.k) 0, .bool m.f, .complex .f64 (fl m.x) (fl m.y)] 41))
              replace KQ := bk_alloc KQ (.cells #[.complex .f64 (mvR m.k) 0, .bool m.f, .complex .f64 (fl m.x) (fl m.y)] 41)
              clear K1 K2 KC hcK1 hcK2 hcKC hlK1 hlK2 hlKC
              have at1 := fun w => AtM_calls _ _ _ _ m.f m.k m.x m.y qx qy w hI nX nY nqx nqy
              have at1 := fun w => (at1 w)
              obtain ⟨NX, hNX⟩ : ∃ P, linX m.k m.f qx qy + m.x = P := ⟨_, rfl⟩
              obtain ⟨NY, hNY⟩ : ∃ P, linY m.k m.f qx qy + m.y = P := ⟨_, rfl⟩
              rw [hNX, hNY] at at1
              have st1 := STP.out m false qx qy hmem nqx nqy
              have gx : fwdX (if false = true then bckM m else m) qx qy = NX := hNX
              have gy : fwdY (if false = true then bckM m else m) qx qy = NY := hNY
              rw [gx, gy] at st1
              clear gx gy hNX hNY
              have ST1 := Lib.hid st1; have AT1 := Lib.hid at1
              clear st1 at1
              cases hnr : (nearI NX && nearI NY)
              · have AT2 := AT1.out; rw [hnr] at AT2
                refine (AT2 _).mono ?_
                rintro e wa ⟨rfl, hb1⟩
                replace hR := next9 hR hb1
                clear AT1 AT2 ST1 hnr
                go_wp2_with (first | fail)
                refine (tnear_calls 0 0 _).mono ?_
                rintro e wb ⟨rfl, hb1⟩
                rw [show tnear 0 0 = true from by decide]
                replace hR := next9 hR (box hb1)
                go_wp2
                go_ret
                exact Ret.of rfl (hBw.trans (Below.mono (hB.trans (Below.mono (by repeat (with_reducible (first | exact hR | refine Below.setCell ?_ (by have h2_ := hR.size; (try simp) <;> omega) _ | refine Below.alloc ?_ (by have h2_ := hR.size; (try simp) <;> omega) _))) hB.size)) hBw.size))
              · have AT2 := AT1.out; rw [hnr] at AT2
                refine (AT2 _).mono ?_
                rintro e wa ⟨rfl, hb1⟩
                replace hR := next9 hR hb1
                replace KQ := bk_below KQ hb1
                simp only [Bool.and_eq_true] at hnr
                obtain ⟨cX, cY⟩ := ST1.out hnr.1 hnr.2
                rw [HQ.out.1] at cX; rw [HQ.out.2] at cY
                have e2 := CF.out NX NY hnr.1 hnr.2
                have s2 := SM.out NX NY hnr.1 hnr.2 cX cY
                have cl := CQ.out NX NY; have sl := SQ.out NX NY
                rw [cX, cY, e2] at cl
                rw [s2.1, s2.2] at sl
                have CL := Lib.hid cl; have SL := Lib.hid sl; have HQ2 := Lib.hid (And.intro cX cY)
                clear AT1 AT2 ST1 hnr cX cY e2 s2 cl sl
                have KX := bk_new wa (.cells #[.int .i64 NX, .int .i64 NY] 25)
                go_wp2_with (first | fail)
                refine (tnear_calls NX NY _).mono ?_
                rintro e wb ⟨rfl, hb1⟩
                replace hR := next9 hR (box hb1)
                replace KQ := bk_below KQ (box hb1)
                replace KX := bk_below KX hb1
                cases htn : tnear NX NY
                · clear CL SL HQ2 KX
                  go_wp2
                  go_ret
                  exact Ret.of rfl (hBw.trans (Below.mono (hB.trans (Below.mono (by repeat (with_reducible (first | exact hR | refine Below.setCell ?_ (by have h2_ := hR.size; (try simp) <;> omega) _ | refine Below.alloc ?_ (by have h2_ := hR.size; (try simp) <;> omega) _))) hB.size)) hBw.size))
                · have HTN := Lib.hid htn; clear htn
                  have hcX := bk_cell KX; have hlX := bk_lt KX
                  have K1 := bk_below K1S hR; have hcK1 := bk_cell K1; have hlK1 := bk_lt K1
                  have K2 := bk_below K2S hR; have hcK2 := bk_cell K2; have hlK2 := bk_lt K2
                  have KC := bk_below KCS hR; have hcKC := bk_cell KC; have hlKC := bk_lt KC
                  go_wp2_with (first | fail)
                  refine (CL.out _).mono ?_
                  rintro e wc ⟨rfl, hb1⟩
                  replace hR := next9 hR hb1
                  replace KQ := bk_below KQ hb1
                  replace KX := bk_below KX hb1; have hcX := bk_cell KX; have hlX := bk_lt KX
                  have K1 := bk_below K1S hR; have hcK1 := bk_cell K1; have hlK1 := bk_lt K1
                  have K2 := bk_below K2S hR; have hcK2 := bk_cell K2; have hlK2 := bk_lt K2
                  have KC := bk_below KCS hR; have hcKC := bk_cell KC; have hlKC := bk_lt KC
                  have KE := bk_new wc (.cells #[.int .i64 CX, .int .i64 CY] 25)
                  go_wp2_with (first | fail)
                  refine (SL.out _).mono ?_
                  rintro e wd ⟨rfl, hb1⟩
                  replace hR := next9 hR (box hb1)
                  replace KQ := bk_below KQ (box hb1); have hcQ := bk_cell KQ; have hfQ := bk_free KQ; have hlQ := bk_lt KQ
                  replace KX := bk_below KX (box hb1); have hcX := bk_cell KX; have hlX := bk_lt KX
                  replace KE := bk_below KE hb1; have hcE := bk_cell KE; have hlE := bk_lt KE
                  have K1 := bk_below K1S hR; have hcK1 := bk_cell K1; have hlK1 := bk_lt K1
                  have K2 := bk_below K2S hR; have hcK2 := bk_cell K2; have hlK2 := bk_lt K2
                  have KC := bk_below KCS hR; have hcKC := bk_cell KC; have hlKC := bk_lt KC
                  go_wp2
                  go_roundw
                  case rel => exact ⟨j + 1, NX, NY, by go_num, by omega, by omega, bk_eq (by repeat (with_reducible (first | exact KQ | apply bk_set | refine bk_drew ?_ | refine bk_drewN ?_ _ | refine bk_alloc ?_ _ | refine bk_far ?_ (by simp; try omega) _))) (by simp), HTN, HQ2, (by repeat (with_reducible (first | exact hR | refine Below.setCell ?_ (by simp) _)))⟩
                  case measure => simp [intOf]; omega
            · go_wp2_with (first | fail)
              refine (BackM_calls m _ ga5 ga1 ga2).mono ?_
              rintro e wk ⟨xr, xi, yr, yi, rfl, hI, hb1⟩
              rw [show (bckM m).f = m.f from rfl]
              have nX := ga3; have nY := ga4
              have hlQr := hlQ
              replace hR := next9 hR (box hb1)
              replace KQ := bk_below KQ (box hb1); have hcQ := bk_cell KQ; have hfQ := bk_free KQ; have hlQ := bk_lt KQ
              replace KM := bk_below KM hb1
              have hcM := bk_cell KM; have hfM := bk_free KM; have hlM := bk_lt KM
              clear hcz hm0 hm1 hm2 hr hD hz2 K1 K2 KC hcK1 hcK2 hcKC hlK1 hlK2 hlKC
              go_wp2_with (first | fail)
              have hR2 : Below w9.heap.size w9 ((((wk.setCell ⟨wr.heap.size, 0, none⟩ (.complex .f64 xr xi)).setCell ⟨wr.heap.size, 1, none⟩ (.bool m.f)).setCell ⟨wr.heap.size, 2, none⟩ (.complex .f64 yr yi)).alloc (.cells #[.complex .f64 xr xi, .bool m.f, .complex .f64 yr yi] 41)) := by
                repeat (with_reducible (first | exact hR | refine Below.setCell ?_ (by simp; try omega) _ | refine Below.alloc ?_ (by have h2_ := hR.size; (try simp) <;> omega) _))
              have KQ2 : ((((wk.setCell ⟨wr.heap.size, 0, none⟩ (.complex .f64 xr xi)).setCell ⟨wr.heap.size, 1, none⟩ (.bool m.f)).setCell ⟨wr.heap.size, 2, none⟩ (.complex .f64 yr yi)).alloc (.cells #[.complex .f64 xr xi, .bool m.f, .complex .f64 yr yi] 41)).heap[w9.heap.size + 1]? = some (.cells #[.int .i64 qx, .int .i64 qy] 25 (0, 0)) := (by repeat (with_reducible (first | exact KQ | apply bk_set | refine bk_drew ?_ | refine bk_drewN ?_ _ | refine bk_alloc ?_ _ | refine bk_far ?_ (by simp; try omega) _)))
              clear hR KQ hcQ hfQ KM hcM hfM hlM hb1
              generalize ((((wk.setCell ⟨wr.heap.size, 0, none⟩ (.complex .f64 xr xi)).setCell ⟨wr.heap.size, 1, none⟩ (.bool m.f)).setCell ⟨wr.heap.size, 2, none⟩ (.complex .f64 yr yi)).alloc (.cells #[.complex .f64 xr xi, .bool m.f, .complex .f64 yr yi] 41)) = wz at *
              have hR := hR2; have KQ := KQ2; clear hR2 KQ2
              have hlQ := bk_lt KQ
              have at1 := fun w => AtM_calls _ _ _ _ m.f (bckM m).k (bckM m).x (bckM m).y qx qy w hI nX nY nqx nqy
              have at1 := fun w => (at1 w)
              obtain ⟨NX, hNX⟩ : ∃ P, linX (bckM m).k m.f qx qy + (bckM m).x = P := ⟨_, rfl⟩
              obtain ⟨NY, hNY⟩ : ∃ P, linY (bckM m).k m.f qx qy + (bckM m).y = P := ⟨_, rfl⟩
              rw [hNX, hNY] at at1
              have st1 := STP.out m true qx qy hmem nqx nqy
              have gx : fwdX (if true = true then bckM m else m) qx qy = NX := hNX
              have gy : fwdY (if true = true then bckM m else m) qx qy = NY := hNY
              rw [gx, gy] at st1
              clear gx gy hNX hNY
              have ST1 := Lib.hid st1; have AT1 := Lib.hid at1
              clear st1 at1
              cases hnr : (nearI NX && nearI NY)
              · have AT2 := AT1.out; rw [hnr] at AT2
                refine (AT2 _).mono ?_
                rintro e wa ⟨rfl, hb1⟩
                replace hR := next9 hR hb1
                clear AT1 AT2 ST1 hnr
                go_wp2_with (first | fail)
                refine (tnear_calls 0 0 _).mono ?_
                rintro e wb ⟨rfl, hb1⟩
                rw [show tnear 0 0 = true from by decide]
                replace hR := next9 hR (box hb1)
                go_wp2
                go_ret
                exact Ret.of rfl (hBw.trans (Below.mono (hB.trans (Below.mono (by repeat (with_reducible (first | exact hR | refine Below.setCell ?_ (by have h2_ := hR.size; (try simp) <;> omega) _ | refine Below.alloc ?_ (by have h2_ := hR.size; (try simp) <;> omega) _))) hB.size)) hBw.size))
              · have AT2 := AT1.out; rw [hnr] at AT2
                refine (AT2 _).mono ?_
                rintro e wa ⟨rfl, hb1⟩
                replace hR := next9 hR hb1
                replace KQ := bk_below KQ hb1
                simp only [Bool.and_eq_true] at hnr
                obtain ⟨cX, cY⟩ := ST1.out hnr.1 hnr.2
                rw [HQ.out.1] at cX; rw [HQ.out.2] at cY
                have e2 := CF.out NX NY hnr.1 hnr.2
                have s2 := SM.out NX NY hnr.1 hnr.2 cX cY
                have cl := CQ.out NX NY; have sl := SQ.out NX NY
                rw [cX, cY, e2] at cl
                rw [s2.1, s2.2] at sl
                have CL := Lib.hid cl; have SL := Lib.hid sl; have HQ2 := Lib.hid (And.intro cX cY)
                clear AT1 AT2 ST1 hnr cX cY e2 s2 cl sl
                have KX := bk_new wa (.cells #[.int .i64 NX, .int .i64 NY] 25)
                go_wp2_with (first | fail)
                refine (tnear_calls NX NY _).mono ?_
                rintro e wb ⟨rfl, hb1⟩
                replace hR := next9 hR (box hb1)
                replace KQ := bk_below KQ (box hb1)
                replace KX := bk_below KX hb1
                cases htn : tnear NX NY
                · clear CL SL HQ2 KX
                  go_wp2
                  go_ret
                  exact Ret.of rfl (hBw.trans (Below.mono (hB.trans (Below.mono (by repeat (with_reducible (first | exact hR | refine Below.setCell ?_ (by have h2_ := hR.size; (try simp) <;> omega) _ | refine Below.alloc ?_ (by have h2_ := hR.size; (try simp) <;> omega) _))) hB.size)) hBw.size))
                · have HTN := Lib.hid htn; clear htn
                  have hcX := bk_cell KX; have hlX := bk_lt KX
                  have K1 := bk_below K1S hR; have hcK1 := bk_cell K1; have hlK1 := bk_lt K1
                  have K2 := bk_below K2S hR; have hcK2 := bk_cell K2; have hlK2 := bk_lt K2
                  have KC := bk_below KCS hR; have hcKC := bk_cell KC; have hlKC := bk_lt KC
                  go_wp2_with (first | fail)
                  refine (CL.out _).mono ?_
                  rintro e wc ⟨rfl, hb1⟩
                  replace hR := next9 hR hb1
                  replace KQ := bk_below KQ hb1
                  replace KX := bk_below KX hb1; have hcX := bk_cell KX; have hlX := bk_lt KX
                  have K1 := bk_below K1S hR; have hcK1 := bk_cell K1; have hlK1 := bk_lt K1
                  have K2 := bk_below K2S hR; have hcK2 := bk_cell K2; have hlK2 := bk_lt K2
                  have KC := bk_below KCS hR; have hcKC := bk_cell KC; have hlKC := bk_lt KC
                  have KE := bk_new wc (.cells #[.int .i64 CX, .int .i64 CY] 25)
                  go_wp2_with (first | fail)
                  refine (SL.out _).mono ?_
                  rintro e wd ⟨rfl, hb1⟩
                  replace hR := next9 hR (box hb1)
                  replace KQ := bk_below KQ (box hb1); have hcQ := bk_cell KQ; have hfQ := bk_free KQ; have hlQ := bk_lt KQ
                  replace KX := bk_below KX (box hb1); have hcX := bk_cell KX; have hlX := bk_lt KX
                  replace KE := bk_below KE hb1; have hcE := bk_cell KE; have hlE := bk_lt KE
                  have K1 := bk_below K1S hR; have hcK1 := bk_cell K1; have hlK1 := bk_lt K1
                  have K2 := bk_below K2S hR; have hcK2 := bk_cell K2; have hlK2 := bk_lt K2
                  have KC := bk_below KCS hR; have hcKC := bk_cell KC; have hlKC := bk_lt KC
                  go_wp2
                  go_roundw
                  case rel => exact ⟨j + 1, NX, NY, by go_num, by omega, by omega, bk_eq (by repeat (with_reducible (first | exact KQ | apply bk_set | refine bk_drew ?_ | refine bk_drewN ?_ _ | refine bk_alloc ?_ _ | refine bk_far ?_ (by simp; try omega) _))) (by simp), HTN, HQ2, (by repeat (with_reducible (first | exact hR | refine Below.setCell ?_ (by simp) _)))⟩
                  case measure => simp [intOf]; omega
          · go_wp2
            go_ret
            exact Ret.of rfl (hBw.trans (Below.mono (hB.trans (Below.mono (by repeat (with_reducible (first | exact hR | refine Below.setCell ?_ (by have h2_ := hR.size; (try simp) <;> omega) _ | refine Below.alloc ?_ (by have h2_ := hR.size; (try simp) <;> omega) _))) hB.size)) hBw.size))
        · go_wp2
          go_ret
          exact Ret.of rfl (hBw.trans (Below.mono (hB.trans (Below.mono (by repeat (with_reducible (first | exact hR | refine Below.setCell ?_ (by have h2_ := hR.size; (try simp) <;> omega) _ | refine Below.alloc ?_ (by have h2_ := hR.size; (try simp) <;> omega) _))) hB.size)) hBw.size))
      · go_wp2
        go_ret
        exact Ret.of rfl (hBw.trans (Below.mono (hB.trans (Below.mono (by repeat (with_reducible (first | exact hR | refine Below.setCell ?_ (by have h2_ := hR.size; (try simp) <;> omega) _ | refine Below.alloc ?_ (by have h2_ := hR.size; (try simp) <;> omega) _))) hB.size)) hBw.size))

end Go.Proofs.Ytfdehecekghlmaa
