/- Run, backward. -/
import Derived.Test.YtdpcmpfhjhbicaaBkJ
set_option linter.unusedVariables false
set_option linter.unusedSimpArgs false
namespace Go.Proofs.Ytdpcmpfhjhbicaa
open Go.RowKit Go.Viv

set_option maxRecDepth 20000 in
set_option maxHeartbeats 8000000 in
theorem Run_bwd {b : List Int} {k W H t s gen n : Int} {g : Nat} {D : FD} {S : Nat → Prop} {w : World} {wn hn : Nat} (hb : Arr16 b) (ev : EvenOk k W H t s wn hn) (hF : Fld g D S w) (n0 : -9223372036854775808 ≤ n) (n1 : n ≤ 9223372036854775807) (ha : askE b k W H t s D gen n = 0) (hnn : n < 0) :
    Calls Try.prog 15 #[.agg (arr b), topoV k W H t s, .pointer (some ⟨g, 0, none⟩), .int .i64 gen, .int .i64 n] w (RunP D (bwd (backF b 16) (blkL k W H t s) (-n).toNat gen D.f) w) := by
  have KO := Lib.hid (askW_K (b := b) (k := k) (W := W) (H := H) (t := t) (s := s) (w := w))
  have KT := Lib.hid (askW_T (b := b) (k := k) (W := W) (H := H) (t := t) (s := s) (w := w))
  have hB := Lib.hid (askW_B (b := b) (k := k) (W := W) (H := H) (t := t) (s := s) (w := w))
  have hF1 := Lib.hid (hF.below hB.out)
  have CA := Lib.hid (ask_calls (k := k) (W := W) (H := H) (t := t) (s := s) (gen := gen) hb ev.t0 hF1.out n0 n1)
  rw [ha] at CA
  have hi := arr_info hb.len
  have AO := askOk_of ha
  have g0 := AO.g0; have g1 := AO.g1; have nn0 := AO.n0; have nn1 := AO.n1
  have HAO := Lib.hid AO; clear AO
  have HRB := Lib.hid (back_rule (ruleOk hb HAO.out.c))
  have CB := Lib.hid (fun w' => back_calls (ruleOk hb HAO.out.c) w')
  generalize backF b 16 = RB at *
  unfold askW at KO KT hB hF1 CA
  have hcT := bk_cell KT.out
  clear hF ha
  go_enter Try.func15, Try.ntmps15
  go_wp2_with (first | (go_at_call 44; ((with_reducible refine CA.out.mono ?_); rintro e w1 ⟨rfl, hb1⟩; have hF2 := Lib.hid (hF1.out.below hb1))) | (go_at_call 45; ((with_reducible refine (Clone_calls hF2.out).mono ?_); rintro e w2 ⟨g', S', rfl, hF3, hS3, hb2⟩)) | (refine wpList_load_row (by rfl) 23 _ (by rfl) w.heap.size (by rfl) 23 _ (0, 0) _ KO.out Try.underlying23 rfl hi ?_))
  have KT2 := bk_below (bk_below KT.out hb1) hb2
  have KO2 := bk_below (bk_below KO.out hb1) hb2
  have hB2 := next hB.out (next hb1 hb2)
  have HKT := Lib.hid KT2; have HKO := Lib.hid KO2; have HB2 := Lib.hid hB2; have HF3 := Lib.hid hF3; have HS3 := Lib.hid hS3
  have hcT2 := bk_cell KT2
  obtain ⟨w0_, w1_, h0_, h1_⟩ := ev.pos
  have hmul : Hid (hn * wn ≤ 1048576) := by
    have e1 := HAO.out.w; have e2 := HAO.out.h; have e3 := hF2.out.ok.wh; have e4 := ev.w; have e5 := ev.h
    have q1 : D.W = 2 * wn := by omega
    have q2 : D.H = 2 * hn := by omega
    rw [q1, q2, Nat.mul_mul_mul_comm] at e3
    show hn * wn ≤ _
    rw [Nat.mul_comm hn wn]
    omega
  have hlw : Hid (w.heap.size < w1.heap.size) := by show _ < _; have := bk_lt (bk_below KT.out hb1); omega
  clear KT KO hB hcT hF1 hF2 hB2 hF3 hS3 KT2 KO2
  have C0 := Lib.hid (fun W' => blocks_calls k W H t s 0 wn hn W' ev.t0 w0_ w1_ h0_ h1_ ev.w ev.h hmul.out (by omega) (by omega))
  have C1 := Lib.hid (fun W' => blocks_calls k W H t s 1 wn hn W' ev.t0 w0_ w1_ h0_ h1_ ev.w ev.h hmul.out (by omega) (by omega))
  have EV := Lib.hid ev; clear ev
  have hlt2 := bk_lt HKT.out
  have hlt3 : w.heap.size < w2.heap.size := by omega
  go_cut [14] (fun s14 wx => ∃ bw A0 n0' c0 A1 n1' c1, s14 = .pointer (some ⟨bw, 0, none⟩) ∧ Hid (WayAt k W H t s wn hn w2.heap.size bw (.slice A0 n0' c0) (.slice A1 n1' c1) n0' n1' w2 wx))
  case first =>
    go_region_held3 (fun w' => w'.cell? ⟨w.heap.size + 1, 0, none⟩ = some (.int .u8 k) ∧ w'.cell? ⟨w.heap.size + 1, 1, none⟩ = some (.int .i64 W) ∧ w'.cell? ⟨w.heap.size + 1, 2, none⟩ = some (.int .i64 H) ∧ w'.cell? ⟨w.heap.size + 1, 3, none⟩ = some (.int .u8 t) ∧ w'.cell? ⟨w.heap.size + 1, 4, none⟩ = some (.int .i64 s) ∧ Below w2.heap.size w2 w')
      (first | exact ⟨hcT2 0, hcT2 1, hcT2 2, hcT2 3, hcT2 4, (same w2).drew⟩ | exact keepT HKT.out hacc | exact keepT HKT.out (hacc.alloc hacc.size _) | exact keepT HKT.out ((same w2).drew.alloc (Nat.le_refl _) _) | exact keepT HKT.out ((hacc.setCell (p := ⟨_, 0, none⟩) (by first | exact Nat.le_refl _ | exact Below.size (by assumption)) _).setCell (p := ⟨_, 1, none⟩) (by first | exact Nat.le_refl _ | exact Below.size (by assumption)) _))
      (first | (go_at_call_of 46 (Value.int IntKind.i64 0); ((with_reducible refine (C0.out _).mono ?_); rintro e wA ⟨v0, n0', rfl, hown0, hl0, hn0, hbA⟩; obtain ⟨A0, c0, rfl⟩ := own_slice hown0; have hacc := nextS hbA (by assumption); obtain ⟨hcl, hfr⟩ := bcell hbA; have hszA := hbA.size; (try simp at hszA); (try (have hszB := Nat.lt_of_succ_le hszA)))) | (go_at_call_of 46 (Value.int IntKind.i64 1); ((with_reducible refine (C1.out _).mono ?_); rintro e wA ⟨v1, n1', rfl, hown1, hl1, hn1, hbA⟩; obtain ⟨A1, c1, rfl⟩ := own_slice hown1; have hacc := nextS hbA (by assumption); obtain ⟨hcl, hfr⟩ := bcell hbA; have hszA := hbA.size; (try simp at hszA); (try (have hszB := Nat.lt_of_succ_le hszA)))))
    all_goals
      go_wp2_with (first | fail)
      go_meet
      first
      | exact ⟨_, A0, n0', c0, A1, n1', c1, rfl, way1 (own_below hown0 hbA) hown1 (by first | exact Nat.le_refl _ | omega | (simp; done) | (simp; omega)) (by first | exact Nat.le_refl _ | omega | (simp; done) | (simp; omega)) hl0 hl1 hn0 hn1 hacc hacc.size⟩
      | exact ⟨_, A0, n0', c0, A1, n1', c1, rfl, way2 (bk_below (bk_new _ _) hbA) (own_below (own_below hown0 (boxed _ _)) hbA) hown1 (by first | exact Nat.le_refl _ | omega | (simp; done) | (simp; omega)) (by first | exact Nat.le_refl _ | omega | (simp; done) | (simp; omega)) hl0 hl1 hn0 hn1 hacc (by first | exact Nat.le_refl _ | omega | (simp; done) | (simp; omega))⟩
      | exact ⟨_, A0, n0', c0, A1, n1', c1, rfl, way2 (bk_below (bk_below (bk_drew (bk_new w2 _)) (by assumption)) hbA) (own_below hown0 hbA) hown1 (by first | exact Nat.le_refl _ | omega | (simp; done) | (simp; omega)) (by first | exact Nat.le_refl _ | omega | (simp; done) | (simp; omega)) hl0 hl1 hn0 hn1 hacc (by first | exact Nat.le_refl _ | omega | (simp; done) | (simp; omega))⟩
  case rest =>
    obtain ⟨bw, A0, n0', c0, A1, n1', c1, rfl, HW⟩ := hcut
    have R0 : Hid (RunSt k W H t s wn hn b g' D S' (D.f) w2.heap.size bw (.slice A0 n0' c0) (.slice A1 n1' c1) n0' n1' w wc) :=
      ⟨HF3.out.below HW.out.below, bk_below HKO.out HW.out.below, HW.out.way, HW.out.o0, HW.out.o1, HB2.out.trans (HW.out.below.mono HB2.out.size), HW.out.ge, fun b hb => HF3.out.lt b hb, fun b hb => by have := HS3.out b hb; have := hlw.out; omega⟩
    have hlw2 : Hid (w.heap.size < w2.heap.size) := by show _ < _; have := hlw.out; have := hb2.size; omega
    have HL := Lib.hid (⟨HW.out.l0, HW.out.l1, HW.out.b0, HW.out.b1⟩ : _ ∧ _ ∧ _ ∧ _)
    clear HW HF3 HS3 HKO HKT HB2 hcT2 C0 C1
    have dn : decide (n < 0) = true := decide_eq_true (by omega)
    go_wp2_with (first | (refine wpList_load_row (by rfl) 23 _ (by rfl) w.heap.size (by rfl) 23 _ (0, 0) _ R0.out.a Try.underlying23 rfl hi ?_) | (go_at_call 47; ((with_reducible refine (CB.out wc).mono ?_); rintro e w5 ⟨rfl, hb5⟩; have R5 := Lib.hid (R0.out.later hb5))) | (refine wpList_store_row (by rfl) 23 _ _ (by rfl) w.heap.size (arr RB) (by rfl) (by rfl) 23 _ R5.out.a (arr_info HRB.out.len) (by rw [arr_size, arr_size, HRB.out.len, hb.len]) (arr_one _) ?_))
    have R6 := Lib.hid (R5.out.setRow (r' := RB) hlw2.out)
    clear R0 R5
    go_frame
    generalize w5.setRow w.heap.size (arr RB) = w6 at *
    go_loopw [3, 4] (fun vg vn wr => ∃ j : Nat, vg = .int .i64 (gen - j) ∧ vn = .int .i64 (n + j) ∧ (j : Int) ≤ -n ∧ Hid (RunSt k W H t s wn hn RB g' D S' (bwd RB (blkL k W H t s) j gen D.f) w2.heap.size bw (.slice A0 n0' c0) (.slice A1 n1' c1) n0' n1' w wr)) (fun _ vn _ => (-(intOf vn)).toNat)
    case atStart => exact ⟨0, by simp, by simp, by omega, R6⟩
    clear R6
    obtain ⟨j, rfl, rfl, hj, HR⟩ := hrel
    by_cases hjl : (j : Int) < -n
    · have hz : (n + (j : Int) != 0) = true := bne_iff_ne.2 (by omega)
      have hzz : decide (0 < n + (j : Int)) = false := decide_eq_false (by omega)
      have hpar : ∃ (p : Nat) (A : Option Addr) (N c : Nat), Hid (p = 0 ∨ p = 1) ∧ Hid (((gen - j - 1) % 2 : Int) = p) ∧ wr.cell? ⟨bw, p, none⟩ = some (.slice A N c) ∧ p < 2 ∧ Hid (wr.ownsRow w2.heap.size 88 8 (.slice A N c) N (toV k W H t s p wn hn)) ∧ Hid (N * 8 = (toV k W H t s p wn hn).length) ∧ N ≤ 1048576 := by
        have hcw := bk_cell HR.out.way
        obtain ⟨l0, l1, b0, b1⟩ := HL.out
        have : (gen - (j : Int) - 1) % 2 = 0 ∨ (gen - (j : Int) - 1) % 2 = 1 := by omega
        rcases this with e | e
        · exact ⟨0, A0, n0', c0, .inl rfl, e, hcw 0, by omega, HR.out.o0, l0, b0⟩
        · exact ⟨1, A1, n1', c1, .inr rfl, e, hcw 1, by omega, HR.out.o1, l1, b1⟩
      obtain ⟨p, A, N, c, hp01, hpp, hcw, hp2, HO, HN, hN⟩ := hpar
      have hbit : bits BinOp.and IntKind.i64 (gen - (j : Int) - 1) 1 = (p : Int) := by rw [and64 _ (by omega) (by omega)]; exact hpp.out
      have hwr1 : wrap64 (gen - (j : Int) - 1) = gen - (j : Int) - 1 := by unfold wrap64; omega
      have hcon : Hid (toV k W H t s p wn hn = (blkL k W H t s p).flatMap cellsV) := by
        rcases hp01.out with rfl | rfl
        · exact to_eq EV.out (by omega) (by omega)
        · exact to_eq EV.out (by omega) (by omega)
      have hHL : Hid (N = (blkL k W H t s p).length) := by
        have := HN.out; rw [hcon.out, flat_len] at this; show _ = _; omega
      rw [hcon.out] at HO
      clear hp01
      go_wp2_with (first | fail)
      obtain ⟨wo, rfl⟩ : ∃ wo : World, wo = wr := ⟨_, rfl⟩
      have HF0 : Hid (bwd RB (blkL k W H t s) (j + 1) gen D.f = genM RB (blkL k W H t s p) (bwd RB (blkL k W H t s) j gen D.f)) := by
        show _ = _
        rw [bwd_snoc]
        rw [hpp.out]
      generalize bwd RB (blkL k W H t s) j gen D.f = F at *
      clear hcw hbit
      go_loopw [64] (fun vq wr => ∃ q : Nat, vq = .int .i64 q ∧ q ≤ N ∧ Hid (RunSt k W H t s wn hn RB g' D S' (genM RB ((blkL k W H t s p).take q) F) w2.heap.size bw (.slice A0 n0' c0) (.slice A1 n1' c1) n0' n1' w wr) ∧ Hid (wr.ownsRow w2.heap.size 88 8 (.slice A N c) N ((blkL k W H t s p).flatMap cellsV))) (fun vq _ => N - (intOf vq).toNat)
      case atStart => exact ⟨0, rfl, by omega, HR.out, HO.out⟩
      clear HR HO
      obtain ⟨q, rfl, hq, HR, HO⟩ := hrel
      by_cases hql : q < N
      · obtain ⟨Bq, hBq⟩ : ∃ Bq, (blkL k W H t s p)[q]? = some Bq := ⟨_, List.getElem?_eq_getElem (by rw [← hHL.out]; exact hql)⟩
        obtain ⟨gl, rfl, hcl⟩ := own_blk HO.out hBq
        have hgen : Hid (genM RB ((blkL k W H t s p).take (q + 1)) F = stepB RB (genM RB ((blkL k W H t s p).take q) F) Bq) := by
          show _ = _
          unfold genM
          rw [List.take_add_one, hBq]
          simp [List.foldl_append]
        have hmem : Hid (Bq ∈ blkL k W H t s p) := List.mem_of_getElem? hBq
        have hbd : Hid (∀ pc ∈ Bq.cells, pc.1 < D.W ∧ pc.2 < D.H) := by
          obtain ⟨p1, p2, p3, p4⟩ := EV.out.pos
          have := cells_bd p1 p3 EV.out.w EV.out.h hmem.out
          intro pc hpc
          have h1 := this pc hpc
          have e1 := HAO.out.w; have e2 := HAO.out.h
          omega
        generalize genM RB ((blkL k W H t s p).take q) F = G at *
        have h01 : Hid (∀ pc ∈ Bq.cells, at_ G pc = 0 ∨ at_ G pc = 1) := fun pc hpc => by
          have h1 := hbd.out pc hpc
          have h2 := HR.out.f.ok.bd pc.2 pc.1 h1.2 h1.1
          have h3 := HAO.out.st
          simp only at h2
          show G pc.2 pc.1 = 0 ∨ G pc.2 pc.1 = 1
          omega
        clear hBq hmem
        obtain ⟨⟨xa, ya⟩, ⟨xb, yb⟩, ⟨xc, yc⟩, ⟨xd, yd⟩⟩ := Bq
        have x0 : wr.cell? ⟨gl, q * 8, none⟩ = some (.int .i64 (xa : Nat)) := by simpa using hcl 0 _ (by omega) rfl
        have x1 : wr.cell? ⟨gl, q * 8 + 1, none⟩ = some (.int .i64 (ya : Nat)) := hcl 1 _ (by omega) rfl
        have x2 : wr.cell? ⟨gl, q * 8 + 2, none⟩ = some (.int .i64 (xb : Nat)) := hcl 2 _ (by omega) rfl
        have x3 : wr.cell? ⟨gl, q * 8 + 3, none⟩ = some (.int .i64 (yb : Nat)) := hcl 3 _ (by omega) rfl
        have x4 : wr.cell? ⟨gl, q * 8 + 4, none⟩ = some (.int .i64 (xc : Nat)) := hcl 4 _ (by omega) rfl
        have x5 : wr.cell? ⟨gl, q * 8 + 5, none⟩ = some (.int .i64 (yc : Nat)) := hcl 5 _ (by omega) rfl
        have x6 : wr.cell? ⟨gl, q * 8 + 6, none⟩ = some (.int .i64 (xd : Nat)) := hcl 6 _ (by omega) rfl
        have x7 : wr.cell? ⟨gl, q * 8 + 7, none⟩ = some (.int .i64 (yd : Nat)) := hcl 7 _ (by omega) rfl
        clear hcl
        go_wp2_with (first | fail)
        obtain ⟨wk, rfl⟩ : ∃ wk : World, wk = wr := ⟨_, rfl⟩
        have HR1 := Lib.hid (HR.out.later (boxed wk (.cells #[.int .i64 (xa : Nat), .int .i64 (ya : Nat), .int .i64 (xb : Nat), .int .i64 (yb : Nat), .int .i64 (xc : Nat), .int .i64 (yc : Nat), .int .i64 (xd : Nat), .int .i64 (yd : Nat)] 88)))
        have HO1 := Lib.hid (own_below HO.out (boxed wk (.cells #[.int .i64 (xa : Nat), .int .i64 (ya : Nat), .int .i64 (xb : Nat), .int .i64 (yb : Nat), .int .i64 (xc : Nat), .int .i64 (yc : Nat), .int .i64 (xd : Nat), .int .i64 (yd : Nat)] 88)))
        have K1 := Lib.hid (bk_new wk (.cells #[.int .i64 (xa : Nat), .int .i64 (ya : Nat), .int .i64 (xb : Nat), .int .i64 (yb : Nat), .int .i64 (xc : Nat), .int .i64 (yc : Nat), .int .i64 (xd : Nat), .int .i64 (yd : Nat)] 88))
        clear x0 x1 x2 x3 x4 x5 x6 x7 HR HO
        go_loopw [18, 69] (fun vf vm wr => ∃ m : Nat, vm = .int .i64 m ∧ m ≤ 4 ∧ vf = .int .i64 (frTo G ⟨(xa, ya), (xb, yb), (xc, yc), (xd, yd)⟩ m) ∧ Hid (RunSt k W H t s wn hn RB g' D S' G w2.heap.size bw (.slice A0 n0' c0) (.slice A1 n1' c1) n0' n1' w wr) ∧ Hid (wr.ownsRow w2.heap.size 88 8 (.slice (some ⟨gl, 0, none⟩) N c) N ((blkL k W H t s p).flatMap cellsV)) ∧ Hid (wr.heap[wk.heap.size]? = some (.cells #[.int .i64 (xa : Nat), .int .i64 (ya : Nat), .int .i64 (xb : Nat), .int .i64 (yb : Nat), .int .i64 (xc : Nat), .int .i64 (yc : Nat), .int .i64 (xd : Nat), .int .i64 (yd : Nat)] 88 (0, 0)))) (fun _ vm _ => 4 - (intOf vm).toNat)
        case atStart => exact ⟨0, rfl, by omega, rfl, HR1.out, HO1.out, K1.out⟩
        clear HR1 HO1 K1
        obtain ⟨m, rfl, hm, rfl, HR, HO, K1⟩ := hrel
        have hm4 : m = 0 ∨ m = 1 ∨ m = 2 ∨ m = 3 ∨ m = 4 := by omega
        rcases hm4 with rfl | rfl | rfl | rfl | rfl
        · have hix : ∀ w, (Instr.index 88 (.agg #[.int .i64 (xa : Nat), .int .i64 (ya : Nat), .int .i64 (xb : Nat), .int .i64 (yb : Nat), .int .i64 (xc : Nat), .int .i64 (yc : Nat), .int .i64 (xd : Nat), .int .i64 (yd : Nat)]) (.int .i64 0)).run Try.prog w = .ok (.agg #[.int .i64 (xa : Nat), .int .i64 (ya : Nat)]) w := fun w => by kernel_rfl
          have hin := hbd.out (xa, ya) (by simp [Blk.cells])
          have hs01 := h01.out (xa, ya) (by simp [Blk.cells])
          have CG : Hid (∀ w', Fld g' { D with f := G } S' w' → Calls Try.prog 41 #[.pointer (some ⟨g', 0, none⟩), .int .i64 (xa : Nat), .int .i64 (ya : Nat)] w' fun e w'' => e = .returned (.tuple #[.int .u8 (at_ G (xa, ya)), .int .i64 0]) ∧ Below w'.heap.size w' w'') := fun w' h' => by
            have := Get_calls (xa : Int) (ya : Int) h'
            rw [get_in (D := { D with f := G }) hin.1 hin.2] at this
            exact this
          obtain ⟨φ, hφ, hφ2⟩ := frTo_nat h01.out 0 (by omega)
          obtain ⟨σ, hσ, hσ2⟩ : ∃ σ : Nat, at_ G (xa, ya) = (σ : Int) ∧ σ < 2 := by
            rcases hs01 with e | e
            · exact ⟨0, e, by omega⟩
            · exact ⟨1, e, by omega⟩
          have hnx : Hid (frTo G ⟨(xa, ya), (xb, yb), (xc, yc), (xd, yd)⟩ 1 = ((φ + σ * 2 ^ 0 : Nat) : Int)) := by
            show _ = _
            have e1 := frTo_succ G ⟨(xa, ya), (xb, yb), (xc, yc), (xd, yd)⟩ 0 (by omega)
            simp only [blkNth] at e1
            rw [e1, hφ, hσ]; simp
          have hor := or_small 0 (by omega) φ hφ2 σ hσ2
          rw [hφ]
          rw [hσ] at CG
          clear hφ hσ hs01 hin
          go_wp2_with (first | (go_at_call 41; ((with_reducible refine (CG.out _ (HR.out.f.below (boxed _ _))).mono ?_); rintro e w3 ⟨rfl, hb3⟩; have hbb := next (boxed _ _) hb3)))
          go_roundw
          case rel => exact ⟨1, rfl, by omega, by rw [hnx.out]; simpa using hor, HR.out.later hbb, own_below HO.out hbb, bk_below K1.out hbb⟩
          case measure => simp [intOf]
        · have hix : ∀ w, (Instr.index 88 (.agg #[.int .i64 (xa : Nat), .int .i64 (ya : Nat), .int .i64 (xb : Nat), .int .i64 (yb : Nat), .int .i64 (xc : Nat), .int .i64 (yc : Nat), .int .i64 (xd : Nat), .int .i64 (yd : Nat)]) (.int .i64 1)).run Try.prog w = .ok (.agg #[.int .i64 (xb : Nat), .int .i64 (yb : Nat)]) w := fun w => by kernel_rfl
          have hin := hbd.out (xb, yb) (by simp [Blk.cells])
          have hs01 := h01.out (xb, yb) (by simp [Blk.cells])
          have CG : Hid (∀ w', Fld g' { D with f := G } S' w' → Calls Try.prog 41 #[.pointer (some ⟨g', 0, none⟩), .int .i64 (xb : Nat), .int .i64 (yb : Nat)] w' fun e w'' => e = .returned (.tuple #[.int .u8 (at_ G (xb, yb)), .int .i64 0]) ∧ Below w'.heap.size w' w'') := fun w' h' => by
            have := Get_calls (xb : Int) (yb : Int) h'
            rw [get_in (D := { D with f := G }) hin.1 hin.2] at this
            exact this
          obtain ⟨φ, hφ, hφ2⟩ := frTo_nat h01.out 1 (by omega)
          obtain ⟨σ, hσ, hσ2⟩ : ∃ σ : Nat, at_ G (xb, yb) = (σ : Int) ∧ σ < 2 := by
            rcases hs01 with e | e
            · exact ⟨0, e, by omega⟩
            · exact ⟨1, e, by omega⟩
          have hnx : Hid (frTo G ⟨(xa, ya), (xb, yb), (xc, yc), (xd, yd)⟩ 2 = ((φ + σ * 2 ^ 1 : Nat) : Int)) := by
            show _ = _
            have e1 := frTo_succ G ⟨(xa, ya), (xb, yb), (xc, yc), (xd, yd)⟩ 1 (by omega)
            simp only [blkNth] at e1
            rw [e1, hφ, hσ]; simp
          have hor := or_small 1 (by omega) φ hφ2 σ hσ2
          rw [hφ]
          rw [hσ] at CG
          clear hφ hσ hs01 hin
          go_wp2_with (first | (go_at_call 41; ((with_reducible refine (CG.out _ (HR.out.f.below (boxed _ _))).mono ?_); rintro e w3 ⟨rfl, hb3⟩; have hbb := next (boxed _ _) hb3)))
          go_roundw
          case rel => exact ⟨2, rfl, by omega, by rw [hnx.out]; simpa using hor, HR.out.later hbb, own_below HO.out hbb, bk_below K1.out hbb⟩
          case measure => simp [intOf]
        · have hix : ∀ w, (Instr.index 88 (.agg #[.int .i64 (xa : Nat), .int .i64 (ya : Nat), .int .i64 (xb : Nat), .int .i64 (yb : Nat), .int .i64 (xc : Nat), .int .i64 (yc : Nat), .int .i64 (xd : Nat), .int .i64 (yd : Nat)]) (.int .i64 2)).run Try.prog w = .ok (.agg #[.int .i64 (xc : Nat), .int .i64 (yc : Nat)]) w := fun w => by kernel_rfl
          have hin := hbd.out (xc, yc) (by simp [Blk.cells])
          have hs01 := h01.out (xc, yc) (by simp [Blk.cells])
          have CG : Hid (∀ w', Fld g' { D with f := G } S' w' → Calls Try.prog 41 #[.pointer (some ⟨g', 0, none⟩), .int .i64 (xc : Nat), .int .i64 (yc : Nat)] w' fun e w'' => e = .returned (.tuple #[.int .u8 (at_ G (xc, yc)), .int .i64 0]) ∧ Below w'.heap.size w' w'') := fun w' h' => by
            have := Get_calls (xc : Int) (yc : Int) h'
            rw [get_in (D := { D with f := G }) hin.1 hin.2] at this
            exact this
          obtain ⟨φ, hφ, hφ2⟩ := frTo_nat h01.out 2 (by omega)
          obtain ⟨σ, hσ, hσ2⟩ : ∃ σ : Nat, at_ G (xc, yc) = (σ : Int) ∧ σ < 2 := by
            rcases hs01 with e | e
            · exact ⟨0, e, by omega⟩
            · exact ⟨1, e, by omega⟩
          have hnx : Hid (frTo G ⟨(xa, ya), (xb, yb), (xc, yc), (xd, yd)⟩ 3 = ((φ + σ * 2 ^ 2 : Nat) : Int)) := by
            show _ = _
            have e1 := frTo_succ G ⟨(xa, ya), (xb, yb), (xc, yc), (xd, yd)⟩ 2 (by omega)
            simp only [blkNth] at e1
            rw [e1, hφ, hσ]; simp
          have hor := or_small 2 (by omega) φ hφ2 σ hσ2
          rw [hφ]
          rw [hσ] at CG
          clear hφ hσ hs01 hin
          go_wp2_with (first | (go_at_call 41; ((with_reducible refine (CG.out _ (HR.out.f.below (boxed _ _))).mono ?_); rintro e w3 ⟨rfl, hb3⟩; have hbb := next (boxed _ _) hb3)))
          go_roundw
          case rel => exact ⟨3, rfl, by omega, by rw [hnx.out]; simpa using hor, HR.out.later hbb, own_below HO.out hbb, bk_below K1.out hbb⟩
          case measure => simp [intOf]
        · have hix : ∀ w, (Instr.index 88 (.agg #[.int .i64 (xa : Nat), .int .i64 (ya : Nat), .int .i64 (xb : Nat), .int .i64 (yb : Nat), .int .i64 (xc : Nat), .int .i64 (yc : Nat), .int .i64 (xd : Nat), .int .i64 (yd : Nat)]) (.int .i64 3)).run Try.prog w = .ok (.agg #[.int .i64 (xd : Nat), .int .i64 (yd : Nat)]) w := fun w => by kernel_rfl
          have hin := hbd.out (xd, yd) (by simp [Blk.cells])
          have hs01 := h01.out (xd, yd) (by simp [Blk.cells])
          have CG : Hid (∀ w', Fld g' { D with f := G } S' w' → Calls Try.prog 41 #[.pointer (some ⟨g', 0, none⟩), .int .i64 (xd : Nat), .int .i64 (yd : Nat)] w' fun e w'' => e = .returned (.tuple #[.int .u8 (at_ G (xd, yd)), .int .i64 0]) ∧ Below w'.heap.size w' w'') := fun w' h' => by
            have := Get_calls (xd : Int) (yd : Int) h'
            rw [get_in (D := { D with f := G }) hin.1 hin.2] at this
            exact this
          obtain ⟨φ, hφ, hφ2⟩ := frTo_nat h01.out 3 (by omega)
          obtain ⟨σ, hσ, hσ2⟩ : ∃ σ : Nat, at_ G (xd, yd) = (σ : Int) ∧ σ < 2 := by
            rcases hs01 with e | e
            · exact ⟨0, e, by omega⟩
            · exact ⟨1, e, by omega⟩
          have hnx : Hid (frTo G ⟨(xa, ya), (xb, yb), (xc, yc), (xd, yd)⟩ 4 = ((φ + σ * 2 ^ 3 : Nat) : Int)) := by
            show _ = _
            have e1 := frTo_succ G ⟨(xa, ya), (xb, yb), (xc, yc), (xd, yd)⟩ 3 (by omega)
            simp only [blkNth] at e1
            rw [e1, hφ, hσ]; simp
          have hor := or_small 3 (by omega) φ hφ2 σ hσ2
          rw [hφ]
          rw [hσ] at CG
          clear hφ hσ hs01 hin
          go_wp2_with (first | (go_at_call 41; ((with_reducible refine (CG.out _ (HR.out.f.below (boxed _ _))).mono ?_); rintro e w3 ⟨rfl, hb3⟩; have hbb := next (boxed _ _) hb3)))
          go_roundw
          case rel => exact ⟨4, rfl, by omega, by rw [hnx.out]; simpa using hor, HR.out.later hbb, own_below HO.out hbb, bk_below K1.out hbb⟩
          case measure => simp [intOf]
        · obtain ⟨φ, hφ, hφ2⟩ := frTo_nat h01.out 4 (by omega)
          have hφ3 : Hid (frm G ⟨(xa, ya), (xb, yb), (xc, yc), (xd, yd)⟩ = (φ : Int)) := hφ
          obtain ⟨v, hv⟩ : ∃ v : Nat, nth RB φ = (v : Int) := ⟨(nth RB φ).toNat, by have := HRB.out.bd φ hφ2; omega⟩
          have hv16 : v < 16 := by have := HRB.out.bd φ hφ2; omega
          have hstep : Hid (stepB RB G ⟨(xa, ya), (xb, yb), (xc, yc), (xd, yd)⟩ = wrTo G ⟨(xa, ya), (xb, yb), (xc, yc), (xd, yd)⟩ (v : Int) 4) := by
            show _ = _; unfold stepB; rw [hφ3.out]; simp only [Int.toNat_natCast]; rw [hv]; rfl
          rw [hφ]
          clear hφ hφ3
          have hrl := Lib.hid HRB.out.len
          have hcK := bk_cell K1.out
          go_wp2_with (first | fail)
          clear hcK
          go_loopw [90] (fun vm wr => ∃ m : Nat, vm = .int .i64 m ∧ m ≤ 4 ∧ Hid (RunSt k W H t s wn hn RB g' D S' (wrTo G ⟨(xa, ya), (xb, yb), (xc, yc), (xd, yd)⟩ (v : Int) m) w2.heap.size bw (.slice A0 n0' c0) (.slice A1 n1' c1) n0' n1' w wr) ∧ Hid (wr.ownsRow w2.heap.size 88 8 (.slice (some ⟨gl, 0, none⟩) N c) N ((blkL k W H t s p).flatMap cellsV))) (fun vm _ => 4 - (intOf vm).toNat)
          case atStart => exact ⟨0, rfl, by omega, HR.out, HO.out⟩
          clear HR HO K1
          obtain ⟨m, rfl, hm, HR, HO⟩ := hrel
          have hm4 : m = 0 ∨ m = 1 ∨ m = 2 ∨ m = 3 ∨ m = 4 := by omega
          rcases hm4 with rfl | rfl | rfl | rfl | rfl
          · have hix : ∀ w, (Instr.index 88 (.agg #[.int .i64 (xa : Nat), .int .i64 (ya : Nat), .int .i64 (xb : Nat), .int .i64 (yb : Nat), .int .i64 (xc : Nat), .int .i64 (yc : Nat), .int .i64 (xd : Nat), .int .i64 (yd : Nat)]) (.int .i64 0)).run Try.prog w = .ok (.agg #[.int .i64 (xa : Nat), .int .i64 (ya : Nat)]) w := fun w => by kernel_rfl
            have hin := hbd.out (xa, ya) (by simp [Blk.cells])
            have KP := bk_new wr (.cells #[.int .i64 (xa : Nat), .int .i64 (ya : Nat)] 87)
            have HR1 := Lib.hid (HR.out.later (boxed wr (.cells #[.int .i64 (xa : Nat), .int .i64 (ya : Nat)] 87)))
            have HO1 := Lib.hid (own_below HO.out (boxed wr (.cells #[.int .i64 (xa : Nat), .int .i64 (ya : Nat)] 87)))
            have hsr : ∀ b, S' b → b < wr.heap.size := fun b hb => HR.out.f.lt b hb
            have hnx : Hid (({ D with f := wrTo G ⟨(xa, ya), (xb, yb), (xc, yc), (xd, yd)⟩ (v : Int) 0 } : FD).put (xa : Nat) (ya : Nat) ((v : Int) % 2) = { D with f := wrTo G ⟨(xa, ya), (xb, yb), (xc, yc), (xd, yd)⟩ (v : Int) 1 }) := by
              show _ = _
              have := put_in (D := { D with f := wrTo G ⟨(xa, ya), (xb, yb), (xc, yc), (xd, yd)⟩ (v : Int) 0 }) (s := (v : Int) % 2) hin.1 hin.2 (by show (v : Int) % 2 < D.St; have := HR.out.f.ok.s0; simp only at this; omega)
              rw [this]; rfl
            have hand : bits BinOp.and IntKind.u8 ((v : Int)) 1 = (v : Int) % 2 := by have := and8 (v / 1) (by omega); simpa using this
            have hsv : (0 : Int) ≤ (v : Int) % 2 ∧ (v : Int) % 2 ≤ 255 := by omega
            have hφi : (φ : Int) < 16 := by omega
            have hφj : (0 : Int) ≤ (φ : Int) := by omega
            go_wp2_with (first | fail)
            have n1_ : Hid (¬ S' wr.heap.size) := fun hh => Nat.lt_irrefl _ (hsr _ hh)
            have n2_ : Hid (¬ S' w.heap.size) := fun hh => Nat.lt_irrefl _ (HR.out.s2 _ hh)
            have KA := Lib.hid HR1.out.a
            have hvA : Hid ((arr RB)[φ]? = some (.int .u8 (v : Nat))) := by show _ = _; rw [arr_at (by rw [hrl.out]; exact hφ2), hv]
            have KPH := Lib.hid KP
            have hF0 := Lib.hid HR1.out.f
            generalize (wr.alloc (.cells #[.int .i64 (xa : Nat), .int .i64 (ya : Nat)] 87)) = WX at *
            clear KP hsr hin
            go_region_held3 (fun w' => w'.cell? ⟨wr.heap.size, 0, none⟩ = some (.int .i64 (xa : Nat)) ∧ w'.cell? ⟨wr.heap.size, 1, none⟩ = some (.int .i64 (ya : Nat)) ∧ w'.cell? ⟨w.heap.size, φ, none⟩ = some (.int .u8 (v : Nat)) ∧ Wrote S' WX w' ∧ (Fld g' { D with f := wrTo G ⟨(xa, ya), (xb, yb), (xc, yc), (xd, yd)⟩ (v : Int) 0 } S' w' ∨ Fld g' (({ D with f := wrTo G ⟨(xa, ya), (xb, yb), (xc, yc), (xd, yd)⟩ (v : Int) 0 } : FD).put (xa : Nat) (ya : Nat) ((v : Int) % 2)) S' w'))
              (first | exact keepW KPH.out KA.out hvA.out n1_.out n2_.out (Wrote.refl _ _).drew (.inl (hF0.out.below (Below.refl _ _).drew)) | exact keepW KPH.out KA.out hvA.out n1_.out n2_.out (nextW hw1 (by assumption)) (.inr P1))
              (first | (go_at_call 30; ((with_reducible refine (set_mid (xa : Nat) (ya : Nat) ((v : Int) % 2) _ rfl (And.right (And.right (And.right (And.right (by assumption))))) hsv).mono ?_); rintro e w4 ⟨rfl, P1, hw1⟩; have hww := Lib.hid (nextW hw1 (by assumption)); have P1 := Lib.hid P1)))
            have hE := Lib.hid (HR1.out.wrote hww.out (hnx.out ▸ P1.out))
            have hO2 := Lib.hid (own_wrote HO1.out hww.out HR1.out.s1)
            go_wp2
            go_roundw
            case rel => (repeat apply Exists.intro); exact ⟨⟨1, rfl, by omega, hE.out, hO2.out⟩, rfl⟩
            case measure => simp [intOf]
          · have hix : ∀ w, (Instr.index 88 (.agg #[.int .i64 (xa : Nat), .int .i64 (ya : Nat), .int .i64 (xb : Nat), .int .i64 (yb : Nat), .int .i64 (xc : Nat), .int .i64 (yc : Nat), .int .i64 (xd : Nat), .int .i64 (yd : Nat)]) (.int .i64 1)).run Try.prog w = .ok (.agg #[.int .i64 (xb : Nat), .int .i64 (yb : Nat)]) w := fun w => by kernel_rfl
            have hin := hbd.out (xb, yb) (by simp [Blk.cells])
            have KP := bk_new wr (.cells #[.int .i64 (xb : Nat), .int .i64 (yb : Nat)] 87)
            have HR1 := Lib.hid (HR.out.later (boxed wr (.cells #[.int .i64 (xb : Nat), .int .i64 (yb : Nat)] 87)))
            have HO1 := Lib.hid (own_below HO.out (boxed wr (.cells #[.int .i64 (xb : Nat), .int .i64 (yb : Nat)] 87)))
            have hsr : ∀ b, S' b → b < wr.heap.size := fun b hb => HR.out.f.lt b hb
            have hnx : Hid (({ D with f := wrTo G ⟨(xa, ya), (xb, yb), (xc, yc), (xd, yd)⟩ (v : Int) 1 } : FD).put (xb : Nat) (yb : Nat) ((v : Int) / 2 % 2) = { D with f := wrTo G ⟨(xa, ya), (xb, yb), (xc, yc), (xd, yd)⟩ (v : Int) 2 }) := by
              show _ = _
              have := put_in (D := { D with f := wrTo G ⟨(xa, ya), (xb, yb), (xc, yc), (xd, yd)⟩ (v : Int) 1 }) (s := (v : Int) / 2 % 2) hin.1 hin.2 (by show (v : Int) / 2 % 2 < D.St; have := HR.out.f.ok.s0; simp only at this; omega)
              rw [this]; rfl
            have hand : bits BinOp.and IntKind.u8 ((v : Int) / 2) 1 = (v : Int) / 2 % 2 := by have := and8 (v / 2) (by omega); simpa using this
            have hsv : (0 : Int) ≤ (v : Int) / 2 % 2 ∧ (v : Int) / 2 % 2 ≤ 255 := by omega
            have hφi : (φ : Int) < 16 := by omega
            have hφj : (0 : Int) ≤ (φ : Int) := by omega
            go_wp2_with (first | fail)
            have n1_ : Hid (¬ S' wr.heap.size) := fun hh => Nat.lt_irrefl _ (hsr _ hh)
            have n2_ : Hid (¬ S' w.heap.size) := fun hh => Nat.lt_irrefl _ (HR.out.s2 _ hh)
            have KA := Lib.hid HR1.out.a
            have hvA : Hid ((arr RB)[φ]? = some (.int .u8 (v : Nat))) := by show _ = _; rw [arr_at (by rw [hrl.out]; exact hφ2), hv]
            have KPH := Lib.hid KP
            have hF0 := Lib.hid HR1.out.f
            generalize (wr.alloc (.cells #[.int .i64 (xb : Nat), .int .i64 (yb : Nat)] 87)) = WX at *
            clear KP hsr hin
            go_region_held3 (fun w' => w'.cell? ⟨wr.heap.size, 0, none⟩ = some (.int .i64 (xb : Nat)) ∧ w'.cell? ⟨wr.heap.size, 1, none⟩ = some (.int .i64 (yb : Nat)) ∧ w'.cell? ⟨w.heap.size, φ, none⟩ = some (.int .u8 (v : Nat)) ∧ Wrote S' WX w' ∧ (Fld g' { D with f := wrTo G ⟨(xa, ya), (xb, yb), (xc, yc), (xd, yd)⟩ (v : Int) 1 } S' w' ∨ Fld g' (({ D with f := wrTo G ⟨(xa, ya), (xb, yb), (xc, yc), (xd, yd)⟩ (v : Int) 1 } : FD).put (xb : Nat) (yb : Nat) ((v : Int) / 2 % 2)) S' w'))
              (first | exact keepW KPH.out KA.out hvA.out n1_.out n2_.out (Wrote.refl _ _).drew (.inl (hF0.out.below (Below.refl _ _).drew)) | exact keepW KPH.out KA.out hvA.out n1_.out n2_.out (nextW hw1 (by assumption)) (.inr P1))
              (first | (go_at_call 30; ((with_reducible refine (set_mid (xb : Nat) (yb : Nat) ((v : Int) / 2 % 2) _ rfl (And.right (And.right (And.right (And.right (by assumption))))) hsv).mono ?_); rintro e w4 ⟨rfl, P1, hw1⟩; have hww := Lib.hid (nextW hw1 (by assumption)); have P1 := Lib.hid P1)))
            have hE := Lib.hid (HR1.out.wrote hww.out (hnx.out ▸ P1.out))
            have hO2 := Lib.hid (own_wrote HO1.out hww.out HR1.out.s1)
            go_wp2
            go_roundw
            case rel => (repeat apply Exists.intro); exact ⟨⟨2, rfl, by omega, hE.out, hO2.out⟩, rfl⟩
            case measure => simp [intOf]
          · have hix : ∀ w, (Instr.index 88 (.agg #[.int .i64 (xa : Nat), .int .i64 (ya : Nat), .int .i64 (xb : Nat), .int .i64 (yb : Nat), .int .i64 (xc : Nat), .int .i64 (yc : Nat), .int .i64 (xd : Nat), .int .i64 (yd : Nat)]) (.int .i64 2)).run Try.prog w = .ok (.agg #[.int .i64 (xc : Nat), .int .i64 (yc : Nat)]) w := fun w => by kernel_rfl
            have hin := hbd.out (xc, yc) (by simp [Blk.cells])
            have KP := bk_new wr (.cells #[.int .i64 (xc : Nat), .int .i64 (yc : Nat)] 87)
            have HR1 := Lib.hid (HR.out.later (boxed wr (.cells #[.int .i64 (xc : Nat), .int .i64 (yc : Nat)] 87)))
            have HO1 := Lib.hid (own_below HO.out (boxed wr (.cells #[.int .i64 (xc : Nat), .int .i64 (yc : Nat)] 87)))
            have hsr : ∀ b, S' b → b < wr.heap.size := fun b hb => HR.out.f.lt b hb
            have hnx : Hid (({ D with f := wrTo G ⟨(xa, ya), (xb, yb), (xc, yc), (xd, yd)⟩ (v : Int) 2 } : FD).put (xc : Nat) (yc : Nat) ((v : Int) / 4 % 2) = { D with f := wrTo G ⟨(xa, ya), (xb, yb), (xc, yc), (xd, yd)⟩ (v : Int) 3 }) := by
              show _ = _
              have := put_in (D := { D with f := wrTo G ⟨(xa, ya), (xb, yb), (xc, yc), (xd, yd)⟩ (v : Int) 2 }) (s := (v : Int) / 4 % 2) hin.1 hin.2 (by show (v : Int) / 4 % 2 < D.St; have := HR.out.f.ok.s0; simp only at this; omega)
              rw [this]; rfl
            have hand : bits BinOp.and IntKind.u8 ((v : Int) / 4) 1 = (v : Int) / 4 % 2 := by have := and8 (v / 4) (by omega); simpa using this
            have hsv : (0 : Int) ≤ (v : Int) / 4 % 2 ∧ (v : Int) / 4 % 2 ≤ 255 := by omega
            have hφi : (φ : Int) < 16 := by omega
            have hφj : (0 : Int) ≤ (φ : Int) := by omega
            go_wp2_with (first | fail)
            have n1_ : Hid (¬ S' wr.heap.size) := fun hh => Nat.lt_irrefl _ (hsr _ hh)
            have n2_ : Hid (¬ S' w.heap.size) := fun hh => Nat.lt_irrefl _ (HR.out.s2 _ hh)
            have KA := Lib.hid HR1.out.a
            have hvA : Hid ((arr RB)[φ]? = some (.int .u8 (v : Nat))) := by show _ = _; rw [arr_at (by rw [hrl.out]; exact hφ2), hv]
            have KPH := Lib.hid KP
            have hF0 := Lib.hid HR1.out.f
            generalize (wr.alloc (.cells #[.int .i64 (xc : Nat), .int .i64 (yc : Nat)] 87)) = WX at *
            clear KP hsr hin
            go_region_held3 (fun w' => w'.cell? ⟨wr.heap.size, 0, none⟩ = some (.int .i64 (xc : Nat)) ∧ w'.cell? ⟨wr.heap.size, 1, none⟩ = some (.int .i64 (yc : Nat)) ∧ w'.cell? ⟨w.heap.size, φ, none⟩ = some (.int .u8 (v : Nat)) ∧ Wrote S' WX w' ∧ (Fld g' { D with f := wrTo G ⟨(xa, ya), (xb, yb), (xc, yc), (xd, yd)⟩ (v : Int) 2 } S' w' ∨ Fld g' (({ D with f := wrTo G ⟨(xa, ya), (xb, yb), (xc, yc), (xd, yd)⟩ (v : Int) 2 } : FD).put (xc : Nat) (yc : Nat) ((v : Int) / 4 % 2)) S' w'))
              (first | exact keepW KPH.out KA.out hvA.out n1_.out n2_.out (Wrote.refl _ _).drew (.inl (hF0.out.below (Below.refl _ _).drew)) | exact keepW KPH.out KA.out hvA.out n1_.out n2_.out (nextW hw1 (by assumption)) (.inr P1))
              (first | (go_at_call 30; ((with_reducible refine (set_mid (xc : Nat) (yc : Nat) ((v : Int) / 4 % 2) _ rfl (And.right (And.right (And.right (And.right (by assumption))))) hsv).mono ?_); rintro e w4 ⟨rfl, P1, hw1⟩; have hww := Lib.hid (nextW hw1 (by assumption)); have P1 := Lib.hid P1)))
            have hE := Lib.hid (HR1.out.wrote hww.out (hnx.out ▸ P1.out))
            have hO2 := Lib.hid (own_wrote HO1.out hww.out HR1.out.s1)
            go_wp2
            go_roundw
            case rel => (repeat apply Exists.intro); exact ⟨⟨3, rfl, by omega, hE.out, hO2.out⟩, rfl⟩
            case measure => simp [intOf]
          · have hix : ∀ w, (Instr.index 88 (.agg #[.int .i64 (xa : Nat), .int .i64 (ya : Nat), .int .i64 (xb : Nat), .int .i64 (yb : Nat), .int .i64 (xc : Nat), .int .i64 (yc : Nat), .int .i64 (xd : Nat), .int .i64 (yd : Nat)]) (.int .i64 3)).run Try.prog w = .ok (.agg #[.int .i64 (xd : Nat), .int .i64 (yd : Nat)]) w := fun w => by kernel_rfl
            have hin := hbd.out (xd, yd) (by simp [Blk.cells])
            have KP := bk_new wr (.cells #[.int .i64 (xd : Nat), .int .i64 (yd : Nat)] 87)
            have HR1 := Lib.hid (HR.out.later (boxed wr (.cells #[.int .i64 (xd : Nat), .int .i64 (yd : Nat)] 87)))
            have HO1 := Lib.hid (own_below HO.out (boxed wr (.cells #[.int .i64 (xd : Nat), .int .i64 (yd : Nat)] 87)))
            have hsr : ∀ b, S' b → b < wr.heap.size := fun b hb => HR.out.f.lt b hb
            have hnx : Hid (({ D with f := wrTo G ⟨(xa, ya), (xb, yb), (xc, yc), (xd, yd)⟩ (v : Int) 3 } : FD).put (xd : Nat) (yd : Nat) ((v : Int) / 8 % 2) = { D with f := wrTo G ⟨(xa, ya), (xb, yb), (xc, yc), (xd, yd)⟩ (v : Int) 4 }) := by
              show _ = _
              have := put_in (D := { D with f := wrTo G ⟨(xa, ya), (xb, yb), (xc, yc), (xd, yd)⟩ (v : Int) 3 }) (s := (v : Int) / 8 % 2) hin.1 hin.2 (by show (v : Int) / 8 % 2 < D.St; have := HR.out.f.ok.s0; simp only at this; omega)
              rw [this]; rfl
            have hand : bits BinOp.and IntKind.u8 ((v : Int) / 8) 1 = (v : Int) / 8 % 2 := by have := and8 (v / 8) (by omega); simpa using this
            have hsv : (0 : Int) ≤ (v : Int) / 8 % 2 ∧ (v : Int) / 8 % 2 ≤ 255 := by omega
            have hφi : (φ : Int) < 16 := by omega
            have hφj : (0 : Int) ≤ (φ : Int) := by omega
            go_wp2_with (first | fail)
            have n1_ : Hid (¬ S' wr.heap.size) := fun hh => Nat.lt_irrefl _ (hsr _ hh)
            have n2_ : Hid (¬ S' w.heap.size) := fun hh => Nat.lt_irrefl _ (HR.out.s2 _ hh)
            have KA := Lib.hid HR1.out.a
            have hvA : Hid ((arr RB)[φ]? = some (.int .u8 (v : Nat))) := by show _ = _; rw [arr_at (by rw [hrl.out]; exact hφ2), hv]
            have KPH := Lib.hid KP
            have hF0 := Lib.hid HR1.out.f
            generalize (wr.alloc (.cells #[.int .i64 (xd : Nat), .int .i64 (yd : Nat)] 87)) = WX at *
            clear KP hsr hin
            go_region_held3 (fun w' => w'.cell? ⟨wr.heap.size, 0, none⟩ = some (.int .i64 (xd : Nat)) ∧ w'.cell? ⟨wr.heap.size, 1, none⟩ = some (.int .i64 (yd : Nat)) ∧ w'.cell? ⟨w.heap.size, φ, none⟩ = some (.int .u8 (v : Nat)) ∧ Wrote S' WX w' ∧ (Fld g' { D with f := wrTo G ⟨(xa, ya), (xb, yb), (xc, yc), (xd, yd)⟩ (v : Int) 3 } S' w' ∨ Fld g' (({ D with f := wrTo G ⟨(xa, ya), (xb, yb), (xc, yc), (xd, yd)⟩ (v : Int) 3 } : FD).put (xd : Nat) (yd : Nat) ((v : Int) / 8 % 2)) S' w'))
              (first | exact keepW KPH.out KA.out hvA.out n1_.out n2_.out (Wrote.refl _ _).drew (.inl (hF0.out.below (Below.refl _ _).drew)) | exact keepW KPH.out KA.out hvA.out n1_.out n2_.out (nextW hw1 (by assumption)) (.inr P1))
              (first | (go_at_call 30; ((with_reducible refine (set_mid (xd : Nat) (yd : Nat) ((v : Int) / 8 % 2) _ rfl (And.right (And.right (And.right (And.right (by assumption))))) hsv).mono ?_); rintro e w4 ⟨rfl, P1, hw1⟩; have hww := Lib.hid (nextW hw1 (by assumption)); have P1 := Lib.hid P1)))
            have hE := Lib.hid (HR1.out.wrote hww.out (hnx.out ▸ P1.out))
            have hO2 := Lib.hid (own_wrote HO1.out hww.out HR1.out.s1)
            go_wp2
            go_roundw
            case rel => (repeat apply Exists.intro); exact ⟨⟨4, rfl, by omega, hE.out, hO2.out⟩, rfl⟩
            case measure => simp [intOf]
          · have hR4 : Hid (RunSt k W H t s wn hn RB g' D S' (genM RB ((blkL k W H t s p).take (q + 1)) F) w2.heap.size bw (.slice A0 n0' c0) (.slice A1 n1' c1) n0' n1' w wr) := by
              have h_ := HR.out
              rw [← hstep.out, ← hgen.out] at h_
              exact h_
            go_wp2
            go_roundw
            case rel => exact ⟨q + 1, by go_num, by omega, hR4.out, HO.out⟩
            case measure => simp [intOf]; omega
      · obtain rfl : q = N := by omega
        have hR5 : Hid (RunSt k W H t s wn hn RB g' D S' (bwd RB (blkL k W H t s) (j + 1) gen D.f) w2.heap.size bw (.slice A0 n0' c0) (.slice A1 n1' c1) n0' n1' w wr) := by
          have h_ := HR.out
          rw [List.take_of_length_le (by rw [← hHL.out]; exact Nat.le_refl _), ← HF0.out] at h_
          exact h_
        have hg1 : Hid (gen - (j : Int) - 1 = gen - ((j + 1 : Nat) : Int)) := by show _ = _; omega
        have hn1_ : Hid (n + (j : Int) + 1 = n + ((j + 1 : Nat) : Int)) := by show _ = _; omega
        have hme : Hid ((-(n + (j : Int) + 1)).toNat < (-(n + (j : Int))).toNat) := by show _ < _; omega
        go_wp2
        go_roundw
        case rel => exact ⟨j + 1, by rw [hg1.out], by rw [hn1_.out], by omega, hR5.out⟩
        case measure => exact hme.out
    · have hz : (n + (j : Int) != 0) = false := by
        have : n + (j : Int) = 0 := by omega
        simp [this]
      have hP : Hid (RunP D (bwd RB (blkL k W H t s) (-n).toNat gen D.f) w (.returned (.tuple #[.pointer (some ⟨g', 0, none⟩), .int .i64 0])) wr) := by
        rw [show (-n).toNat = j by omega]
        exact ⟨g', S', rfl, HR.out.f, HR.out.s2, HR.out.below⟩
      go_wp2
      go_ret2
      exact hP.out
end Go.Proofs.Ytdpcmpfhjhbicaa
