/- FieldBoth: the walk. -/
import Derived.Test.YtjhfiibfknhniaaBothM
import Derived.Test.YtjhfiibfknhniaaFBoxed
import Derived.Test.YtjhfiibfknhniaaFAlive
import Derived.Test.YtjhfiibfknhniaaFLivG
set_option linter.unusedVariables false
set_option linter.unusedSimpArgs false
namespace Go.Proofs.Ytjhfiibfknhniaa
open Go.RowKit
attribute [local go_sem] Oper.semAt_some

theorem newE_two (W H : Int) : newE W H 2 true = newE W H 2 false := by unfold newE; simp
theorem new13_none {W H : Int} {pk : Bool} (h : newE W H 2 pk ≠ 0) (w : World) : Calls Try.prog 9 #[.int .i64 W, .int .i64 H, .int .i64 2, .bool pk] w fun e w' => e = .returned (.tuple #[.pointer none, .int .i64 (newE W H 2 pk)]) ∧ w = w' := by
  unfold newE at h ⊢
  by_cases h1 : W < 1 ∨ 65536 < W ∨ H < 1 ∨ 65536 < H ∨ (2 : Int) < 2 ∨ 256 < (2 : Int)
  · rw [if_pos h1]; exact New_arg W H 2 pk w h1
  rw [if_neg h1] at h ⊢
  rw [if_neg (by omega)] at h ⊢
  by_cases h3 : 1048576 < W * H
  · rw [if_pos h3]
    exact New_budget W H 2 pk w (by omega) (by omega) (by omega) (by omega) (by omega) (by omega) (fun _ => by omega) h3
  · rw [if_neg h3] at h; exact absurd rfl h

set_option maxRecDepth 100000 in
set_option maxHeartbeats 4000000 in
theorem Both_none (w : World) {W H : Int} {A : Option Addr} {n c : Nat} (hE : newE W H 2 false ≠ 0) :
    Calls Try.prog 5 #[.int .i64 W, .int .i64 H, .slice A n c] w (Ret (.bool true) w) := by
  have c1 := fun w => new13_none hE w
  have c2 := fun w => new13_none (by rw [newE_two]; exact hE : newE W H 2 true ≠ 0) w
  rw [newE_two] at c2
  have hm0 : (newE W H 2 false == 0) = false := beq_eq_false_iff_ne.2 hE
  have hm1 : (newE W H 2 false != 0) = true := bne_iff_ne.2 hE
  have hm2 : (newE W H 2 false != newE W H 2 false) = false := bne_self_eq_false _
  generalize newE W H 2 false = m at *
  have C1 := Lib.hid c1; have C2 := Lib.hid c2
  clear c1 c2 hE
  refine (callsIn_wide (n := 8)).1 ?_
  refine callsIn_of_wp_marks Try.func5 rfl trivial ?_ rfl
  simp only [Try.ntmps5, List.size_toArray, List.length_cons, List.length_nil, Nat.reduceAdd, Nat.reduceSub, Array.replicate_succ, Array.replicate_zero, List.push_toArray, List.append_toArray, List.nil_append, List.cons_append]
  gi_wp2_with (first | fail)
  have K0 := bk_new w (.cells #[.bool false] 4)
  have hb0 := boxed w (.cells #[.bool false] 4)
  have hw0 : w.heap.size ≤ (w.alloc (.cells #[.bool false] 4)).heap.size := hb0.size
  generalize hB0 : w.heap.size = B0 at *
  generalize w.alloc (.cells #[.bool false] 4) = w0 at *
  have HB0 := Lib.hid hB0; clear hB0
  refine ⟨trivial, (callsIn_wide.2 (alive13 _)).mono ?_⟩
  rintro e w1 ⟨rfl, hb1⟩
  replace K0 := bk_below K0 hb1
  replace hb0 := hb0.trans (hb1.mono hw0)
  clear hb1 hw0
  gi_wp2_with (first | fail)
  refine ⟨trivial, (callsIn_wide.2 (C1.out _)).mono ?_⟩
  rintro e w2 ⟨rfl, rfl⟩
  gi_wp2_with (first | fail)
  have KF := bk_new w1 (.cells #[.pointer none] 22)
  replace hb0 := hb0.alloc (Nat.le_of_lt (bk_lt K0)) (.cells #[.pointer none] 22)
  have hlt := bk_lt K0
  replace K0 := bk_alloc K0 (.cells #[.pointer none] 22)
  generalize hBF : w1.heap.size = BF at *
  generalize w1.alloc (.cells #[.pointer none] 22) = w2 at *
  clear hBF
  refine ⟨trivial, (callsIn_wide.2 (C2.out _)).mono ?_⟩
  rintro e w3 ⟨rfl, rfl⟩
  have hc0 := bk_cell K0; have hf0 := bk_free K0; have hcF := bk_cell KF
  gi_wp2
  have kr : (w2.setCell ⟨B0, 0, none⟩ (.bool true)).heap[B0]? = some (.cells #[.bool true] 4 (0, 0)) := bk_eq (by repeat (with_reducible (first | exact K0 | apply bk_set | refine bk_drew ?_ | refine bk_drewN ?_ _ | refine bk_alloc ?_ _ | refine bk_far ?_ (by simp; try omega) _))) (by simp)
  refine ⟨_, res_c1 rfl _ _ B0 _ rfl (bk_cell kr 0) Try.underlying4, rfl, ?_⟩
  rw [HB0.out]
  exact hb0.setCell (p := ⟨B0, 0, none⟩) (by simp) _
theorem both_get {D : FD} (hok : D.Ok) (hs : D.St = 2) {cx cy cv : Int} (h : (cx, cy, cv) ∈ livL D) : getV D cx cy = .tuple #[.int .u8 1, .int .i64 0] ∧ cv = 1 := by
  obtain ⟨y, x, hy, hx, hz, he⟩ := liv_mem h
  obtain ⟨rfl, rfl, rfl⟩ : cx = (x : Int) ∧ cy = (y : Int) ∧ cv = D.f y x := by simpa using he
  have hb : hasB D.W D.H x y = true := hasB_yes (by omega) (by omega) (by omega) (by omega)
  have := hok.bd y x hy hx
  have e : D.f y x = 1 := by omega
  refine ⟨?_, e⟩
  unfold getV
  rw [if_pos hb]
  simp only [Int.toNat_natCast]
  rw [e]
/-- what stands while the cells go by -/
def BothI {α : Type} (M B0 BF BN f : Nat) (D : FD) (S : Nat → Prop) (w : World) (xs : List α) (W : World) : Prop :=
  W.heap[B0]? = some (.cells #[.bool false] 4 (0, 0)) ∧ W.heap[BF]? = some (.cells #[.pointer (some ⟨f, 0, none⟩)] 22 (0, 0)) ∧ W.heap[BN]? = some (.cells #[.int .i64 xs.length] 3 (0, 0)) ∧ Fld f D S W ∧ Below B0 w W ∧ M ≤ W.heap.size
theorem fld_ownG {α : Type} {g : Nat} {D : FD} {S : Nat → Prop} {B : Nat} (hS : ∀ b, S b → b < B) : OwnFrom B (fun (_ : List α) W => Fld g D S W) := fun s X Y row hs hg hr =>
  hs.keep fun b hb => hg.block b (hs.lt b hb) (fun e => by have := (hr b e.symm).1; have := hS b hb; omega)
theorem bothI_own {α : Type} {M B0 BF BN f B : Nat} {D : FD} {S : Nat → Prop} {w : World} (h1 : B0 ≤ w.heap.size) (h2 : B0 ≤ B) (hS : ∀ b, S b → b < B) : OwnFrom B (BothI (α := α) M B0 BF BN f D S w) :=
  OwnFrom.and ((blk_own _ _ _).from _) (OwnFrom.and ((blk_own _ _ _).from _) (OwnFrom.and ((blk_own _ _ _).from _) (OwnFrom.and (fld_ownG hS) (OwnFrom.and (ownFrom_below h1 h2) (fun s X Y row hs hg _ => Nat.le_trans hs hg.size)))))
def cellB (b : Nat) (w : World) : Value := (w.cell? ⟨b, 0, none⟩).getD undef
theorem cellB_of {b : Nat} {w : World} {v : Value} {t : TypeId} (h : w.heap[b]? = some (.cells #[v] t (0, 0))) : w.cell? ⟨b, 0, none⟩ = some (cellB b w) := by unfold cellB; rw [bk_cell h 0]; rfl
theorem bothHeld {B0 BF BN f m : Nat} {Wz w1 : World} (K0 : Wz.heap[B0]? = some (.cells #[.bool false] 4 (0, 0))) (K1 : Wz.heap[BF]? = some (.cells #[.pointer (some ⟨f, 0, none⟩)] 22 (0, 0))) (KN : Wz.heap[BN]? = some (.cells #[.int .i64 m] 3 (0, 0))) (hb : Below Wz.heap.size Wz w1) :
    w1.cell? ⟨BN, 0, none⟩ = some (.int .i64 m) ∧ w1.cell? ⟨BF, 0, none⟩ = some (.pointer (some ⟨f, 0, none⟩)) ∧ w1.frozen? ⟨B0, 0, none⟩ = false ∧ w1.cell? ⟨B0, 0, none⟩ = some (cellB B0 w1) :=
  ⟨bk_cell (bk_below KN hb) 0, bk_cell (bk_below K1 hb) 0, bk_free (bk_below K0 hb) 0, cellB_of (bk_below K0 hb)⟩
theorem bothHeld2 {B0 BF BN f m : Nat} {Wz w1 : World} {v : Bool} (K0 : Wz.heap[B0]? = some (.cells #[.bool false] 4 (0, 0))) (K1 : Wz.heap[BF]? = some (.cells #[.pointer (some ⟨f, 0, none⟩)] 22 (0, 0))) (KN : Wz.heap[BN]? = some (.cells #[.int .i64 m] 3 (0, 0))) (h1 : BN ≠ B0) (h2 : BF ≠ B0) (hb : Below Wz.heap.size Wz w1) :
    (w1.setCell ⟨B0, 0, none⟩ (.bool v)).cell? ⟨BN, 0, none⟩ = some (.int .i64 m) ∧ (w1.setCell ⟨B0, 0, none⟩ (.bool v)).cell? ⟨BF, 0, none⟩ = some (.pointer (some ⟨f, 0, none⟩)) ∧ (w1.setCell ⟨B0, 0, none⟩ (.bool v)).frozen? ⟨B0, 0, none⟩ = false ∧ (w1.setCell ⟨B0, 0, none⟩ (.bool v)).cell? ⟨B0, 0, none⟩ = some (cellB B0 (w1.setCell ⟨B0, 0, none⟩ (.bool v))) :=
  ⟨bk_cell (bk_far (bk_below KN hb) h1 _) 0, bk_cell (bk_far (bk_below K1 hb) h2 _) 0, bk_free (bk_set (bk_below K0 hb) 0 _) 0, cellB_of (bk_eq (cs' := #[.bool v]) (bk_set (bk_below K0 hb) 0 (.bool v)) (by simp))⟩
theorem nextB {w w1 w2 : World} (h : Below w.heap.size w w1) (h2 : Below w1.heap.size w1 w2) : Below w.heap.size w w2 := h.trans (h2.mono h.size)
theorem keepsOthers_belowB {A B : World} (h : Below A.heap.size A B) : KeepsOthers A B := ⟨h.size, fun k o hk _ => (h.block k (Array.getElem?_eq_some_iff.1 hk).1).trans hk⟩
theorem keepsOn_belowB {S : Nat → Prop} {A B C : World} (h : KeepsOn S A B) (hS : ∀ b, S b → b < B.heap.size) (hb : Below B.heap.size B C) : KeepsOn S A C := fun b hs => (hb.block b (hS b hs)).trans (h b hs)

set_option maxRecDepth 100000 in
set_option maxHeartbeats 8000000 in
theorem Both_yes (w : World) {Wn Hn : Nat} {A : Option Addr} {n c : Nat} {os : List OpR} (h1 : 1 ≤ Wn) (h2 : Wn ≤ 65536) (h3 : 1 ≤ Hn) (h4 : Hn ≤ 65536) (hm : Wn * Hn ≤ 1048576) (hn : os.length = n) (hnb : n ≤ 9223372036854775807) (hO : OpsAt w A os) :
    Calls Try.prog 5 #[.int .i64 Wn, .int .i64 Hn, .slice A n c] w (Ret (.bool true) w) := by
  have C1 := Lib.hid (fun w => New_yes Wn Hn 2 false w h1 h2 h3 h4 (by omega) (by omega) (fun _ => by omega) hm)
  have C2 := Lib.hid (fun w => New_yes Wn Hn 2 true w h1 h2 h3 h4 (by omega) (by omega) (fun _ => by omega) hm)
  have HN := Lib.hid hn; have HO := Lib.hid hO
  clear hn hO hm
  refine (callsIn_wide (n := 8)).1 ?_
  refine callsIn_of_wp_marks Try.func5 rfl trivial ?_ rfl
  simp only [Try.ntmps5, List.size_toArray, List.length_cons, List.length_nil, Nat.reduceAdd, Nat.reduceSub, Array.replicate_succ, Array.replicate_zero, List.push_toArray, List.append_toArray, List.nil_append, List.cons_append]
  gi_wp2_with (first | fail)
  have K0 := bk_new w (.cells #[.bool false] 4)
  have hb0 := boxed w (.cells #[.bool false] 4)
  have hw0 : w.heap.size ≤ (w.alloc (.cells #[.bool false] 4)).heap.size := hb0.size
  obtain ⟨B0, hB0⟩ : ∃ B0, w.heap.size = B0 := ⟨_, rfl⟩
  rw [hB0] at K0 hb0 hw0 ⊢
  generalize w.alloc (.cells #[.bool false] 4) = w0 at *
  have HB0 := Lib.hid hB0; clear hB0
  refine ⟨trivial, (callsIn_wide.2 (alive13 _)).mono ?_⟩
  rintro e w1 ⟨rfl, hb1⟩
  replace K0 := bk_below K0 hb1
  replace hb0 := hb0.trans (hb1.mono hw0)
  clear hb1 hw0
  gi_wp2_with (first | fail)
  refine ⟨trivial, (callsIn_wide.2 (C1.out _)).mono ?_⟩
  rintro e w2 ⟨f, S, rfl, hF, hS, hb2⟩
  have hB01 := bk_lt K0
  replace K0 := bk_below K0 hb2
  replace hb0 := hb0.trans (hb2.mono (Nat.le_of_lt hB01))
  have hS1 : ∀ b, S b → B0 < b ∧ b < w2.heap.size := fun b hb => ⟨by have := hS b hb; omega, hF.lt b hb⟩
  clear hS hb2 hB01
  gi_wp2_with (first | fail)
  have KF := bk_new w2 (.cells #[.pointer (some ⟨f, 0, none⟩)] 22)
  have hbA := boxed w2 (.cells #[.pointer (some ⟨f, 0, none⟩)] 22)
  have hlt := bk_lt K0
  replace hb0 := hb0.trans (hbA.mono (Nat.le_of_lt hlt))
  replace K0 := bk_below K0 hbA
  replace hF := hF.below hbA
  generalize hBF : w2.heap.size = BF at *
  generalize w2.alloc (.cells #[.pointer (some ⟨f, 0, none⟩)] 22) = w3 at *
  have HF := Lib.hid hF
  clear hBF hbA hF
  refine ⟨trivial, (callsIn_wide.2 (C2.out _)).mono ?_⟩
  rintro e w4 ⟨g, T, rfl, hG, hT, hb4⟩
  have hBF3 := bk_lt KF
  have hX : Hid (BoX B0 BF f g A os w w4) := ⟨_, _, S, T, bk_below K0 hb4, bk_below KF hb4, ⟨HF.out.below hb4, hG, fun b hb ht => by have := hT b ht; have := hS1 b hb; omega, rfl, rfl, rfl, rfl, rfl, fun _ _ _ _ => rfl⟩, fun b hb => by
    rcases hb with hb | hb
    · have := hS1 b hb; omega
    · have := hT b hb; omega, hb0.trans (hb4.mono (by omega)), HO.out.below (by rw [HB0.out]; exact hb0.trans (hb4.mono (by omega))), hlt, HB0.out.symm⟩
  have cp1 := Packed_calls (HF.out.below hb4)
  have cp2 := Packed_calls hG
  have CP1 := Lib.hid cp1; have CP2 := Lib.hid cp2
  have hcF := bk_cell (bk_below KF hb4)
  clear cp1 cp2 hG hT hb4 HF hS1 K0 KF hb0 hBF3 hlt
  have hp1 : (zeroD Wn Hn 2 false).pk = false := rfl
  have hp2 : (zeroD Wn Hn 2 true).pk = true := rfl
  rw [hp1] at CP1; rw [hp2] at CP2
  clear hp1 hp2
  gi_wp2_with (first
    | (refine ⟨trivial, ?_⟩; gi_at_call 17; (first | ((with_reducible refine (callsIn_wide.2 CP1.out).mono ?_); rintro e w' ⟨rfl, rfl⟩) | ((with_reducible refine (callsIn_wide.2 CP2.out).mono ?_); rintro e w' ⟨rfl, rfl⟩))))
  clear hcF CP1 CP2
  gi_loopw [12] (fun vi wr => ∃ k : Nat, vi = .int .i64 (k : Int) ∧ k ≤ n ∧ Hid (BoX B0 BF f g A os w wr)) (fun vi _ => n - (intOf vi).toNat)
  case atStart => exact ⟨0, rfl, Nat.zero_le _, hX⟩
  clear hX
  obtain ⟨k, rfl, hk, HX⟩ := hrel
  by_cases hlt : k < n
  · obtain ⟨o, ho⟩ : ∃ o, os[k]? = some o := ⟨_, List.getElem?_eq_getElem (by rw [HN.out]; exact hlt)⟩
    obtain ⟨b, off, rfl, hops⟩ := HO.out (by rw [HN.out]; omega)
    obtain ⟨A', c', hop⟩ := hops k o ho
    have HOP := Lib.hid hop
    clear hop hops ho
    have hlk : (k : Int) < (n : Int) := by omega
    gi_wp2_with (first | fail)
    gi_cut [72, 73, 74, 75, 76, 77, 78, 79, 80, 81, 82, 83, 84, 85, 86, 87, 88, 89, 90, 91, 92, 93, 94, 95, 96, 97, 98, 99, 100, 101, 102, 103, 104, 105, 106, 107, 108, 109, 110, 111, 112, 113, 114, 115, 116, 117, 118, 119] from 65 (fun u v73 v74 v75 v76 v77 v78 v79 v80 v81 v82 v83 v84 v85 v86 v87 v88 v89 v90 v91 v92 v93 v94 v95 v96 v97 v98 v99 v100 v101 v102 v103 v104 v105 v106 v107 v108 v109 v110 v111 v112 v113 v114 v115 v116 v117 v118 v119 wc => u = .bool false ∧ v73 = undef ∧ v74 = undef ∧ v75 = undef ∧ v76 = undef ∧ v77 = undef ∧ v78 = undef ∧ v79 = undef ∧ v80 = undef ∧ v81 = undef ∧ v82 = undef ∧ v83 = undef ∧ v84 = undef ∧ v85 = undef ∧ v86 = undef ∧ v87 = undef ∧ v88 = undef ∧ v89 = undef ∧ v90 = undef ∧ v91 = undef ∧ v92 = undef ∧ v93 = undef ∧ v94 = undef ∧ v95 = undef ∧ v96 = undef ∧ v97 = undef ∧ v98 = undef ∧ v99 = undef ∧ v100 = undef ∧ v101 = undef ∧ v102 = undef ∧ v103 = undef ∧ v104 = undef ∧ v105 = undef ∧ v106 = undef ∧ v107 = undef ∧ v108 = undef ∧ v109 = undef ∧ v110 = undef ∧ v111 = undef ∧ v112 = undef ∧ v113 = undef ∧ v114 = undef ∧ v115 = undef ∧ v116 = undef ∧ v117 = undef ∧ v118 = undef ∧ v119 = undef ∧ Hid (BoX B0 BF f g (some ⟨b, off, none⟩) os w wc))
    case first =>
      rename_i J1 K1 hJ1 hK1
      refine wpIn_mono (Q := barred _) ?_ barred_out
      refine wpIn_wide.2 ?_
      go_region_held3 (fun w' => w'.cell? ⟨BF, 0, none⟩ = some (.pointer (some ⟨f, 0, none⟩)) ∧ w'.cell? ⟨b, off + k * 8, none⟩ = some (.int .i64 o.kind) ∧ w'.cell? ⟨b, off + k * 8 + 1, none⟩ = some (.int .i64 o.which) ∧ w'.cell? ⟨b, off + k * 8 + 2, none⟩ = some (.int .i64 o.x) ∧ w'.cell? ⟨b, off + k * 8 + 3, none⟩ = some (.int .i64 o.y) ∧ w'.cell? ⟨b, off + k * 8 + 4, none⟩ = some (.int .u8 o.st) ∧ w'.cell? ⟨b, off + k * 8 + 5, none⟩ = some (.int .i64 o.sts) ∧ w'.cell? ⟨b, off + k * 8 + 6, none⟩ = some (.slice A' o.l.length c') ∧ w'.cell? ⟨b, off + k * 8 + 7, none⟩ = some (.bool o.on) ∧ BoX B0 BF f g (some ⟨b, off, none⟩) os w w')
        (first | exact (HX.out.below (Below.refl _ _).drew).cells HOP.out | exact hX2.cells HOP.out)
        ((go_at_call 18; (with_reducible refine (BoX.two (heldBo (by assumption)) HO.out HOP.out).mono ?_); rintro e w1 ⟨rfl, hX2⟩))
      have HX2 := Lib.hid hX2
      refine barred_nm ?_
      refine hK1 _ _ (Met.intro (hJ1 _ _ ?_))
      (repeat apply Exists.intro)
      refine ⟨?rel, rfl⟩
      case rel => exact ⟨rfl, rfl, rfl, rfl, rfl, rfl, rfl, rfl, rfl, rfl, rfl, rfl, rfl, rfl, rfl, rfl, rfl, rfl, rfl, rfl, rfl, rfl, rfl, rfl, rfl, rfl, rfl, rfl, rfl, rfl, rfl, rfl, rfl, rfl, rfl, rfl, rfl, rfl, rfl, rfl, rfl, rfl, rfl, rfl, rfl, rfl, rfl, rfl, HX2⟩
    case rest =>
      clear HX
      obtain ⟨rfl, rfl, rfl, rfl, rfl, rfl, rfl, rfl, rfl, rfl, rfl, rfl, rfl, rfl, rfl, rfl, rfl, rfl, rfl, rfl, rfl, rfl, rfl, rfl, rfl, rfl, rfl, rfl, rfl, rfl, rfl, rfl, rfl, rfl, rfl, rfl, rfl, rfl, rfl, rfl, rfl, rfl, rfl, rfl, rfl, rfl, rfl, rfl, HX⟩ := hcut
      gi_wp2_with (first | fail)
      go_roundw
      case rel => first | exact ⟨k + 1, by go_num, by omega, HX⟩ | ((repeat apply Exists.intro); exact ⟨⟨k + 1, rfl, by omega, HX⟩, rfl⟩)
      case measure => simp [intOf]; omega
  · obtain rfl : k = n := by omega
    have hlk : ¬ ((k : Int) < (k : Int)) := by omega
    obtain ⟨D, E, S, T, st⟩ := HX.out
    clear hlt hk HX
    have ST := Lib.hid st
    have hcF := bk_cell st.kf
    clear st
    gi_wp2_with (first | fail)
    have hsc : Hid (sameC D E) := ⟨ST.out.two.w1, ST.out.two.h1, ST.out.two.s1.trans ST.out.two.s2.symm, ST.out.two.eq⟩
    have hsc2 : Hid (sameC E D) := ⟨hsc.out.1.symm, hsc.out.2.1.symm, hsc.out.2.2.1.symm, fun y x hy hx => (hsc.out.2.2.2 y x (by rw [hsc.out.2.1]; exact hy) (by rw [hsc.out.1]; exact hx)).symm⟩
    refine ⟨trivial, (callsIn_wide.2 (Same_calls ST.out.two.d ST.out.two.e)).mono ?_⟩
    rintro e w5 ⟨b1, rfl, hb1, hbel⟩
    obtain rfl := hb1.2 hsc.out
    replace ST := Lib.hid (ST.out.below hbel)
    clear hb1 hbel hcF
    have hcF := bk_cell ST.out.kf
    gi_wp2_with (first | fail)
    refine ⟨trivial, (callsIn_wide.2 (Same_calls ST.out.two.e ST.out.two.d)).mono ?_⟩
    rintro e w6 ⟨b1, rfl, hb1, hbel⟩
    obtain rfl := hb1.2 hsc2.out
    replace ST := Lib.hid (ST.out.below hbel)
    clear hb1 hbel hcF
    have hcF := bk_cell ST.out.kf
    have cp := Packed_calls ST.out.two.d
    rw [ST.out.two.pk] at cp
    have CP := Lib.hid cp
    clear cp
    gi_wp2_with (first | (refine ⟨trivial, ?_⟩; gi_at_call 17; ((with_reducible refine (callsIn_wide.2 CP.out).mono ?_); rintro e w' ⟨rfl, rfl⟩)))
    have KN := bk_new w6 (.cells #[.int .i64 0] 3)
    have hbA := boxed w6 (.cells #[.int .i64 0] 3)
    have hltF := bk_lt ST.out.kf
    have hfarN : Hid (∀ b, S b ∨ T b → b < w6.heap.size) := fun b hb => by rcases hb with hb | hb; exact ST.out.two.d.lt b hb; exact ST.out.two.e.lt b hb
    replace ST := Lib.hid (ST.out.below hbA)
    generalize hBN : w6.heap.size = BN at *
    generalize w6.alloc (.cells #[.int .i64 0] 3) = w7 at *
    clear hBN hbA hcF
    refine ⟨trivial, (callsIn_wide.2 (Cells_calls ST.out.two.e)).mono ?_⟩
    rintro e w8 ⟨g2, S2, BQ, rfl, hF2, hS2, hBQ, KQ, hbel⟩
    replace ST := Lib.hid (ST.out.below hbel)
    have hN7 := bk_lt KN
    replace KN := bk_below KN hbel
    have hfe : ∀ (g : Nat) (lb : Array Value) (W : World), (binOp .eql 43 (.func (.func g) #[] lb) .nilFunc).run Try.prog W = .ok (.bool false) W := fun _ _ _ => by kernel_rfl
    gi_wp2_with (first | fail)
    have hit := (living_fldG BQ KQ hF2).sub (n := 7) (by omega)
    have hit1 : ∀ b, (S2 b ∨ b = BQ) → b < w8.heap.size := (living_fldG BQ KQ hF2).1
    have HLE : Hid (livL D = livL E) := ST.out.two.liv
    have hll : (livL E).length ≤ 1048576 := by have := livTo_length E E.H; have := ST.out.two.e.ok.wh; unfold livL; omega
    have hB0w : B0 ≤ w.heap.size := by rw [HB0.out]; exact Nat.le_refl _
    have hB8 : B0 ≤ w8.heap.size := Nat.le_of_lt (bk_lt ST.out.kr)
    have hSN : Hid (∀ b, S b → b ≠ BN ∧ b < w8.heap.size) := fun b hb => ⟨fun e => by have := hfarN.out b (.inl hb); omega, ST.out.two.d.lt b hb⟩
    have hNQ : ∀ b, (S2 b ∨ b = BQ) → b ≠ BN := fun b hb e => by
      rcases hb with hb | hb
      · have := hS2 b hb; omega
      · omega
    have hST2 := Lib.hid ST.out.two.s1
    have hBF0 := ST.out.ord
    have hBFN : BF < BN := hltF
    have KNo := KN; clear KN
    have KR := ST.out.kr; have KF := ST.out.kf; have hfD := ST.out.two.d; have hbw := ST.out.l
    clear hS2 hBQ KQ hF2 hbel ST hfarN hsc hsc2 hN7 HO HN CP C1 C2
    refine wpIn_rangeFunc_ownH rfl (by omega) (gf := 51) (lb := #[.pointer (some ⟨BQ, 0, none⟩)]) rfl trivial (enters_of Try.func51 (by kernel_rfl) rfl)
      hit keepsOn_t (keepsOn_b hit1) (Below.refl _ _) (fun _ => rfl)
      (BothI (α := Sub (livL E)) w8.heap.size B0 BF BN f D S w) (fun _ _ _ => False) (bothI_own hB0w hB8 (fun b hb => (hSN.out b hb).2)) (fun _ _ _ _ _ hs _ _ => hs)
      ⟨KR, KF, KNo, hfD, hbw, Nat.le_refl _⟩ (fun x a' Wx => ∃ BX, BN < BX ∧ Wx.heap[BX]? = some (.cells #[.int .i64 x.1.1, .int .i64 x.1.2.1] 46 (0, 0)) ∧ a' = { tmps := #[.int .i64 Wn, .int .i64 Hn, .slice A k c, undef, undef, undef, .pointer (some ⟨B0, 0, none⟩), .bool true, .pointer (some ⟨BF, 0, none⟩), .int .i64 0, .pointer (some ⟨g, 0, none⟩), .int .i64 0, .int .i64 k, .pointer (some ⟨BN, 0, none⟩), .pointer (some ⟨BX, 0, none⟩), .int .u8 x.1.2.2, undef, undef, .bool true, .tuple #[.pointer (some ⟨f, 0, none⟩), .int .i64 0], .int .i64 Wn, .int .i64 Hn, .tuple #[.pointer (some ⟨f, 0, none⟩), .int .i64 0], .pointer (some ⟨f, 0, none⟩), .int .i64 0, .tuple #[.pointer (some ⟨g, 0, none⟩), .int .i64 0], .int .i64 Wn, .int .i64 Hn, .tuple #[.pointer (some ⟨g, 0, none⟩), .int .i64 0], .pointer (some ⟨g, 0, none⟩), .int .i64 0, .int .i64 0, .int .i64 0, .bool false, .bool false, .pointer (some ⟨f, 0, none⟩), .bool false, .pointer (some ⟨g, 0, none⟩), .bool false, .bool false, .bool false, .pointer (some ⟨f, 0, none⟩), .bool false, .bool false, .pointer (some ⟨g, 0, none⟩), .bool false, .bool false, undef, undef, undef, undef, undef, .pointer (some ⟨f, 0, none⟩), .bool false, .bool false, .pointer (some ⟨g, 0, none⟩), .bool true, .bool false, .bool false, .int .i64 k, .slice A k c, .int .i64 k, .bool false, u63, u64, u65, u66, u67, u68, u69, u70, u71, u72, .pointer (some ⟨f, 0, none⟩), .pointer (some ⟨g, 0, none⟩), .bool true, .bool false, .bool false, .pointer (some ⟨g, 0, none⟩), .pointer (some ⟨f, 0, none⟩), .bool true, .bool false, .bool false, .bool false, .pointer (some ⟨f, 0, none⟩), .bool false, .bool false, .pointer (some ⟨g, 0, none⟩), .func (.func 51) #[] #[.pointer (some ⟨BQ, 0, none⟩)], .agg #[.int .i64 x.1.1, .int .i64 x.1.2.1], .int .u8 x.1.2.2, undef, undef, undef, undef, undef, undef, undef, undef, undef, undef, undef, undef, undef, undef, undef, undef, undef, undef, undef, undef, undef, undef, undef, undef, undef, undef, undef, undef, undef], defers := [] })
      (fun x a' s X Y row ⟨Bx, h1, h2, h3⟩ hg hr => ⟨Bx, h1, (blk_own (β := Unit) Bx _ (fun _ => _)) () X Y row h2 hg (fun r e => (hr r e).2), h3⟩) ?assign ?body ?done ?stop
    case assign =>
      intro l pre x Wa K hi hK
      obtain ⟨K0, K1, KN, hf', hbel, hM⟩ := id hi
      simp [celV]
      gi_wp2
      refine hK _ _ ((KeepsOthers.alloc _ _).from _) (fun b hb => Below.heap_alloc _ _ _ (by have := hit1 b hb; omega)) ⟨bk_alloc K0 _, bk_alloc K1 _, bk_alloc KN _, hf'.below (boxed _ _), hbel.alloc (by omega) _, by simp; omega⟩ ⟨Wa.heap.size, by have := bk_lt KN; omega, bk_new Wa _, rfl⟩
    case body =>
      rintro l pre ⟨⟨cx, cy, cv⟩, hx⟩ a' Wa hl ⟨r, hr⟩ ⟨K0, K1, KN, hf', hbel, hM⟩ ⟨BX, hBX, KX, rfl⟩ hlt
      obtain ⟨hgv, rfl⟩ := both_get hf'.ok hST2.out (by rw [HLE.out]; exact hx)
      have cg := Get_calls cx cy hf'
      rw [hgv] at cg
      have CG := Lib.hid cg; clear cg hgv
      have hcX := bk_cell KX; have hcF := bk_cell K1
      have hwl : ∀ b, (S2 b ∨ b = BQ) → b < Wa.heap.size := fun b hb => by have := hit1 b hb; omega
      have hpl : pre.length < 4294967296 := by omega
      clear hit hl hr hlt hll KR KF KNo hfD hbw
      gi_wp2_with (first | fail)
      refine ⟨trivial, (CallsIn.inRound l (callsIn_wide.2 CG.out)).mono ?_⟩
      rintro e wP ⟨rfl, hb⟩
      have hko : KeepsOthers Wa wP := keepsOthers_belowB hb
      replace K0 := bk_below K0 hb; replace K1 := bk_below K1 hb; replace KN := bk_below KN hb; replace KX := bk_below KX hb
      clear hcX hcF CG
      have hsz := hb.size
      have hne0 : B0 ≠ BN := by omega
      have hne1 : BF ≠ BN := by omega
      have hend : Hid (ownPostG w8.heap.size (KeepsOn fun b => S2 b ∨ b = BQ) (BothI (α := Sub (livL E)) w8.heap.size B0 BF BN f D S w) (fun _ _ _ => False) (pre ++ [⟨(cx, cy, 1), hx⟩]) Wa Exit.normal { tmps := #[], defers := [] } (wP.setCell ⟨BN, 0, none⟩ (.int .i64 (pre.length + 1)))) := by
        refine ⟨((hko.trans (KeepsOthers.setCell _ _ _)).from _), keepsOn_set (keepsOn_belowB (keepsOn_refl _ _) hwl hb) (fun h => hNQ _ h rfl), bk_far K0 hne0 _, bk_far K1 hne1 _, bk_eq (bk_set KN 0 (.int .i64 (pre.length + 1))) (by simp), ?_, ?_, by simp; omega⟩
        · exact (hf'.below hb).keep fun b hS => Below.heap_setCell _ _ _ b (hSN.out b hS).1
        · exact (hbel.trans (hb.mono (by omega))).setCell (p := ⟨BN, 0, none⟩) (by show B0 ≤ BN; omega) _
      have hcX := bk_cell KX; have hc0 := bk_cell K0; have hc1 := bk_cell K1; have hcN := bk_cell KN; have hfN := bk_free KN
      clear K0 K1 KN KX hf' hbel hb hwl
      gi_wp2
      exact hend.out
    case done =>
      rintro Dd ys Wz hD hys ⟨K0, K1, KN, hf', hbel, hM⟩ hK
      have hlen : ys.length = (livL E).length := by have := congrArg List.length hys; simpa using this
      rw [hlen] at KN
      have hwD : w.heap.size ≤ Dd := by have := HB0.out; omega
      have hBD : B0 < Dd := Nat.lt_of_lt_of_le (bk_lt KR) hD
      have hDd : Dd < Wz.heap.size := (Array.getElem?_eq_some_iff.1 hK).1
      have hee : (((livL E).length : Int) == ((livL E).length : Int)) = true := beq_self_eq_true _
      have cpp : ∀ w', Below Wz.heap.size Wz w' → Calls Try.prog 15 #[.pointer (some ⟨f, 0, none⟩)] w' fun e w'' => e = .returned (.int .i64 (livL E).length) ∧ Below w'.heap.size w' w'' := fun w' hw => by
        have := Pop_calls (hf'.below hw)
        rw [HLE.out] at this
        exact this
      have CPP := Lib.hid cpp
      have HK0 := Lib.hid K0; have HK1 := Lib.hid K1; have HKN := Lib.hid KN; have HKD := Lib.hid hK; have HBL := Lib.hid hbel
      clear hit hll KR KF KNo hfD hbw cpp hlen K0 K1 KN hK hbel hf'
      gi_wp2_with (first | fail)
      gi_cut [119] from 115 (fun u wc => u = .bool true ∧ Hid (wc.heap[B0]? = some (.cells #[.bool true] 4 (0, 0))) ∧ Hid (wc.heap[Dd]? = some (.deferred (some []))) ∧ Hid (Below B0 w wc))
      case first =>
        rename_i J1 K1 hJ1 hK1
        refine wpIn_mono (Q := barred _) ?_ barred_out
        refine wpIn_wide.2 ?_
        go_region_held3 (fun w' => w'.cell? ⟨BN, 0, none⟩ = some (.int .i64 (livL E).length) ∧ w'.cell? ⟨BF, 0, none⟩ = some (.pointer (some ⟨f, 0, none⟩)) ∧ w'.frozen? ⟨B0, 0, none⟩ = false ∧ w'.cell? ⟨B0, 0, none⟩ = some (cellB B0 w'))
          (first | exact bothHeld HK0.out HK1.out HKN.out (Below.refl _ _).drew | exact bothHeld HK0.out HK1.out HKN.out hb2 | exact bothHeld2 HK0.out HK1.out HKN.out (by omega) (by omega) hb2)
          ((go_at_call 15; (with_reducible refine (CPP.out _ (Below.refl _ _).drew).mono ?_); rintro e w1 ⟨rfl, hb1⟩; have hb2 := nextB (Below.refl _ _).drew hb1))
        have HB2 := Lib.hid hb2
        refine barred_nm ?_
        refine hK1 _ _ (Met.intro (hJ1 _ _ ?_))
        (repeat apply Exists.intro)
        refine ⟨?rel, rfl⟩
        case rel =>
          refine ⟨rfl, bk_eq (bk_set (bk_below HK0.out HB2.out) 0 (.bool true)) (by simp), (Below.heap_setCell _ _ _ Dd (by show Dd ≠ B0; omega)).trans ((HB2.out.block Dd hDd).trans HKD.out), ((HBL.out.trans (HB2.out.mono (Nat.le_of_lt (bk_lt HK0.out)))).setCell (p := ⟨B0, 0, none⟩) (Nat.le_refl _) _)⟩
      case rest =>
        obtain ⟨rfl, KB, KD, hbl⟩ := hcut
        have hcB := bk_cell KB.out
        gi_wp2
        refine ⟨by simp, .inl ⟨_, _, rfl, run_takeDeferred KD.out, ?_⟩⟩
        refine ⟨_, res_c1 rfl _ _ B0 _ rfl (bk_cell (((grownBy_putObj' _ Dd (.deferred none)).block B0 (bk_lt KB.out) (by simp; omega)).trans KB.out) 0) Try.underlying4, rfl, ?_⟩
        rw [HB0.out]
        exact hbl.out.trans (belowK_b (w := w) hB0w _ Dd _ _ hwD KD.out rfl rfl)
    case stop =>
      rintro D2 c pre Wz _ hp h _
      exact h.elim

theorem FieldBoth_walk (w : World) {W H : Int} {A : Option Addr} {n c : Nat} {os : List OpR} (bW : -9223372036854775808 ≤ W ∧ W ≤ 9223372036854775807) (bH : -9223372036854775808 ≤ H ∧ H ≤ 9223372036854775807) (hn : os.length = n) (hnb : n ≤ 9223372036854775807) (hO : OpsAt w A os) :
    Calls Try.prog 5 #[.int .i64 W, .int .i64 H, .slice A n c] w (Ret (.bool true) w) := by
  by_cases hE : newE W H 2 false = 0
  · unfold newE at hE
    split at hE
    · omega
    rename_i h1
    rw [if_neg (by omega)] at hE
    split at hE
    · omega
    rename_i h3
    obtain ⟨Wn, rfl⟩ : ∃ Wn : Nat, W = (Wn : Int) := ⟨W.toNat, by omega⟩
    obtain ⟨Hn, rfl⟩ : ∃ Hn : Nat, H = (Hn : Int) := ⟨H.toNat, by omega⟩
    exact Both_yes w (by omega) (by omega) (by omega) (by omega) (by rw [← Int.natCast_mul] at h3; omega) hn hnb hO
  · exact Both_none w hE
end Go.Proofs.Ytjhfiibfknhniaa
