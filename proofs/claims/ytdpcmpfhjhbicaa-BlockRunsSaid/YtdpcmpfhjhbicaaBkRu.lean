/- The document's Run. -/
import Derived.Test.YtdpcmpfhjhbicaaBkOp
import Derived.Test.YtdpcmpfhjhbicaaBkRa
import Derived.Test.YtdpcmpfhjhbicaaBkRs
set_option linter.unusedVariables false
set_option linter.unusedSimpArgs false
namespace Go.Proofs.Ytdpcmpfhjhbicaa
open Go.RowKit Go.Viv

theorem fwd_snoc (r : List Int) (L : Int → List Blk) (j : Nat) (g : Int) (f : Nat → Nat → Int) : fwd r L (j + 1) g f = genM r (L ((g + j) % 2)) (fwd r L j g f) := by rw [fwd_add]; rfl
def In01 (W H : Nat) (f : Nat → Nat → Int) : Prop := ∀ p : Cl, p.1 < W → p.2 < H → at_ f p = 0 ∨ at_ f p = 1
theorem In01.put {W H : Nat} {f : Nat → Nat → Int} (h : In01 W H f) (p : Cl) (n : Int) : In01 W H (putC f p (n % 2)) := fun q a b => by
  rw [at_put]
  by_cases e : q = p
  · rw [if_pos e]; omega
  · rw [if_neg e]; exact h q a b
theorem In01.gen {W H : Nat} (r : List Int) : ∀ (L : List Blk) {f : Nat → Nat → Int}, In01 W H f → In01 W H (genM r L f)
  | [], _, h => h
  | B :: L, f, h => In01.gen r L (f := stepB r f B) ((((h.put B.a _).put B.b _).put B.c _).put B.d _)
theorem In01.fwd {W H : Nat} (r : List Int) (L : Int → List Blk) : ∀ (j : Nat) (g : Int) {f : Nat → Nat → Int}, In01 W H f → In01 W H (fwd r L j g f)
  | 0, _, _, h => h
  | j + 1, g, _, h => In01.fwd r L j (g + 1) (h.gen r _)
theorem In01.bwd {W H : Nat} (r : List Int) (L : Int → List Blk) : ∀ (j : Nat) (g : Int) {f : Nat → Nat → Int}, In01 W H f → In01 W H (bwd r L j g f)
  | 0, _, _, h => h
  | j + 1, g, _, h => In01.bwd r L j (g - 1) (h.gen r _)
theorem FD.Ok.in01 {D : FD} (h : D.Ok) (hs : D.St ≤ 2) : In01 D.W D.H D.f := fun p a b => by
  have := h.bd p.2 p.1 b a
  show D.f p.2 p.1 = 0 ∨ D.f p.2 p.1 = 1
  omega
/-- Run's answer: cells of its own -/
def RRunP (Wn Hn N : Nat) (F : Nat → Nat → Int) (w : World) (e : Ending) (w' : World) : Prop := ∃ ob c, e = .returned (.tuple #[.slice (some ⟨ob, 0, none⟩) N c, .int .i64 0]) ∧ Flat ob Wn Hn F w' ∧ w.heap.size ≤ ob ∧ N ≤ c ∧ c ≤ 9223372036854775807 ∧ Below w.heap.size w w'

set_option maxRecDepth 20000 in
set_option maxHeartbeats 4000000 in
theorem rRun_bad {b : List Int} {k W H t s gen n v : Int} {q : Option Addr} {w : World} (hb : b.length = 16) (hA : ∀ w', Below w.heap.size w w' → Calls Try.prog 26 #[.agg (arr b), topoV k W H t s, .pointer q, .int .i64 gen, .int .i64 n] w' (Ret (.int .i64 v) w')) (hv : v ≠ 0) :
    Calls Try.prog 27 #[.agg (arr b), topoV k W H t s, .pointer q, .int .i64 gen, .int .i64 n] w (Ret (.tuple #[.slice none 0 0, .int .i64 v]) w) := by
  have KO := Lib.hid (askW_K (b := b) (k := k) (W := W) (H := H) (t := t) (s := s) (w := w))
  have KT := Lib.hid (askW_T (b := b) (k := k) (W := W) (H := H) (t := t) (s := s) (w := w))
  have hB := Lib.hid (askW_B (b := b) (k := k) (W := W) (H := H) (t := t) (s := s) (w := w))
  have CA := Lib.hid (hA _ hB.out)
  have hi := arr_info hb
  have hcT := bk_cell KT.out
  have hv1 : (v != 0) = true := bne_iff_ne.2 hv
  unfold askW at KO KT hB CA hcT
  clear hv hA
  go_enter Try.func27, Try.ntmps27
  go_wp2_with (first | (go_at_call 26; ((with_reducible refine CA.out.mono ?_); rintro e w1 ⟨rfl, hb1⟩)) | (refine wpList_load_row (by rfl) 23 _ (by rfl) w.heap.size (by rfl) 23 _ (0, 0) _ KO.out Try.underlying23 rfl hi ?_))
  go_ret2
  exact Ret.of rfl (next hB.out hb1)

set_option maxRecDepth 20000 in
set_option maxHeartbeats 8000000 in
theorem rRun_ok {b : List Int} {k t s gen n : Int} {q cb N : Nat} {D : FD} {w : World} (hb : Arr16 b) (t0 : 0 ≤ t) (s0 : -9223372036854775808 ≤ s) (hN : N = D.W * D.H) (hF : RF q cb D w) (hok : D.Ok) (n0 : -9223372036854775808 ≤ n) (n1 : n ≤ 9223372036854775807) (ha : askE b k D.W D.H t s D gen n = 0) (OC : OnceC k t s D.W D.H N) :
    Calls Try.prog 27 #[.agg (arr b), topoV k D.W D.H t s, .pointer (some ⟨q, 0, none⟩), .int .i64 gen, .int .i64 n] w (RRunP D.W D.H N (runF b (blkL k D.W D.H t s) gen n D.f) w) := by
  have KO := Lib.hid (askW_K (b := b) (k := k) (W := D.W) (H := D.H) (t := t) (s := s) (w := w))
  have KT := Lib.hid (askW_T (b := b) (k := k) (W := D.W) (H := D.H) (t := t) (s := s) (w := w))
  have hB := Lib.hid (askW_B (b := b) (k := k) (W := D.W) (H := D.H) (t := t) (s := s) (w := w))
  have A := askOk_of ha
  have g0 := A.g0; have g1 := A.g1; have a0 := A.n0; have a1 := A.n1
  have HF := Lib.hid (hF.below hB.out)
  have CA := Lib.hid (rAsk_calls (k := k) (W := D.W) (H := D.H) (t := t) (gen := gen) (n := n) hb t0 s0 (hF.below hB.out) hok n0 n1 (by omega) (by omega))
  rw [ha] at CA
  have hq := (hF.below hB.out).blk
  rw [← hN] at hq
  have hcT := bk_cell KT.out
  unfold askW at KO KT hB HF CA hcT hq
  have w0 := hok.w0; have h0 := hok.h0; have wh := hok.wh
  rw [← hN] at wh
  have hpos : 0 < N := by rw [hN]; exact Nat.mul_pos w0 h0
  have hlen : Hid ((flatL D.W D.H D.f).length = N) := by show _ = _; simp [flatL, hN]
  have HN := Lib.hid hN
  clear hN
  have hone : ∀ u ∈ (flatL D.W D.H D.f).map (Value.int .u8), u.oneCell' = true := fun u hu => by obtain ⟨z, _, rfl⟩ := List.mem_map.1 hu; rfl
  have hi := arr_info hb.len
  have hiB := arr_info (backL_length b)
  have hzB : Hid ((arr (List.replicate 16 0)).size = (arr (backL b)).size) := by show _ = _; rw [arr_size, arr_size, backL_length]; rfl
  have honeB := Lib.hid (arr_one (backL b))
  have HT01 := Lib.hid (hok.in01 A.st)
  have HA := Lib.hid A
  have HBK := Lib.hid (rBack_calls hb)
  have hF0 := Lib.hid hF.lt
  have HOC := Lib.hid OC
  have HR := Lib.hid hb
  clear A hF ha OC hb
  go_enter Try.func27, Try.ntmps27
  go_wp2_with (first
    | (go_at_call 26; ((with_reducible refine CA.out.mono ?_); rintro e w1 ⟨rfl, hb1⟩; have KO1 := Lib.hid (bk_below KO.out hb1); have KT1 := Lib.hid (bk_below KT.out hb1); have hq1 := bk_cell (bk_below hq hb1); have HF1 := Lib.hid (HF.out.below hb1); have hB1 := Lib.hid (next hB.out hb1)))
    | (refine wpList_load_row (by rfl) 23 _ (by rfl) w.heap.size (by rfl) 23 _ (0, 0) _ KO.out Try.underlying23 rfl hi ?_)
    | (at_builtin; (refine app_rd rfl _ _ 44 rfl (w.heap.size + 1 + 1) 5 _ 1 1 Try.underlying44 u8info rfl (by decide) _ 0 [] (by rfl) (World.ownsRow_nil _ _ _ _) (some ⟨cb, 0, none⟩) N N ((flatL D.W D.H D.f).map (.int .u8)) (by rfl) (HF1.out.flat.rd w0) (by rw [List.length_map, Nat.mul_one]; exact hlen.out) hone (by unfold maxLen; omega) (by omega) (by have := hb1.size; simp at this; omega) ?_); intro v' w2 hown hb2 hgr; obtain ⟨ob, c2, rfl, ho1, hob, hc2, hc3⟩ := flat_own (W := D.W) (H := D.H) (f := D.f) HN.out (by rw [Nat.zero_add, List.nil_append] at hown; exact hown) hpos (fun y x hy hx => flatL_at hy hx); have hS1 : Hid (OcSt cb ob D.W D.H b k t s D.f D.f w w2) := ⟨(hb2.block _ (by omega)).trans KO1.out, (hb2.block _ (by omega)).trans KT1.out, HF1.out.flat.keep (hb2.block cb (by have := hF0.out.2; omega)), ho1, hB1.out.trans (hb2.mono (by omega))⟩; clear hown hb2 hgr ho1))
  have hob1 : w.heap.size ≤ ob := by omega
  have hob2 := Lib.hid hob1
  obtain ⟨hc2', hc3'⟩ := And.intro (Lib.hid hc2) (Lib.hid hc3)
  clear hcT hq hq1 hone hlen KO KT hB KO1 KT1 HF1 hB1 hb1 CA HF hob hob1
  obtain ⟨nf, hnf⟩ : ∃ nf : Nat, n.toNat = nf := ⟨_, rfl⟩
  go_loopw [13, 14] (fun vc vi wz => ∃ (j oc c : Nat), vi = .int .i64 (j : Int) ∧ j ≤ n.toNat ∧ vc = .slice (some ⟨oc, 0, none⟩) N c ∧ Hid (N ≤ c) ∧ Hid (c ≤ 9223372036854775807) ∧ Hid (w.heap.size ≤ oc) ∧ Hid (OcSt cb oc D.W D.H b k t s D.f (fwd b (blkL k D.W D.H t s) j gen D.f) w wz)) (fun _ vi _ => n.toNat - (intOf vi).toNat)
  case atStart => exact ⟨0, ob, c2, rfl, Nat.zero_le _, rfl, hc2', hc3', hob2, hS1⟩
  clear hS1 hc2' hc3' hob2 hc2 hc3
  obtain ⟨j, oc, c, rfl, hj, rfl, hc, hcm, hoc, HX⟩ := hrel
  have ht0 := bk_cell HX.out.t
  by_cases hjl : j < n.toNat
  · have hjn : (j : Int) < n := by omega
    have hwg : IntKind.i64.wrap (gen + (j : Int)) = gen + (j : Int) := by rw [IntKind.wrap_i64]; omega
    have CO := Lib.hid (HOC.out b (gen + (j : Int)) oc c _ wr HR.out HA.out.c (by omega) (by omega) HX.out.o (HT01.out.fwd b (blkL k D.W D.H t s) j gen) hc.out hcm.out)
    go_wp2_with (first
      | (go_at_call 52; ((with_reducible refine CO.out.mono ?_); rintro e w7 ⟨oc', c', rfl, ho7, hoc7, hc7, hcm7, hb7⟩; have HX7 := Lib.hid (HX.out.below hb7)))
      | (refine wpList_load_row (by rfl) 23 _ (by rfl) w.heap.size (by rfl) 23 _ (0, 0) _ HX.out.r Try.underlying23 rfl hi ?_))
    go_roundw
    case rel => exact ⟨j + 1, oc', c', by simp, by omega, rfl, hc7, hcm7, Nat.le_trans HX.out.l.size hoc7, ⟨HX7.out.r, HX7.out.t, HX7.out.c, by rw [fwd_snoc]; exact ho7, HX7.out.l⟩⟩
    case measure => simp [intOf]; omega
  · have hjn : ¬ ((j : Int) < n) := by omega
    have hjj : Hid (j = n.toNat) := by show _ = _; omega
    have hwn : IntKind.i64.wrap (-n) = -n := by rw [IntKind.wrap_i64]; omega
    go_wp2_with (first
      | (go_at_call 38; ((with_reducible refine (HBK.out _).mono ?_); rintro e w8 ⟨rfl, hb8⟩; have HX8 := Lib.hid (HX.out.below hb8)))
      | (refine wpList_load_row (by rfl) 23 _ (by rfl) w.heap.size (by rfl) 23 _ (0, 0) _ HX.out.r Try.underlying23 rfl hi ?_)
      | (refine wpList_store_row (by rfl) 23 _ _ (by rfl) w8.heap.size (arr (backL b)) (by rfl) (by rfl) 23 _ (bk_new w8 _) hiB hzB.out honeB.out ?_; rw [World.setRow_alloc_new]; have KB := Lib.hid (bk_new w8 (.cells (arr (backL b)) 23)); have HX9 := Lib.hid (HX8.out.below (boxed w8 (.cells (arr (backL b)) 23))); generalize (w8.alloc (.cells (arr (backL b)) 23)) = w9 at *; generalize w8.heap.size = bb at *; clear HX HX8 hb8))
    clear ht0 hjn
    go_loopw [13, 17] (fun vc vi wz => ∃ (j' oc c : Nat), vi = .int .i64 (j' : Int) ∧ j' ≤ (-n).toNat ∧ vc = .slice (some ⟨oc, 0, none⟩) N c ∧ Hid (N ≤ c) ∧ Hid (c ≤ 9223372036854775807) ∧ Hid (w.heap.size ≤ oc) ∧ Hid (OcSt cb oc D.W D.H b k t s D.f (bwd (backF b 16) (blkL k D.W D.H t s) j' gen (fwd b (blkL k D.W D.H t s) j gen D.f)) w wz) ∧ Hid (wz.heap[bb]? = some (.cells (arr (backL b)) 23 (0, 0)))) (fun _ vi _ => (-n).toNat - (intOf vi).toNat)
    case atStart => exact ⟨0, oc, c, rfl, Nat.zero_le _, rfl, hc, hcm, hoc, HX9, KB⟩
    clear HX9 KB hc hcm hoc
    obtain ⟨j', oc, c, rfl, hj', rfl, hc, hcm, hoc, HX, KB⟩ := hrel
    have ht0 := bk_cell HX.out.t
    by_cases hjl' : j' < (-n).toNat
    · have hjn' : (j' : Int) < -n := by omega
      have hw1 : IntKind.i64.wrap (gen - 1) = gen - 1 := by rw [IntKind.wrap_i64]; omega
      have hw2 : IntKind.i64.wrap (gen - 1 - (j' : Int)) = gen - 1 - (j' : Int) := by rw [IntKind.wrap_i64]; omega
      have hLB : Hid (backL b = backF b 16) := by show _ = _; unfold backL; rw [HA.out.turns (by omega), if_pos rfl]
      have hRB := back_rule (ruleOk HR.out HA.out.c)
      have CO := Lib.hid (HOC.out (backF b 16) (gen - 1 - (j' : Int)) oc c _ wr ⟨hRB.len, fun n hn => by have := hRB.bd n hn; omega⟩ (checkB_ok fun n hn => by have := hRB.bd n (by rw [hRB.len] at hn; exact hn); omega) (by omega) (by omega) HX.out.o ((HT01.out.fwd b (blkL k D.W D.H t s) j gen).bwd (backF b 16) (blkL k D.W D.H t s) j' gen) hc.out hcm.out)
      rw [← hLB.out] at CO
      clear hRB
      go_wp2_with (first
        | (go_at_call 52; ((with_reducible refine CO.out.mono ?_); rintro e w7 ⟨oc', c', rfl, ho7, hoc7, hc7, hcm7, hb7⟩; have HX7 := Lib.hid (HX.out.below hb7); have KB7 := Lib.hid (bk_below KB.out hb7)))
        | (refine wpList_load_row (by rfl) 23 _ (by rfl) bb (by rfl) 23 _ (0, 0) _ KB.out Try.underlying23 rfl hiB ?_))
      go_roundw
      case rel => exact ⟨j' + 1, oc', c', by simp, by omega, rfl, hc7, hcm7, Nat.le_trans HX.out.l.size hoc7, ⟨HX7.out.r, HX7.out.t, HX7.out.c, by rw [bwd_snoc, show gen - (j' : Int) - 1 = gen - 1 - (j' : Int) by omega, ← hLB.out]; exact ho7, HX7.out.l⟩, KB7⟩
      case measure => simp [intOf]; omega
    · have hjn' : ¬ ((j' : Int) < -n) := by omega
      have hF : runF b (blkL k D.W D.H t s) gen n D.f = bwd (backF b 16) (blkL k D.W D.H t s) j' gen (fwd b (blkL k D.W D.H t s) j gen D.f) := by
        unfold runF
        by_cases h : 0 ≤ n
        · rw [if_pos h, show j' = 0 by omega, hjj.out]; rfl
        · rw [if_neg h, show j = 0 by omega, show j' = (-n).toNat by omega]; rfl
      go_wp2
      go_ret2
      exact ⟨oc, c, rfl, by first | exact HX.out.o | (rw [hF]; exact HX.out.o), hoc, hc, hcm, HX.out.l⟩
end Go.Proofs.Ytdpcmpfhjhbicaa
