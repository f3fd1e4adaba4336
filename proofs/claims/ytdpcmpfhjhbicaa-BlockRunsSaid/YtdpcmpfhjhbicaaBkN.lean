/- Run, in all; the laws' own first look. -/
import Derived.Test.YtdpcmpfhjhbicaaBkK
import Derived.Test.YtdpcmpfhjhbicaaBkL
import Derived.Test.YtdpcmpfhjhbicaaBkD
import Derived.Deep.RegionWith
import Derived.Deep.WholeRow
set_option linter.unusedVariables false
set_option linter.unusedSimpArgs false
namespace Go.Proofs.Ytdpcmpfhjhbicaa
open Go.RowKit Go.Viv

/-- the field so many generations later -/
def runF (b : List Int) (L : Int → List Blk) (gen n : Int) (f : Nat → Nat → Int) : Nat → Nat → Int := if 0 ≤ n then fwd b L n.toNat gen f else bwd (backF b 16) L (-n).toNat gen f

section
variable {b : List Int} {k W H t s gen n : Int} {g : Nat} {D : FD} {S : Nat → Prop} {w : World}
theorem even_of (ha : askE b k W H t s D gen n = 0) (t0 : 0 ≤ t) : EvenOk k W H t s (W.toNat / 2) (H.toNat / 2) := by
  have A := askOk_of ha
  have G := gridOk_of A.g
  have := G.w2; have := G.h2
  have ok := topoOk_of t0 G.ok
  have := ok.w0; have := ok.h0
  exact ⟨G, t0, by omega, by omega⟩
theorem Run_ok (hb : Arr16 b) (t0 : 0 ≤ t) (hF : Fld g D S w) (n0 : -9223372036854775808 ≤ n) (n1 : n ≤ 9223372036854775807) (ha : askE b k W H t s D gen n = 0) :
    Calls Try.prog 15 #[.agg (arr b), topoV k W H t s, .pointer (some ⟨g, 0, none⟩), .int .i64 gen, .int .i64 n] w (RunP D (runF b (blkL k W H t s) gen n D.f) w) := by
  unfold runF
  by_cases h : 0 ≤ n
  · rw [if_pos h]; exact Run_fwd hb (even_of ha t0) hF n0 n1 ha h
  · rw [if_neg h]; exact Run_bwd hb (even_of ha t0) hF n0 n1 ha (by omega)

set_option maxRecDepth 20000 in
set_option maxHeartbeats 4000000 in
theorem Run_bad (hb : Arr16 b) (t0 : 0 ≤ t) (hF : Fld g D S w) (n0 : -9223372036854775808 ≤ n) (n1 : n ≤ 9223372036854775807) {v : Int} (ha : askE b k W H t s D gen n = v) (hv : v ≠ 0) :
    Calls Try.prog 15 #[.agg (arr b), topoV k W H t s, .pointer (some ⟨g, 0, none⟩), .int .i64 gen, .int .i64 n] w (Ret (.tuple #[.pointer none, .int .i64 v]) w) := by
  have KO := Lib.hid (askW_K (b := b) (k := k) (W := W) (H := H) (t := t) (s := s) (w := w))
  have KT := Lib.hid (askW_T (b := b) (k := k) (W := W) (H := H) (t := t) (s := s) (w := w))
  have hB := Lib.hid (askW_B (b := b) (k := k) (W := W) (H := H) (t := t) (s := s) (w := w))
  have CA := Lib.hid (ask_calls (k := k) (W := W) (H := H) (t := t) (s := s) (gen := gen) hb t0 (hF.below hB.out) n0 n1)
  rw [ha] at CA
  have hi := arr_info hb.len
  have hcT := bk_cell KT.out
  have hv1 : (v != 0) = true := bne_iff_ne.2 hv
  unfold askW at KO KT hB CA hcT
  clear ha hv hF
  go_enter Try.func15, Try.ntmps15
  go_wp2_with (first | (go_at_call 44; ((with_reducible refine CA.out.mono ?_); rintro e w1 ⟨rfl, hb1⟩)) | (refine wpList_load_row (by rfl) 23 _ (by rfl) w.heap.size (by rfl) 23 _ (0, 0) _ KO.out Try.underlying23 rfl hi ?_))
  go_ret2
  exact Ret.of rfl (next hB.out hb1)

set_option maxRecDepth 20000 in
set_option maxHeartbeats 4000000 in
theorem Run_none {q : Option Addr} (hb : b.length = 16) (hq : NoneAt q w) :
    Calls Try.prog 15 #[.agg (arr b), topoV k W H t s, .pointer q, .int .i64 gen, .int .i64 n] w (Ret (.tuple #[.pointer none, .int .i64 1]) w) := by
  have KO := Lib.hid (askW_K (b := b) (k := k) (W := W) (H := H) (t := t) (s := s) (w := w))
  have KT := Lib.hid (askW_T (b := b) (k := k) (W := W) (H := H) (t := t) (s := s) (w := w))
  have hB := Lib.hid (askW_B (b := b) (k := k) (W := W) (H := H) (t := t) (s := s) (w := w))
  have CA := Lib.hid (ask_none (b := b) (k := k) (W := W) (H := H) (t := t) (s := s) (gen := gen) (n := n) (hq.below hB.out))
  have hi := arr_info hb
  have hcT := bk_cell KT.out
  unfold askW at KO KT hB CA hcT
  clear hq
  go_enter Try.func15, Try.ntmps15
  go_wp2_with (first | (go_at_call 44; ((with_reducible refine CA.out.mono ?_); rintro e w1 ⟨rfl, hb1⟩)) | (refine wpList_load_row (by rfl) 23 _ (by rfl) w.heap.size (by rfl) 23 _ (0, 0) _ KO.out Try.underlying23 rfl hi ?_))
  go_ret2
  exact Ret.of rfl (next hB.out hb1)
end

theorem next' {w w1 w2 : World} (h : Below w.heap.size w w1) (h2 : Below w1.heap.size w1 w2) : Below w.heap.size w w2 := next h h2
def ballsL : List Int := [0, 8, 4, 3, 2, 5, 9, 7, 1, 6, 10, 11, 12, 13, 14, 15]
theorem balls16 : Arr16 ballsL := ⟨rfl, by decide⟩
set_option maxRecDepth 20000 in
set_option maxHeartbeats 4000000 in
theorem balls_calls (w : World) : Calls Try.prog 33 #[] w (Ret (.agg (arr ballsL)) w) := by
  have K0 := bk_new w (.cells (arr (List.replicate 16 0)) 23)
  have hB := boxed w (.cells (arr (List.replicate 16 0)) 23)
  rw [← zero16] at K0 hB
  go_enter Try.func33, Try.ntmps33
  go_wp2_with (refine wpList_store_row (by rfl) 23 _ _ (by rfl) w.heap.size (arr ballsL) (by rfl) (by rfl) 23 _ K0 (arr_info balls16.len) (by rfl) (arr_one _) ?_)
  refine end_c w.heap.size 23 rfl rfl rfl Try.underlying23 rfl ⟨_, setRow_heap _ _ _ _ _ _ K0, arr_info balls16.len, Ret.of rfl ?_⟩
  exact below_setRow hB (by omega) _

def aD0 : FD := zeroD 4 4 2 false
def aD1 : FD := { aD0 with f := setF (fun _ _ => 0) 0 0 1 }
def aD2 : FD := { aD1 with f := runF ballsL (blkL 2 4 4 0 0) 1 1 aD1.f }
theorem a_ask : askE ballsL 2 4 4 0 0 aD1 1 1 = 0 := by decide +kernel
theorem a_twist : askE ballsL 3 4 4 1 0 aD1 0 1 = 40 := by decide +kernel
theorem a_get : aD2.f 3 3 = 1 := by decide +kernel
theorem a_pop : (livL aD2).length = 1 := by decide +kernel
def aText : ByteArray := { data := #[109, 48, 56, 52, 51, 50, 53, 57, 55, 49, 54, 97, 98, 99, 100, 101, 102] }
theorem a_parse : parseV aText = .tuple #[.agg (arr ballsL), .int .i64 0, .int .i64 0] := by
  have h1 : parseL aText = ballsL := by decide +kernel
  have h2 : parseN aText = 0 := by decide +kernel
  have h3 : parseE aText = 0 := by decide +kernel
  unfold parseV
  rw [h1, h2, h3]
theorem a_turns : turnsB ballsL = true := by decide +kernel
theorem a_check : checkB ballsL = 0 := by decide +kernel

theorem keepR {w w' : World} {b : Nat} {T : TypeId} {l : List Int} (h : w.heap[b]? = some (.cells (arr l) T (0, 0))) (hb : Below w.heap.size w w') : w'.rangeAt b 0 (l.map (Value.int .u8)) ∧ Below w.heap.size w w' :=
  ⟨fun j v hv => by rw [Nat.zero_add, bk_cell (bk_below h hb)]; simpa [arr] using hv, hb⟩
theorem nextR {w w1 w2 : World} {p : Prop} (h2 : Below w1.heap.size w1 w2) (h : p ∧ Below w.heap.size w w1) : Below w.heap.size w w2 := next h.2 h2
theorem a_even : ballsL.length = 16 := rfl
theorem a_run {g : Nat} {S : Nat → Prop} {w : World} (h : Fld g aD1 S w) : Calls Try.prog 15 #[.agg (arr ballsL), topoV 2 4 4 0 0, .pointer (some ⟨g, 0, none⟩), .int .i64 1, .int .i64 1] w (RunP aD1 aD2.f w) :=
  Run_ok balls16 (by omega) h (by omega) (by omega) a_ask
theorem a_run2 {g : Nat} {S : Nat → Prop} {w : World} (h : Fld g aD1 S w) : Calls Try.prog 15 #[.agg (arr ballsL), topoV 3 4 4 1 0, .pointer (some ⟨g, 0, none⟩), .int .i64 0, .int .i64 1] w (Ret (.tuple #[.pointer none, .int .i64 40]) w) :=
  Run_bad balls16 (by omega) h (by omega) (by omega) a_twist (by omega)

set_option maxRecDepth 20000 in
set_option maxHeartbeats 8000000 in
theorem alive29 (w : World) : Calls Try.prog 12 #[] w (Ret (.bool true) w) := by
  have C1 := Lib.hid (fun w => Parse_calls aText (by decide) w)
  rw [a_parse] at C1
  have C2 := Lib.hid (fun w => Turns_calls balls16 w)
  rw [a_turns, a_check] at C2
  have C3 : Hid (∀ w, Calls Try.prog 32 #[.int .i64 4, .int .i64 4, .int .i64 2, .bool false] w (NewP 4 4 2 false w)) := fun w => New_yes 4 4 2 false w (by omega) (by omega) (by omega) (by omega) (by omega) (by omega) (by simp) (by omega)
  have C4 : Hid (∀ (g : Nat) (S : Nat → Prop) (w : World), Fld g aD0 S w → Calls Try.prog 30 #[.pointer (some ⟨g, 0, none⟩), .int .i64 0, .int .i64 0, .int .u8 1] w fun e w' => e = .returned (.int .i64 0) ∧ Fld g aD1 S w' ∧ Wrote S w w') := fun _ _ _ h => Set_calls 0 0 1 h (by omega) (by omega)
  have C5 : Hid (∀ (g : Nat) (S : Nat → Prop) (w : World), Fld g aD2 S w → Calls Try.prog 41 #[.pointer (some ⟨g, 0, none⟩), .int .i64 3, .int .i64 3] w fun e w' => e = .returned (.tuple #[.int .u8 1, .int .i64 0]) ∧ Below w.heap.size w w') := fun _ _ _ h => by
    have := Get_calls 3 3 h
    rw [show getV aD2 3 3 = .tuple #[.int .u8 (aD2.f 3 3), .int .i64 0] from rfl, a_get] at this
    exact this
  have C6 : Hid (∀ (g : Nat) (S : Nat → Prop) (w : World), Fld g aD2 S w → Calls Try.prog 31 #[.pointer (some ⟨g, 0, none⟩)] w fun e w' => e = .returned (.int .i64 1) ∧ Below w.heap.size w w') := fun _ _ _ h => by
    have := Pop_calls h; rw [a_pop] at this; exact this
  have heq : ∀ w, (binOp .neq 23 (.agg (arr ballsL)) (.agg (arr ballsL))).run Try.prog w = .ok (.bool false) w := fun w => by
    have := arr_neq a_even a_even w; simpa using this
  have hlen := arr_info a_even
  unfold aText at C1
  go_enter Try.func12, Try.ntmps12
  go_wp2_with (first | (go_at_call 13; ((with_reducible refine (C1.out _).mono ?_); rintro e w1 ⟨rfl, hb1⟩)) | (refine wpList_store_row (by rfl) 23 _ _ (by rfl) w1.heap.size (arr ballsL) (by rfl) (by rfl) 23 _ (bk_new w1 _) hlen (by rfl) (arr_one _) ?_; rw [World.setRow_alloc_new]; have K1 := bk_new w1 (.cells (arr ballsL) 23); have hB1 := hb1.alloc hb1.size (.cells (arr ballsL) 23); generalize (w1.alloc (.cells (arr ballsL) 23)) = w2 at *) | (refine wpList_load_row (by rfl) 23 _ (by rfl) w1.heap.size (by rfl) 23 _ (0, 0) _ K1 Try.underlying23 rfl hlen ?_) | (go_at_call 22; ((with_reducible refine (C2.out _).mono ?_); rintro e w3 ⟨rfl, hb3⟩; have K3 := bk_below K1 hb3; have hB3 := next' hB1 hb3)) | (go_at_call 32; ((with_reducible refine (C3.out _).mono ?_); rintro e w4 ⟨g, S, rfl, hF, hge, hb4⟩; have K4 := bk_below K3 hb4; have hB4 := next' hB3 hb4)))
  have hu := Try.underlying23
  have hi2 : (Try.prog.info? 23).map (·.size) = some (ballsL.map (Value.int .u8)).length := by kernel_rfl
  have hl2 : (ballsL.map (Value.int .u8)).length = 16 := rfl
  have ho2 : ∀ v ∈ ballsL.map (Value.int .u8), v.oneCell' = true := by decide
  have heq2 : ∀ w, (binOp .neq 23 (.agg (ballsL.map (Value.int .u8)).toArray) (.agg (arr ballsL))).run Try.prog w = .ok (.bool false) w := heq
  have HK4 := Lib.hid K4
  clear hlen heq
  go_region_held3 (fun w' => w'.rangeAt w1.heap.size 0 (ballsL.map (Value.int .u8)) ∧ Below w4.heap.size w4 w')
    (first | exact keepR HK4.out (Below.refl _ _).drew | exact keepR HK4.out hacc)
    (first | (go_at_call 33; ((with_reducible refine (balls_calls _).mono ?_); rintro e w5 ⟨rfl, hb5⟩; have hacc := nextR hb5 (by assumption))))
  have K5 := Lib.hid (bk_below HK4.out hacc)
  have hF5 := Lib.hid (hF.below hacc)
  have hB5 := Lib.hid (next' hB4 hacc)
  have hlt : Hid (w1.heap.size < w3.heap.size) := bk_lt K3
  have hge' : Hid (∀ b, S b → w3.heap.size ≤ b) := hge
  have hsz5 : Hid (w3.heap.size ≤ w5.heap.size) := Nat.le_trans hb4.size hacc.size
  have hB1' : Hid (w.heap.size ≤ w3.heap.size) := hB3.size
  clear hu hi2 hl2 ho2 heq2 hge hF hB4 hB3 hB1 K1 K3 K4 HK4
  go_wp2_with (first | (go_at_call 30; ((with_reducible refine (C4.out _ _ _ hF5.out).mono ?_); rintro e w6 ⟨rfl, hF6, hw6⟩; have K6 := Lib.hid ((hw6.block w1.heap.size (bk_lt K5.out) (fun hs => by have := hge'.out _ hs; have := hlt.out; omega)).trans K5.out); have hF6' := Lib.hid hF6; have hB6 := Lib.hid (hB5.out.trans (hw6.below hB5.out.size fun b hb => by have := hge'.out b hb; have := hlt.out; have := hB1'.out; omega)))) | (refine wpList_load_row (by rfl) 23 _ (by rfl) w1.heap.size (by rfl) 23 _ (0, 0) _ K6.out Try.underlying23 rfl (arr_info a_even) ?_) | (go_at_call 15; ((with_reducible refine (a_run hF6'.out).mono ?_); rintro e w7 ⟨g', S', rfl, hF7, hS7, hb7⟩; have hF7' := Lib.hid hF7; have K7 := Lib.hid (bk_below K6.out hb7))) | (go_at_call 41; ((with_reducible refine (C5.out _ _ _ hF7'.out).mono ?_); rintro e w8 ⟨rfl, hb8⟩; have K8 := Lib.hid (bk_below K7.out hb8))) | (refine wpList_load_row (by rfl) 23 _ (by rfl) w1.heap.size (by rfl) 23 _ (0, 0) _ K8.out Try.underlying23 rfl (arr_info a_even) ?_) | (go_at_call 15; ((with_reducible refine (a_run2 ((hF6'.out.below hb7).below hb8)).mono ?_); rintro e w9 ⟨rfl, hb9⟩)) | (go_at_call 31; ((with_reducible refine (C6.out _ _ _ ((hF7'.out.below hb8).below hb9)).mono ?_); rintro e w10 ⟨rfl, hb10⟩)))
  go_ret
  exact Ret.of rfl (next (next (next (next hB6.out hb7) hb8) hb9) hb10)
end Go.Proofs.Ytdpcmpfhjhbicaa
