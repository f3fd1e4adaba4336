/- BlockRuns: the walk. Printed by wip/mkRuns.py. BlockRuns: the walk where the generations are run. Printed by wip/mkRuns.py. BlockRuns: the walk, in all. -/
import Derived.Test.YtdpcmpfhjhbicaaBkRu
import Derived.Test.YtdpcmpfhjhbicaaBkRn
import Derived.Test.YtdpcmpfhjhbicaaBkHo
import Derived.Test.YtdpcmpfhjhbicaaBkOp
import Derived.Test.YtdpcmpfhjhbicaaBkOc

set_option linter.unusedVariables false
set_option linter.unusedSimpArgs false
namespace Go.Proofs.Ytdpcmpfhjhbicaa
open Go.RowKit Go.Viv

/-- what was handed in, boxed -/
structure RnSt (b : List Int) (k W1 H1 t s : Int) (kc : Array Value) (w wr : World) : Prop where
  r : wr.heap[w.heap.size]? = some (.cells (arr b) 23 (0, 0))
  t : wr.heap[w.heap.size + 1]? = some (.cells #[.int .u8 k, .int .i64 W1, .int .i64 H1, .int .u8 t, .int .i64 s] 29 (0, 0))
  k : wr.heap[w.heap.size + 1 + 1]? = some (.cells kc 59 (0, 0))
  l : Below w.heap.size w wr
theorem RnSt.below {b : List Int} {k W1 H1 t s : Int} {kc : Array Value} {w wr wr' : World} (h : RnSt b k W1 H1 t s kc w wr) (hb : Below wr.heap.size wr wr') : RnSt b k W1 H1 t s kc w wr' := ⟨bk_below h.r hb, bk_below h.t hb, bk_below h.k hb, next' h.l hb⟩
def rnW (b : List Int) (k W1 H1 t s : Int) (kc : Array Value) (w : World) : World := (((w.alloc (.cells (arr b) 23)).alloc (.cells #[.int .u8 k, .int .i64 W1, .int .i64 H1, .int .u8 t, .int .i64 s] 29)).alloc (.cells kc 59))
theorem RnSt.start {b : List Int} {k W1 H1 t s : Int} {kc : Array Value} {w : World} : RnSt b k W1 H1 t s kc w (rnW b k W1 H1 t s kc w) :=
  ⟨bk_alloc (bk_alloc (bk_new _ _) _) _, by unfold rnW; have := bk_alloc (bk_new (w.alloc (.cells (arr b) 23)) (.cells #[.int .u8 k, .int .i64 W1, .int .i64 H1, .int .u8 t, .int .i64 s] 29)) (.cells kc 59); simpa using this, by unfold rnW; have := bk_new ((w.alloc (.cells (arr b) 23)).alloc (.cells #[.int .u8 k, .int .i64 W1, .int .i64 H1, .int .u8 t, .int .i64 s] 29)) (.cells kc 59); simpa using this, ((boxed w _).alloc (by simp) _).alloc (by simp; omega) _⟩

set_option maxRecDepth 20000 in
set_option maxHeartbeats 4000000 in
theorem Runs_great (w : World) {b : List Int} {k W1 H1 t s : Int} {W H St : Int} {pk : Bool} {A : Option Addr} {n c : Nat} {gen m : Int} (hb : Arr16 b) (hg : greatB W H = true) :
    Calls Try.prog 8 #[.agg (arr b), topoV k W1 H1 t s, .agg #[.int .i64 W, .int .i64 H, .int .i64 St, .bool pk, .slice A n c], .int .i64 gen, .int .i64 m] w (Ret (.bool true) w) := by
  have S0 := Lib.hid (RnSt.start (b := b) (k := k) (W1 := W1) (H1 := H1) (t := t) (s := s) (kc := #[.int .i64 W, .int .i64 H, .int .i64 St, .bool pk, .slice A n c]) (w := w))
  unfold rnW at S0
  have hi := arr_info hb.len
  have HG := Lib.hid (fun w => great_calls W H St pk (.slice A n c) w)
  rw [hg] at HG
  clear hg hb
  go_enter Try.func8, Try.ntmps8
  go_wp2_with (first | (go_at_call 12; ((with_reducible refine (alive29 _).mono ?_); rintro e w1 ⟨rfl, hb1⟩; have S1 := Lib.hid (S0.out.below hb1); have hk1 := bk_cell S1.out.k; have ht1 := bk_cell S1.out.t)) | (go_at_call 24; ((with_reducible refine (HG.out _).mono ?_); rintro e w2 ⟨rfl, hb2⟩; have S2 := Lib.hid (S1.out.below hb2); have hk2 := bk_cell S2.out.k; have ht2 := bk_cell S2.out.t)))
  go_ret
  exact Ret.of rfl S2.out.l

set_option maxRecDepth 20000 in
set_option maxHeartbeats 4000000 in
theorem Runs_none (w : World) {b : List Int} {k W1 H1 t s : Int} {W H St : Int} {pk : Bool} {A : Option Addr} {n c : Nat} {gen m : Int} (hb : Arr16 b) (hg : greatB W H = false) (hE : newE W H St pk ≠ 0) :
    Calls Try.prog 8 #[.agg (arr b), topoV k W1 H1 t s, .agg #[.int .i64 W, .int .i64 H, .int .i64 St, .bool pk, .slice A n c], .int .i64 gen, .int .i64 m] w (Ret (.bool true) w) := by
  have S0 := Lib.hid (RnSt.start (b := b) (k := k) (W1 := W1) (H1 := H1) (t := t) (s := s) (kc := #[.int .i64 W, .int .i64 H, .int .i64 St, .bool pk, .slice A n c]) (w := w))
  unfold rnW at S0
  have hi := arr_info hb.len
  have HG := Lib.hid (fun w => great_calls W H St pk (.slice A n c) w)
  rw [hg] at HG
  have HK := Lib.hid (fun w => Kept_no (A := A) (n := n) (c := c) hE w)
  have HA := Lib.hid (fun w => rAsk_nil (k := k) (W := W1) (H := H1) (t := t) (s := s) (gen := gen) (n := m) (w := w) hb)
  have HRR := Lib.hid (fun w => rRun_bad (k := k) (W := W1) (H := H1) (t := t) (s := s) (gen := gen) (n := m) (v := 1) (q := none) (w := w) hb.len (fun w' _ => rAsk_nil hb) (by decide))
  have HRB := Lib.hid (fun w => Run_none (b := b) (k := k) (W := W1) (H := H1) (t := t) (s := s) (gen := gen) (n := m) (w := w) hb.len (.inl rfl))
  clear hg hb hE
  go_enter Try.func8, Try.ntmps8
  go_wp2_with (first | (go_at_call 12; ((with_reducible refine (alive29 _).mono ?_); rintro e w1 ⟨rfl, hb1⟩; have S1 := Lib.hid (S0.out.below hb1); have hk1 := bk_cell S1.out.k; have ht1 := bk_cell S1.out.t)) | (go_at_call 24; ((with_reducible refine (HG.out _).mono ?_); rintro e w2 ⟨rfl, hb2⟩; have S2 := Lib.hid (S1.out.below hb2); have hk2 := bk_cell S2.out.k; have ht2 := bk_cell S2.out.t)) | (go_at_call 25; ((with_reducible refine (HK.out _).mono ?_); rintro e w3 ⟨rfl, hb3⟩; have S3 := Lib.hid (S2.out.below hb3); have hk3 := bk_cell S3.out.k; have ht3 := bk_cell S3.out.t)) | (go_at_call 26; ((with_reducible refine (HA.out _).mono ?_); rintro e w4 ⟨rfl, hb4⟩; have S4 := Lib.hid (S3.out.below hb4); have hk4 := bk_cell S4.out.k; have ht4 := bk_cell S4.out.t)) | (refine wpList_load_row (by rfl) 23 _ (by rfl) w.heap.size (by rfl) 23 _ (0, 0) _ S3.out.r Try.underlying23 rfl hi ?_))
  go_quiet (fail)
  have S5 := Lib.hid (S4.out.below (bdrewN w4 nq)); have hk5 := bk_cell S5.out.k; have ht5 := bk_cell S5.out.t; generalize w4.drewN nq = w5 at *
  go_wp2_with (first | (refine wpList_load_row (by rfl) 23 _ (by rfl) w.heap.size (by rfl) 23 _ (0, 0) _ S5.out.r Try.underlying23 rfl hi ?_) | (go_at_call 27; ((with_reducible refine (HRR.out _).mono ?_); rintro e w6 ⟨rfl, hb6⟩; have S6 := Lib.hid (S5.out.below hb6); have hk6 := bk_cell S6.out.k; have ht6 := bk_cell S6.out.t)) | (refine wpList_load_row (by rfl) 23 _ (by rfl) w.heap.size (by rfl) 23 _ (0, 0) _ S6.out.r Try.underlying23 rfl hi ?_) | (go_at_call 15; ((with_reducible refine (HRB.out _).mono ?_); rintro e w7 ⟨rfl, hb7⟩; have S7 := Lib.hid (S6.out.below hb7); have hk7 := bk_cell S7.out.k; have ht7 := bk_cell S7.out.t)))
  go_ret
  exact Ret.of rfl S7.out.l

/-- where the field of the law, the document's and its cells lie -/
structure RnF (g q cb Wn Hn : Nat) (St : Int) (pk : Bool) (f : Nat → Nat → Int) (S : Nat → Prop) (wr : World) : Prop where
  fl : Fld g ⟨Wn, Hn, St, pk, f⟩ S wr
  d : RF q cb ⟨Wn, Hn, St, pk, f⟩ wr
theorem RnF.b {g q cb Wn Hn : Nat} {St : Int} {pk : Bool} {f : Nat → Nat → Int} {S : Nat → Prop} {wr : World} (h : RnF g q cb Wn Hn St pk f S wr) : wr.heap[q]? = some (.cells #[.int .i64 Wn, .int .i64 Hn, .int .i64 St, .bool pk, .slice (some ⟨cb, 0, none⟩) (Wn * Hn) (Wn * Hn)] 64 (0, 0)) := h.d.blk
theorem RnF.c {g q cb Wn Hn : Nat} {St : Int} {pk : Bool} {f : Nat → Nat → Int} {S : Nat → Prop} {wr : World} (h : RnF g q cb Wn Hn St pk f S wr) : Flat cb Wn Hn f wr := h.d.flat
theorem RnF.below {g q cb Wn Hn : Nat} {St : Int} {pk : Bool} {f : Nat → Nat → Int} {S : Nat → Prop} {w w' : World} (h : RnF g q cb Wn Hn St pk f S w) (hb : Below w.heap.size w w') : RnF g q cb Wn Hn St pk f S w' := ⟨h.fl.below hb, h.d.below hb⟩
def FieldP (Wn Hn : Nat) (St : Int) (pk : Bool) (f : Nat → Nat → Int) (w : World) (e : Ending) (w' : World) : Prop :=
  ∃ g q cb S, e = .returned (.tuple #[.pointer (some ⟨g, 0, none⟩), .pointer (some ⟨q, 0, none⟩), .bool true]) ∧ RnF g q cb Wn Hn St pk f S w' ∧ (∀ b, S b → w.heap.size ≤ b) ∧ ¬ S q ∧ ¬ S cb ∧ Below w.heap.size w w'
theorem field_calls (Wn Hn : Nat) (St : Int) (pk : Bool) (A : Option Addr) (n c : Nat) (l : List Int) (w : World) (h1 : 1 ≤ Wn) (h2 : Wn ≤ 65536) (h3 : 1 ≤ Hn) (h4 : Hn ≤ 65536) (h5 : 2 ≤ St) (h6 : St ≤ 256) (hp : pk = true → St ≤ 2) (hb : Wn * Hn ≤ 1048576)
    (hn : l.length = n) (hnb : n ≤ 9223372036854775807) (hA : 0 < n → ∃ b off, A = some ⟨b, off, none⟩) (hr : Rd w A (l.map (.int .u8))) (hbl : ∀ z ∈ l, 0 ≤ z ∧ z ≤ 255) :
    Calls Try.prog 25 #[.agg #[.int .i64 Wn, .int .i64 Hn, .int .i64 St, .bool pk, .slice A n c]] w (FieldP Wn Hn St pk (keptF Wn St l) w) :=
  (Kept_yes Wn Hn St pk A n c l w h1 h2 h3 h4 h5 h6 hp hb hn hnb hA hr hbl).mono fun e w' ⟨g, q, cb, S, he, hF, hR, hS, _, _, h7, h8, hb⟩ => ⟨g, q, cb, S, he, ⟨hF, hR⟩, hS, h7, h8, hb⟩

set_option maxRecDepth 20000 in
set_option maxHeartbeats 4000000 in
theorem Runs_bad (w : World) {b : List Int} {k W1 H1 t s : Int} {Wn Hn : Nat} {St : Int} {pk : Bool} {A : Option Addr} {n c : Nat} {gen m : Int} {f : Nat → Nat → Int} (hb : Arr16 b) (hg : greatB Wn Hn = false) (t0 : 0 ≤ t) (s0 : -9223372036854775808 ≤ s) (g0 : -9223372036854775808 ≤ gen) (g1 : gen ≤ 9223372036854775807) (n0 : -9223372036854775808 ≤ m) (n1 : m ≤ 9223372036854775807) (hok : (⟨Wn, Hn, St, pk, f⟩ : FD).Ok)
    (HK : ∀ w', Below w.heap.size w w' → Calls Try.prog 25 #[.agg #[.int .i64 Wn, .int .i64 Hn, .int .i64 St, .bool pk, .slice A n c]] w' (FieldP Wn Hn St pk f w')) {v : Int} (ha : askE b k W1 H1 t s ⟨Wn, Hn, St, pk, f⟩ gen m = v) (hv : v ≠ 0) :
    Calls Try.prog 8 #[.agg (arr b), topoV k W1 H1 t s, .agg #[.int .i64 Wn, .int .i64 Hn, .int .i64 St, .bool pk, .slice A n c], .int .i64 gen, .int .i64 m] w (Ret (.bool true) w) := by
  have S0 := Lib.hid (RnSt.start (b := b) (k := k) (W1 := W1) (H1 := H1) (t := t) (s := s) (kc := #[.int .i64 Wn, .int .i64 Hn, .int .i64 St, .bool pk, .slice A n c]) (w := w))
  unfold rnW at S0
  have hi := arr_info hb.len
  have HG := Lib.hid (fun w => great_calls Wn Hn St pk (.slice A n c) w)
  rw [hg] at HG
  have HKH := Lib.hid HK
  have HOK := Lib.hid hok
  have HR := Lib.hid hb
  have HT0 := Lib.hid t0
  have HA := Lib.hid (fun w' q cb (h : RF q cb ⟨Wn, Hn, St, pk, f⟩ w') => rAsk_calls (k := k) (W := W1) (H := H1) (t := t) (gen := gen) (n := m) hb t0 s0 h hok n0 n1 g0 g1)
  rw [ha] at HA
  have HRR := Lib.hid (fun w q cb (h : RF q cb ⟨Wn, Hn, St, pk, f⟩ w) => rRun_bad (k := k) (W := W1) (H := H1) (t := t) (s := s) (gen := gen) (n := m) (v := v) (q := some ⟨q, 0, none⟩) (w := w) hb.len (fun w' hw => by rw [← ha]; exact rAsk_calls hb t0 s0 (h.below hw) hok n0 n1 g0 g1) hv)
  have HRB := Lib.hid (fun w g S (h : Fld g ⟨Wn, Hn, St, pk, f⟩ S w) => Run_bad (k := k) (W := W1) (H := H1) (t := t) (s := s) (gen := gen) (n := m) hb t0 h n0 n1 ha hv)
  have hv1 : (v != 0) = true := bne_iff_ne.2 hv
  have hv2 : (v == 0) = false := beq_eq_false_iff_ne.2 hv
  have hv3 : (v != v) = false := by simp
  clear ha hv
  clear hg HK hok hb
  go_enter Try.func8, Try.ntmps8
  go_wp2_with (first | (go_at_call 12; ((with_reducible refine (alive29 _).mono ?_); rintro e w1 ⟨rfl, hb1⟩; have S1 := Lib.hid (S0.out.below hb1); have hk1 := bk_cell S1.out.k; have ht1 := bk_cell S1.out.t)) | (go_at_call 24; ((with_reducible refine (HG.out _).mono ?_); rintro e w2 ⟨rfl, hb2⟩; have S2 := Lib.hid (S1.out.below hb2); have hk2 := bk_cell S2.out.k; have ht2 := bk_cell S2.out.t)) | (go_at_call 25; ((with_reducible refine (HKH.out _ S2.out.l).mono ?_); rintro e w3 ⟨g, q, cb, S, rfl, hF, hS3, hSq, hScb, hb3⟩; have S3 := Lib.hid (S2.out.below hb3); have hk3 := bk_cell S3.out.k; have ht3 := bk_cell S3.out.t; have F3 := Lib.hid hF; have hq3 := bk_cell hF.b; have HS := Lib.hid hS3; have HSQ := Lib.hid hSq; have HSC := Lib.hid hScb; clear hF hS3 hSq hScb)) | (go_at_call 26; ((with_reducible refine (HA.out _ _ _ F3.out.d).mono ?_); rintro e w4 ⟨rfl, hb4⟩; have S4 := Lib.hid (S3.out.below hb4); have hk4 := bk_cell S4.out.k; have ht4 := bk_cell S4.out.t; have F4 := Lib.hid (F3.out.below hb4); have hq4 := bk_cell F4.out.b)) | (refine wpList_load_row (by rfl) 23 _ (by rfl) w.heap.size (by rfl) 23 _ (0, 0) _ S3.out.r Try.underlying23 rfl hi ?_))
  go_quiet (fail)
  have S5 := Lib.hid (S4.out.below (bdrewN w4 nq)); have hk5 := bk_cell S5.out.k; have ht5 := bk_cell S5.out.t; have F5 := Lib.hid (F4.out.below (bdrewN w4 nq)); have hq5 := bk_cell F5.out.b; generalize w4.drewN nq = w5 at *; clear hq4 hk4 ht4 hq3 hk3 ht3 hk2 ht2 hk1 ht1 S4 F4 F3 S3 S2 S1 S0
  go_wp2_with (first | (refine wpList_load_row (by rfl) 23 _ (by rfl) w.heap.size (by rfl) 23 _ (0, 0) _ S5.out.r Try.underlying23 rfl hi ?_) | (go_at_call 27; ((with_reducible refine (HRR.out _ _ _ F5.out.d).mono ?_); rintro e w6 ⟨rfl, hb6⟩; have S6 := Lib.hid (S5.out.below hb6); have hk6 := bk_cell S6.out.k; have ht6 := bk_cell S6.out.t; have F6 := Lib.hid (F5.out.below hb6); have hq6 := bk_cell F6.out.b)) | (refine wpList_load_row (by rfl) 23 _ (by rfl) w.heap.size (by rfl) 23 _ (0, 0) _ S6.out.r Try.underlying23 rfl hi ?_) | (go_at_call 15; ((with_reducible refine (HRB.out _ _ _ F6.out.fl).mono ?_); rintro e w7 ⟨rfl, hb7⟩; have S7 := Lib.hid (S6.out.below hb7); have hk7 := bk_cell S7.out.k; have ht7 := bk_cell S7.out.t; have F7 := Lib.hid (F6.out.below hb7); have hq7 := bk_cell F7.out.b)) | (go_at_call 28; ((with_reducible refine (holds_calls (c := Wn * Hn) F7.out.fl F7.out.b F7.out.c (Nat.le_refl _)).mono ?_); rintro e w8 ⟨rfl, hb8⟩; have S8 := Lib.hid (S7.out.below hb8); have hk8 := bk_cell S8.out.k; have ht8 := bk_cell S8.out.t; have F8 := Lib.hid (F7.out.below hb8); have hq8 := bk_cell F8.out.b)))
  go_ret
  exact Ret.of rfl S8.out.l

set_option maxRecDepth 20000 in
set_option maxHeartbeats 4000000 in
theorem Runs_far (w : World) {b : List Int} {k W1 H1 t s : Int} {Wn Hn : Nat} {St : Int} {pk : Bool} {A : Option Addr} {n c : Nat} {gen m : Int} {f : Nat → Nat → Int} (hb : Arr16 b) (hg : greatB Wn Hn = false) (t0 : 0 ≤ t) (s0 : -9223372036854775808 ≤ s) (g0 : -9223372036854775808 ≤ gen) (g1 : gen ≤ 9223372036854775807) (n0 : -9223372036854775808 ≤ m) (n1 : m ≤ 9223372036854775807) (hok : (⟨Wn, Hn, St, pk, f⟩ : FD).Ok)
    (HK : ∀ w', Below w.heap.size w w' → Calls Try.prog 25 #[.agg #[.int .i64 Wn, .int .i64 Hn, .int .i64 St, .bool pk, .slice A n c]] w' (FieldP Wn Hn St pk f w')) (ha : askE b k Wn Hn t s ⟨Wn, Hn, St, pk, f⟩ gen m = 0) (hwn : 0 < Wn * Hn) (hwh : Wn * Hn ≤ 2000) (hf : ((200000 / (Wn * Hn) : Nat) : Int) < m ∨ ((200000 / (Wn * Hn) : Nat) : Int) < -m) :
    Calls Try.prog 8 #[.agg (arr b), topoV k Wn Hn t s, .agg #[.int .i64 Wn, .int .i64 Hn, .int .i64 St, .bool pk, .slice A n c], .int .i64 gen, .int .i64 m] w (Ret (.bool true) w) := by
  have S0 := Lib.hid (RnSt.start (b := b) (k := k) (W1 := Wn) (H1 := Hn) (t := t) (s := s) (kc := #[.int .i64 Wn, .int .i64 Hn, .int .i64 St, .bool pk, .slice A n c]) (w := w))
  unfold rnW at S0
  have hi := arr_info hb.len
  have HG := Lib.hid (fun w => great_calls Wn Hn St pk (.slice A n c) w)
  rw [hg] at HG
  have HKH := Lib.hid HK
  have HOK := Lib.hid hok
  have HR := Lib.hid hb
  have HT0 := Lib.hid t0
  have HA := Lib.hid (fun w' q cb (h : RF q cb ⟨Wn, Hn, St, pk, f⟩ w') => rAsk_calls (k := k) (W := Wn) (H := Hn) (t := t) (gen := gen) (n := m) hb t0 s0 h hok n0 n1 g0 g1)
  rw [ha] at HA
  obtain ⟨N, hN⟩ : ∃ N, N = Wn * Hn := ⟨_, rfl⟩
  rw [← hN] at hwn hwh
  have hN0 : (Wn : Int) * (Hn : Int) = (N : Int) := by rw [hN, Int.natCast_mul]
  have hN1 : IntKind.i64.wrap ((Wn : Int) * (Hn : Int)) = (N : Int) := by rw [hN0, IntKind.wrap_i64]; omega
  have hN2 : ((N : Int) == 0) = false := beq_eq_false_iff_ne.2 (by omega)
  have hNz : ¬ (N = 0) := by omega
  have hNy : (N == 0) = false := beq_eq_false_iff_ne.2 (by omega)
  obtain ⟨Q, hQ⟩ : ∃ Q, Q = 200000 / N := ⟨_, rfl⟩
  have hN3 : Int.tdiv 200000 (N : Int) = (Q : Int) := by rw [Int.tdiv_eq_ediv_of_nonneg (by omega), hQ]; simp
  have hQ0 : Q ≤ 200000 := by rw [hQ]; exact Nat.div_le_self 200000 N
  have hN4 : IntKind.i64.wrap (Q : Int) = (Q : Int) := by rw [IntKind.wrap_i64]; omega
  have hN5 : IntKind.i64.wrap (-m) = -m := by rw [IntKind.wrap_i64]; have := (askOk_of ha).n0; have := (askOk_of ha).g1; omega
  have HN := Lib.hid hN; have HN0 := Lib.hid hN0
  rw [← hN, ← hQ] at hf
  clear ha hN hwn hwh hN0 hQ0 hQ
  clear hg HK hok hb
  go_enter Try.func8, Try.ntmps8
  by_cases hf1 : (Q : Int) < m
  · go_wp2_with (first | (go_at_call 12; ((with_reducible refine (alive29 _).mono ?_); rintro e w1 ⟨rfl, hb1⟩; have S1 := Lib.hid (S0.out.below hb1); have hk1 := bk_cell S1.out.k; have ht1 := bk_cell S1.out.t)) | (go_at_call 24; ((with_reducible refine (HG.out _).mono ?_); rintro e w2 ⟨rfl, hb2⟩; have S2 := Lib.hid (S1.out.below hb2); have hk2 := bk_cell S2.out.k; have ht2 := bk_cell S2.out.t)) | (go_at_call 25; ((with_reducible refine (HKH.out _ S2.out.l).mono ?_); rintro e w3 ⟨g, q, cb, S, rfl, hF, hS3, hSq, hScb, hb3⟩; have S3 := Lib.hid (S2.out.below hb3); have hk3 := bk_cell S3.out.k; have ht3 := bk_cell S3.out.t; have F3 := Lib.hid hF; have hq3 := bk_cell hF.b; have HS := Lib.hid hS3; have HSQ := Lib.hid hSq; have HSC := Lib.hid hScb; clear hF hS3 hSq hScb)) | (go_at_call 26; ((with_reducible refine (HA.out _ _ _ F3.out.d).mono ?_); rintro e w4 ⟨rfl, hb4⟩; have S4 := Lib.hid (S3.out.below hb4); have hk4 := bk_cell S4.out.k; have ht4 := bk_cell S4.out.t; have F4 := Lib.hid (F3.out.below hb4); have hq4 := bk_cell F4.out.b)) | (refine wpList_load_row (by rfl) 23 _ (by rfl) w.heap.size (by rfl) 23 _ (0, 0) _ S3.out.r Try.underlying23 rfl hi ?_))
    go_quiet (fail)
    have S5 := Lib.hid (S4.out.below (bdrewN w4 nq)); have hk5 := bk_cell S5.out.k; have ht5 := bk_cell S5.out.t; have F5 := Lib.hid (F4.out.below (bdrewN w4 nq)); have hq5 := bk_cell F5.out.b; generalize w4.drewN nq = w5 at *; clear hq4 hk4 ht4 hq3 hk3 ht3 hk2 ht2 hk1 ht1 S4 F4 F3 S3 S2 S1 S0
    go_wp2_with (fail)
    go_ret
    exact Ret.of rfl S5.out.l
  · have hf2 : (Q : Int) < -m := by omega
    go_wp2_with (first | (go_at_call 12; ((with_reducible refine (alive29 _).mono ?_); rintro e w1 ⟨rfl, hb1⟩; have S1 := Lib.hid (S0.out.below hb1); have hk1 := bk_cell S1.out.k; have ht1 := bk_cell S1.out.t)) | (go_at_call 24; ((with_reducible refine (HG.out _).mono ?_); rintro e w2 ⟨rfl, hb2⟩; have S2 := Lib.hid (S1.out.below hb2); have hk2 := bk_cell S2.out.k; have ht2 := bk_cell S2.out.t)) | (go_at_call 25; ((with_reducible refine (HKH.out _ S2.out.l).mono ?_); rintro e w3 ⟨g, q, cb, S, rfl, hF, hS3, hSq, hScb, hb3⟩; have S3 := Lib.hid (S2.out.below hb3); have hk3 := bk_cell S3.out.k; have ht3 := bk_cell S3.out.t; have F3 := Lib.hid hF; have hq3 := bk_cell hF.b; have HS := Lib.hid hS3; have HSQ := Lib.hid hSq; have HSC := Lib.hid hScb; clear hF hS3 hSq hScb)) | (go_at_call 26; ((with_reducible refine (HA.out _ _ _ F3.out.d).mono ?_); rintro e w4 ⟨rfl, hb4⟩; have S4 := Lib.hid (S3.out.below hb4); have hk4 := bk_cell S4.out.k; have ht4 := bk_cell S4.out.t; have F4 := Lib.hid (F3.out.below hb4); have hq4 := bk_cell F4.out.b)) | (refine wpList_load_row (by rfl) 23 _ (by rfl) w.heap.size (by rfl) 23 _ (0, 0) _ S3.out.r Try.underlying23 rfl hi ?_))
    go_quiet (fail)
    have S5 := Lib.hid (S4.out.below (bdrewN w4 nq)); have hk5 := bk_cell S5.out.k; have ht5 := bk_cell S5.out.t; have F5 := Lib.hid (F4.out.below (bdrewN w4 nq)); have hq5 := bk_cell F5.out.b; generalize w4.drewN nq = w5 at *; clear hq4 hk4 ht4 hq3 hk3 ht3 hk2 ht2 hk1 ht1 S4 F4 F3 S3 S2 S1 S0
    go_wp2_with (fail)
    go_ret
    exact Ret.of rfl S5.out.l

end Go.Proofs.Ytdpcmpfhjhbicaa


set_option linter.unusedVariables false
set_option linter.unusedSimpArgs false
namespace Go.Proofs.Ytdpcmpfhjhbicaa
open Go.RowKit Go.Viv

theorem RnF.wrote {g q cb Wn Hn : Nat} {St : Int} {pk : Bool} {f : Nat → Nat → Int} {S T : Nat → Prop} {w w' : World} (h : RnF g q cb Wn Hn St pk f S w) (hw : Wrote T w w') (hd : ∀ b, S b → ¬ T b) (h1 : ¬ T q) (h2 : ¬ T cb) : RnF g q cb Wn Hn St pk f S w' :=
  ⟨h.fl.wrote hw hd, h.d.keep (hw.block q h.d.lt.1 h1) (hw.block cb h.d.lt.2 h2)⟩
theorem RF.wrote {q cb : Nat} {D : FD} {T : Nat → Prop} {w w' : World} (h : RF q cb D w) (hw : Wrote T w w') (h1 : ¬ T q) (h2 : ¬ T cb) : RF q cb D w' := h.keep (hw.block q h.lt.1 h1) (hw.block cb h.lt.2 h2)
theorem Flat.wrote {ob W H : Nat} {f : Nat → Nat → Int} {T : Nat → Prop} {w w' : World} (h : Flat ob W H f w) (hw : Wrote T w w') (h1 : ¬ T ob) : Flat ob W H f w' := h.keep (hw.block ob h.lt h1)
theorem livL_zero (W H : Nat) (St : Int) (pk : Bool) : (livL ⟨W, H, St, pk, fun _ _ => 0⟩).length = 0 := by
  have : ∀ y k, livRow ⟨W, H, St, pk, fun _ _ => 0⟩ y k = [] := fun y k => by
    unfold livRow
    rw [List.filterMap_eq_nil_iff]
    intro x _
    simp [celAt]
  have e : livL ⟨W, H, St, pk, fun _ _ => 0⟩ = [] := by
    unfold livL livTo
    rw [List.flatMap_eq_nil_iff]
    exact fun y _ => this y _
  rw [e]; rfl
set_option maxRecDepth 20000 in
set_option maxHeartbeats 8000000 in
theorem Runs_ok (w : World) {b : List Int} {k W1 H1 t s : Int} {Wn Hn : Nat} {St : Int} {pk : Bool} {A : Option Addr} {n c : Nat} {gen m : Int} {f : Nat → Nat → Int} (hb : Arr16 b) (hg : greatB Wn Hn = false) (t0 : 0 ≤ t) (s0 : -9223372036854775808 ≤ s) (g0 : -9223372036854775808 ≤ gen) (g1 : gen ≤ 9223372036854775807) (n0 : -9223372036854775808 ≤ m) (n1 : m ≤ 9223372036854775807) (hok : (⟨Wn, Hn, St, pk, f⟩ : FD).Ok)
    (HK : ∀ w', Below w.heap.size w w' → Calls Try.prog 25 #[.agg #[.int .i64 Wn, .int .i64 Hn, .int .i64 St, .bool pk, .slice A n c]] w' (FieldP Wn Hn St pk f w')) (ha : askE b k Wn Hn t s ⟨Wn, Hn, St, pk, f⟩ gen m = 0) (hwn : 0 < Wn * Hn) (hwh : Wn * Hn ≤ 2000) (hf1 : ¬ (((200000 / (Wn * Hn) : Nat) : Int) < m)) (hf2 : ¬ (((200000 / (Wn * Hn) : Nat) : Int) < -m)) (OC : OnceC k t s Wn Hn (Wn * Hn)) :
    Calls Try.prog 8 #[.agg (arr b), topoV k Wn Hn t s, .agg #[.int .i64 Wn, .int .i64 Hn, .int .i64 St, .bool pk, .slice A n c], .int .i64 gen, .int .i64 m] w (Ret (.bool true) w) := by
  have S0 := Lib.hid (RnSt.start (b := b) (k := k) (W1 := Wn) (H1 := Hn) (t := t) (s := s) (kc := #[.int .i64 Wn, .int .i64 Hn, .int .i64 St, .bool pk, .slice A n c]) (w := w))
  unfold rnW at S0
  have hi := arr_info hb.len
  have HG := Lib.hid (fun w => great_calls Wn Hn St pk (.slice A n c) w)
  rw [hg] at HG
  have HKH := Lib.hid HK
  have HOK := Lib.hid hok
  have HR := Lib.hid hb
  have HT0 := Lib.hid t0
  have HA := Lib.hid (fun w' q cb (h : RF q cb ⟨Wn, Hn, St, pk, f⟩ w') => rAsk_calls (k := k) (W := Wn) (H := Hn) (t := t) (gen := gen) (n := m) hb t0 s0 h hok n0 n1 g0 g1)
  rw [ha] at HA
  obtain ⟨N, hN⟩ : ∃ N, N = Wn * Hn := ⟨_, rfl⟩
  rw [← hN] at hwn hwh
  have hN0 : (Wn : Int) * (Hn : Int) = (N : Int) := by rw [hN, Int.natCast_mul]
  have hN1 : IntKind.i64.wrap ((Wn : Int) * (Hn : Int)) = (N : Int) := by rw [hN0, IntKind.wrap_i64]; omega
  have hN2 : ((N : Int) == 0) = false := beq_eq_false_iff_ne.2 (by omega)
  have hNz : ¬ (N = 0) := by omega
  have hNy : (N == 0) = false := beq_eq_false_iff_ne.2 (by omega)
  obtain ⟨Q, hQ⟩ : ∃ Q, Q = 200000 / N := ⟨_, rfl⟩
  have hN3 : Int.tdiv 200000 (N : Int) = (Q : Int) := by rw [Int.tdiv_eq_ediv_of_nonneg (by omega), hQ]; simp
  have hQ0 : Q ≤ 200000 := by rw [hQ]; exact Nat.div_le_self 200000 N
  have hN4 : IntKind.i64.wrap (Q : Int) = (Q : Int) := by rw [IntKind.wrap_i64]; omega
  have hN5 : IntKind.i64.wrap (-m) = -m := by rw [IntKind.wrap_i64]; have := (askOk_of ha).n0; have := (askOk_of ha).g1; omega
  have HN := Lib.hid hN; have HN0 := Lib.hid hN0
  rw [← hN, ← hQ] at hf1 hf2
  obtain ⟨F, hF⟩ : ∃ F, F = runF b (blkL k Wn Hn t s) gen m f := ⟨_, rfl⟩
  have HRR := Lib.hid (fun w q cb (h : RF q cb ⟨Wn, Hn, St, pk, f⟩ w) => rRun_ok (N := Wn * Hn) hb t0 s0 rfl h hok n0 n1 ha OC)
  have HRB := Lib.hid (fun w g S (h : Fld g ⟨Wn, Hn, St, pk, f⟩ S w) => Run_ok (k := k) (W := Wn) (H := Hn) (t := t) (s := s) (gen := gen) (n := m) hb t0 h n0 n1 ha)
  simp only [← hF] at HRR HRB
  have hnp : ¬ ((Wn : Int) * (Hn : Int) ≤ 0) := by rw [hN0]; omega
  have hst := (askOk_of ha).st
  have hw0 : 0 < Wn := hok.w0
  have hh0 : 0 < Hn := hok.h0
  obtain ⟨z, y, hz, hzy⟩ : ∃ z y : Nat, f 0 0 = (z : Int) ∧ z + y = 1 := by
    have := hok.bd 0 0 hok.h0 hok.w0
    simp only at this hst
    exact ⟨(f 0 0).toNat, 1 - (f 0 0).toNat, by omega, by omega⟩
  have hzw : IntKind.u8.wrap (1 - (z : Int)) = (y : Int) := by rw [IntKind.wrap_u8]; omega
  have HZ : Hid (∀ {cb : Nat} (w : World), Flat cb Wn Hn f w → w.cell? ⟨cb, 0, none⟩ = some (.int .u8 (z : Int))) := fun w h => by
    have h1 := h.cell (p := (0, 0)) hw0 hh0
    rw [show at_ f (0, 0) = (z : Int) from hz] at h1
    simpa using h1
  have HSET : Hid (∀ {g : Nat} {S : Nat → Prop} (w : World), Fld g ⟨Wn, Hn, St, pk, f⟩ S w → Calls Try.prog 30 #[.pointer (some ⟨g, 0, none⟩), .int .i64 0, .int .i64 0, .int .u8 (y : Int)] w fun e w' => e = .returned (.int .i64 0) ∧ Wrote S w w') := fun w h => by
    have hs : setE ⟨Wn, Hn, St, pk, f⟩ 0 0 (y : Int) = 0 := by
      unfold setE
      have h2 := hok.s0
      rw [if_pos (hasB_yes (by omega) (by show (0 : Int) < Wn; omega) (by omega) (by show (0 : Int) < Hn; omega)), if_pos (by show (y : Int) < St; simp only at h2; omega)]
    have := Set_calls 0 0 (y : Int) h (by omega) (by omega)
    rw [hs] at this
    exact this.mono fun e w' ⟨h1, _, h3⟩ => ⟨h1, h3⟩
  clear ha hN hwn hwh hN0 hQ0 hQ hF hst hz hzy OC
  clear hg HK hok hb
  go_enter Try.func8, Try.ntmps8
  go_wp2_with (first | (go_at_call 12; ((with_reducible refine (alive29 _).mono ?_); rintro e w1 ⟨rfl, hb1⟩; have S1 := Lib.hid (S0.out.below hb1); have hk1 := bk_cell S1.out.k; have ht1 := bk_cell S1.out.t)) | (go_at_call 24; ((with_reducible refine (HG.out _).mono ?_); rintro e w2 ⟨rfl, hb2⟩; have S2 := Lib.hid (S1.out.below hb2); have hk2 := bk_cell S2.out.k; have ht2 := bk_cell S2.out.t)) | (go_at_call 25; ((with_reducible refine (HKH.out _ S2.out.l).mono ?_); rintro e w3 ⟨g, q, cb, S, rfl, hF, hS3, hSq, hScb, hb3⟩; have S3 := Lib.hid (S2.out.below hb3); have hk3 := bk_cell S3.out.k; have ht3 := bk_cell S3.out.t; have F3 := Lib.hid hF; have hq3 := bk_cell hF.b; have HS := Lib.hid (fun b (h : S b) => Nat.le_trans S2.out.l.size (hS3 b h)); have HSQ := Lib.hid hSq; have HSC := Lib.hid hScb; clear hF hS3 hSq hScb)) | (go_at_call 26; ((with_reducible refine (HA.out _ _ _ F3.out.d).mono ?_); rintro e w4 ⟨rfl, hb4⟩; have S4 := Lib.hid (S3.out.below hb4); have hk4 := bk_cell S4.out.k; have ht4 := bk_cell S4.out.t; have F4 := Lib.hid (F3.out.below hb4); have hq4 := bk_cell F4.out.b)) | (refine wpList_load_row (by rfl) 23 _ (by rfl) w.heap.size (by rfl) 23 _ (0, 0) _ S3.out.r Try.underlying23 rfl hi ?_))
  go_quiet (fail)
  have S5 := Lib.hid (S4.out.below (bdrewN w4 nq)); have hk5 := bk_cell S5.out.k; have ht5 := bk_cell S5.out.t; have F5 := Lib.hid (F4.out.below (bdrewN w4 nq)); have hq5 := bk_cell F5.out.b; generalize w4.drewN nq = w5 at *; clear hq4 hk4 ht4 hq3 hk3 ht3 hk2 ht2 hk1 ht1 S4 F4 F3 S3 S2 S1 S0; have HS5 := Lib.hid F5.out.fl.lt
  go_wp2_with (first | (refine wpList_load_row (by rfl) 23 _ (by rfl) w.heap.size (by rfl) 23 _ (0, 0) _ S5.out.r Try.underlying23 rfl hi ?_) | (go_at_call 27; ((with_reducible refine (HRR.out _ _ _ F5.out.d).mono ?_); rintro e w6 ⟨ob, oc, rfl, hO6, hob6, hoc6, hocm6, hb6⟩; have S6 := Lib.hid (S5.out.below hb6); have hk6 := bk_cell S6.out.k; have ht6 := bk_cell S6.out.t; have F6 := Lib.hid (F5.out.below hb6); have hq6 := bk_cell F6.out.b; have O6 := Lib.hid hO6; have HOB := Lib.hid hob6; have HOC := Lib.hid hoc6; have HL6 := Lib.hid (And.intro F6.out.d.lt.1 (And.intro F6.out.d.lt.2 (And.intro hO6.lt F6.out.fl.lt))); clear hO6 hob6 hoc6 hocm6)) | (refine wpList_load_row (by rfl) 23 _ (by rfl) w.heap.size (by rfl) 23 _ (0, 0) _ S6.out.r Try.underlying23 rfl hi ?_) | (go_at_call 15; ((with_reducible refine (HRB.out _ _ _ F6.out.fl).mono ?_); rintro e w7 ⟨ga, Sa, rfl, hA7, hSa, hb7⟩; have S7 := Lib.hid (S6.out.below hb7); have hk7 := bk_cell S7.out.k; have ht7 := bk_cell S7.out.t; have F7 := Lib.hid (F6.out.below hb7); have hq7 := bk_cell F7.out.b; have O7 := Lib.hid (O6.out.below hb7); have A7 : Hid (Fld ga ⟨Wn, Hn, St, pk, F⟩ Sa w7) := hA7; have HSA := Lib.hid hSa; clear hA7 hSa)) | (go_at_call 28; ((with_reducible refine (holds_calls (c := oc) A7.out F7.out.b O7.out HOC.out).mono ?_); rintro e w8 ⟨rfl, hb8⟩; have S8 := Lib.hid (S7.out.below hb8); have hk8 := bk_cell S8.out.k; have ht8 := bk_cell S8.out.t; have F8 := Lib.hid (F7.out.below hb8); have hq8 := bk_cell F8.out.b; have O8 := Lib.hid (O7.out.below hb8); have A8 := Lib.hid (A7.out.below hb8))) | (go_at_call 28; ((with_reducible refine (holds_calls (c := Wn * Hn) F8.out.fl F8.out.b F8.out.c (Nat.le_refl _)).mono ?_); rintro e w9 ⟨rfl, hb9⟩; have S9 := Lib.hid (S8.out.below hb9); have hk9 := bk_cell S9.out.k; have ht9 := bk_cell S9.out.t; have F9 := Lib.hid (F8.out.below hb9); have hq9 := bk_cell F9.out.b; have O9 := Lib.hid (O8.out.below hb9); have A9 := Lib.hid (A8.out.below hb9); have HLA := Lib.hid A9.out.lt)) | (refine wpList_load_row (by rfl) 23 _ (by rfl) w.heap.size (by rfl) 23 _ (0, 0) _ S9.out.r Try.underlying23 rfl hi ?_) | (go_at_call 15; ((with_reducible refine (HRB.out _ _ _ F9.out.fl).mono ?_); rintro e w10 ⟨gc, Sc, rfl, hC10, hSc, hb10⟩; have S10 := Lib.hid (S9.out.below hb10); have hk10 := bk_cell S10.out.k; have ht10 := bk_cell S10.out.t; have F10 := Lib.hid (F9.out.below hb10); have hq10 := bk_cell F10.out.b; have O10 := Lib.hid (O9.out.below hb10); have A10 := Lib.hid (A9.out.below hb10); have C10 : Hid (Fld gc ⟨Wn, Hn, St, pk, F⟩ Sc w10) := hC10; have HSC2 := Lib.hid hSc; clear hC10 hSc)) | (go_at_call 28; ((with_reducible refine (holds_calls (c := oc) C10.out F10.out.b O10.out HOC.out).mono ?_); rintro e w11 ⟨rfl, hb11⟩; have S11 := Lib.hid (S10.out.below hb11); have hk11 := bk_cell S11.out.k; have ht11 := bk_cell S11.out.t; have F11 := Lib.hid (F10.out.below hb11); have hq11 := bk_cell F11.out.b; have O11 := Lib.hid (O10.out.below hb11); have A11 := Lib.hid (A10.out.below hb11); have C11 := Lib.hid (C10.out.below hb11))) | (go_at_call 29; ((with_reducible refine (Clear_calls A11.out).mono ?_); rintro e w12 ⟨rfl, hA12, hw12⟩; have z96 : w6.heap.size ≤ w9.heap.size := Nat.le_trans hb7.size (Nat.le_trans hb8.size hb9.size); have F12 := Lib.hid (F11.out.wrote hw12 (fun b h1 h2 => Nat.lt_asymm (HL6.out.2.2.2 b h1) (HSA.out b h2)) (fun h2 => Nat.lt_asymm HL6.out.1 (HSA.out _ h2)) (fun h2 => Nat.lt_asymm HL6.out.2.1 (HSA.out _ h2))); have hq12 := bk_cell F12.out.b; have O12 := Lib.hid (O11.out.wrote hw12 (fun h2 => Nat.lt_asymm HL6.out.2.2.1 (HSA.out _ h2))); have C12 := Lib.hid (C11.out.wrote hw12 (fun b h1 h2 => Nat.lt_asymm (HSC2.out b h1) (HLA.out b h2))); have A12 : Hid (Fld ga ⟨Wn, Hn, St, pk, fun _ _ => 0⟩ Sa w12) := hA12; have L12 := Lib.hid (S11.out.l.trans (hw12.below S11.out.l.size (fun b h => Nat.le_trans S6.out.l.size (Nat.le_of_lt (HSA.out b h))))); have hz12 := HZ.out _ F12.out.c; clear hA12)) | (go_at_call 30; ((with_reducible refine (HSET.out _ F12.out.fl).mono ?_); rintro e w13 ⟨rfl, hw13⟩; have d13 := Lib.hid (F12.out.d.wrote hw13 HSQ.out HSC.out); have O13 := Lib.hid (O12.out.wrote hw13 (fun h2 => absurd (HS5.out _ h2) (Nat.not_lt.2 HOB.out))); have C13 := Lib.hid (C12.out.wrote hw13 (fun b h1 h2 => Nat.lt_asymm (HL6.out.2.2.2 b h2) (Nat.lt_of_le_of_lt z96 (HSC2.out b h1)))); have A13 := Lib.hid (A12.out.wrote hw13 (fun b h1 h2 => Nat.lt_asymm (HL6.out.2.2.2 b h2) (HSA.out b h1))); have L13 := Lib.hid (L12.out.trans (hw13.below L12.out.size HS.out)))) | (go_at_call 28; ((with_reducible refine (holds_calls (c := oc) C13.out d13.out.blk O13.out HOC.out).mono ?_); rintro e w14 ⟨rfl, hb14⟩; have A14 := Lib.hid (A13.out.below hb14); have L14 := Lib.hid (next L13.out hb14))) | (go_at_call 31; ((with_reducible refine (Pop_calls A14.out).mono ?_); rintro e w15 ⟨rfl, hb15⟩; rw [livL_zero]; have L15 := Lib.hid (next L14.out hb15))))
  go_ret
  exact Ret.of rfl L15.out

end Go.Proofs.Ytdpcmpfhjhbicaa


set_option linter.unusedVariables false
set_option linter.unusedSimpArgs false
namespace Go.Proofs.Ytdpcmpfhjhbicaa
open Go.RowKit Go.Viv

theorem new_ok {W H St : Int} {pk : Bool} (h : newE W H St pk = 0) : 1 ≤ W ∧ W ≤ 65536 ∧ 1 ≤ H ∧ H ≤ 65536 ∧ 2 ≤ St ∧ St ≤ 256 ∧ (pk = true → St ≤ 2) ∧ W * H ≤ 1048576 := by
  unfold newE at h
  split at h
  · omega
  rename_i h1
  split at h
  · omega
  rename_i h2
  split at h
  · omega
  rename_i h3
  refine ⟨by omega, by omega, by omega, by omega, by omega, by omega, fun hp => ?_, by omega⟩
  by_cases h : 2 < St
  · exact absurd ⟨hp, h⟩ h2
  · omega

theorem BlockRuns_walk (w : World) {b : List Int} (hb : Arr16 b) {k W1 H1 t s : Int} (bk : 0 ≤ k ∧ k ≤ 255) (bW1 : -9223372036854775808 ≤ W1 ∧ W1 ≤ 9223372036854775807) (bH1 : -9223372036854775808 ≤ H1 ∧ H1 ≤ 9223372036854775807) (bt : 0 ≤ t ∧ t ≤ 255) (bs : -9223372036854775808 ≤ s ∧ s ≤ 9223372036854775807)
    {W H St : Int} {pk : Bool} {A : Option Addr} {n c : Nat} {l : List Int} (bW : -9223372036854775808 ≤ W ∧ W ≤ 9223372036854775807) (bH : -9223372036854775808 ≤ H ∧ H ≤ 9223372036854775807) (bS : -9223372036854775808 ≤ St ∧ St ≤ 9223372036854775807)
    (hn : l.length = n) (hnb : n ≤ 9223372036854775807) (hA : 0 < n → ∃ b off, A = some ⟨b, off, none⟩) (hr : Rd w A (l.map (.int .u8))) (hbl : ∀ z ∈ l, 0 ≤ z ∧ z ≤ 255)
    {gen m : Int} (b1 : -9223372036854775808 ≤ gen ∧ gen ≤ 9223372036854775807) (b2 : -9223372036854775808 ≤ m ∧ m ≤ 9223372036854775807) :
    Calls Try.prog 8 #[.agg (arr b), topoV k W1 H1 t s, .agg #[.int .i64 W, .int .i64 H, .int .i64 St, .bool pk, .slice A n c], .int .i64 gen, .int .i64 m] w (Ret (.bool true) w) := by
  cases hg : greatB W H
  · by_cases hE : newE W H St pk = 0
    · obtain ⟨h1, h2, h3, h4, h5, h6, hp, hwh⟩ := new_ok hE
      obtain ⟨Wn, rfl⟩ : ∃ Wn : Nat, W = (Wn : Int) := ⟨W.toNat, by omega⟩
      obtain ⟨Hn, rfl⟩ : ∃ Hn : Nat, H = (Hn : Int) := ⟨H.toNat, by omega⟩
      have hq : Wn * Hn ≤ 2000 := by
        unfold greatB at hg
        rw [decide_eq_false_iff_not] at hg
        by_cases h : 2000 < (Wn : Int) * (Hn : Int)
        · exact absurd ⟨by omega, by omega, .inr (.inr h)⟩ hg
        · rw [← Int.natCast_mul] at h; omega
      have hq0 : 0 < Wn * Hn := Nat.mul_pos (by omega) (by omega)
      have hok : (⟨Wn, Hn, St, pk, keptF Wn St l⟩ : FD).Ok := ⟨by show 0 < Wn; omega, by show Wn ≤ 65536; omega, by show 0 < Hn; omega, by show Hn ≤ 65536; omega, by show Wn * Hn ≤ 1048576; omega, h5, h6, hp, fun y x _ _ => keptI_bd (by omega) _⟩
      have HK := fun (w' : World) (h : Below w.heap.size w w') => field_calls Wn Hn St pk A n c l w' (by omega) (by omega) (by omega) (by omega) h5 h6 hp (by omega) hn hnb hA (hr.below h) hbl
      by_cases ha : askE b k W1 H1 t s ⟨Wn, Hn, St, pk, keptF Wn St l⟩ gen m = 0
      · have hA := askOk_of ha
        obtain rfl : W1 = (Wn : Int) := hA.w
        obtain rfl : H1 = (Hn : Int) := hA.h
        by_cases hf : ((200000 / (Wn * Hn) : Nat) : Int) < m ∨ ((200000 / (Wn * Hn) : Nat) : Int) < -m
        · exact Runs_far (W1 := 0) (H1 := 0) w hb hg bt.1 bs.1 b1.1 b1.2 b2.1 b2.2 hok HK ha hq0 hq hf
        · exact Runs_ok (W1 := 0) (H1 := 0) w hb hg bt.1 bs.1 b1.1 b1.2 b2.1 b2.2 hok HK ha hq0 hq (fun h => hf (.inl h)) (fun h => hf (.inr h)) (fun r g cb c f w hr hc g0 g1 hF hf hcc hcm => once_calls rfl hr hc (even_of ha bt.1) g0 g1 hF hf (by omega) hcc hcm)
      · exact Runs_bad w hb hg bt.1 bs.1 b1.1 b1.2 b2.1 b2.2 hok HK rfl ha
    · exact Runs_none w hb hg hE
  · exact Runs_great w hb hg
end Go.Proofs.Ytdpcmpfhjhbicaa
