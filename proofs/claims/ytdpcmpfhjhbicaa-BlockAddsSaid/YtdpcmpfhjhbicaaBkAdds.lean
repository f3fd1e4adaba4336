/- BlockAdds: the walk. -/
import Derived.Test.YtdpcmpfhjhbicaaBkAd
import Derived.Test.YtdpcmpfhjhbicaaBkMod
set_option linter.unusedVariables false
set_option linter.unusedSimpArgs false
namespace Go.Proofs.Ytdpcmpfhjhbicaa
open Go.RowKit Go.Viv

/-- a grid that bears the law's runs -/
structure GridR (k : Int) (Wn Hn : Nat) (t s : Int) : Prop where
  t0 : 0 ≤ t
  ask : ∀ (b : List Int) (D : FD) (gen n : Int), checkB b = 0 → D.W = Wn → D.H = Hn → D.St = 2 → 0 ≤ gen → gen ≤ 1125899906842000 → 0 ≤ gen + n → -400 ≤ n → n ≤ 400 → (n < 0 → turnsB b = true) → askE b k Wn Hn t s D gen n = 0
  good : ∀ i, GoodL (blkL k Wn Hn t s i)
theorem gdR (torus : Bool) (W H turn by_ : Int) : GridR (gdK torus) (gdS W) (gdS H) (gdT torus (gdS W) (gdS H) turn by_) (gdB torus (gdS W) (gdS H) turn by_) :=
  ⟨gd_t0 torus W H turn by_, fun b D gen n h1 h2 h3 h4 h5 h6 h7 h8 h9 h10 => gd_ask h1 h2 h3 h4 h5 h6 h7 h8 h9 h10, gdL_good torus W H turn by_⟩
/-- what stands while runs go by -/
structure AdSt (w : World) (bb tb g : Nat) (M : List Int) (tc : Array Value) (D : FD) (S : Nat → Prop) (w' : World) : Prop where
  b : w'.heap[bb]? = some (.cells (arr M) 23 (0, 0))
  t : w'.heap[tb]? = some (.cells tc 29 (0, 0))
  f : Fld g D S w'
  l : Below w.heap.size w w'
theorem AdSt.below {w : World} {bb tb g : Nat} {M : List Int} {tc : Array Value} {D : FD} {S : Nat → Prop} {w' w'' : World} (h : AdSt w bb tb g M tc D S w') (hb : Below w'.heap.size w' w'') : AdSt w bb tb g M tc D S w'' :=
  ⟨bk_below h.b hb, bk_below h.t hb, h.f.below hb, next' h.l hb⟩
/-- a run of a field of the grid's sides -/
theorem gd_run {k : Int} {Wn Hn g : Nat} {t s gen n : Int} {b : List Int} {pk : Bool} {f : Nat → Nat → Int} {S : Nat → Prop} {w : World} (R : GridR k Wn Hn t s) (hb : Arr16 b) (hc : checkB b = 0) (hF : Fld g ⟨Wn, Hn, 2, pk, f⟩ S w) (g0 : 0 ≤ gen) (g1 : gen ≤ 1125899906842000) (m0 : 0 ≤ gen + n) (n0 : -400 ≤ n) (n1 : n ≤ 400) (ht : n < 0 → turnsB b = true) :
    Calls Try.prog 15 #[.agg (arr b), topoV k Wn Hn t s, .pointer (some ⟨g, 0, none⟩), .int .i64 gen, .int .i64 n] w fun e w' => ∃ g' S', e = .returned (.tuple #[.pointer (some ⟨g', 0, none⟩), .int .i64 0]) ∧ Fld g' ⟨Wn, Hn, 2, pk, runF b (blkL k Wn Hn t s) gen n f⟩ S' w' ∧ (∀ b, S' b → w.heap.size < b) ∧ Below w.heap.size w w' :=
  Run_ok hb R.t0 hF (by omega) (by omega) (R.ask b ⟨Wn, Hn, 2, pk, f⟩ gen n hc rfl rfl rfl g0 g1 m0 n0 n1 ht)

set_option maxRecDepth 20000 in
set_option maxHeartbeats 1000000 in
theorem BlockAdds_walk (w : World) {b : List Int} (hb : Arr16 b) {torus packed : Bool} {W H turn by_ : Int} {A : Option Addr} {n c : Nat} {l : List Int} (bW : -9223372036854775808 ≤ W ∧ W ≤ 9223372036854775807) (bH : -9223372036854775808 ≤ H ∧ H ≤ 9223372036854775807) (bT : -9223372036854775808 ≤ turn ∧ turn ≤ 9223372036854775807) (bB : -9223372036854775808 ≤ by_ ∧ by_ ≤ 9223372036854775807)
    (hn : l.length = n) (hnb : n ≤ 9223372036854775807) (hA : 0 < n → ∃ b off, A = some ⟨b, off, none⟩) (hr : Rd w A (l.map (.int .u8))) (hbl : ∀ z ∈ l, 0 ≤ z ∧ z ≤ 255)
    {first one two : Int} (b1 : -9223372036854775808 ≤ first ∧ first ≤ 9223372036854775807) (b2 : -9223372036854775808 ≤ one ∧ one ≤ 9223372036854775807) (b3 : -9223372036854775808 ≤ two ∧ two ≤ 9223372036854775807) :
    Calls Try.prog 6 #[.agg (arr b), gdV torus packed W H turn by_ A n c, .int .i64 first, .int .i64 one, .int .i64 two] w (Ret (.bool true) w) := by
  have KO := bk_alloc (bk_new w (.cells (arr b) 23)) (.cells #[.bool torus, .bool packed, .int .i64 W, .int .i64 H, .int .i64 turn, .int .i64 by_, .slice A n c] 46)
  have KG := bk_newn (w.alloc (.cells (arr b) 23)) (.cells #[.bool torus, .bool packed, .int .i64 W, .int .i64 H, .int .i64 turn, .int .i64 by_, .slice A n c] 46) (w.heap.size + 1) (by simp)
  have hB := (boxed w (.cells (arr b) 23)).alloc (by simp) (.cells #[.bool torus, .bool packed, .int .i64 W, .int .i64 H, .int .i64 turn, .int .i64 by_, .slice A n c] 46)
  have HMade := Lib.hid (fun (w1 : World) (h1 : Below w.heap.size w w1) => made_calls torus packed W H turn by_ A n c l w1 bW bH bT bB hn hnb hA (hr.below h1) hbl)
  obtain ⟨G, hG, G0, G1⟩ : ∃ G, first % 1099511627776 = G ∧ 0 ≤ G ∧ G < 1099511627776 := ⟨_, rfl, by omega, by omega⟩
  obtain ⟨m, hm, m1⟩ : ∃ m : Nat, one % 21 = (m : Int) ∧ m ≤ 20 := ⟨(one % 21).toNat, by omega, by omega⟩
  obtain ⟨k2, hk2, k21⟩ : ∃ m : Nat, two % 21 = (m : Int) ∧ m ≤ 20 := ⟨(two % 21).toNat, by omega, by omega⟩
  have U1 := fun w => up_calls first 1099511627776 w (by omega) (by omega) b1.1 b1.2
  have U2 := fun w => up_calls one 21 w (by omega) (by omega) b2.1 b2.2
  have U3 := fun w => up_calls two 21 w (by omega) (by omega) b3.1 b3.2
  rw [hG] at U1; rw [hm] at U2; rw [hk2] at U3
  have C1 := Lib.hid U1; have C2 := Lib.hid U2; have C3 := Lib.hid U3
  clear U1 U2 U3 hn hA hr hbl bW bH bT bB b1 b2 b3 hG hm hk2
  go_enter Try.func6, Try.ntmps6
  go_wp2_with (first | (go_at_call 12; ((with_reducible refine (alive29 _).mono ?_); rintro e w1 ⟨rfl, hb1⟩; have K1 := bk_below KO hb1; have KG1 := bk_below KG hb1; have B1 := next hB hb1)))
  have K2 := bk_new w1 (.cells (arr (modK b 0)) 23)
  have KR := bk_alloc K1 (.cells (arr (modK b 0)) 23)
  have KG2 := bk_alloc KG1 (.cells (arr (modK b 0)) 23)
  have B2 := B1.alloc B1.size (.cells (arr (modK b 0)) 23)
  rw [show (#[.int .u8 0, .int .u8 0, .int .u8 0, .int .u8 0, .int .u8 0, .int .u8 0, .int .u8 0, .int .u8 0, .int .u8 0, .int .u8 0, .int .u8 0, .int .u8 0, .int .u8 0, .int .u8 0, .int .u8 0, .int .u8 0] : Array Value) = arr (modK b 0) from rfl]
  generalize (w1.alloc (.cells (arr (modK b 0)) 23)) = W0 at *
  have hp := Lib.hid B1.size
  have hlt1 := Lib.hid (bk_lt K1)
  have hlt2 := Lib.hid (bk_lt KG1)
  have HK2 := Lib.hid K2; have HKR := Lib.hid KR; have HB2 := Lib.hid B2; have HG2 := Lib.hid KG2
  clear K2 KR B2 K1 B1 KO hB hb1 KG KG1 KG2
  go_loopw [13] (fun i wr => ∃ k : Nat, i = .int .i64 k ∧ k ≤ 16 ∧ Hid (wr.heap[w.heap.size]? = some (.cells (arr b) 23 (0, 0))) ∧ Hid (wr.heap[w.heap.size + 1]? = some (.cells #[.bool torus, .bool packed, .int .i64 W, .int .i64 H, .int .i64 turn, .int .i64 by_, .slice A n c] 46 (0, 0))) ∧ Hid (wr.heap[w1.heap.size]? = some (.cells (arr (modK b k)) 23 (0, 0))) ∧ Below w.heap.size w wr) (fun i _ => 16 - (intOf i).toNat)
  case atStart => exact ⟨0, rfl, by omega, HKR.out, HG2.out, HK2.out, HB2.out⟩
  clear HK2 HKR HB2 HG2
  obtain ⟨k, rfl, hk, HR, HG, H2, hB⟩ := hrel
  by_cases hlt : k < 16
  · have hcr := bk_cell HR.out k
    rw [arr_at (by rw [hb.len]; omega)] at hcr
    have hco := bk_cell H2.out k
    rw [arr_at (by rw [modK_length]; omega)] at hco
    have hfo := bk_free H2.out k
    have hbd := hb.bd k hlt
    have hR2 : Hid ((wr.setCell ⟨w1.heap.size, k, none⟩ (.int .u8 (nth b k % 16))).heap[w.heap.size]? = some (.cells (arr b) 23 (0, 0))) := bk_far HR.out (by show w.heap.size ≠ w1.heap.size; have := hlt1.out; omega) _
    have hG2 : Hid ((wr.setCell ⟨w1.heap.size, k, none⟩ (.int .u8 (nth b k % 16))).heap[w.heap.size + 1]? = some (.cells #[.bool torus, .bool packed, .int .i64 W, .int .i64 H, .int .i64 turn, .int .i64 by_, .slice A n c] 46 (0, 0))) := bk_far HG.out (by show w.heap.size + 1 ≠ w1.heap.size; have := hlt2.out; omega) _
    have hR3 : Hid ((wr.setCell ⟨w1.heap.size, k, none⟩ (.int .u8 (nth b k % 16))).heap[w1.heap.size]? = some (.cells (arr (modK b (k + 1))) 23 (0, 0))) := arr_bk H2.out k _
    have hB2 := hB.setCell (p := ⟨w1.heap.size, k, none⟩) hp.out (.int .u8 (nth b k % 16))
    clear HR H2 HG
    generalize nth b k = x at *
    go_wp2
    go_roundw
    case rel => exact ⟨k + 1, by go_num, by omega, hR2, hG2, hR3, hB2⟩
    case measure => simp [intOf]; omega
  · obtain rfl : k = 16 := by omega
    have hM := mod16 hb
    have hC := mod_check hb
    generalize modK b 16 = M at *
    have hi := arr_info hM.len
    have kg := bk_cell HG.out
    go_wp2_with (first | fail)
    refine (HMade.out _ hB).mono ?_
    rintro e w2 ⟨g, S, he, hF2, hS2, hb2⟩
    unfold gdTopo at he
    subst he
    have R := gdR torus W H turn by_
    generalize gdK torus = gk at *
    generalize gdT torus (gdS W) (gdS H) turn by_ = gt at *
    generalize gdB torus (gdS W) (gdS H) turn by_ = gb at *
    have HR2 := Lib.hid R
    generalize gdS W = Wn at *
    generalize gdS H = Hn at *
    have hs3 : AdSt w w1.heap.size w2.heap.size g M #[.int .u8 gk, .int .i64 Wn, .int .i64 Hn, .int .u8 gt, .int .i64 gb] (keptD Wn Hn 2 packed l) S (w2.alloc (.cells #[.int .u8 gk, .int .i64 Wn, .int .i64 Hn, .int .u8 gt, .int .i64 gb] 29)) := ⟨bk_alloc (bk_below H2.out hb2) _, bk_new _ _, hF2.below (boxed _ _), (next' hB hb2).alloc (next' hB hb2).size _⟩
    clear HR HG H2 hB kg hF2 hS2 hb2 R HMade hlt
    go_wp2_with (first | fail)
    generalize (w2.alloc (.cells #[.int .u8 gk, .int .i64 Wn, .int .i64 Hn, .int .u8 gt, .int .i64 gb] 29)) = w3 at *
    have K3 := hs3.b; have T3 := bk_cell hs3.t
    go_wp2_with (first
      | (go_at_call 19; ((with_reducible refine (C1.out _).mono ?_); rintro e w' ⟨rfl, rfl⟩))
      | (go_at_call 19; ((with_reducible refine (C2.out _).mono ?_); rintro e w' ⟨rfl, rfl⟩))
      | (go_at_call 19; ((with_reducible refine (C3.out _).mono ?_); rintro e w' ⟨rfl, rfl⟩))
      | (refine wpList_load_row (by rfl) 23 _ (by rfl) w1.heap.size (by rfl) 23 _ (0, 0) _ K3 Try.underlying23 rfl hi ?_)
      | (go_at_call 15; ((with_reducible refine (gd_run HR2.out hM hC hs3.f (gen := G) (n := (m : Int)) (by omega) (by omega) (by omega) (by omega) (by omega) (fun h => absurd h (by omega))).mono ?_); rintro e w4 ⟨ga, Sa, rfl, hFa, hSa, hb4⟩; have hs4 := hs3.below hb4; have K4 := hs4.b; have T4 := bk_cell hs4.t; clear T3 K3))
      | (refine wpList_load_row (by rfl) 23 _ (by rfl) w1.heap.size (by rfl) 23 _ (0, 0) _ K4 Try.underlying23 rfl hi ?_)
      | (go_at_call 15; ((with_reducible refine (gd_run HR2.out hM hC hFa (gen := G + (m : Int)) (n := (k2 : Int)) (by omega) (by omega) (by omega) (by omega) (by omega) (fun h => absurd h (by omega))).mono ?_); rintro e w5 ⟨gc, Sc, rfl, hFc, hSc, hb5⟩; have hs5 := hs4.below hb5; have K5 := hs5.b; have T5 := bk_cell hs5.t; clear T4 K4))
      | (refine wpList_load_row (by rfl) 23 _ (by rfl) w1.heap.size (by rfl) 23 _ (0, 0) _ K5 Try.underlying23 rfl hi ?_)
      | (go_at_call 15; ((with_reducible refine (gd_run HR2.out hM hC hs5.f (gen := G) (n := (m : Int) + (k2 : Int)) (by omega) (by omega) (by omega) (by omega) (by omega) (fun h => absurd h (by omega))).mono ?_); rintro e w6 ⟨gd, Sd, rfl, hFd, hSd, hb6⟩; have hs6 := hs5.below hb6; have hFc6 := hFc.below hb6; clear T5 K5))
      | (go_at_call 20; ((with_reducible refine (Same_calls hFc6 hFd).mono ?_); rintro e w7 ⟨bb, rfl, hbb, hb7⟩; obtain rfl : bb = true := hbb.2 ⟨rfl, rfl, rfl, fun y x _ _ => by rw [runF_add]⟩; have hs7 := hs6.below hb7)))
    go_ret
    exact Ret.of rfl hs7.l
end Go.Proofs.Ytdpcmpfhjhbicaa
