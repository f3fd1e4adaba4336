/- BlockBack: the walk. -/
import Derived.Test.YtdpcmpfhjhbicaaBkAd
import Derived.Test.YtdpcmpfhjhbicaaBkOrd
set_option linter.unusedVariables false
set_option linter.unusedSimpArgs false
namespace Go.Proofs.Ytdpcmpfhjhbicaa
open Go.RowKit Go.Viv

/-- what stands while runs go by, there and back -/
structure BbSt (w : World) (bb ab tb g : Nat) (M : List Int) (tc : Array Value) (D : FD) (S : Nat → Prop) (w' : World) : Prop where
  b : w'.heap[bb]? = some (.cells (arr M) 23 (0, 0))
  a : w'.heap[ab]? = some (.cells (arr M) 23 (0, 0))
  t : w'.heap[tb]? = some (.cells tc 29 (0, 0))
  f : Fld g D S w'
  l : Below w.heap.size w w'
theorem BbSt.below {w : World} {bb ab tb g : Nat} {M : List Int} {tc : Array Value} {D : FD} {S : Nat → Prop} {w' w'' : World} (h : BbSt w bb ab tb g M tc D S w') (hb : Below w'.heap.size w' w'') : BbSt w bb ab tb g M tc D S w'' :=
  ⟨bk_below h.b hb, bk_below h.a hb, bk_below h.t hb, h.f.below hb, next' h.l hb⟩

set_option maxRecDepth 20000 in
set_option maxHeartbeats 2000000 in
theorem BlockBack_walk (w : World) {A0 : Option Addr} {n0 c0 : Nat} {l0 : List Int} (hn0 : l0.length = n0) (hnb0 : n0 ≤ 9223372036854775807) (hA0 : 0 < n0 → ∃ b off, A0 = some ⟨b, off, none⟩) (hr0 : Rd w A0 (l0.map (.int .u8))) (hbl0 : ∀ z ∈ l0, 0 ≤ z ∧ z ≤ 255)
    {torus packed : Bool} {W H turn by_ : Int} {A : Option Addr} {n c : Nat} {l : List Int} (bW : -9223372036854775808 ≤ W ∧ W ≤ 9223372036854775807) (bH : -9223372036854775808 ≤ H ∧ H ≤ 9223372036854775807) (bT : -9223372036854775808 ≤ turn ∧ turn ≤ 9223372036854775807) (bB : -9223372036854775808 ≤ by_ ∧ by_ ≤ 9223372036854775807)
    (hn : l.length = n) (hnb : n ≤ 9223372036854775807) (hA : 0 < n → ∃ b off, A = some ⟨b, off, none⟩) (hr : Rd w A (l.map (.int .u8))) (hbl : ∀ z ∈ l, 0 ≤ z ∧ z ≤ 255)
    {first many : Int} (b1 : -9223372036854775808 ≤ first ∧ first ≤ 9223372036854775807) (b2 : -9223372036854775808 ≤ many ∧ many ≤ 9223372036854775807) :
    Calls Try.prog 7 #[.slice A0 n0 c0, gdV torus packed W H turn by_ A n c, .int .i64 first, .int .i64 many] w (Ret (.bool true) w) := by
  have KG := bk_new w (.cells #[.bool torus, .bool packed, .int .i64 W, .int .i64 H, .int .i64 turn, .int .i64 by_, .slice A n c] 46)
  have hB := boxed w (.cells #[.bool torus, .bool packed, .int .i64 W, .int .i64 H, .int .i64 turn, .int .i64 by_, .slice A n c] 46)
  have HMade := Lib.hid (fun (w1 : World) (h1 : Below w.heap.size w w1) => made_calls torus packed W H turn by_ A n c l w1 bW bH bT bB hn hnb hA (hr.below h1) hbl)
  have HOrd := Lib.hid (fun (w1 : World) (h1 : Below w.heap.size w w1) => order_calls A0 n0 c0 l0 w1 hn0 hnb0 hA0 (hr0.below h1) hbl0)
  have P := orderL_perm l0
  generalize orderL l0 = M at *
  obtain ⟨G, hG, G0, G1⟩ : ∃ G, first % 1099511627776 = G ∧ 0 ≤ G ∧ G < 1099511627776 := ⟨_, rfl, by omega, by omega⟩
  obtain ⟨m, hm, m1⟩ : ∃ m : Nat, many % 41 = (m : Int) ∧ m ≤ 40 := ⟨(many % 41).toNat, by omega, by omega⟩
  have U1 := fun w => up_calls first 1099511627776 w (by omega) (by omega) b1.1 b1.2
  have U2 := fun w => up_calls many 41 w (by omega) (by omega) b2.1 b2.2
  rw [hG] at U1; rw [hm] at U2
  have C1 := Lib.hid U1; have C2 := Lib.hid U2
  have CT := fun w => Turns_calls P.arr w
  rw [P.turns, P.ok] at CT
  have CTT := Lib.hid CT
  have CB := fun w => Back_calls P.arr w
  rw [P.backL.1, P.backL.2] at CB
  have CBB := Lib.hid CB
  have CA := fun w => Back_calls P.back.arr w
  rw [P.back.backL.1, P.back.backL.2, back_back P.rule P.inj] at CA
  have CAA := Lib.hid CA
  have hi := arr_info P.len
  have hiB := arr_info (backF_length M 16)
  have hz16 : Hid ((arr (List.replicate 16 0)).size = (arr M).size) := by show _ = _; rw [arr_size, arr_size, P.len]; rfl
  have hzB : Hid ((arr (List.replicate 16 0)).size = (arr (backF M 16)).size) := by show _ = _; rw [arr_size, arr_size, backF_length]; rfl
  have hone := Lib.hid (arr_one M)
  have honeB := Lib.hid (arr_one (backF M 16))
  have HP := Lib.hid P
  obtain ⟨a0, a1, a2, a3, a4, a5, a6, a7, a8, a9, a10, a11, a12, a13, a14, a15, hLe⟩ := list16 P.len
  have hLA : Hid (arr M = #[.int .u8 a0, .int .u8 a1, .int .u8 a2, .int .u8 a3, .int .u8 a4, .int .u8 a5, .int .u8 a6, .int .u8 a7, .int .u8 a8, .int .u8 a9, .int .u8 a10, .int .u8 a11, .int .u8 a12, .int .u8 a13, .int .u8 a14, .int .u8 a15]) := by show _ = _; rw [hLe]; rfl
  have heq2 : ∀ w, (binOp .eql 23 (.agg #[.int .u8 a0, .int .u8 a1, .int .u8 a2, .int .u8 a3, .int .u8 a4, .int .u8 a5, .int .u8 a6, .int .u8 a7, .int .u8 a8, .int .u8 a9, .int .u8 a10, .int .u8 a11, .int .u8 a12, .int .u8 a13, .int .u8 a14, .int .u8 a15]) (.agg #[.int .u8 a0, .int .u8 a1, .int .u8 a2, .int .u8 a3, .int .u8 a4, .int .u8 a5, .int .u8 a6, .int .u8 a7, .int .u8 a8, .int .u8 a9, .int .u8 a10, .int .u8 a11, .int .u8 a12, .int .u8 a13, .int .u8 a14, .int .u8 a15])).run Try.prog w = .ok (.bool true) w := fun w => by
    have := arr_eql P.len P.len w
    rw [← hLA.out]; simpa using this
  clear U1 U2 CT CB CA hn hA hr hbl hn0 hA0 hr0 hbl0 bW bH bT bB b1 b2 hG hm hLe P
  go_enter Try.func7, Try.ntmps7
  go_wp2_with (first
    | (go_at_call 12; ((with_reducible refine (alive29 _).mono ?_); rintro e w1 ⟨rfl, hb1⟩; have KG1 := bk_below KG hb1; have B1 := next hB hb1))
    | (go_at_call 21; ((with_reducible refine (HOrd.out _ B1).mono ?_); rintro e w2 ⟨rfl, hb2⟩; have KG2 := bk_below KG1 hb2; have B2 := next B1 hb2))
    | (refine wpList_store_row (by rfl) 23 _ _ (by rfl) w2.heap.size (arr M) (by rfl) (by rfl) 23 _ (bk_new w2 _) hi hz16.out hone.out ?_; rw [World.setRow_alloc_new]; have K3 := bk_new w2 (.cells (arr M) 23); have KG3 := bk_alloc KG2 (.cells (arr M) 23); have B3 := B2.alloc B2.size (.cells (arr M) 23); generalize (w2.alloc (.cells (arr M) 23)) = w3 at *; have kg := bk_cell KG3; clear KG KG1 KG2 hb2 hB))
  refine (HMade.out _ B3).mono ?_
  rintro e w4 ⟨g, S, he, hF4, hS4, hb4⟩
  unfold gdTopo at he
  subst he
  have R := gdR torus W H turn by_
  generalize gdK torus = gk at *
  generalize gdT torus (gdS W) (gdS H) turn by_ = gt at *
  generalize gdB torus (gdS W) (gdS H) turn by_ = gb at *
  have HR2 := Lib.hid R
  generalize gdS W = Wn at *
  generalize gdS H = Hn at *
  have hs5 : AdSt w w2.heap.size w4.heap.size g M #[.int .u8 gk, .int .i64 Wn, .int .i64 Hn, .int .u8 gt, .int .i64 gb] (keptD Wn Hn 2 packed l) S (w4.alloc (.cells #[.int .u8 gk, .int .i64 Wn, .int .i64 Hn, .int .u8 gt, .int .i64 gb] 29)) := ⟨bk_alloc (bk_below K3 hb4) _, bk_new _ _, hF4.below (boxed _ _), (next' B3 hb4).alloc (next' B3 hb4).size _⟩
  clear K3 KG3 B3 B2 B1 hb1 kg hF4 hS4 hb4 R HMade HOrd
  go_wp2_with (first | fail)
  generalize (w4.alloc (.cells #[.int .u8 gk, .int .i64 Wn, .int .i64 Hn, .int .u8 gt, .int .i64 gb] 29)) = w5 at *
  have K5 := hs5.b
  go_wp2_with (first
    | (go_at_call 19; ((with_reducible refine (C1.out _).mono ?_); rintro e w' ⟨rfl, rfl⟩))
    | (go_at_call 19; ((with_reducible refine (C2.out _).mono ?_); rintro e w' ⟨rfl, rfl⟩))
    | (refine wpList_load_row (by rfl) 23 _ (by rfl) w2.heap.size (by rfl) 23 _ (0, 0) _ K5 Try.underlying23 rfl hi ?_)
    | (go_at_call 22; ((with_reducible refine (CTT.out _).mono ?_); rintro e w6 ⟨rfl, hb6⟩; have hs6 := hs5.below hb6; have K6 := hs6.b; clear K5))
    | (refine wpList_load_row (by rfl) 23 _ (by rfl) w2.heap.size (by rfl) 23 _ (0, 0) _ K6 Try.underlying23 rfl hi ?_)
    | (go_at_call 23; ((with_reducible refine (CBB.out _).mono ?_); rintro e w7 ⟨rfl, hb7⟩; have hs7 := hs6.below hb7; clear K6))
    | (refine wpList_store_row (by rfl) 23 _ _ (by rfl) w7.heap.size (arr (backF M 16)) (by rfl) (by rfl) 23 _ (bk_new w7 _) hiB hzB.out honeB.out ?_; rw [World.setRow_alloc_new]; have R8 := bk_new w7 (.cells (arr (backF M 16)) 23); have hs8 := hs7.below (boxed w7 (.cells (arr (backF M 16)) 23)); generalize (w7.alloc (.cells (arr (backF M 16)) 23)) = w8 at *)
    | (refine wpList_load_row (by rfl) 23 _ (by rfl) w7.heap.size (by rfl) 23 _ (0, 0) _ R8 Try.underlying23 rfl hiB ?_)
    | (go_at_call 23; ((with_reducible refine (CAA.out _).mono ?_); rintro e w9 ⟨rfl, hb9⟩; have hs9 := hs8.below hb9; clear R8))
    | (refine wpList_store_row (by rfl) 23 _ _ (by rfl) w9.heap.size (arr M) (by rfl) (by rfl) 23 _ (bk_new w9 _) hi hz16.out hone.out ?_; rw [World.setRow_alloc_new]; have A10 := bk_new w9 (.cells (arr M) 23); have hd10 := hs9.below (boxed w9 (.cells (arr M) 23)); generalize (w9.alloc (.cells (arr M) 23)) = w10 at *; have hs10 : BbSt w w2.heap.size w9.heap.size w4.heap.size g M #[.int .u8 gk, .int .i64 Wn, .int .i64 Hn, .int .u8 gt, .int .i64 gb] (keptD Wn Hn 2 packed l) S w10 := ⟨hd10.b, A10, hd10.t, hd10.f, hd10.l⟩; have K10 := hs10.b; have T10 := bk_cell hs10.t; clear hs5 hs6 hs7 hs8 hs9 hd10 A10)
    | (refine wpList_load_row (by rfl) 23 _ (by rfl) w2.heap.size (by rfl) 23 _ (0, 0) _ K10 Try.underlying23 rfl hi ?_)
    | (go_at_call 15; ((with_reducible refine (gd_run HR2.out HP.out.arr HP.out.ok hs10.f (gen := G) (n := (m : Int)) (by omega) (by omega) (by omega) (by omega) (by omega) (fun _ => HP.out.turns)).mono ?_); rintro e w11 ⟨ga, Sa, rfl, hFa, hSa, hb11⟩; have hs11 := hs10.below hb11; have K11 := hs11.b; have T11 := bk_cell hs11.t; clear T10 K10))
    | (refine wpList_load_row (by rfl) 23 _ (by rfl) w2.heap.size (by rfl) 23 _ (0, 0) _ K11 Try.underlying23 rfl hi ?_)
    | (go_at_call 15; ((with_reducible refine (gd_run HR2.out HP.out.arr HP.out.ok hFa (gen := G + (m : Int)) (n := -(m : Int)) (by omega) (by omega) (by omega) (by omega) (by omega) (fun _ => HP.out.turns)).mono ?_); rintro e w12 ⟨gc, Sc, rfl, hFc, hSc, hb12⟩; rw [there_back HP.out HR2.out.good m G _ (kept_bits Wn l)] at hFc; have hs12 := hs11.below hb12; have K12 := hs12.b; have T12 := bk_cell hs12.t; clear T11 K11))
    | (refine wpList_load_row (by rfl) 23 _ (by rfl) w2.heap.size (by rfl) 23 _ (0, 0) _ K12 Try.underlying23 rfl hi ?_)
    | (go_at_call 15; ((with_reducible refine (gd_run HR2.out HP.out.arr HP.out.ok hs12.f (gen := G + (m : Int)) (n := -(m : Int)) (by omega) (by omega) (by omega) (by omega) (by omega) (fun _ => HP.out.turns)).mono ?_); rintro e w13 ⟨gd, Sd, rfl, hFd, hSd, hb13⟩; have hs13 := hs12.below hb13; have hFc13 := hFc.below hb13; have K13 := hs13.b; have T13 := bk_cell hs13.t; clear T12 K12))
    | (refine wpList_load_row (by rfl) 23 _ (by rfl) w2.heap.size (by rfl) 23 _ (0, 0) _ K13 Try.underlying23 rfl hi ?_)
    | (go_at_call 15; ((with_reducible refine (gd_run HR2.out HP.out.arr HP.out.ok hFd (gen := G) (n := (m : Int)) (by omega) (by omega) (by omega) (by omega) (by omega) (fun _ => HP.out.turns)).mono ?_); rintro e w14 ⟨ge, Se, rfl, hFe, hSe, hb14⟩; rw [back_there HP.out HR2.out.good m G _ (kept_bits Wn l)] at hFe; have hs14 := hs13.below hb14; have hFc14 := hFc13.below hb14; have k14 := bk_cell (bk_eq hs14.b hLA.out); have l14 := bk_cell (bk_eq hs14.a hLA.out); clear T13 K13))
    | (go_at_call 20; ((with_reducible refine (Same_calls hFc14 hs14.f).mono ?_); rintro e w15 ⟨bb, rfl, hbb, hb15⟩; obtain rfl : bb = true := hbb.2 ⟨rfl, rfl, rfl, fun y x _ _ => rfl⟩; have hs15 := hs14.below hb15; have hFe15 := hFe.below hb15; clear k14 l14))
    | (go_at_call 20; ((with_reducible refine (Same_calls hFe15 hs15.f).mono ?_); rintro e w16 ⟨bb, rfl, hbb, hb16⟩; obtain rfl : bb = true := hbb.2 ⟨rfl, rfl, rfl, fun y x _ _ => rfl⟩; have hs16 := hs15.below hb16)))
  go_ret
  exact Ret.of rfl hs16.l
end Go.Proofs.Ytdpcmpfhjhbicaa
