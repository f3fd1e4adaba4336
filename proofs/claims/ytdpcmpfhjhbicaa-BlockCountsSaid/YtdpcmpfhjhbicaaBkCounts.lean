/- BlockCounts: the walk. -/
import Derived.Test.YtdpcmpfhjhbicaaBkKp
import Derived.Test.YtdpcmpfhjhbicaaBkKeep
set_option linter.unusedVariables false
set_option linter.unusedSimpArgs false
namespace Go.Proofs.Ytdpcmpfhjhbicaa
open Go.RowKit Go.Viv

theorem heldA {w : World} {bb tb g : Nat} {M : List Int} {tc : Array Value} {D : FD} {S : Nat → Prop} {w' : World} {p0 p1 p2 p3 p4 p5 : Prop} (h : p0 ∧ p1 ∧ p2 ∧ p3 ∧ p4 ∧ p5 ∧ AdSt w bb tb g M tc D S w') : AdSt w bb tb g M tc D S w' := h.2.2.2.2.2.2
theorem gd_runL {k : Int} {Wn Hn g : Nat} {t s gen n : Int} {b : List Int} {pk : Bool} {f : Nat → Nat → Int} {S : Nat → Prop} {w : World} (R : GridR k Wn Hn t s) (hb : Arr16 b) (hc : checkB b = 0) (hF : Fld g ⟨Wn, Hn, 2, pk, f⟩ S w) (g0 : 0 ≤ gen) (g1 : gen ≤ 1125899906842000) (m0 : 0 ≤ gen + n) (n0 : -400 ≤ n) (n1 : n ≤ 400) (ht : n < 0 → turnsB b = true) :
    Calls Try.prog 15 #[.agg (b.map (Value.int .u8)).toArray, topoV k Wn Hn t s, .pointer (some ⟨g, 0, none⟩), .int .i64 gen, .int .i64 n] w fun e w' => ∃ g' S', e = .returned (.tuple #[.pointer (some ⟨g', 0, none⟩), .int .i64 0]) ∧ Fld g' ⟨Wn, Hn, 2, pk, runF b (blkL k Wn Hn t s) gen n f⟩ S' w' ∧ (∀ b, S' b → w.heap.size < b) ∧ Below w.heap.size w w' :=
  gd_run R hb hc hF g0 g1 m0 n0 n1 ht
theorem AdSt.held {w : World} {bb tb g : Nat} {M : List Int} {v0 v1 v2 v3 v4 : Value} {D : FD} {S : Nat → Prop} {w' : World} (h : AdSt w bb tb g M #[v0, v1, v2, v3, v4] D S w') : w'.rangeAt bb 0 (M.map (Value.int .u8)) ∧ w'.cell? ⟨tb, 0, none⟩ = some v0 ∧ w'.cell? ⟨tb, 1, none⟩ = some v1 ∧ w'.cell? ⟨tb, 2, none⟩ = some v2 ∧ w'.cell? ⟨tb, 3, none⟩ = some v3 ∧ w'.cell? ⟨tb, 4, none⟩ = some v4 ∧ AdSt w bb tb g M #[v0, v1, v2, v3, v4] D S w' :=
  ⟨fun j v hv => by rw [Nat.zero_add, bk_cell h.b]; simpa [arr] using hv, bk_cell h.t 0, bk_cell h.t 1, bk_cell h.t 2, bk_cell h.t 3, bk_cell h.t 4, h⟩
set_option maxRecDepth 20000 in
set_option maxHeartbeats 2000000 in
theorem BlockCounts_walk (w : World) {A0 : Option Addr} {n0 c0 : Nat} {l0 : List Int} (hn0 : l0.length = n0) (hnb0 : n0 ≤ 9223372036854775807) (hA0 : 0 < n0 → ∃ b off, A0 = some ⟨b, off, none⟩) (hr0 : Rd w A0 (l0.map (.int .u8))) (hbl0 : ∀ z ∈ l0, 0 ≤ z ∧ z ≤ 255)
    {torus packed : Bool} {W H turn by_ : Int} {A : Option Addr} {n c : Nat} {l : List Int} (bW : -9223372036854775808 ≤ W ∧ W ≤ 9223372036854775807) (bH : -9223372036854775808 ≤ H ∧ H ≤ 9223372036854775807) (bT : -9223372036854775808 ≤ turn ∧ turn ≤ 9223372036854775807) (bB : -9223372036854775808 ≤ by_ ∧ by_ ≤ 9223372036854775807)
    (hn : l.length = n) (hnb : n ≤ 9223372036854775807) (hA : 0 < n → ∃ b off, A = some ⟨b, off, none⟩) (hr : Rd w A (l.map (.int .u8))) (hbl : ∀ z ∈ l, 0 ≤ z ∧ z ≤ 255)
    {first many : Int} (b1 : -9223372036854775808 ≤ first ∧ first ≤ 9223372036854775807) (b2 : -9223372036854775808 ≤ many ∧ many ≤ 9223372036854775807) :
    Calls Try.prog 10 #[.slice A0 n0 c0, gdV torus packed W H turn by_ A n c, .int .i64 first, .int .i64 many] w (Ret (.bool true) w) := by
  have KG := bk_new w (.cells #[.bool torus, .bool packed, .int .i64 W, .int .i64 H, .int .i64 turn, .int .i64 by_, .slice A n c] 46)
  have hB := boxed w (.cells #[.bool torus, .bool packed, .int .i64 W, .int .i64 H, .int .i64 turn, .int .i64 by_, .slice A n c] 46)
  have HMade := Lib.hid (fun (w1 : World) (h1 : Below w.heap.size w w1) => made_calls torus packed W H turn by_ A n c l w1 bW bH bT bB hn hnb hA (hr.below h1) hbl)
  have HOrd := Lib.hid (fun (w1 : World) (h1 : Below w.heap.size w w1) => keeping_calls A0 n0 c0 l0 w1 hn0 hnb0 hA0 (hr0.below h1) hbl0)
  have P := keep16 l0
  have PC := keep_check l0
  have PT := keep_counts l0
  have PO : ∀ k : Nat, k < 16 → onesN (nth (keepF l0 14) k) = onesN k := fun k hk => (keep_all l0 k hk).1
  generalize keepF l0 14 = M at *
  obtain ⟨G, hG, G0, G1⟩ : ∃ G, first % 1099511627776 = G ∧ 0 ≤ G ∧ G < 1099511627776 := ⟨_, rfl, by omega, by omega⟩
  obtain ⟨m, hm, m1⟩ : ∃ m : Nat, many % 41 = (m : Int) ∧ m ≤ 40 := ⟨(many % 41).toNat, by omega, by omega⟩
  have U1 := fun w => up_calls first 1099511627776 w (by omega) (by omega) b1.1 b1.2
  have U2 := fun w => up_calls many 41 w (by omega) (by omega) b2.1 b2.2
  rw [hG] at U1; rw [hm] at U2
  have C1 := Lib.hid U1; have C2 := Lib.hid U2
  have CT := fun w => Counts_calls P w
  rw [PT, PC] at CT
  have CTT := Lib.hid CT
  have hi := arr_info P.len
  have hz16 : Hid ((arr (List.replicate 16 0)).size = (arr M).size) := by show _ = _; rw [arr_size, arr_size, P.len]; rfl
  have hone := Lib.hid (arr_one M)
  have HP := Lib.hid P; have HPC := Lib.hid PC; have HPO := Lib.hid PO; have HPR := Lib.hid (ruleOk P PC)
  have HPop := Lib.hid (fun gen (m : Nat) => run_pop (torus := torus) (pk := packed) (W := W) (H := H) (turn := turn) (by_ := by_) (l := l) (ruleOk P PC) PO gen m)
  clear U1 U2 CT hn hA hr hbl hn0 hA0 hr0 hbl0 bW bH bT bB b1 b2 hG hm P PC PT PO
  go_enter Try.func10, Try.ntmps10
  go_wp2_with (first
    | (go_at_call 12; ((with_reducible refine (alive29 _).mono ?_); rintro e w1 ⟨rfl, hb1⟩; have KG1 := bk_below KG hb1; have B1 := next hB hb1))
    | (go_at_call 35; ((with_reducible refine (HOrd.out _ B1).mono ?_); rintro e w2 ⟨rfl, hb2⟩; have KG2 := bk_below KG1 hb2; have B2 := next B1 hb2))
    | (refine wpList_store_row (by rfl) 23 _ _ (by rfl) w2.heap.size (arr M) (by rfl) (by rfl) 23 _ (bk_new w2 _) hi hz16.out hone.out ?_; rw [World.setRow_alloc_new]; have K3 := bk_new w2 (.cells (arr M) 23); have KG3 := bk_alloc KG2 (.cells (arr M) 23); have B3 := B2.alloc B2.size (.cells (arr M) 23); generalize (w2.alloc (.cells (arr M) 23)) = w3 at *; have kg := bk_cell KG3; clear KG KG1 KG2 hb2 hB))
  refine (HMade.out _ B3).mono ?_
  rintro e w4 ⟨g, S, he, hF4, hS4, hb4⟩
  unfold gdTopo at he
  subst he
  have R := gdR torus W H turn by_
  unfold gdL at HPop
  generalize gdK torus = gk at *
  generalize gdT torus (gdS W) (gdS H) turn by_ = gt at *
  generalize gdB torus (gdS W) (gdS H) turn by_ = gb at *
  have HR2 := Lib.hid R
  generalize gdS W = Wn at *
  generalize gdS H = Hn at *
  have hs5 : AdSt w w2.heap.size w4.heap.size g M #[.int .u8 gk, .int .i64 Wn, .int .i64 Hn, .int .u8 gt, .int .i64 gb] (keptD Wn Hn 2 packed l) S (w4.alloc (.cells #[.int .u8 gk, .int .i64 Wn, .int .i64 Hn, .int .u8 gt, .int .i64 gb] 29)) := ⟨bk_alloc (bk_below K3 hb4) _, bk_new _ _, hF4.below (boxed _ _), (next' B3 hb4).alloc (next' B3 hb4).size _⟩
  clear K3 KG3 B3 B2 B1 hb1 kg hF4 hS4 hb4 R HMade HOrd
  have K5 := hs5.b
  go_wp2_with (first
    | (refine wpList_load_row (by rfl) 23 _ (by rfl) w2.heap.size (by rfl) 23 _ (0, 0) _ K5 Try.underlying23 rfl hi ?_)
    | (go_at_call 34; ((with_reducible refine (CTT.out _).mono ?_); rintro e w6 ⟨rfl, hb6⟩; have hs6 := hs5.below hb6; clear K5)))
  have hu := Try.underlying23
  have hi2 : (Try.prog.info? 23).map (·.size) = some (M.map (Value.int .u8)).length := by rw [List.length_map, HP.out.len]; kernel_rfl
  have hl2 : (M.map (Value.int .u8)).length = 16 := by rw [List.length_map, HP.out.len]
  have ho2 : ∀ v ∈ M.map (Value.int .u8), v.oneCell' = true := fun v hv => by obtain ⟨z, _, rfl⟩ := List.mem_map.1 hv; rfl
  have HS6 := Lib.hid hs6
  clear hs5 hs6
  go_region_held3 (fun w' => w'.rangeAt w2.heap.size 0 (M.map (Value.int .u8)) ∧ w'.cell? ⟨w4.heap.size, 0, none⟩ = some (.int .u8 gk) ∧ w'.cell? ⟨w4.heap.size, 1, none⟩ = some (.int .i64 Wn) ∧ w'.cell? ⟨w4.heap.size, 2, none⟩ = some (.int .i64 Hn) ∧ w'.cell? ⟨w4.heap.size, 3, none⟩ = some (.int .u8 gt) ∧ w'.cell? ⟨w4.heap.size, 4, none⟩ = some (.int .i64 gb) ∧ AdSt w w2.heap.size w4.heap.size g M #[.int .u8 gk, .int .i64 Wn, .int .i64 Hn, .int .u8 gt, .int .i64 gb] (keptD Wn Hn 2 packed l) S w')
    (first | exact (HS6.out.below (Below.refl _ _).drew).held | exact hs7.held)
    (first | (go_at_call 19; ((with_reducible refine (C1.out _).mono ?_); rintro e w' ⟨rfl, rfl⟩)) | (go_at_call 19; ((with_reducible refine (C2.out _).mono ?_); rintro e w' ⟨rfl, rfl⟩)) | (go_at_call 15; (have hh : AdSt w w2.heap.size w4.heap.size g M #[.int .u8 gk, .int .i64 Wn, .int .i64 Hn, .int .u8 gt, .int .i64 gb] (keptD Wn Hn 2 packed l) S _ := heldA (by assumption)); (refine (gd_runL HR2.out HP.out HPC.out hh.f (gen := G) (n := (m : Int)) (by omega) (by omega) (by omega) (by omega) (by omega) (fun h => absurd h (by omega))).mono ?_); rintro e w7 ⟨ga, Sa, rfl, hFa, hSa, hb7⟩; have hs7 := hh.below hb7))
  have P1 := Pop_calls hFa
  rw [HPop.out G m] at P1
  obtain ⟨N, hN⟩ : ∃ N, N = (livL (keptD Wn Hn 2 packed l)).length := ⟨_, rfl⟩
  have P2 : Hid (∀ w8, Below w7.heap.size w7 w8 → Calls Try.prog 31 #[.pointer (some ⟨g, 0, none⟩)] w8 fun e w' => e = .returned (.int .i64 N) ∧ Below w8.heap.size w8 w') := fun w8 h => by rw [hN]; exact Pop_calls (hs7.f.below h)
  rw [← hN] at P1
  have hNN : ((N : Int) == (N : Int)) = true := beq_self_eq_true _
  have P1H := Lib.hid P1; have hl7 := Lib.hid hs7.l
  rename_i hHeld
  clear hHeld P1 hN HPop hFa hSa hs7 hh
  go_wp2_with (first
    | (go_at_call 31; ((with_reducible refine (P1H.out).mono ?_); rintro e w8 ⟨rfl, hb8⟩))
    | (go_at_call 31; ((with_reducible refine (P2.out _ hb8).mono ?_); rintro e w9 ⟨rfl, hb9⟩)))
  go_ret
  exact Ret.of rfl (next' (next' hl7.out hb8) hb9)
end Go.Proofs.Ytdpcmpfhjhbicaa
