/- BlockNames: the walk. -/
import Derived.Test.YtdpcmpfhjhbicaaBkN
import Derived.Test.YtdpcmpfhjhbicaaBkC
set_option linter.unusedVariables false
set_option linter.unusedSimpArgs false
namespace Go.Proofs.Ytdpcmpfhjhbicaa
open Go.RowKit Go.Viv

def nD : FD := zeroD 2 2 2 true
theorem n_ask1 : askE ballsL 1 2 2 0 0 nD 0 16777217 = 4 := by decide +kernel
theorem n_ask2 : askE ballsL 1 2 2 0 0 nD 1125899906842623 1 = 0 := by decide +kernel
theorem n_ask3 : askE ballsL 1 2 2 0 0 nD 1125899906842624 1 = 5 := by decide +kernel
theorem n_ask4 : askE ballsL 1 2 2 0 0 nD 1125899906842625 0 = 5 := by decide +kernel
theorem n_ask5 : askE ballsL 1 2 2 0 0 nD 1 (-1) = 0 := by decide +kernel
theorem n_ask6 : askE ballsL 1 2 2 0 0 nD 0 (-1) = 2 := by decide +kernel
theorem n_ask7 : askE ballsL 4 2 2 0 0 nD 0 0 = 40 := by decide +kernel
theorem n_ask8 : askE ballsL 2 2 0 0 0 nD 0 0 = 42 := by decide +kernel
theorem n_ask9 : askE ballsL 2 4 4 1 1 nD 0 0 = 291 := by decide +kernel
theorem n_ask10 : askE ballsL 1 2 2 0 0 nD 33554432 (-16777217) = 4 := by decide +kernel

def kpL : Nat → List Int
  | 0 => List.replicate 16 0
  | k + 1 => (kpL k).set k k
theorem kpL_length : ∀ k, (kpL k).length = 16
  | 0 => rfl
  | k + 1 => by rw [kpL, List.length_set, kpL_length k]
theorem kp16 : Arr16 (kpL 15) := ⟨rfl, by decide⟩
theorem kp_counts : countsB (kpL 15) = false := by decide +kernel
theorem kp_check : checkB (kpL 15) = 0 := by decide +kernel

def topoC : Array Value := #[.int .u8 1, .int .i64 2, .int .i64 2, .int .u8 0, .int .i64 0]
/-- what stands while the runs go by -/
def NmSt (w : World) (tb bb g : Nat) (S : Nat → Prop) (w' : World) : Prop :=
  w'.heap[bb]? = some (.cells (arr ballsL) 23 (0, 0)) ∧ w'.heap[tb]? = some (.cells topoC 29 (0, 0)) ∧ Fld g nD S w' ∧ Below w.heap.size w w'
theorem NmSt.below {w : World} {tb bb g : Nat} {S : Nat → Prop} {w' w'' : World} (h : NmSt w tb bb g S w') (hb : Below w'.heap.size w' w'') : NmSt w tb bb g S w'' :=
  ⟨bk_below h.1 hb, bk_below h.2.1 hb, h.2.2.1.below hb, next' h.2.2.2 hb⟩
theorem NmSt.cell {w : World} {tb bb g : Nat} {S : Nat → Prop} {w' : World} (h : NmSt w tb bb g S w') : ∀ i : Nat, w'.cell? ⟨tb, i, none⟩ = (#[.int .u8 1, .int .i64 2, .int .i64 2, .int .u8 0, .int .i64 0] : Array Value)[i]? := bk_cell h.2.1
theorem nrun {w : World} {tb bb g : Nat} {S : Nat → Prop} {w' : World} {k W H t s gen n v : Int} (t0 : 0 ≤ t) (n0 : -9223372036854775808 ≤ n) (n1 : n ≤ 9223372036854775807) (ha : askE ballsL k W H t s nD gen n = v) (h : NmSt w tb bb g S w') :
    Calls Try.prog 15 #[.agg (arr ballsL), topoV k W H t s, .pointer (some ⟨g, 0, none⟩), .int .i64 gen, .int .i64 n] w' (fun e w'' => ∃ q, e = .returned (.tuple #[.pointer q, .int .i64 v]) ∧ NmSt w tb bb g S w'') := by
  by_cases hv : v = 0
  · subst hv
    refine (Run_ok balls16 t0 h.2.2.1 n0 n1 ha).mono ?_
    rintro e w7 ⟨g', S', rfl, hF7, hS7, hb7⟩
    exact ⟨_, rfl, h.below hb7⟩
  · refine (Run_bad balls16 t0 h.2.2.1 n0 n1 ha hv).mono ?_
    rintro e w7 ⟨rfl, hb7⟩
    exact ⟨_, rfl, h.below hb7⟩

set_option maxRecDepth 20000 in
set_option maxHeartbeats 1000000 in
theorem BlockNames_walk (w : World) : Calls Try.prog 9 #[] w (Ret (.bool true) w) := by
  have C3 : Hid (∀ w, Calls Try.prog 32 #[.int .i64 2, .int .i64 2, .int .i64 2, .bool true] w (NewP 2 2 2 true w)) := fun w => New_yes 2 2 2 true w (by omega) (by omega) (by omega) (by omega) (by omega) (by omega) (by simp) (by omega)
  have hlen := arr_info a_even
  go_enter Try.func9, Try.ntmps9
  go_wp2_with (first | (go_at_call 12; ((with_reducible refine (alive29 _).mono ?_); rintro e w1 ⟨rfl, hb1⟩)) | (go_at_call 32; ((with_reducible refine (C3.out _).mono ?_); rintro e w2 ⟨g, S, rfl, hF, hge, hb2⟩)) | (go_at_call 33; ((with_reducible refine (balls_calls _).mono ?_); rintro e w3 ⟨rfl, hb3⟩)) | (refine wpList_store_row (by rfl) 23 _ _ (by rfl) w3.heap.size (arr ballsL) (by rfl) (by rfl) 23 _ (bk_new w3 _) hlen (by rfl) (arr_one _) ?_; rw [World.setRow_alloc_new]; have hs4 : NmSt w w2.heap.size w3.heap.size g S (w3.alloc (.cells (arr ballsL) 23)) := ⟨bk_new w3 _, bk_alloc (bk_below (bk_new w2 _) hb3) _, hF.below (next' (next' ((Below.refl w2.heap.size w2).alloc (Nat.le_refl _) _) hb3) ((Below.refl w3.heap.size w3).alloc (Nat.le_refl _) _)), next' (next' (next' (next' hb1 hb2) ((Below.refl w2.heap.size w2).alloc (Nat.le_refl _) _)) hb3) ((Below.refl w3.heap.size w3).alloc (Nat.le_refl _) _)⟩; generalize (w3.alloc (.cells (arr ballsL) 23)) = w4 at *; have K4 := hs4.1; have T4 := hs4.cell)/-ARMS-/ | (go_at_call 15; ((with_reducible refine (nrun (by omega) (by omega) (by omega) n_ask1 hs4).mono ?_); rintro e w5 ⟨q1, rfl, hs5⟩; have K5 := hs5.1; have T5 := hs5.cell; clear T4)) | (refine wpList_load_row (by rfl) 23 _ (by rfl) w3.heap.size (by rfl) 23 _ (0, 0) _ K4 Try.underlying23 rfl hlen ?_) | (go_at_call 15; ((with_reducible refine (nrun (by omega) (by omega) (by omega) n_ask2 hs5).mono ?_); rintro e w6 ⟨q2, rfl, hs6⟩; have K6 := hs6.1; have T6 := hs6.cell; clear T5)) | (refine wpList_load_row (by rfl) 23 _ (by rfl) w3.heap.size (by rfl) 23 _ (0, 0) _ K5 Try.underlying23 rfl hlen ?_) | (go_at_call 15; ((with_reducible refine (nrun (by omega) (by omega) (by omega) n_ask3 hs6).mono ?_); rintro e w7 ⟨q3, rfl, hs7⟩; have K7 := hs7.1; have T7 := hs7.cell; clear T6)) | (refine wpList_load_row (by rfl) 23 _ (by rfl) w3.heap.size (by rfl) 23 _ (0, 0) _ K6 Try.underlying23 rfl hlen ?_) | (go_at_call 15; ((with_reducible refine (nrun (by omega) (by omega) (by omega) n_ask4 hs7).mono ?_); rintro e w8 ⟨q4, rfl, hs8⟩; have K8 := hs8.1; have T8 := hs8.cell; clear T7)) | (refine wpList_load_row (by rfl) 23 _ (by rfl) w3.heap.size (by rfl) 23 _ (0, 0) _ K7 Try.underlying23 rfl hlen ?_) | (go_at_call 15; ((with_reducible refine (nrun (by omega) (by omega) (by omega) n_ask5 hs8).mono ?_); rintro e w9 ⟨q5, rfl, hs9⟩; have K9 := hs9.1; have T9 := hs9.cell; clear T8)) | (refine wpList_load_row (by rfl) 23 _ (by rfl) w3.heap.size (by rfl) 23 _ (0, 0) _ K8 Try.underlying23 rfl hlen ?_) | (go_at_call 15; ((with_reducible refine (nrun (by omega) (by omega) (by omega) n_ask6 hs9).mono ?_); rintro e w10 ⟨q6, rfl, hs10⟩; have K10 := hs10.1; have T10 := hs10.cell; clear T9)) | (refine wpList_load_row (by rfl) 23 _ (by rfl) w3.heap.size (by rfl) 23 _ (0, 0) _ K9 Try.underlying23 rfl hlen ?_) | (go_at_call 15; ((with_reducible refine (nrun (by omega) (by omega) (by omega) n_ask7 hs10).mono ?_); rintro e w11 ⟨q7, rfl, hs11⟩; have K11 := hs11.1; have T11 := hs11.cell; clear T10)) | (refine wpList_load_row (by rfl) 23 _ (by rfl) w3.heap.size (by rfl) 23 _ (0, 0) _ K10 Try.underlying23 rfl hlen ?_) | (go_at_call 15; ((with_reducible refine (nrun (by omega) (by omega) (by omega) n_ask8 hs11).mono ?_); rintro e w12 ⟨q8, rfl, hs12⟩; have K12 := hs12.1; have T12 := hs12.cell; clear T11)) | (refine wpList_load_row (by rfl) 23 _ (by rfl) w3.heap.size (by rfl) 23 _ (0, 0) _ K11 Try.underlying23 rfl hlen ?_) | (go_at_call 15; ((with_reducible refine (nrun (by omega) (by omega) (by omega) n_ask9 hs12).mono ?_); rintro e w13 ⟨q9, rfl, hs13⟩; have K13 := hs13.1; have T13 := hs13.cell; clear T12)) | (refine wpList_load_row (by rfl) 23 _ (by rfl) w3.heap.size (by rfl) 23 _ (0, 0) _ K12 Try.underlying23 rfl hlen ?_) | (go_at_call 15; ((with_reducible refine (nrun (by omega) (by omega) (by omega) n_ask10 hs13).mono ?_); rintro e w14 ⟨q10, rfl, hs14⟩; have K14 := hs14.1; have T14 := hs14.cell; clear T13)) | (refine wpList_load_row (by rfl) 23 _ (by rfl) w3.heap.size (by rfl) 23 _ (0, 0) _ K13 Try.underlying23 rfl hlen ?_)/-END-/)
  have K15 := bk_new w14 (.cells (arr (kpL 0)) 23)
  have hB15 := hs14.2.2.2.alloc hs14.2.2.2.size (.cells (arr (kpL 0)) 23)
  rw [show (#[.int .u8 0, .int .u8 0, .int .u8 0, .int .u8 0, .int .u8 0, .int .u8 0, .int .u8 0, .int .u8 0, .int .u8 0, .int .u8 0, .int .u8 0, .int .u8 0, .int .u8 0, .int .u8 0, .int .u8 0, .int .u8 0] : Array Value) = arr (kpL 0) from rfl]
  generalize (w14.alloc (.cells (arr (kpL 0)) 23)) = W0 at *
  have HK := Lib.hid K15; have HB := Lib.hid hB15; have hp := Lib.hid (hs14.2.2.2.size)
  have C4 := Lib.hid (fun w => Counts_calls kp16 w)
  rw [kp_counts, kp_check] at C4
  clear K15 hB15 T14 K4 K5 K6 K7 K8 K9 K10 K11 K12 K13 K14 hs4 hs5 hs6 hs7 hs8 hs9 hs10 hs11 hs12 hs13 hs14 hF hb1 hb2 hb3 hge C3
  go_loopw [27] (fun i wr => ∃ k : Nat, i = .int .i64 k ∧ k ≤ 15 ∧ Hid (wr.heap[w14.heap.size]? = some (.cells (arr (kpL k)) 23 (0, 0))) ∧ Below w.heap.size w wr) (fun i _ => 15 - (intOf i).toNat)
  case atStart => exact ⟨0, rfl, by omega, HK, HB.out⟩
  clear HK HB
  obtain ⟨k, rfl, hk, H3, hB⟩ := hrel
  by_cases hlt : k < 15
  · have hco := bk_cell H3.out k
    rw [arr_at (by rw [kpL_length]; omega)] at hco
    have hfo := bk_free H3.out k
    have hR3 : Hid ((wr.setCell ⟨w14.heap.size, k, none⟩ (.int .u8 k)).heap[w14.heap.size]? = some (.cells (arr (kpL (k + 1))) 23 (0, 0))) := arr_bk H3.out k k
    have hB2 := hB.setCell (p := ⟨w14.heap.size, k, none⟩) hp.out (.int .u8 (k : Int))
    clear H3
    go_wp2
    go_roundw
    case rel => exact ⟨k + 1, by go_num, by omega, hR3, hB2⟩
    case measure => simp [intOf]; omega
  · obtain rfl : k = 15 := by omega
    go_wp2_with (first | (refine wpList_load_row (by rfl) 23 _ (by rfl) w14.heap.size (by rfl) 23 _ (0, 0) _ H3.out Try.underlying23 rfl (arr_info (kpL_length 15)) ?_) | (go_at_call 34; ((with_reducible refine (C4.out _).mono ?_); rintro e w16 ⟨rfl, hb16⟩)))
    go_ret
    exact Ret.of rfl (next' hB hb16)
end Go.Proofs.Ytdpcmpfhjhbicaa
