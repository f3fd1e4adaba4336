/- BlockRules: the walk. -/
import Derived.Test.YtdpcmpfhjhbicaaBkN
import Derived.Test.YtdpcmpfhjhbicaaBkRt
import Derived.Deep.RegionHeld3
import Derived.Deep.MidRow
set_option linter.unusedVariables false
set_option linter.unusedSimpArgs false
namespace Go.Proofs.Ytdpcmpfhjhbicaa
open Go.RowKit Go.Viv

theorem range_of {w : World} {b : Nat} {T : TypeId} {l : List Int} (h : w.heap[b]? = some (.cells (arr l) T (0, 0))) : w.rangeAt b 0 (l.map (Value.int .u8)) :=
  fun j v hv => by rw [Nat.zero_add, bk_cell h]; simpa [arr] using hv

/-- three rules in memory -/
theorem keep3 {w w' : World} {b c d : Nat} {T : TypeId} {l m : List Int} (h : w.heap[b]? = some (.cells (arr l) T (0, 0))) (h2 : w.heap[c]? = some (.cells (arr m) T (0, 0))) (h3 : w.heap[d]? = some (.cells (arr m) T (0, 0))) (hb : Below w.heap.size w w') :
    w'.rangeAt b 0 (l.map (Value.int .u8)) ∧ w'.rangeAt c 0 (m.map (Value.int .u8)) ∧ w'.rangeAt d 0 (m.map (Value.int .u8)) ∧ Below w.heap.size w w' :=
  ⟨range_of (bk_below h hb), range_of (bk_below h2 hb), range_of (bk_below h3 hb), hb⟩
theorem next3 {w w1 w2 : World} {p q r : Prop} (h2 : Below w1.heap.size w1 w2) (h : p ∧ q ∧ r ∧ Below w.heap.size w w1) : Below w.heap.size w w2 := next h.2.2.2 h2
theorem arr_one' (l : List Int) : ∀ v ∈ l.map (Value.int .u8), v.oneCell' = true := by
  intro v hv
  obtain ⟨x, _, rfl⟩ := List.mem_map.1 hv
  rfl

set_option maxRecDepth 20000 in
set_option maxHeartbeats 8000000 in
theorem BlockRules_walk (w : World) {b : List Int} (hb : Arr16 b) : Calls Try.prog 11 #[.agg (arr b)] w (Ret (.bool true) w) := by
  have C1 := Lib.hid (fun w => Print_calls hb w); have C2 := Lib.hid (fun w => rPrint_calls hb w)
  have C3 := Lib.hid (fun w => Turns_calls hb w); have C4 := Lib.hid (fun w => rTurns_calls hb w)
  have C5 := Lib.hid (fun w => Back_calls hb w); have C6 := Lib.hid (fun w => rBack_calls hb w)
  have C7 := Lib.hid (fun w => Counts_calls hb w); have C8 := Lib.hid (fun w => rCounts_calls hb w)
  have C9 := Lib.hid (fun w => bCheck_calls hb w); have C10 := Lib.hid (fun w => rCheck_calls hb w)
  unfold printV at C1 C2
  have hl : (backL b).length = 16 := backL_length b
  generalize printS b = P at *
  generalize checkB b = E at *
  generalize turnsB b = T at *
  generalize backL b = L at *
  generalize backE b = F at *
  generalize countsB b = C at *
  have hi := arr_info hb.len
  have hiL := arr_info hl
  have hz16 : Hid ((arr (List.replicate 16 0)).size = (arr L).size) := by show _ = _; rw [arr_size, arr_size, hl]; rfl
  have hone := Lib.hid (arr_one L)
  have KO := bk_new w (.cells (arr b) 23)
  have hB := boxed w (.cells (arr b) 23)
  have HLB := Lib.hid hb.len; have HLL := Lib.hid hl
  clear hl hb
  go_enter Try.func11, Try.ntmps11
  go_wp2_with (first | (go_at_call 12; ((with_reducible refine (alive29 _).mono ?_); rintro e w1 ⟨rfl, hb1⟩; have K1 := bk_below KO hb1; have B1 := next hB hb1)) | (go_at_call 16; ((with_reducible refine (C1.out _).mono ?_); rintro e w2 ⟨rfl, hb2⟩; have K2 := bk_below K1 hb2; have B2 := next B1 hb2)) | (go_at_call 36; ((with_reducible refine (C2.out _).mono ?_); rintro e w3 ⟨rfl, hb3⟩; have K3 := bk_below K2 hb3; have B3 := next B2 hb3)) | (go_at_call 22; ((with_reducible refine (C3.out _).mono ?_); rintro e w4 ⟨rfl, hb4⟩; have K4 := bk_below K3 hb4; have B4 := next B3 hb4)) | (go_at_call 37; ((with_reducible refine (C4.out _).mono ?_); rintro e w5 ⟨rfl, hb5⟩; have K5 := bk_below K4 hb5; have B5 := next B4 hb5)) | (go_at_call 23; ((with_reducible refine (C5.out _).mono ?_); rintro e w6 ⟨rfl, hb6⟩; have K6 := bk_below K5 hb6; have B6 := next B5 hb6)) | (refine wpList_store_row (by rfl) 23 _ _ (by rfl) w6.heap.size (arr L) (by rfl) (by rfl) 23 _ (bk_new w6 _) hiL hz16.out hone.out ?_; rw [World.setRow_alloc_new]; have L7 := bk_new w6 (.cells (arr L) 23); have K7 := bk_alloc K6 (.cells (arr L) 23); have B7 := B6.alloc B6.size (.cells (arr L) 23); generalize (w6.alloc (.cells (arr L) 23)) = w7 at *) | (go_at_call 38; ((with_reducible refine (C6.out _).mono ?_); rintro e w8 ⟨rfl, hb8⟩; have K8 := bk_below K7 hb8; have L8 := bk_below L7 hb8; have B8 := next B7 hb8)) | (refine wpList_store_row (by rfl) 23 _ _ (by rfl) w8.heap.size (arr L) (by rfl) (by rfl) 23 _ (bk_new w8 _) hiL hz16.out hone.out ?_; rw [World.setRow_alloc_new]; have M9 := bk_new w8 (.cells (arr L) 23); have K9 := bk_alloc K8 (.cells (arr L) 23); have L9 := bk_alloc L8 (.cells (arr L) 23); have B9 := B8.alloc B8.size (.cells (arr L) 23); generalize (w8.alloc (.cells (arr L) 23)) = w9 at *) | (go_at_call 34; ((with_reducible refine (C7.out _).mono ?_); rintro e w10 ⟨rfl, hb10⟩; have K10 := bk_below K9 hb10; have L10 := bk_below L9 hb10; have M10 := bk_below M9 hb10; have B10 := next B9 hb10)) | (go_at_call 39; ((with_reducible refine (C8.out _).mono ?_); rintro e w11 ⟨rfl, hb11⟩; have K11 := bk_below K10 hb11; have L11 := bk_below L10 hb11; have M11 := bk_below M10 hb11; have B11 := next B10 hb11)) | (refine wpList_load_row (by rfl) 23 _ (by rfl) w.heap.size (by rfl) 23 _ (0, 0) _ K1 Try.underlying23 rfl hi ?_) | (refine wpList_load_row (by rfl) 23 _ (by rfl) w.heap.size (by rfl) 23 _ (0, 0) _ K2 Try.underlying23 rfl hi ?_) | (refine wpList_load_row (by rfl) 23 _ (by rfl) w.heap.size (by rfl) 23 _ (0, 0) _ K3 Try.underlying23 rfl hi ?_) | (refine wpList_load_row (by rfl) 23 _ (by rfl) w.heap.size (by rfl) 23 _ (0, 0) _ K4 Try.underlying23 rfl hi ?_) | (refine wpList_load_row (by rfl) 23 _ (by rfl) w.heap.size (by rfl) 23 _ (0, 0) _ K5 Try.underlying23 rfl hi ?_) | (refine wpList_load_row (by rfl) 23 _ (by rfl) w.heap.size (by rfl) 23 _ (0, 0) _ K7 Try.underlying23 rfl hi ?_) | (refine wpList_load_row (by rfl) 23 _ (by rfl) w.heap.size (by rfl) 23 _ (0, 0) _ K9 Try.underlying23 rfl hi ?_) | (refine wpList_load_row (by rfl) 23 _ (by rfl) w.heap.size (by rfl) 23 _ (0, 0) _ K10 Try.underlying23 rfl hi ?_))
  have hu := Try.underlying23
  have hib : (Try.prog.info? 23).map (·.size) = some (b.map (Value.int .u8)).length := by rw [List.length_map, HLB.out]; exact arr_infoE
  have hiL2 : (Try.prog.info? 23).map (·.size) = some (L.map (Value.int .u8)).length := by rw [List.length_map, HLL.out]; exact arr_infoE
  have hlb2 : (b.map (Value.int .u8)).length = 16 := by rw [List.length_map]; exact HLB.out
  have hlL2 : (L.map (Value.int .u8)).length = 16 := by rw [List.length_map]; exact HLL.out
  have hob := arr_one' b
  have hoL := arr_one' L
  have hEE : (E == E) = true := beq_self_eq_true E
  have hFF : (F == F) = true := beq_self_eq_true F
  have hTT : (T == T) = true := beq_self_eq_true T
  have hCC : (C == C) = true := beq_self_eq_true C
  have hPP : (P.toList == P.toList) = true := beq_self_eq_true _
  have heq2 : ∀ w, (binOp .eql 23 (.agg (L.map (Value.int .u8)).toArray) (.agg (L.map (Value.int .u8)).toArray)).run Try.prog w = .ok (.bool true) w := fun w => by
    have := arr_eql HLL.out HLL.out w; rw [decide_eq_true rfl] at this; exact this
  have C9' : Hid (∀ w, Calls Try.prog 17 #[.agg (b.map (Value.int .u8)).toArray] w (Ret (.int .i64 E) w)) := C9.out
  have C10' : Hid (∀ w, Calls Try.prog 40 #[.agg (b.map (Value.int .u8)).toArray] w (Ret (.int .i64 E) w)) := C10.out
  have HK := Lib.hid K11; have HL := Lib.hid L11; have HM := Lib.hid M11; have HB := Lib.hid B11
  clear hi hiL hz16 hone C1 C2 C3 C4 C5 C6 C7 C8 C9 C10
  clear K11 L11 M11 B11 K10 L10 M10 B10 K9 L9 M9 B9 K8 L8 B8 K7 L7 B7 K6 B6 K5 B5 K4 B4 K3 B3 K2 B2 K1 B1 KO hB
  clear hb1 hb2 hb3 hb4 hb5 hb6 hb8 hb10 hb11
  --BEGIN
  refine wp_region_held_drew (S := (fun w' => w'.rangeAt w.heap.size 0 (b.map (Value.int .u8)) ∧ w'.rangeAt w6.heap.size 0 (L.map (Value.int .u8)) ∧ w'.rangeAt w8.heap.size 0 (L.map (Value.int .u8)) ∧ Below w11.heap.size w11 w')) (by kernel_rfl) (keep3 HK.out HL.out HM.out (Below.refl _ _).drew) (fun hHeld => ?_)
  refine wpAnyH_take (i := 0) (v := ?_) rfl (by kernel_rfl) (by kernel_rfl) (by kernel_rfl) (fun _ _ _ h => h) (Or.inl ⟨by rfl, fun wq hSq => ?_⟩) (by assumption) ?_
  rotate_left
  · go_simp
    try with_reducible rfl
  (try simp only [Act.put, List.getElem_toArray, List.getElem_cons_succ, List.getElem_cons_zero, List.setIfInBounds_toArray, List.set_cons_zero, List.set_cons_succ])
  refine wpAnyH_take (i := 1) (v := ?_) rfl (by kernel_rfl) (by kernel_rfl) (by kernel_rfl) (fun _ _ _ h => h) (Or.inl ⟨by rfl, fun wq hSq => ?_⟩) (by assumption) ?_
  rotate_left
  · go_simp
    try with_reducible rfl
  (try simp only [Act.put, List.getElem_toArray, List.getElem_cons_succ, List.getElem_cons_zero, List.setIfInBounds_toArray, List.set_cons_zero, List.set_cons_succ])
  refine' wpAnyH_take (i := 2) (v := _) rfl (by kernel_rfl) (by kernel_rfl) (by kernel_rfl) (fun _ _ _ h => h) (yieldsIf_load_mid (by rfl) _ _ rfl w.heap.size 0 rfl (b.map (Value.int .u8)) _ (fun w h => h.1) hu rfl hib) (by assumption) ?_
  (try simp only [Act.put, List.getElem_toArray, List.getElem_cons_succ, List.getElem_cons_zero, List.setIfInBounds_toArray, List.set_cons_zero, List.set_cons_succ])
  refine' wpAnyH_take (i := 4) (v := _) rfl (by kernel_rfl) (by kernel_rfl) (by kernel_rfl) (fun _ _ _ h => h) (yieldsIf_load_mid (by rfl) _ _ rfl w.heap.size 0 rfl (b.map (Value.int .u8)) _ (fun w h => h.1) hu rfl hib) (by assumption) ?_
  (try simp only [Act.put, List.getElem_toArray, List.getElem_cons_succ, List.getElem_cons_zero, List.setIfInBounds_toArray, List.set_cons_zero, List.set_cons_succ])
  refine wpAnyH_ready (rs := [3]) (by kernel_rfl) (by simp) (AllReadyH.cons rfl (fun K hK => ?_) AllReadyH.nil)
  go_simp
  (go_at_call 17; ((with_reducible refine (C9'.out _).mono ?_); rintro e w12 ⟨rfl, hb12⟩; have hacc := next3 hb12 (by assumption)))
  (try dsimp only)
  (try go_wp2_with fail)
  refine hK.out _ _ (by (try dsimp only); exact keep3 HK.out HL.out HM.out hacc) (fun hHeld => ?_)
  clear hK K
  (try simp only [Act.put, List.getElem_toArray, List.getElem_cons_succ, List.getElem_cons_zero, List.setIfInBounds_toArray, List.set_cons_zero, List.set_cons_succ])
  refine wpAnyH_ready (rs := [5]) (by kernel_rfl) (by simp) (AllReadyH.cons rfl (fun K hK => ?_) AllReadyH.nil)
  go_simp
  (go_at_call 40; ((with_reducible refine (C10'.out _).mono ?_); rintro e w13 ⟨rfl, hb13⟩; have hacc := next3 hb13 (by assumption)))
  (try dsimp only)
  (try go_wp2_with fail)
  refine hK.out _ _ (by (try dsimp only); exact keep3 HK.out HL.out HM.out hacc) (fun hHeld => ?_)
  clear hK K
  (try simp only [Act.put, List.getElem_toArray, List.getElem_cons_succ, List.getElem_cons_zero, List.setIfInBounds_toArray, List.set_cons_zero, List.set_cons_succ])
  refine wpAnyH_take (i := 6) (v := ?_) rfl (by kernel_rfl) (by kernel_rfl) (by kernel_rfl) (fun _ _ _ h => h) (Or.inl ⟨by rfl, fun wq hSq => ?_⟩) (by assumption) ?_
  rotate_left
  · go_simp
    try with_reducible rfl
  (try simp only [Act.put, List.getElem_toArray, List.getElem_cons_succ, List.getElem_cons_zero, List.setIfInBounds_toArray, List.set_cons_zero, List.set_cons_succ])
  refine wpAnyH_take (i := 7) (v := ?_) rfl (by kernel_rfl) (by kernel_rfl) (by kernel_rfl) (fun _ _ _ h => h) (Or.inl ⟨by rfl, fun wq hSq => ?_⟩) (by assumption) ?_
  rotate_left
  · go_simp
    try with_reducible rfl
  (try simp only [Act.put, List.getElem_toArray, List.getElem_cons_succ, List.getElem_cons_zero, List.setIfInBounds_toArray, List.set_cons_zero, List.set_cons_succ])
  refine wpAnyH_take (i := 8) (v := ?_) rfl (by kernel_rfl) (by kernel_rfl) (by kernel_rfl) (fun _ _ _ h => h) (Or.inl ⟨by rfl, fun wq hSq => ?_⟩) (by assumption) ?_
  rotate_left
  · go_simp
    try with_reducible rfl
  (try simp only [Act.put, List.getElem_toArray, List.getElem_cons_succ, List.getElem_cons_zero, List.setIfInBounds_toArray, List.set_cons_zero, List.set_cons_succ])
  refine wpAnyH_take (i := 9) (v := ?_) rfl (by kernel_rfl) (by kernel_rfl) (by kernel_rfl) (fun _ _ _ h => h) (Or.inl ⟨by rfl, fun wq hSq => ?_⟩) (by assumption) ?_
  rotate_left
  · go_simp
    try with_reducible rfl
  (try simp only [Act.put, List.getElem_toArray, List.getElem_cons_succ, List.getElem_cons_zero, List.setIfInBounds_toArray, List.set_cons_zero, List.set_cons_succ])
  refine wpAnyH_take (i := 10) (v := ?_) rfl (by kernel_rfl) (by kernel_rfl) (by kernel_rfl) (fun _ _ _ h => h) (Or.inl ⟨by rfl, fun wq hSq => ?_⟩) (by assumption) ?_
  rotate_left
  · go_simp
    try with_reducible rfl
  (try simp only [Act.put, List.getElem_toArray, List.getElem_cons_succ, List.getElem_cons_zero, List.setIfInBounds_toArray, List.set_cons_zero, List.set_cons_succ])
  refine wpAnyH_take (i := 11) (v := ?_) rfl (by kernel_rfl) (by kernel_rfl) (by kernel_rfl) (fun _ _ _ h => h) (Or.inl ⟨by rfl, fun wq hSq => ?_⟩) (by assumption) ?_
  rotate_left
  · go_simp
    try with_reducible rfl
  (try simp only [Act.put, List.getElem_toArray, List.getElem_cons_succ, List.getElem_cons_zero, List.setIfInBounds_toArray, List.set_cons_zero, List.set_cons_succ])
  refine wpAnyH_take (i := 12) (v := ?_) rfl (by kernel_rfl) (by kernel_rfl) (by kernel_rfl) (fun _ _ _ h => h) (Or.inl ⟨by rfl, fun wq hSq => ?_⟩) (by assumption) ?_
  rotate_left
  · go_simp
    try with_reducible rfl
  (try simp only [Act.put, List.getElem_toArray, List.getElem_cons_succ, List.getElem_cons_zero, List.setIfInBounds_toArray, List.set_cons_zero, List.set_cons_succ])
  refine wpAnyH_take (i := 13) (v := ?_) rfl (by kernel_rfl) (by kernel_rfl) (by kernel_rfl) (fun _ _ _ h => h) (Or.inl ⟨by rfl, fun wq hSq => ?_⟩) (by assumption) ?_
  rotate_left
  · go_simp
    try with_reducible rfl
  (try simp only [Act.put, List.getElem_toArray, List.getElem_cons_succ, List.getElem_cons_zero, List.setIfInBounds_toArray, List.set_cons_zero, List.set_cons_succ])
  refine wpAnyH_take (i := 14) (v := ?_) rfl (by kernel_rfl) (by kernel_rfl) (by kernel_rfl) (fun _ _ _ h => h) (Or.inl ⟨by rfl, fun wq hSq => ?_⟩) (by assumption) ?_
  rotate_left
  · go_simp
    try with_reducible rfl
  (try simp only [Act.put, List.getElem_toArray, List.getElem_cons_succ, List.getElem_cons_zero, List.setIfInBounds_toArray, List.set_cons_zero, List.set_cons_succ])
  refine wpAnyH_take (i := 15) (v := ?_) rfl (by kernel_rfl) (by kernel_rfl) (by kernel_rfl) (fun _ _ _ h => h) (Or.inl ⟨by rfl, fun wq hSq => ?_⟩) (by assumption) ?_
  rotate_left
  · go_simp
    try with_reducible rfl
  (try simp only [Act.put, List.getElem_toArray, List.getElem_cons_succ, List.getElem_cons_zero, List.setIfInBounds_toArray, List.set_cons_zero, List.set_cons_succ])
  refine wpAnyH_take (i := 16) (v := ?_) rfl (by kernel_rfl) (by kernel_rfl) (by kernel_rfl) (fun _ _ _ h => h) (Or.inl ⟨by rfl, fun wq hSq => ?_⟩) (by assumption) ?_
  rotate_left
  · go_simp
    try with_reducible rfl
  (try simp only [Act.put, List.getElem_toArray, List.getElem_cons_succ, List.getElem_cons_zero, List.setIfInBounds_toArray, List.set_cons_zero, List.set_cons_succ])
  refine wpAnyH_take (i := 17) (v := ?_) rfl (by kernel_rfl) (by kernel_rfl) (by kernel_rfl) (fun _ _ _ h => h) (Or.inl ⟨by rfl, fun wq hSq => ?_⟩) (by assumption) ?_
  rotate_left
  · go_simp
    try with_reducible rfl
  (try simp only [Act.put, List.getElem_toArray, List.getElem_cons_succ, List.getElem_cons_zero, List.setIfInBounds_toArray, List.set_cons_zero, List.set_cons_succ])
  refine wpAnyH_take (i := 18) (v := ?_) rfl (by kernel_rfl) (by kernel_rfl) (by kernel_rfl) (fun _ _ _ h => h) (Or.inl ⟨by rfl, fun wq hSq => ?_⟩) (by assumption) ?_
  rotate_left
  · go_simp
    try with_reducible rfl
  (try simp only [Act.put, List.getElem_toArray, List.getElem_cons_succ, List.getElem_cons_zero, List.setIfInBounds_toArray, List.set_cons_zero, List.set_cons_succ])
  refine wpAnyH_take (i := 19) (v := ?_) rfl (by kernel_rfl) (by kernel_rfl) (by kernel_rfl) (fun _ _ _ h => h) (Or.inl ⟨by rfl, fun wq hSq => ?_⟩) (by assumption) ?_
  rotate_left
  · go_simp
    try with_reducible rfl
  (try simp only [Act.put, List.getElem_toArray, List.getElem_cons_succ, List.getElem_cons_zero, List.setIfInBounds_toArray, List.set_cons_zero, List.set_cons_succ])
  refine wpAnyH_take (i := 20) (v := ?_) rfl (by kernel_rfl) (by kernel_rfl) (by kernel_rfl) (fun _ _ _ h => h) (Or.inl ⟨by rfl, fun wq hSq => ?_⟩) (by assumption) ?_
  rotate_left
  · go_simp
    try with_reducible rfl
  (try simp only [Act.put, List.getElem_toArray, List.getElem_cons_succ, List.getElem_cons_zero, List.setIfInBounds_toArray, List.set_cons_zero, List.set_cons_succ])
  refine wpAnyH_take (i := 21) (v := ?_) rfl (by kernel_rfl) (by kernel_rfl) (by kernel_rfl) (fun _ _ _ h => h) (Or.inl ⟨by rfl, fun wq hSq => ?_⟩) (by assumption) ?_
  rotate_left
  · go_simp
    try with_reducible rfl
  (try simp only [Act.put, List.getElem_toArray, List.getElem_cons_succ, List.getElem_cons_zero, List.setIfInBounds_toArray, List.set_cons_zero, List.set_cons_succ])
  refine wpAnyH_take (i := 22) (v := ?_) rfl (by kernel_rfl) (by kernel_rfl) (by kernel_rfl) (fun _ _ _ h => h) (Or.inl ⟨by rfl, fun wq hSq => ?_⟩) (by assumption) ?_
  rotate_left
  · go_simp
    try with_reducible rfl
  (try simp only [Act.put, List.getElem_toArray, List.getElem_cons_succ, List.getElem_cons_zero, List.setIfInBounds_toArray, List.set_cons_zero, List.set_cons_succ])
  refine wpAnyH_take (i := 23) (v := ?_) rfl (by kernel_rfl) (by kernel_rfl) (by kernel_rfl) (fun _ _ _ h => h) (Or.inl ⟨by rfl, fun wq hSq => ?_⟩) (by assumption) ?_
  rotate_left
  · go_simp
    try with_reducible rfl
  (try simp only [Act.put, List.getElem_toArray, List.getElem_cons_succ, List.getElem_cons_zero, List.setIfInBounds_toArray, List.set_cons_zero, List.set_cons_succ])
  refine wpAnyH_take (i := 24) (v := ?_) rfl (by kernel_rfl) (by kernel_rfl) (by kernel_rfl) (fun _ _ _ h => h) (Or.inl ⟨by rfl, fun wq hSq => ?_⟩) (by assumption) ?_
  rotate_left
  · go_simp
    try with_reducible rfl
  (try simp only [Act.put, List.getElem_toArray, List.getElem_cons_succ, List.getElem_cons_zero, List.setIfInBounds_toArray, List.set_cons_zero, List.set_cons_succ])
  refine wpAnyH_take (i := 25) (v := ?_) rfl (by kernel_rfl) (by kernel_rfl) (by kernel_rfl) (fun _ _ _ h => h) (Or.inl ⟨by rfl, fun wq hSq => ?_⟩) (by assumption) ?_
  rotate_left
  · go_simp
    try with_reducible rfl
  (try simp only [Act.put, List.getElem_toArray, List.getElem_cons_succ, List.getElem_cons_zero, List.setIfInBounds_toArray, List.set_cons_zero, List.set_cons_succ])
  refine wpAnyH_take (i := 26) (v := ?_) rfl (by kernel_rfl) (by kernel_rfl) (by kernel_rfl) (fun _ _ _ h => h) (Or.inl ⟨by rfl, fun wq hSq => ?_⟩) (by assumption) ?_
  rotate_left
  · go_simp
    try with_reducible rfl
  (try simp only [Act.put, List.getElem_toArray, List.getElem_cons_succ, List.getElem_cons_zero, List.setIfInBounds_toArray, List.set_cons_zero, List.set_cons_succ])
  refine wpAnyH_take (i := 27) (v := ?_) rfl (by kernel_rfl) (by kernel_rfl) (by kernel_rfl) (fun _ _ _ h => h) (Or.inl ⟨by rfl, fun wq hSq => ?_⟩) (by assumption) ?_
  rotate_left
  · go_simp
    try with_reducible rfl
  (try simp only [Act.put, List.getElem_toArray, List.getElem_cons_succ, List.getElem_cons_zero, List.setIfInBounds_toArray, List.set_cons_zero, List.set_cons_succ])
  refine wpAnyH_take (i := 28) (v := ?_) rfl (by kernel_rfl) (by kernel_rfl) (by kernel_rfl) (fun _ _ _ h => h) (Or.inl ⟨by rfl, fun wq hSq => ?_⟩) (by assumption) ?_
  rotate_left
  · go_simp
    try with_reducible rfl
  (try simp only [Act.put, List.getElem_toArray, List.getElem_cons_succ, List.getElem_cons_zero, List.setIfInBounds_toArray, List.set_cons_zero, List.set_cons_succ])
  refine' wpAnyH_take (i := 29) (v := _) rfl (by kernel_rfl) (by kernel_rfl) (by kernel_rfl) (fun _ _ _ h => h) (yieldsIf_load_mid (by rfl) _ _ rfl w6.heap.size 0 rfl (L.map (Value.int .u8)) _ (fun w h => h.2.1) hu rfl hiL2) (by assumption) ?_
  (try simp only [Act.put, List.getElem_toArray, List.getElem_cons_succ, List.getElem_cons_zero, List.setIfInBounds_toArray, List.set_cons_zero, List.set_cons_succ])
  refine' wpAnyH_take (i := 30) (v := _) rfl (by kernel_rfl) (by kernel_rfl) (by kernel_rfl) (fun _ _ _ h => h) (yieldsIf_load_mid (by rfl) _ _ rfl w8.heap.size 0 rfl (L.map (Value.int .u8)) _ (fun w h => h.2.2.1) hu rfl hiL2) (by assumption) ?_
  (try simp only [Act.put, List.getElem_toArray, List.getElem_cons_succ, List.getElem_cons_zero, List.setIfInBounds_toArray, List.set_cons_zero, List.set_cons_succ])
  refine wpAnyH_take (i := 31) (v := ?_) rfl (by kernel_rfl) (by kernel_rfl) (by kernel_rfl) (fun _ _ _ h => h) (Or.inl ⟨by rfl, fun wq hSq => ?_⟩) (by assumption) ?_
  rotate_left
  · go_simp
    try with_reducible rfl
  (try simp only [Act.put, List.getElem_toArray, List.getElem_cons_succ, List.getElem_cons_zero, List.setIfInBounds_toArray, List.set_cons_zero, List.set_cons_succ])
  refine wpAnyH_take (i := 32) (v := ?_) rfl (by kernel_rfl) (by kernel_rfl) (by kernel_rfl) (fun _ _ _ h => h) (Or.inl ⟨by rfl, fun wq hSq => ?_⟩) (by assumption) ?_
  rotate_left
  · go_simp
    try with_reducible rfl
  (try simp only [Act.put, List.getElem_toArray, List.getElem_cons_succ, List.getElem_cons_zero, List.setIfInBounds_toArray, List.set_cons_zero, List.set_cons_succ])
  refine wpAnyH_take (i := 33) (v := ?_) rfl (by kernel_rfl) (by kernel_rfl) (by kernel_rfl) (fun _ _ _ h => h) (Or.inl ⟨by rfl, fun wq hSq => ?_⟩) (by assumption) ?_
  rotate_left
  · go_simp
    try with_reducible rfl
  (try simp only [Act.put, List.getElem_toArray, List.getElem_cons_succ, List.getElem_cons_zero, List.setIfInBounds_toArray, List.set_cons_zero, List.set_cons_succ])
  refine wpAnyH_take (i := 34) (v := ?_) rfl (by kernel_rfl) (by kernel_rfl) (by kernel_rfl) (fun _ _ _ h => h) (Or.inl ⟨by rfl, fun wq hSq => ?_⟩) (by assumption) ?_
  rotate_left
  · go_simp
    try with_reducible rfl
  (try simp only [Act.put, List.getElem_toArray, List.getElem_cons_succ, List.getElem_cons_zero, List.setIfInBounds_toArray, List.set_cons_zero, List.set_cons_succ])
  refine wpAnyH_take (i := 35) (v := ?_) rfl (by kernel_rfl) (by kernel_rfl) (by kernel_rfl) (fun _ _ _ h => h) (Or.inl ⟨by rfl, fun wq hSq => ?_⟩) (by assumption) ?_
  rotate_left
  · go_simp
    try with_reducible rfl
  (try simp only [Act.put, List.getElem_toArray, List.getElem_cons_succ, List.getElem_cons_zero, List.setIfInBounds_toArray, List.set_cons_zero, List.set_cons_succ])
  refine wpAnyH_take (i := 36) (v := ?_) rfl (by kernel_rfl) (by kernel_rfl) (by kernel_rfl) (fun _ _ _ h => h) (Or.inl ⟨by rfl, fun wq hSq => ?_⟩) (by assumption) ?_
  rotate_left
  · go_simp
    try with_reducible rfl
  (try simp only [Act.put, List.getElem_toArray, List.getElem_cons_succ, List.getElem_cons_zero, List.setIfInBounds_toArray, List.set_cons_zero, List.set_cons_succ])
  refine wpAnyH_take (i := 37) (v := ?_) rfl (by kernel_rfl) (by kernel_rfl) (by kernel_rfl) (fun _ _ _ h => h) (Or.inl ⟨by rfl, fun wq hSq => ?_⟩) (by assumption) ?_
  rotate_left
  · go_simp
    try with_reducible rfl
  (try simp only [Act.put, List.getElem_toArray, List.getElem_cons_succ, List.getElem_cons_zero, List.setIfInBounds_toArray, List.set_cons_zero, List.set_cons_succ])
  refine wpAnyH_take (i := 38) (v := ?_) rfl (by kernel_rfl) (by kernel_rfl) (by kernel_rfl) (fun _ _ _ h => h) (Or.inl ⟨by rfl, fun wq hSq => ?_⟩) (by assumption) ?_
  rotate_left
  · go_simp
    try with_reducible rfl
  (try simp only [Act.put, List.getElem_toArray, List.getElem_cons_succ, List.getElem_cons_zero, List.setIfInBounds_toArray, List.set_cons_zero, List.set_cons_succ])
  refine wpAnyH_take (i := 39) (v := ?_) rfl (by kernel_rfl) (by kernel_rfl) (by kernel_rfl) (fun _ _ _ h => h) (Or.inl ⟨by rfl, fun wq hSq => ?_⟩) (by assumption) ?_
  rotate_left
  · go_simp
    try with_reducible rfl
  (try simp only [Act.put, List.getElem_toArray, List.getElem_cons_succ, List.getElem_cons_zero, List.setIfInBounds_toArray, List.set_cons_zero, List.set_cons_succ])
  refine wpAnyH_take (i := 40) (v := ?_) rfl (by kernel_rfl) (by kernel_rfl) (by kernel_rfl) (fun _ _ _ h => h) (Or.inl ⟨by rfl, fun wq hSq => ?_⟩) (by assumption) ?_
  rotate_left
  · go_simp
    try with_reducible rfl
  (try simp only [Act.put, List.getElem_toArray, List.getElem_cons_succ, List.getElem_cons_zero, List.setIfInBounds_toArray, List.set_cons_zero, List.set_cons_succ])
  refine wpAnyH_take (i := 41) (v := ?_) rfl (by kernel_rfl) (by kernel_rfl) (by kernel_rfl) (fun _ _ _ h => h) (Or.inl ⟨by rfl, fun wq hSq => ?_⟩) (by assumption) ?_
  rotate_left
  · go_simp
    try with_reducible rfl
  (try simp only [Act.put, List.getElem_toArray, List.getElem_cons_succ, List.getElem_cons_zero, List.setIfInBounds_toArray, List.set_cons_zero, List.set_cons_succ])
  refine wpAnyH_take (i := 42) (v := ?_) rfl (by kernel_rfl) (by kernel_rfl) (by kernel_rfl) (fun _ _ _ h => h) (Or.inl ⟨by rfl, fun wq hSq => ?_⟩) (by assumption) ?_
  rotate_left
  · go_simp
    try with_reducible rfl
  (try simp only [Act.put, List.getElem_toArray, List.getElem_cons_succ, List.getElem_cons_zero, List.setIfInBounds_toArray, List.set_cons_zero, List.set_cons_succ])
  refine wpAnyH_take (i := 43) (v := ?_) rfl (by kernel_rfl) (by kernel_rfl) (by kernel_rfl) (fun _ _ _ h => h) (Or.inl ⟨by rfl, fun wq hSq => ?_⟩) (by assumption) ?_
  rotate_left
  · go_simp
    try with_reducible rfl
  (try simp only [Act.put, List.getElem_toArray, List.getElem_cons_succ, List.getElem_cons_zero, List.setIfInBounds_toArray, List.set_cons_zero, List.set_cons_succ])
  refine wpAnyH_take (i := 44) (v := ?_) rfl (by kernel_rfl) (by kernel_rfl) (by kernel_rfl) (fun _ _ _ h => h) (Or.inl ⟨by rfl, fun wq hSq => ?_⟩) (by assumption) ?_
  rotate_left
  · go_simp
    try with_reducible rfl
  (try simp only [Act.put, List.getElem_toArray, List.getElem_cons_succ, List.getElem_cons_zero, List.setIfInBounds_toArray, List.set_cons_zero, List.set_cons_succ])
  refine wpAnyH_take (i := 45) (v := ?_) rfl (by kernel_rfl) (by kernel_rfl) (by kernel_rfl) (fun _ _ _ h => h) (Or.inl ⟨by rfl, fun wq hSq => ?_⟩) (by assumption) ?_
  rotate_left
  · go_simp
    try with_reducible rfl
  (try simp only [Act.put, List.getElem_toArray, List.getElem_cons_succ, List.getElem_cons_zero, List.setIfInBounds_toArray, List.set_cons_zero, List.set_cons_succ])
  refine wpAnyH_take (i := 46) (v := ?_) rfl (by kernel_rfl) (by kernel_rfl) (by kernel_rfl) (fun _ _ _ h => h) (Or.inl ⟨by rfl, fun wq hSq => ?_⟩) (by assumption) ?_
  rotate_left
  · go_simp
    try with_reducible rfl
  (try simp only [Act.put, List.getElem_toArray, List.getElem_cons_succ, List.getElem_cons_zero, List.setIfInBounds_toArray, List.set_cons_zero, List.set_cons_succ])
  refine wpAnyH_take (i := 47) (v := ?_) rfl (by kernel_rfl) (by kernel_rfl) (by kernel_rfl) (fun _ _ _ h => h) (Or.inl ⟨by rfl, fun wq hSq => ?_⟩) (by assumption) ?_
  rotate_left
  · go_simp
    try with_reducible rfl
  (try simp only [Act.put, List.getElem_toArray, List.getElem_cons_succ, List.getElem_cons_zero, List.setIfInBounds_toArray, List.set_cons_zero, List.set_cons_succ])
  refine wpAnyH_take (i := 48) (v := ?_) rfl (by kernel_rfl) (by kernel_rfl) (by kernel_rfl) (fun _ _ _ h => h) (Or.inl ⟨by rfl, fun wq hSq => ?_⟩) (by assumption) ?_
  rotate_left
  · go_simp
    try with_reducible rfl
  (try simp only [Act.put, List.getElem_toArray, List.getElem_cons_succ, List.getElem_cons_zero, List.setIfInBounds_toArray, List.set_cons_zero, List.set_cons_succ])
  refine wpAnyH_done (by kernel_rfl) ?_ _
  --END
  have hZ := Lib.hid (next HB.out hHeld.2.2.2)
  clear hHeld hu hib hiL2 hlb2 hlL2 hob hoL hEE hFF hTT hCC hPP heq2
  go_wp2_with (first | fail)
  go_ret
  exact Ret.of rfl hZ.out
end Go.Proofs.Ytdpcmpfhjhbicaa
