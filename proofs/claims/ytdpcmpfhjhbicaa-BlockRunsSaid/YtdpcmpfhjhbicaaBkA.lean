/- Rules of blocks in memory: sixteen numbers; Check, Turns, Back. -/
import Derived.Test.YtdpcmpfhjhbicaaB0
import Derived.Test.YtdpcmpfhjhbicaaBkP
import Derived.Test.YtdpcmpfhjhbicaaRd
import Derived.ChangeKeysEq
import Derived.Laws.CopyOwn
set_option linter.unusedVariables false
set_option linter.unusedSimpArgs false
namespace Go.Proofs.Ytdpcmpfhjhbicaa
open Go.RowKit Go.Viv

/-- sixteen numbers as an array -/
def arr (b : List Int) : Array Value := (b.map (Value.int .u8)).toArray
theorem arr_size (b : List Int) : (arr b).size = b.length := by simp [arr]
theorem arr_at {b : List Int} {k : Nat} (h : k < b.length) : (arr b)[k]? = some (.int .u8 (nth b k)) := by
  simp [arr, nth, h]
theorem arr_info {b : List Int} (h : b.length = 16) : (Try.prog.info? 23).map (·.size) = some (arr b).size := by
  rw [arr_size, h]; kernel_rfl
theorem arr_one (b : List Int) : (arr b).all (·.oneCell') = true := by
  rw [Array.all_eq_true_iff_forall_mem]
  intro v hv
  simp only [arr, List.mem_toArray, List.mem_map] at hv
  obtain ⟨x, _, rfl⟩ := hv
  rfl
theorem arr_index {b : List Int} (h : b.length = 16) (k : Nat) (hk : k < 16) (kk : IntKind) (w : World) : (Instr.index 23 (.agg (arr b)) (.int kk k)).run Try.prog w = .ok (.int .u8 (nth b k)) w := by
  have h1 : k < (arr b).size := by rw [arr_size, h]; exact hk
  have h2 := arr_at (b := b) (k := k) (by omega)
  have hp : (part 5 (arr b) k).run Try.prog w = .ok (.int .u8 (nth b k)) w := run_part_plain w (by kernel_rfl) h2
  simp [Instr.index, run_underlying Try.underlying23, asIntOf, hp, hk]

set_option maxRecDepth 20000 in
set_option maxHeartbeats 1000000 in
theorem bCheck_calls {b : List Int} (hb : Arr16 b) (w : World) : Calls Try.prog 17 #[.agg (arr b)] w (Ret (.int .i64 (checkB b)) w) := by
  have KO := bk_new w (.cells (arr b) 23)
  have hi := arr_info hb.len
  have hB := boxed w (.cells (arr b) 23)
  go_enter Try.func17, Try.ntmps17
  go_wp2_with (refine wpList_load_row (by rfl) 23 _ (by rfl) w.heap.size (by rfl) 23 _ (0, 0) _ KO Try.underlying23 rfl hi ?_)
  go_loop [6] (fun i => ∃ k : Nat, i = .int .i64 k ∧ k ≤ 16 ∧ Hid (∀ j, j < k → nth b j ≤ 15)) (fun i => 16 - (intOf i).toNat)
  case atStart => exact ⟨0, rfl, by omega, fun _ h => absurd h (by omega)⟩
  case round =>
    obtain ⟨k, rfl, hk, HK⟩ := hrel
    clear KO
    by_cases hlt : k < 16
    · have hix := fun w => arr_index hb.len k hlt .i64 w
      have hbd := hb.bd k hlt
      by_cases hg : nth b k ≤ 15
      · have HK2 : Hid (∀ j, j < k + 1 → nth b j ≤ 15) := fun j hj => by
          by_cases e : j = k
          · subst e; exact hg
          · exact HK.out j (by omega)
        generalize nth b k = n at *
        go_wp2
        go_round
        case rel => exact ⟨k + 1, by go_num, by omega, HK2⟩
        case measure => simp [intOf]; omega
      · have HC := Lib.hid (checkB_bad (b := b) (k := k) (by rw [hb.len]; exact hlt) (by omega))
        generalize nth b k = n at *
        go_wp2
        go_ret
        exact Ret.of (by rw [HC.out]; rfl) hB
    · have HC := Lib.hid (checkB_ok (b := b) (fun j hj => HK.out j (by rw [hb.len] at hj; omega)))
      go_wp2
      go_ret
      exact Ret.of (by rw [HC.out]; rfl) hB

theorem arr_set (c : List Int) (k : Nat) (v : Int) : (arr c).setIfInBounds k (.int .u8 v) = arr (c.set k v) := by
  apply Array.ext'
  simp [arr, List.map_set]
theorem arr_bk {w : World} {g : Nat} {c : List Int} {t : TypeId} (h : w.heap[g]? = some (.cells (arr c) t (0, 0))) (k : Nat) (v : Int) : (w.setCell ⟨g, k, none⟩ (.int .u8 v)).heap[g]? = some (.cells (arr (c.set k v)) t (0, 0)) := by
  rw [← arr_set]; exact bk_set h k _
theorem arr_inj {a b : List Int} (h : arr a = arr b) : a = b := by
  have := congrArg (fun c : Array Value => c.toList) h
  simp only [arr] at this
  exact (List.map_inj_right (fun x y e => by injection e)).1 this
theorem zero16 : (#[.int .u8 0, .int .u8 0, .int .u8 0, .int .u8 0, .int .u8 0, .int .u8 0, .int .u8 0, .int .u8 0, .int .u8 0, .int .u8 0, .int .u8 0, .int .u8 0, .int .u8 0, .int .u8 0, .int .u8 0, .int .u8 0] : Array Value) = arr (List.replicate 16 0) := rfl
theorem arr_items {a b : List Int} (ha : a.length = 16) (hb : b.length = 16) (w : World) : ∀ (is : List Nat), (∀ i ∈ is, i < 16) → (Op.eqItems 9999 5 1 (arr a) (arr b) is).run Try.prog w = .ok (is.all fun i => nth a i == nth b i) w
  | [], _ => by simp [Op.eqItems]
  | i :: is, h => by
    have ih := arr_items ha hb w is fun j hj => h j (by simp [hj])
    have hi := h i (by simp)
    have p1 : (part 5 (arr a) i).run Try.prog w = .ok (.int .u8 (nth a i)) w := run_part_plain w (by kernel_rfl) (arr_at (by omega))
    have p2 : (part 5 (arr b) i).run Try.prog w = .ok (.int .u8 (nth b i)) w := run_part_plain w (by kernel_rfl) (arr_at (by omega))
    have e := run_equalIn_int (P := Try.prog) (w := w) 9998 5 .u8 .u8 (nth a i) (nth b i) Try.underlying5
    have hh : ∀ (x y : Bool), (if (!x) = true then Result.ok false w else Result.ok y w) = Result.ok (x && y) w := fun x y => by cases x <;> rfl
    simp only [Op.eqItems, Nat.mul_one, Sem.run_bind, p1, p2, e, ih, Result.andThen_ok, List.all_cons]
    rw [← hh]
    split <;> simp_all
theorem all_nth {a b : List Int} (ha : a.length = 16) (hb : b.length = 16) : ((List.range 16).all fun i => nth a i == nth b i) = decide (a = b) := by
  by_cases h : a = b
  · subst h; simp
  · rw [decide_eq_false h, Bool.eq_false_iff]
    intro hh
    rw [List.all_eq_true] at hh
    exact h (nth_ext (by rw [ha, hb]) fun k hk => by
      have := hh k (List.mem_range.2 (by omega))
      simpa using this)
theorem u8_info : ∃ i, Try.prog.info? 5 = some i := by
  obtain ⟨i, hi⟩ := info_of_underlying (P := Try.prog) (t := 5) Try.underlying5
  exact ⟨i, hi⟩
theorem arr_equalIn {a b : List Int} (ha : a.length = 16) (hb : b.length = 16) (w : World) : (Op.equalIn 10000 23 (.agg (arr a)) (.agg (arr b))).run Try.prog w = .ok (decide (a = b)) w := by
  obtain ⟨i, hi⟩ := u8_info
  have hc : Try.prog.cellsOf 5 = 1 := by kernel_rfl
  rw [show (10000 : Nat) = 9999 + 1 from rfl, run_equalIn_array w 9999 (arr a) (arr b) Try.underlying23 hi, hc, arr_items ha hb w _ (fun i hi => List.mem_range.1 hi), all_nth ha hb]
theorem arr_eql {a b : List Int} (ha : a.length = 16) (hb : b.length = 16) (w : World) : (binOp .eql 23 (.agg (arr a)) (.agg (arr b))).run Try.prog w = .ok (.bool (decide (a = b))) w := by
  rw [run_eql_struct, arr_equalIn ha hb]; rfl
theorem arr_neq {a b : List Int} (ha : a.length = 16) (hb : b.length = 16) (w : World) : (binOp .neq 23 (.agg (arr a)) (.agg (arr b))).run Try.prog w = .ok (.bool (!decide (a = b))) w := by
  rw [run_neq_struct, arr_equalIn ha hb]; rfl
theorem arr_infoE : (Try.prog.info? 23).map (·.size) = some 16 := by kernel_rfl

set_option maxRecDepth 20000 in
set_option maxHeartbeats 2000000 in
theorem back_calls {b : List Int} (hb : RuleOk b) (w : World) : Calls Try.prog 47 #[.agg (arr b)] w (Ret (.agg (arr (backF b 16))) w) := by
  have KO := bk_new w (.cells (arr b) 23)
  have hi := arr_info hb.len
  have hB := boxed w (.cells (arr b) 23)
  have K2 := bk_new (w.alloc (.cells (arr b) 23)) (.cells (arr (List.replicate 16 0)) 23)
  have K3 := bk_new ((w.alloc (.cells (arr b) 23)).alloc (.cells (arr (List.replicate 16 0)) 23)) (.cells (arr (List.replicate 16 0)) 23)
  have K2' := bk_alloc K2 (.cells (arr (List.replicate 16 0)) 23)
  have hB' := (hB.alloc hB.size (.cells (arr (List.replicate 16 0)) 23))
  have hB3 := (hB'.alloc hB'.size (.cells (arr (List.replicate 16 0)) 23))
  have HK3 := Lib.hid K3; have HB3 := Lib.hid hB3; have HK2 := Lib.hid K2'; clear K2 K3 K2' hB hB' hB3
  go_enter Try.func47, Try.ntmps47
  go_wp2_with (refine wpList_load_row (by rfl) 23 _ (by rfl) w.heap.size (by rfl) 23 _ (0, 0) _ (bk_alloc (bk_alloc KO _) _) Try.underlying23 rfl hi ?_)
  rw [zero16]
  replace HK3 := HK3.out; replace HK2 := HK2.out; replace HB3 := HB3.out
  simp only [World.size_alloc] at HK3 HK2
  generalize (((w.alloc (.cells (arr b) 23)).alloc (.cells (arr (List.replicate 16 0)) 23)).alloc (.cells (arr (List.replicate 16 0)) 23)) = W0 at *
  clear KO hi
  have HK2' := Lib.hid HK2; have HK3' := Lib.hid HK3; have HB3' := Lib.hid HB3; clear HK2 HK3 HB3
  go_loopw [7] (fun i wr => ∃ k : Nat, i = .int .i64 k ∧ k ≤ 16 ∧ Hid (wr.heap[w.heap.size + 1]? = some (.cells (arr (List.replicate 16 0)) 23 (0, 0))) ∧ Hid (wr.heap[w.heap.size + 1 + 1]? = some (.cells (arr (backF b k)) 23 (0, 0))) ∧ Below w.heap.size w wr) (fun i _ => 16 - (intOf i).toNat)
  case atStart => exact ⟨0, rfl, by omega, HK2'.out, HK3'.out, HB3'.out⟩
  clear HK2' HK3' HB3'
  obtain ⟨k, rfl, hk, H2, H3, hB⟩ := hrel
  by_cases hlt : k < 16
  · have hix := fun w => arr_index hb.len k hlt .i64 w
    have hbd := hb.bd k hlt
    obtain ⟨m, hm⟩ := Int.eq_ofNat_of_zero_le hbd.1
    have hm16 : m < 16 := by omega
    have hco := bk_cell H3.out m
    rw [arr_at (by rw [backF_length]; omega)] at hco
    have hfo := bk_free H3.out m
    have hR2 : Hid ((wr.setCell ⟨w.heap.size + 1 + 1, m, none⟩ (.int .u8 k)).heap[w.heap.size + 1]? = some (.cells (arr (List.replicate 16 0)) 23 (0, 0))) := bk_far H2.out (by simp) _
    have hR3 : Hid ((wr.setCell ⟨w.heap.size + 1 + 1, m, none⟩ (.int .u8 k)).heap[w.heap.size + 1 + 1]? = some (.cells (arr (backF b (k + 1))) 23 (0, 0))) := by
      have := arr_bk H3.out m k
      rw [backF, show (nth b k).toNat = m by omega]; exact this
    have hB2 := hB.setCell (p := ⟨w.heap.size + 1 + 1, m, none⟩) (by show w.heap.size ≤ w.heap.size + 1 + 1; omega) (.int .u8 (k : Int))
    simp only [hm] at hix
    clear hbd hm H2 H3
    go_wp2
    go_roundw
    case rel => exact ⟨k + 1, by go_num, by omega, hR2, hR3, hB2⟩
    case measure => simp [intOf]; omega
  · obtain rfl : k = 16 := by omega
    go_wp2_with (first | (refine wpList_load_row (by rfl) 23 _ (by rfl) (w.heap.size + 1 + 1) (by rfl) 23 _ (0, 0) _ H3.out Try.underlying23 rfl (arr_info (backF_length b 16)) ?_) | (refine wpList_store_row (by rfl) 23 _ _ (by rfl) (w.heap.size + 1) _ (by rfl) (by rfl) 23 _ H2.out (arr_info (backF_length b 16)) (by rw [arr_size, arr_size, backF_length]; rfl) (arr_one _) ?_))
    refine end_c (w.heap.size + 1) 23 rfl rfl rfl Try.underlying23 rfl ⟨_, setRow_heap _ _ _ _ _ _ H2.out, arr_info (backF_length b 16), Ret.one ?_⟩
    exact below_setRow hB (by omega) _
theorem list16 {l : List Int} (h : l.length = 16) : ∃ a0 a1 a2 a3 a4 a5 a6 a7 a8 a9 a10 a11 a12 a13 a14 a15 : Int, l = [a0, a1, a2, a3, a4, a5, a6, a7, a8, a9, a10, a11, a12, a13, a14, a15] := by
  match l, h with
  | [a0, a1, a2, a3, a4, a5, a6, a7, a8, a9, a10, a11, a12, a13, a14, a15], _ => exact ⟨a0, a1, a2, a3, a4, a5, a6, a7, a8, a9, a10, a11, a12, a13, a14, a15, rfl⟩
end Go.Proofs.Ytdpcmpfhjhbicaa
