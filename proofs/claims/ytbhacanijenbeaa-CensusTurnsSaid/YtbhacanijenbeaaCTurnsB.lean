/- The walk of vivariumref28.Turns. -/
import Derived.Test.YtbhacanijenbeaaCTurnsA
import Derived.Test.YtbhacanijenbeaaB0
set_option linter.unusedVariables false
set_option linter.unusedSimpArgs false
namespace Go.Proofs.Ytbhacanijenbeaa
open Go.RowKit Go.Viv

theorem far_calls (x : Int) (w : World) : Calls Try.prog 24 #[.int .i64 x] w (fun e w' => e = .returned (.bool (!nearI x)) ∧ w' = w) := by
  obtain ⟨X, hX⟩ : ∃ X, (!nearI x) = X := ⟨_, rfl⟩
  rw [hX]
  have HX := Lib.hid hX; clear hX
  go_enter Try.func24, Try.ntmps24
  go_wp2
  all_goals
    go_ret
    refine ⟨congrArg (fun b => Ending.returned (Value.bool b)) ?_, rfl⟩
    rw [← HX.out]
    clear HX
    unfold nearI
    rw [Bool.eq_iff_iff]
    simp
    try omega

abbrev zInts : Value := .agg #[.int .i64 0, .int .i64 0, .int .i64 0, .int .i64 0]
abbrev reV (l : List Int) : Value := .agg #[.int .i64 (turnsR l 0), .int .i64 (turnsR l 1), .int .i64 (turnsR l 2), .int .i64 (turnsR l 3)]
abbrev imV (l : List Int) : Value := .agg #[.int .i64 (turnsI l 0), .int .i64 (turnsI l 1), .int .i64 (turnsI l 2), .int .i64 (turnsI l 3)]
theorem reV_err {l : List Int} (h : turnsE l ≠ 0) : reV l = zInts ∧ imV l = zInts := by
  have h1 : ∀ k, turnsR l k = 0 := fun k => if_neg h
  have h2 : ∀ k, turnsI l k = 0 := fun k => if_neg h
  unfold reV imV; rw [h1, h1, h1, h1, h2, h2, h2, h2]; exact ⟨rfl, rfl⟩
theorem reV_ok {l : List Int} {n : Nat} (hn : l.length = n) (h : turnsE l = 0) : reV l = .agg #[.int .i64 (sR l 0 n), .int .i64 (sR l 1 n), .int .i64 (sR l 2 n), .int .i64 (sR l 3 n)] ∧ imV l = .agg #[.int .i64 (sI l 0 n), .int .i64 (sI l 1 n), .int .i64 (sI l 2 n), .int .i64 (sI l 3 n)] := by
  subst hn
  have h1 : ∀ k, turnsR l k = sR l k l.length := fun k => if_pos h
  have h2 : ∀ k, turnsI l k = sI l k l.length := fun k => if_pos h
  unfold reV imV; rw [h1, h1, h1, h1, h2, h2, h2, h2]; exact ⟨rfl, rfl⟩

set_option maxHeartbeats 2000000 in
theorem rTurns_many (ad : Option Addr) (n c : Nat) (l : List Int) (w : World) (hn : l.length = n) (h : 4096 < n) :
    Calls Try.prog 8 #[.slice ad n c] w (Ret (.tuple #[reV l, imV l, .int .i64 (turnsE l)]) w) := by
  have e : turnsE l = 6 := if_pos (by omega)
  rw [(reV_err (by rw [e]; decide)).1, (reV_err (by rw [e]; decide)).2, e]
  clear e
  have K0 : ((((w.alloc (.cells #[.int .i64 0, .int .i64 0, .int .i64 0, .int .i64 0] 23)).alloc (.cells #[.int .i64 0, .int .i64 0, .int .i64 0, .int .i64 0] 23)).alloc (.cells #[.int .i64 0, .int .i64 0, .int .i64 0, .int .i64 0] 23)).alloc (.cells #[.int .i64 0, .int .i64 0, .int .i64 0, .int .i64 0] 23)).heap[w.heap.size]? = some (.cells #[.int .i64 0, .int .i64 0, .int .i64 0, .int .i64 0] 23 (0, 0)) := (bk_alloc (bk_alloc (bk_alloc (bk_new _ _) _) _) _)
  have K1 : ((((w.alloc (.cells #[.int .i64 0, .int .i64 0, .int .i64 0, .int .i64 0] 23)).alloc (.cells #[.int .i64 0, .int .i64 0, .int .i64 0, .int .i64 0] 23)).alloc (.cells #[.int .i64 0, .int .i64 0, .int .i64 0, .int .i64 0] 23)).alloc (.cells #[.int .i64 0, .int .i64 0, .int .i64 0, .int .i64 0] 23)).heap[w.heap.size + 1]? = some (.cells #[.int .i64 0, .int .i64 0, .int .i64 0, .int .i64 0] 23 (0, 0)) := (bk_alloc (bk_alloc (by have := bk_new (w.alloc (.cells #[.int .i64 0, .int .i64 0, .int .i64 0, .int .i64 0] 23)) (.cells #[.int .i64 0, .int .i64 0, .int .i64 0, .int .i64 0] 23); simpa only [World.size_alloc] using this) _) _)
  have K2 : ((((w.alloc (.cells #[.int .i64 0, .int .i64 0, .int .i64 0, .int .i64 0] 23)).alloc (.cells #[.int .i64 0, .int .i64 0, .int .i64 0, .int .i64 0] 23)).alloc (.cells #[.int .i64 0, .int .i64 0, .int .i64 0, .int .i64 0] 23)).alloc (.cells #[.int .i64 0, .int .i64 0, .int .i64 0, .int .i64 0] 23)).heap[w.heap.size + 1 + 1]? = some (.cells #[.int .i64 0, .int .i64 0, .int .i64 0, .int .i64 0] 23 (0, 0)) := (bk_alloc (by have := bk_new ((w.alloc (.cells #[.int .i64 0, .int .i64 0, .int .i64 0, .int .i64 0] 23)).alloc (.cells #[.int .i64 0, .int .i64 0, .int .i64 0, .int .i64 0] 23)) (.cells #[.int .i64 0, .int .i64 0, .int .i64 0, .int .i64 0] 23); simpa only [World.size_alloc] using this) _)
  have K3 : ((((w.alloc (.cells #[.int .i64 0, .int .i64 0, .int .i64 0, .int .i64 0] 23)).alloc (.cells #[.int .i64 0, .int .i64 0, .int .i64 0, .int .i64 0] 23)).alloc (.cells #[.int .i64 0, .int .i64 0, .int .i64 0, .int .i64 0] 23)).alloc (.cells #[.int .i64 0, .int .i64 0, .int .i64 0, .int .i64 0] 23)).heap[w.heap.size + 1 + 1 + 1]? = some (.cells #[.int .i64 0, .int .i64 0, .int .i64 0, .int .i64 0] 23 (0, 0)) := (by have := bk_new (((w.alloc (.cells #[.int .i64 0, .int .i64 0, .int .i64 0, .int .i64 0] 23)).alloc (.cells #[.int .i64 0, .int .i64 0, .int .i64 0, .int .i64 0] 23)).alloc (.cells #[.int .i64 0, .int .i64 0, .int .i64 0, .int .i64 0] 23)) (.cells #[.int .i64 0, .int .i64 0, .int .i64 0, .int .i64 0] 23); simpa only [World.size_alloc] using this)
  have hBw : Below w.heap.size w ((((w.alloc (.cells #[.int .i64 0, .int .i64 0, .int .i64 0, .int .i64 0] 23)).alloc (.cells #[.int .i64 0, .int .i64 0, .int .i64 0, .int .i64 0] 23)).alloc (.cells #[.int .i64 0, .int .i64 0, .int .i64 0, .int .i64 0] 23)).alloc (.cells #[.int .i64 0, .int .i64 0, .int .i64 0, .int .i64 0] 23)) := (((boxed _ _).alloc (by simp) _).alloc (by simp; try omega) _).alloc (by simp; try omega) _
  go_enter Try.func8, Try.ntmps8
  go_wp2_with (first | fail)
  go_region
  go_wp2
  refine end_cct (w.heap.size) (w.heap.size + 1) 23 23 rfl rfl rfl rfl Try.underlying23 rfl Try.underlying23 rfl ?_
  apply Exists.intro; apply Exists.intro
  refine ⟨(by repeat (with_reducible (first | exact K0 | apply bk_set | refine bk_drew ?_ | refine bk_drewN ?_ _ | refine bk_alloc ?_ _ | refine bk_far ?_ (by simp; try omega) _))), (by repeat (with_reducible (first | exact K1 | apply bk_set | refine bk_drew ?_ | refine bk_drewN ?_ _ | refine bk_alloc ?_ _ | refine bk_far ?_ (by simp; try omega) _))), by kernel_rfl, by kernel_rfl, ?_⟩
  exact Ret.of rfl (by repeat (with_reducible (first | exact same _ | refine Below.drew ?_ | refine Below.setCell ?_ (by (try simp) <;> omega) _ | refine Below.alloc ?_ (by (try simp) <;> omega) _)))

set_option maxRecDepth 20000 in
set_option maxHeartbeats 16000000 in
theorem rTurns_few (b off n c : Nat) (l : List Int) (w : World) (hn : l.length = n) (h : n ≤ 4096) (hl : IntsAt w b off l) :
    Calls Try.prog 8 #[.slice (some ⟨b, off, none⟩) n c] w (Ret (.tuple #[reV l, imV l, .int .i64 (turnsE l)]) w) := by
  have e1 : l.all nearI = false → Hid ((.tuple #[reV l, imV l, .int .i64 (turnsE l)] : Value) = .tuple #[zInts, zInts, .int .i64 5]) := by
    intro hf
    have e : turnsE l = 5 := by unfold turnsE; rw [if_neg (by omega), if_neg (by simp [hf])]
    show _ = _
    rw [(reV_err (by rw [e]; decide)).1, (reV_err (by rw [e]; decide)).2, e]
  have e2 : (l.take n).all nearI = true → Hid ((.tuple #[reV l, imV l, .int .i64 (turnsE l)] : Value) = .tuple #[.agg #[.int .i64 (sR l 0 n), .int .i64 (sR l 1 n), .int .i64 (sR l 2 n), .int .i64 (sR l 3 n)], .agg #[.int .i64 (sI l 0 n), .int .i64 (sI l 1 n), .int .i64 (sI l 2 n), .int .i64 (sI l 3 n)], .int .i64 0]) := by
    intro hf
    rw [← hn, List.take_length] at hf
    have e : turnsE l = 0 := by unfold turnsE; rw [if_neg (by omega), if_pos hf]
    show _ = _
    rw [(reV_ok hn e).1, (reV_ok hn e).2, e]
  obtain ⟨X, hX⟩ : ∃ X, (.tuple #[reV l, imV l, .int .i64 (turnsE l)] : Value) = X := ⟨_, rfl⟩
  rw [hX] at e1 e2 ⊢
  clear hX
  have HN := Lib.hid hn; clear hn
  have HL := Lib.hid hl; clear hl
  have K0 : ((((w.alloc (.cells #[.int .i64 0, .int .i64 0, .int .i64 0, .int .i64 0] 23)).alloc (.cells #[.int .i64 0, .int .i64 0, .int .i64 0, .int .i64 0] 23)).alloc (.cells #[.int .i64 0, .int .i64 0, .int .i64 0, .int .i64 0] 23)).alloc (.cells #[.int .i64 0, .int .i64 0, .int .i64 0, .int .i64 0] 23)).heap[w.heap.size]? = some (.cells #[.int .i64 0, .int .i64 0, .int .i64 0, .int .i64 0] 23 (0, 0)) := (bk_alloc (bk_alloc (bk_alloc (bk_new _ _) _) _) _)
  have K1 : ((((w.alloc (.cells #[.int .i64 0, .int .i64 0, .int .i64 0, .int .i64 0] 23)).alloc (.cells #[.int .i64 0, .int .i64 0, .int .i64 0, .int .i64 0] 23)).alloc (.cells #[.int .i64 0, .int .i64 0, .int .i64 0, .int .i64 0] 23)).alloc (.cells #[.int .i64 0, .int .i64 0, .int .i64 0, .int .i64 0] 23)).heap[w.heap.size + 1]? = some (.cells #[.int .i64 0, .int .i64 0, .int .i64 0, .int .i64 0] 23 (0, 0)) := (bk_alloc (bk_alloc (by have := bk_new (w.alloc (.cells #[.int .i64 0, .int .i64 0, .int .i64 0, .int .i64 0] 23)) (.cells #[.int .i64 0, .int .i64 0, .int .i64 0, .int .i64 0] 23); simpa only [World.size_alloc] using this) _) _)
  have K2 : ((((w.alloc (.cells #[.int .i64 0, .int .i64 0, .int .i64 0, .int .i64 0] 23)).alloc (.cells #[.int .i64 0, .int .i64 0, .int .i64 0, .int .i64 0] 23)).alloc (.cells #[.int .i64 0, .int .i64 0, .int .i64 0, .int .i64 0] 23)).alloc (.cells #[.int .i64 0, .int .i64 0, .int .i64 0, .int .i64 0] 23)).heap[w.heap.size + 1 + 1]? = some (.cells #[.int .i64 0, .int .i64 0, .int .i64 0, .int .i64 0] 23 (0, 0)) := (bk_alloc (by have := bk_new ((w.alloc (.cells #[.int .i64 0, .int .i64 0, .int .i64 0, .int .i64 0] 23)).alloc (.cells #[.int .i64 0, .int .i64 0, .int .i64 0, .int .i64 0] 23)) (.cells #[.int .i64 0, .int .i64 0, .int .i64 0, .int .i64 0] 23); simpa only [World.size_alloc] using this) _)
  have K3 : ((((w.alloc (.cells #[.int .i64 0, .int .i64 0, .int .i64 0, .int .i64 0] 23)).alloc (.cells #[.int .i64 0, .int .i64 0, .int .i64 0, .int .i64 0] 23)).alloc (.cells #[.int .i64 0, .int .i64 0, .int .i64 0, .int .i64 0] 23)).alloc (.cells #[.int .i64 0, .int .i64 0, .int .i64 0, .int .i64 0] 23)).heap[w.heap.size + 1 + 1 + 1]? = some (.cells #[.int .i64 0, .int .i64 0, .int .i64 0, .int .i64 0] 23 (0, 0)) := (by have := bk_new (((w.alloc (.cells #[.int .i64 0, .int .i64 0, .int .i64 0, .int .i64 0] 23)).alloc (.cells #[.int .i64 0, .int .i64 0, .int .i64 0, .int .i64 0] 23)).alloc (.cells #[.int .i64 0, .int .i64 0, .int .i64 0, .int .i64 0] 23)) (.cells #[.int .i64 0, .int .i64 0, .int .i64 0, .int .i64 0] 23); simpa only [World.size_alloc] using this)
  have hBw : Below w.heap.size w ((((w.alloc (.cells #[.int .i64 0, .int .i64 0, .int .i64 0, .int .i64 0] 23)).alloc (.cells #[.int .i64 0, .int .i64 0, .int .i64 0, .int .i64 0] 23)).alloc (.cells #[.int .i64 0, .int .i64 0, .int .i64 0, .int .i64 0] 23)).alloc (.cells #[.int .i64 0, .int .i64 0, .int .i64 0, .int .i64 0] 23)) := (((boxed _ _).alloc (by simp) _).alloc (by simp; try omega) _).alloc (by simp; try omega) _
  go_enter Try.func8, Try.ntmps8
  go_wp2_with (first | fail)
  generalize hW0 : ((((w.alloc (.cells #[.int .i64 0, .int .i64 0, .int .i64 0, .int .i64 0] 23)).alloc (.cells #[.int .i64 0, .int .i64 0, .int .i64 0, .int .i64 0] 23)).alloc (.cells #[.int .i64 0, .int .i64 0, .int .i64 0, .int .i64 0] 23)).alloc (.cells #[.int .i64 0, .int .i64 0, .int .i64 0, .int .i64 0] 23)) = W0 at *
  clear hW0
  go_loopw [7] (fun i wr => ∃ j : Nat, i = .int .i64 j ∧ j ≤ n ∧ Hid ((l.take j).all nearI = true) ∧ wr.heap[w.heap.size]? = some (.cells #[.int .i64 0, .int .i64 0, .int .i64 0, .int .i64 0] 23 (0, 0)) ∧ wr.heap[w.heap.size + 1]? = some (.cells #[.int .i64 0, .int .i64 0, .int .i64 0, .int .i64 0] 23 (0, 0)) ∧ wr.heap[w.heap.size + 1 + 1]? = some (.cells #[.int .i64 0, .int .i64 0, .int .i64 0, .int .i64 0] 23 (0, 0)) ∧ wr.heap[w.heap.size + 1 + 1 + 1]? = some (.cells #[.int .i64 0, .int .i64 0, .int .i64 0, .int .i64 0] 23 (0, 0)) ∧ Below w.heap.size w wr) (fun i _ => n - (intOf i).toNat)
  case atStart => exact ⟨0, rfl, Nat.zero_le _, by show _ = _; simp, K0, K1, K2, K3, hBw⟩
  case round =>
    clear K0 K1 K2 K3
    obtain ⟨j, rfl, hj, HA, K0, K1, K2, K3, hB⟩ := hrel
    have hc2 := bk_cell K2; have hc3 := bk_cell K3; have hc0 := bk_cell K0; have hc1 := bk_cell K1; have hf0 := bk_free K0; have hf1 := bk_free K1
    by_cases hlt : j < n
    · obtain ⟨x, hx⟩ : ∃ x, l[j]? = some x := ⟨_, List.getElem?_eq_getElem (by rw [HN.out]; exact hlt)⟩
      have hcx : wr.cell? ⟨b, off + j, none⟩ = some (.int .i64 x) := cell_later hB (HL.out j _ hx)
      have Hx := Lib.hid hx; clear hx
      cases hnr : nearI x
      · have HE := e1 (allI_false Hx.out hnr)
        have HNR := Lib.hid hnr
        clear hnr e1 e2 HA
        go_wp2_with (first | (go_at_call 24; ((with_reducible refine (far_calls _ _).mono ?_); rintro e w1 ⟨rfl, rfl⟩; rw [HNR.out])))
        go_region
        go_wp2
        refine end_cct (w.heap.size) (w.heap.size + 1) 23 23 rfl rfl rfl rfl Try.underlying23 rfl Try.underlying23 rfl ?_
        apply Exists.intro; apply Exists.intro
        refine ⟨(by repeat (with_reducible (first | exact K0 | apply bk_set | refine bk_drew ?_ | refine bk_drewN ?_ _ | refine bk_alloc ?_ _ | refine bk_far ?_ (by simp; try omega) _))), (by repeat (with_reducible (first | exact K1 | apply bk_set | refine bk_drew ?_ | refine bk_drewN ?_ _ | refine bk_alloc ?_ _ | refine bk_far ?_ (by simp; try omega) _))), by kernel_rfl, by kernel_rfl, ?_⟩
        exact Ret.of (HE.out ▸ rfl) (by repeat (with_reducible (first | exact hB | refine Below.setCell ?_ (by (try simp) <;> omega) _ | refine Below.drew ?_ | refine Below.alloc ?_ (by (try simp) <;> omega) _)))
      · have hall : Hid ((l.take (j + 1)).all nearI = true) := allI_snoc HA.out Hx.out hnr
        have HNR := Lib.hid hnr
        clear hnr e1 e2
        go_wp2_with (first | (go_at_call 24; ((with_reducible refine (far_calls _ _).mono ?_); rintro e w1 ⟨rfl, rfl⟩; rw [HNR.out])))
        go_roundw
        case rel => exact ⟨j + 1, by go_num, by omega, hall, K0, K1, K2, K3, hB⟩
        case measure => simp [intOf]; omega
    · have hjn : j = n := by omega
      rw [hjn] at HA
      have HE := e2 HA.out
      have hall : Hid ((l.take n).all nearI = true) := HA
      clear e1 e2 hjn
      go_wp2_with (first | fail)
      refine wp_loop_rounds 5 ?_
      rw [rounds_succ]; go_wp2_with (first | fail)
      go_loopw [9] (fun i wq => ∃ m : Nat, i = .int .i64 m ∧ m ≤ n ∧ wq.heap[w.heap.size]? = some (.cells #[.int .i64 0, .int .i64 0, .int .i64 0, .int .i64 0] 23 (0, 0)) ∧ wq.heap[w.heap.size + 1]? = some (.cells #[.int .i64 0, .int .i64 0, .int .i64 0, .int .i64 0] 23 (0, 0)) ∧ wq.heap[w.heap.size + 1 + 1]? = some (.cells #[.int .i64 (sR l 0 m), .int .i64 0, .int .i64 0, .int .i64 0] 23 (0, 0)) ∧ wq.heap[w.heap.size + 1 + 1 + 1]? = some (.cells #[.int .i64 (sI l 0 m), .int .i64 0, .int .i64 0, .int .i64 0] 23 (0, 0)) ∧ Below w.heap.size w wq) (fun i _ => n - (intOf i).toNat)
      case atStart => exact ⟨0, rfl, Nat.zero_le _, K0, K1, K2, K3, hB⟩
      clear K0 K1 K2 K3 hc0 hc1 hc2 hc3 hf0 hf1
      obtain ⟨m, rfl, hm, K0, K1, K2, K3, hB⟩ := hrel
      have hc2 := bk_cell K2; have hc3 := bk_cell K3; have hc0 := bk_cell K0; have hc1 := bk_cell K1; have hf0 := bk_free K0; have hf1 := bk_free K1; have hf2 := bk_free K2; have hf3 := bk_free K3
      by_cases hlt0 : m < n
      · obtain ⟨x, hx⟩ : ∃ x, l[m]? = some x := ⟨_, List.getElem?_eq_getElem (by rw [HN.out]; exact hlt0)⟩
        have hcx := cell_later hB (HL.out m _ hx)
        have hxb := near_get hall.out hlt0 hx
        obtain ⟨hx1, hx2⟩ := hxb
        have hsr := step_r hx 0
        obtain ⟨A, hA⟩ : ∃ A, sR l 0 m = A := ⟨_, rfl⟩
        obtain ⟨B, hBB⟩ : ∃ B, sI l 0 m = B := ⟨_, rfl⟩
        have bA := sR_b (l := l) 0 hm hall.out
        have bB := sI_b (l := l) 0 hm hall.out
        rw [hA] at bA hsr K2 hc2
        rw [hBB] at bB hsr K3 hc3
        have hmb : (m : Int) * 1099511627776 ≤ 4096 * 1099511627776 := by omega
        clear hA hBB hx
        have hr : ((m : Int) * 0) % 4 = 0 := by omega
        rcases hr with hr
        · rw [hr] at hsr
          have HS := Lib.hid hsr
          clear hsr
          clear hr
          go_wp2_with (first | fail)
          go_region
          go_wp2
          go_roundw
          case rel => exact ⟨m + 1, by go_num, by omega, (by repeat (with_reducible (first | exact K0 | apply bk_set | refine bk_drew ?_ | refine bk_drewN ?_ _ | refine bk_alloc ?_ _ | refine bk_far ?_ (by simp; try omega) _))), (by repeat (with_reducible (first | exact K1 | apply bk_set | refine bk_drew ?_ | refine bk_drewN ?_ _ | refine bk_alloc ?_ _ | refine bk_far ?_ (by simp; try omega) _))), by rw [HS.out.1]; refine bk_eq (by repeat (with_reducible (first | exact K2 | apply bk_set | refine bk_drew ?_ | refine bk_drewN ?_ _ | refine bk_alloc ?_ _ | refine bk_far ?_ (by simp; try omega) _))) ?_; (simp [crI] <;> (try (unfold wrap64; omega)) <;> (try omega)), by rw [HS.out.2]; refine bk_eq (by repeat (with_reducible (first | exact K3 | apply bk_set | refine bk_drew ?_ | refine bk_drewN ?_ _ | refine bk_alloc ?_ _ | refine bk_far ?_ (by simp; try omega) _))) ?_; (simp [ciI] <;> (try (unfold wrap64; omega)) <;> (try omega)), (by repeat (with_reducible (first | exact hB | refine Below.setCell ?_ (by (try simp) <;> omega) _ | refine Below.drew ?_ | refine Below.alloc ?_ (by (try simp) <;> omega) _)))⟩
          case measure => simp [intOf]; omega
      · have hmn : m = n := by omega
        rw [hmn] at K2 hc2 K3 hc3
        clear hmn
        go_wp2_with (first | fail)
        rw [rounds_succ]; go_wp2_with (first | fail)
        go_loopw [9] (fun i wq => ∃ m : Nat, i = .int .i64 m ∧ m ≤ n ∧ wq.heap[w.heap.size]? = some (.cells #[.int .i64 0, .int .i64 0, .int .i64 0, .int .i64 0] 23 (0, 0)) ∧ wq.heap[w.heap.size + 1]? = some (.cells #[.int .i64 0, .int .i64 0, .int .i64 0, .int .i64 0] 23 (0, 0)) ∧ wq.heap[w.heap.size + 1 + 1]? = some (.cells #[.int .i64 (sR l 0 n), .int .i64 (sR l 1 m), .int .i64 0, .int .i64 0] 23 (0, 0)) ∧ wq.heap[w.heap.size + 1 + 1 + 1]? = some (.cells #[.int .i64 (sI l 0 n), .int .i64 (sI l 1 m), .int .i64 0, .int .i64 0] 23 (0, 0)) ∧ Below w.heap.size w wq) (fun i _ => n - (intOf i).toNat)
        case atStart => exact ⟨0, rfl, Nat.zero_le _, K0, K1, K2, K3, hB⟩
        clear K0 K1 K2 K3 hc0 hc1 hc2 hc3 hf0 hf1
        obtain ⟨m, rfl, hm, K0, K1, K2, K3, hB⟩ := hrel
        have hc2 := bk_cell K2; have hc3 := bk_cell K3; have hc0 := bk_cell K0; have hc1 := bk_cell K1; have hf0 := bk_free K0; have hf1 := bk_free K1; have hf2 := bk_free K2; have hf3 := bk_free K3
        by_cases hlt1 : m < n
        · obtain ⟨x, hx⟩ : ∃ x, l[m]? = some x := ⟨_, List.getElem?_eq_getElem (by rw [HN.out]; exact hlt1)⟩
          have hcx := cell_later hB (HL.out m _ hx)
          have hxb := near_get hall.out hlt1 hx
          obtain ⟨hx1, hx2⟩ := hxb
          have hsr := step_r hx 1
          obtain ⟨A, hA⟩ : ∃ A, sR l 1 m = A := ⟨_, rfl⟩
          obtain ⟨B, hBB⟩ : ∃ B, sI l 1 m = B := ⟨_, rfl⟩
          have bA := sR_b (l := l) 1 hm hall.out
          have bB := sI_b (l := l) 1 hm hall.out
          rw [hA] at bA hsr K2 hc2
          rw [hBB] at bB hsr K3 hc3
          have hmb : (m : Int) * 1099511627776 ≤ 4096 * 1099511627776 := by omega
          clear hA hBB hx
          have hr : ((m : Int) * 1) % 4 = 0 ∨ ((m : Int) * 1) % 4 = 1 ∨ ((m : Int) * 1) % 4 = 2 ∨ ((m : Int) * 1) % 4 = 3 := by omega
          rcases hr with hr | hr | hr | hr
          · rw [hr] at hsr
            have HS := Lib.hid hsr
            clear hsr
            have q1 : ((m : Int) * 1).tmod 4 = 0 := by rw [Int.tmod_eq_emod_of_nonneg (by omega)]; exact hr
            have q2 : ((m : Int)).tmod 4 = 0 := by rw [Int.tmod_eq_emod_of_nonneg (by omega)]; omega
            clear hr
            go_wp2_with (first | fail)
            go_region
            go_wp2
            go_roundw
            case rel => exact ⟨m + 1, by go_num, by omega, (by repeat (with_reducible (first | exact K0 | apply bk_set | refine bk_drew ?_ | refine bk_drewN ?_ _ | refine bk_alloc ?_ _ | refine bk_far ?_ (by simp; try omega) _))), (by repeat (with_reducible (first | exact K1 | apply bk_set | refine bk_drew ?_ | refine bk_drewN ?_ _ | refine bk_alloc ?_ _ | refine bk_far ?_ (by simp; try omega) _))), by rw [HS.out.1]; refine bk_eq (by repeat (with_reducible (first | exact K2 | apply bk_set | refine bk_drew ?_ | refine bk_drewN ?_ _ | refine bk_alloc ?_ _ | refine bk_far ?_ (by simp; try omega) _))) ?_; (simp [crI] <;> (try (unfold wrap64; omega)) <;> (try omega)), by rw [HS.out.2]; refine bk_eq (by repeat (with_reducible (first | exact K3 | apply bk_set | refine bk_drew ?_ | refine bk_drewN ?_ _ | refine bk_alloc ?_ _ | refine bk_far ?_ (by simp; try omega) _))) ?_; (simp [ciI] <;> (try (unfold wrap64; omega)) <;> (try omega)), (by repeat (with_reducible (first | exact hB | refine Below.setCell ?_ (by (try simp) <;> omega) _ | refine Below.drew ?_ | refine Below.alloc ?_ (by (try simp) <;> omega) _)))⟩
            case measure => simp [intOf]; omega
          · rw [hr] at hsr
            have HS := Lib.hid hsr
            clear hsr
            have q1 : ((m : Int) * 1).tmod 4 = 1 := by rw [Int.tmod_eq_emod_of_nonneg (by omega)]; exact hr
            have q2 : ((m : Int)).tmod 4 = 1 := by rw [Int.tmod_eq_emod_of_nonneg (by omega)]; omega
            clear hr
            go_wp2_with (first | fail)
            go_region
            go_wp2
            go_roundw
            case rel => exact ⟨m + 1, by go_num, by omega, (by repeat (with_reducible (first | exact K0 | apply bk_set | refine bk_drew ?_ | refine bk_drewN ?_ _ | refine bk_alloc ?_ _ | refine bk_far ?_ (by simp; try omega) _))), (by repeat (with_reducible (first | exact K1 | apply bk_set | refine bk_drew ?_ | refine bk_drewN ?_ _ | refine bk_alloc ?_ _ | refine bk_far ?_ (by simp; try omega) _))), by rw [HS.out.1]; refine bk_eq (by repeat (with_reducible (first | exact K2 | apply bk_set | refine bk_drew ?_ | refine bk_drewN ?_ _ | refine bk_alloc ?_ _ | refine bk_far ?_ (by simp; try omega) _))) ?_; (simp [crI] <;> (try (unfold wrap64; omega)) <;> (try omega)), by rw [HS.out.2]; refine bk_eq (by repeat (with_reducible (first | exact K3 | apply bk_set | refine bk_drew ?_ | refine bk_drewN ?_ _ | refine bk_alloc ?_ _ | refine bk_far ?_ (by simp; try omega) _))) ?_; (simp [ciI] <;> (try (unfold wrap64; omega)) <;> (try omega)), (by repeat (with_reducible (first | exact hB | refine Below.setCell ?_ (by (try simp) <;> omega) _ | refine Below.drew ?_ | refine Below.alloc ?_ (by (try simp) <;> omega) _)))⟩
            case measure => simp [intOf]; omega
          · rw [hr] at hsr
            have HS := Lib.hid hsr
            clear hsr
            have q1 : ((m : Int) * 1).tmod 4 = 2 := by rw [Int.tmod_eq_emod_of_nonneg (by omega)]; exact hr
            have q2 : ((m : Int)).tmod 4 = 2 := by rw [Int.tmod_eq_emod_of_nonneg (by omega)]; omega
            clear hr
            go_wp2_with (first | fail)
            go_region
            go_wp2
            go_roundw
            case rel => exact ⟨m + 1, by go_num, by omega, (by repeat (with_reducible (first | exact K0 | apply bk_set | refine bk_drew ?_ | refine bk_drewN ?_ _ | refine bk_alloc ?_ _ | refine bk_far ?_ (by simp; try omega) _))), (by repeat (with_reducible (first | exact K1 | apply bk_set | refine bk_drew ?_ | refine bk_drewN ?_ _ | refine bk_alloc ?_ _ | refine bk_far ?_ (by simp; try omega) _))), by rw [HS.out.1]; refine bk_eq (by repeat (with_reducible (first | exact K2 | apply bk_set | refine bk_drew ?_ | refine bk_drewN ?_ _ | refine bk_alloc ?_ _ | refine bk_far ?_ (by simp; try omega) _))) ?_; (simp [crI] <;> (try (unfold wrap64; omega)) <;> (try omega)), by rw [HS.out.2]; refine bk_eq (by repeat (with_reducible (first | exact K3 | apply bk_set | refine bk_drew ?_ | refine bk_drewN ?_ _ | refine bk_alloc ?_ _ | refine bk_far ?_ (by simp; try omega) _))) ?_; (simp [ciI] <;> (try (unfold wrap64; omega)) <;> (try omega)), (by repeat (with_reducible (first | exact hB | refine Below.setCell ?_ (by (try simp) <;> omega) _ | refine Below.drew ?_ | refine Below.alloc ?_ (by (try simp) <;> omega) _)))⟩
            case measure => simp [intOf]; omega
          · rw [hr] at hsr
            have HS := Lib.hid hsr
            clear hsr
            have q1 : ((m : Int) * 1).tmod 4 = 3 := by rw [Int.tmod_eq_emod_of_nonneg (by omega)]; exact hr
            have q2 : ((m : Int)).tmod 4 = 3 := by rw [Int.tmod_eq_emod_of_nonneg (by omega)]; omega
            clear hr
            go_wp2_with (first | fail)
            go_region
            go_wp2
            go_roundw
            case rel => exact ⟨m + 1, by go_num, by omega, (by repeat (with_reducible (first | exact K0 | apply bk_set | refine bk_drew ?_ | refine bk_drewN ?_ _ | refine bk_alloc ?_ _ | refine bk_far ?_ (by simp; try omega) _))), (by repeat (with_reducible (first | exact K1 | apply bk_set | refine bk_drew ?_ | refine bk_drewN ?_ _ | refine bk_alloc ?_ _ | refine bk_far ?_ (by simp; try omega) _))), by rw [HS.out.1]; refine bk_eq (by repeat (with_reducible (first | exact K2 | apply bk_set | refine bk_drew ?_ | refine bk_drewN ?_ _ | refine bk_alloc ?_ _ | refine bk_far ?_ (by simp; try omega) _))) ?_; (simp [crI] <;> (try (unfold wrap64; omega)) <;> (try omega)), by rw [HS.out.2]; refine bk_eq (by repeat (with_reducible (first | exact K3 | apply bk_set | refine bk_drew ?_ | refine bk_drewN ?_ _ | refine bk_alloc ?_ _ | refine bk_far ?_ (by simp; try omega) _))) ?_; (simp [ciI] <;> (try (unfold wrap64; omega)) <;> (try omega)), (by repeat (with_reducible (first | exact hB | refine Below.setCell ?_ (by (try simp) <;> omega) _ | refine Below.drew ?_ | refine Below.alloc ?_ (by (try simp) <;> omega) _)))⟩
            case measure => simp [intOf]; omega
        · have hmn : m = n := by omega
          rw [hmn] at K2 hc2 K3 hc3
          clear hmn
          go_wp2_with (first | fail)
          rw [rounds_succ]; go_wp2_with (first | fail)
          go_loopw [9] (fun i wq => ∃ m : Nat, i = .int .i64 m ∧ m ≤ n ∧ wq.heap[w.heap.size]? = some (.cells #[.int .i64 0, .int .i64 0, .int .i64 0, .int .i64 0] 23 (0, 0)) ∧ wq.heap[w.heap.size + 1]? = some (.cells #[.int .i64 0, .int .i64 0, .int .i64 0, .int .i64 0] 23 (0, 0)) ∧ wq.heap[w.heap.size + 1 + 1]? = some (.cells #[.int .i64 (sR l 0 n), .int .i64 (sR l 1 n), .int .i64 (sR l 2 m), .int .i64 0] 23 (0, 0)) ∧ wq.heap[w.heap.size + 1 + 1 + 1]? = some (.cells #[.int .i64 (sI l 0 n), .int .i64 (sI l 1 n), .int .i64 (sI l 2 m), .int .i64 0] 23 (0, 0)) ∧ Below w.heap.size w wq) (fun i _ => n - (intOf i).toNat)
          case atStart => exact ⟨0, rfl, Nat.zero_le _, K0, K1, K2, K3, hB⟩
          clear K0 K1 K2 K3 hc0 hc1 hc2 hc3 hf0 hf1
          obtain ⟨m, rfl, hm, K0, K1, K2, K3, hB⟩ := hrel
          have hc2 := bk_cell K2; have hc3 := bk_cell K3; have hc0 := bk_cell K0; have hc1 := bk_cell K1; have hf0 := bk_free K0; have hf1 := bk_free K1; have hf2 := bk_free K2; have hf3 := bk_free K3
          by_cases hlt2 : m < n
          · obtain ⟨x, hx⟩ : ∃ x, l[m]? = some x := ⟨_, List.getElem?_eq_getElem (by rw [HN.out]; exact hlt2)⟩
            have hcx := cell_later hB (HL.out m _ hx)
            have hxb := near_get hall.out hlt2 hx
            obtain ⟨hx1, hx2⟩ := hxb
            have hsr := step_r hx 2
            obtain ⟨A, hA⟩ : ∃ A, sR l 2 m = A := ⟨_, rfl⟩
            obtain ⟨B, hBB⟩ : ∃ B, sI l 2 m = B := ⟨_, rfl⟩
            have bA := sR_b (l := l) 2 hm hall.out
            have bB := sI_b (l := l) 2 hm hall.out
            rw [hA] at bA hsr K2 hc2
            rw [hBB] at bB hsr K3 hc3
            have hmb : (m : Int) * 1099511627776 ≤ 4096 * 1099511627776 := by omega
            clear hA hBB hx
            have hr : ((m : Int) * 2) % 4 = 0 ∨ ((m : Int) * 2) % 4 = 2 := by omega
            rcases hr with hr | hr
            · rw [hr] at hsr
              have HS := Lib.hid hsr
              clear hsr
              have q1 : ((m : Int) * 2).tmod 4 = 0 := by rw [Int.tmod_eq_emod_of_nonneg (by omega)]; exact hr
              clear hr
              go_wp2_with (first | fail)
              go_region
              go_wp2
              go_roundw
              case rel => exact ⟨m + 1, by go_num, by omega, (by repeat (with_reducible (first | exact K0 | apply bk_set | refine bk_drew ?_ | refine bk_drewN ?_ _ | refine bk_alloc ?_ _ | refine bk_far ?_ (by simp; try omega) _))), (by repeat (with_reducible (first | exact K1 | apply bk_set | refine bk_drew ?_ | refine bk_drewN ?_ _ | refine bk_alloc ?_ _ | refine bk_far ?_ (by simp; try omega) _))), by rw [HS.out.1]; refine bk_eq (by repeat (with_reducible (first | exact K2 | apply bk_set | refine bk_drew ?_ | refine bk_drewN ?_ _ | refine bk_alloc ?_ _ | refine bk_far ?_ (by simp; try omega) _))) ?_; (simp [crI] <;> (try (unfold wrap64; omega)) <;> (try omega)), by rw [HS.out.2]; refine bk_eq (by repeat (with_reducible (first | exact K3 | apply bk_set | refine bk_drew ?_ | refine bk_drewN ?_ _ | refine bk_alloc ?_ _ | refine bk_far ?_ (by simp; try omega) _))) ?_; (simp [ciI] <;> (try (unfold wrap64; omega)) <;> (try omega)), (by repeat (with_reducible (first | exact hB | refine Below.setCell ?_ (by (try simp) <;> omega) _ | refine Below.drew ?_ | refine Below.alloc ?_ (by (try simp) <;> omega) _)))⟩
              case measure => simp [intOf]; omega
            · rw [hr] at hsr
              have HS := Lib.hid hsr
              clear hsr
              have q1 : ((m : Int) * 2).tmod 4 = 2 := by rw [Int.tmod_eq_emod_of_nonneg (by omega)]; exact hr
              clear hr
              go_wp2_with (first | fail)
              go_region
              go_wp2
              go_roundw
              case rel => exact ⟨m + 1, by go_num, by omega, (by repeat (with_reducible (first | exact K0 | apply bk_set | refine bk_drew ?_ | refine bk_drewN ?_ _ | refine bk_alloc ?_ _ | refine bk_far ?_ (by simp; try omega) _))), (by repeat (with_reducible (first | exact K1 | apply bk_set | refine bk_drew ?_ | refine bk_drewN ?_ _ | refine bk_alloc ?_ _ | refine bk_far ?_ (by simp; try omega) _))), by rw [HS.out.1]; refine bk_eq (by repeat (with_reducible (first | exact K2 | apply bk_set | refine bk_drew ?_ | refine bk_drewN ?_ _ | refine bk_alloc ?_ _ | refine bk_far ?_ (by simp; try omega) _))) ?_; (simp [crI] <;> (try (unfold wrap64; omega)) <;> (try omega)), by rw [HS.out.2]; refine bk_eq (by repeat (with_reducible (first | exact K3 | apply bk_set | refine bk_drew ?_ | refine bk_drewN ?_ _ | refine bk_alloc ?_ _ | refine bk_far ?_ (by simp; try omega) _))) ?_; (simp [ciI] <;> (try (unfold wrap64; omega)) <;> (try omega)), (by repeat (with_reducible (first | exact hB | refine Below.setCell ?_ (by (try simp) <;> omega) _ | refine Below.drew ?_ | refine Below.alloc ?_ (by (try simp) <;> omega) _)))⟩
              case measure => simp [intOf]; omega
          · have hmn : m = n := by omega
            rw [hmn] at K2 hc2 K3 hc3
            clear hmn
            go_wp2_with (first | fail)
            rw [rounds_succ]; go_wp2_with (first | fail)
            go_loopw [9] (fun i wq => ∃ m : Nat, i = .int .i64 m ∧ m ≤ n ∧ wq.heap[w.heap.size]? = some (.cells #[.int .i64 0, .int .i64 0, .int .i64 0, .int .i64 0] 23 (0, 0)) ∧ wq.heap[w.heap.size + 1]? = some (.cells #[.int .i64 0, .int .i64 0, .int .i64 0, .int .i64 0] 23 (0, 0)) ∧ wq.heap[w.heap.size + 1 + 1]? = some (.cells #[.int .i64 (sR l 0 n), .int .i64 (sR l 1 n), .int .i64 (sR l 2 n), .int .i64 (sR l 3 m)] 23 (0, 0)) ∧ wq.heap[w.heap.size + 1 + 1 + 1]? = some (.cells #[.int .i64 (sI l 0 n), .int .i64 (sI l 1 n), .int .i64 (sI l 2 n), .int .i64 (sI l 3 m)] 23 (0, 0)) ∧ Below w.heap.size w wq) (fun i _ => n - (intOf i).toNat)
            case atStart => exact ⟨0, rfl, Nat.zero_le _, K0, K1, K2, K3, hB⟩
            clear K0 K1 K2 K3 hc0 hc1 hc2 hc3 hf0 hf1
            obtain ⟨m, rfl, hm, K0, K1, K2, K3, hB⟩ := hrel
            have hc2 := bk_cell K2; have hc3 := bk_cell K3; have hc0 := bk_cell K0; have hc1 := bk_cell K1; have hf0 := bk_free K0; have hf1 := bk_free K1; have hf2 := bk_free K2; have hf3 := bk_free K3
            by_cases hlt3 : m < n
            · obtain ⟨x, hx⟩ : ∃ x, l[m]? = some x := ⟨_, List.getElem?_eq_getElem (by rw [HN.out]; exact hlt3)⟩
              have hcx := cell_later hB (HL.out m _ hx)
              have hxb := near_get hall.out hlt3 hx
              obtain ⟨hx1, hx2⟩ := hxb
              have hsr := step_r hx 3
              obtain ⟨A, hA⟩ : ∃ A, sR l 3 m = A := ⟨_, rfl⟩
              obtain ⟨B, hBB⟩ : ∃ B, sI l 3 m = B := ⟨_, rfl⟩
              have bA := sR_b (l := l) 3 hm hall.out
              have bB := sI_b (l := l) 3 hm hall.out
              rw [hA] at bA hsr K2 hc2
              rw [hBB] at bB hsr K3 hc3
              have hmb : (m : Int) * 1099511627776 ≤ 4096 * 1099511627776 := by omega
              clear hA hBB hx
              have hr : ((m : Int) * 3) % 4 = 0 ∨ ((m : Int) * 3) % 4 = 1 ∨ ((m : Int) * 3) % 4 = 2 ∨ ((m : Int) * 3) % 4 = 3 := by omega
              rcases hr with hr | hr | hr | hr
              · rw [hr] at hsr
                have HS := Lib.hid hsr
                clear hsr
                have q1 : ((m : Int) * 3).tmod 4 = 0 := by rw [Int.tmod_eq_emod_of_nonneg (by omega)]; exact hr
                clear hr
                go_wp2_with (first | fail)
                go_region
                go_wp2
                go_roundw
                case rel => exact ⟨m + 1, by go_num, by omega, (by repeat (with_reducible (first | exact K0 | apply bk_set | refine bk_drew ?_ | refine bk_drewN ?_ _ | refine bk_alloc ?_ _ | refine bk_far ?_ (by simp; try omega) _))), (by repeat (with_reducible (first | exact K1 | apply bk_set | refine bk_drew ?_ | refine bk_drewN ?_ _ | refine bk_alloc ?_ _ | refine bk_far ?_ (by simp; try omega) _))), by rw [HS.out.1]; refine bk_eq (by repeat (with_reducible (first | exact K2 | apply bk_set | refine bk_drew ?_ | refine bk_drewN ?_ _ | refine bk_alloc ?_ _ | refine bk_far ?_ (by simp; try omega) _))) ?_; (simp [crI] <;> (try (unfold wrap64; omega)) <;> (try omega)), by rw [HS.out.2]; refine bk_eq (by repeat (with_reducible (first | exact K3 | apply bk_set | refine bk_drew ?_ | refine bk_drewN ?_ _ | refine bk_alloc ?_ _ | refine bk_far ?_ (by simp; try omega) _))) ?_; (simp [ciI] <;> (try (unfold wrap64; omega)) <;> (try omega)), (by repeat (with_reducible (first | exact hB | refine Below.setCell ?_ (by (try simp) <;> omega) _ | refine Below.drew ?_ | refine Below.alloc ?_ (by (try simp) <;> omega) _)))⟩
                case measure => simp [intOf]; omega
              · rw [hr] at hsr
                have HS := Lib.hid hsr
                clear hsr
                have q1 : ((m : Int) * 3).tmod 4 = 1 := by rw [Int.tmod_eq_emod_of_nonneg (by omega)]; exact hr
                clear hr
                go_wp2_with (first | fail)
                go_region
                go_wp2
                go_roundw
                case rel => exact ⟨m + 1, by go_num, by omega, (by repeat (with_reducible (first | exact K0 | apply bk_set | refine bk_drew ?_ | refine bk_drewN ?_ _ | refine bk_alloc ?_ _ | refine bk_far ?_ (by simp; try omega) _))), (by repeat (with_reducible (first | exact K1 | apply bk_set | refine bk_drew ?_ | refine bk_drewN ?_ _ | refine bk_alloc ?_ _ | refine bk_far ?_ (by simp; try omega) _))), by rw [HS.out.1]; refine bk_eq (by repeat (with_reducible (first | exact K2 | apply bk_set | refine bk_drew ?_ | refine bk_drewN ?_ _ | refine bk_alloc ?_ _ | refine bk_far ?_ (by simp; try omega) _))) ?_; (simp [crI] <;> (try (unfold wrap64; omega)) <;> (try omega)), by rw [HS.out.2]; refine bk_eq (by repeat (with_reducible (first | exact K3 | apply bk_set | refine bk_drew ?_ | refine bk_drewN ?_ _ | refine bk_alloc ?_ _ | refine bk_far ?_ (by simp; try omega) _))) ?_; (simp [ciI] <;> (try (unfold wrap64; omega)) <;> (try omega)), (by repeat (with_reducible (first | exact hB | refine Below.setCell ?_ (by (try simp) <;> omega) _ | refine Below.drew ?_ | refine Below.alloc ?_ (by (try simp) <;> omega) _)))⟩
                case measure => simp [intOf]; omega
              · rw [hr] at hsr
                have HS := Lib.hid hsr
                clear hsr
                have q1 : ((m : Int) * 3).tmod 4 = 2 := by rw [Int.tmod_eq_emod_of_nonneg (by omega)]; exact hr
                clear hr
                go_wp2_with (first | fail)
                go_region
                go_wp2
                go_roundw
                case rel => exact ⟨m + 1, by go_num, by omega, (by repeat (with_reducible (first | exact K0 | apply bk_set | refine bk_drew ?_ | refine bk_drewN ?_ _ | refine bk_alloc ?_ _ | refine bk_far ?_ (by simp; try omega) _))), (by repeat (with_reducible (first | exact K1 | apply bk_set | refine bk_drew ?_ | refine bk_drewN ?_ _ | refine bk_alloc ?_ _ | refine bk_far ?_ (by simp; try omega) _))), by rw [HS.out.1]; refine bk_eq (by repeat (with_reducible (first | exact K2 | apply bk_set | refine bk_drew ?_ | refine bk_drewN ?_ _ | refine bk_alloc ?_ _ | refine bk_far ?_ (by simp; try omega) _))) ?_; (simp [crI] <;> (try (unfold wrap64; omega)) <;> (try omega)), by rw [HS.out.2]; refine bk_eq (by repeat (with_reducible (first | exact K3 | apply bk_set | refine bk_drew ?_ | refine bk_drewN ?_ _ | refine bk_alloc ?_ _ | refine bk_far ?_ (by simp; try omega) _))) ?_; (simp [ciI] <;> (try (unfold wrap64; omega)) <;> (try omega)), (by repeat (with_reducible (first | exact hB | refine Below.setCell ?_ (by (try simp) <;> omega) _ | refine Below.drew ?_ | refine Below.alloc ?_ (by (try simp) <;> omega) _)))⟩
                case measure => simp [intOf]; omega
              · rw [hr] at hsr
                have HS := Lib.hid hsr
                clear hsr
                have q1 : ((m : Int) * 3).tmod 4 = 3 := by rw [Int.tmod_eq_emod_of_nonneg (by omega)]; exact hr
                clear hr
                go_wp2_with (first | fail)
                go_region
                go_wp2
                go_roundw
                case rel => exact ⟨m + 1, by go_num, by omega, (by repeat (with_reducible (first | exact K0 | apply bk_set | refine bk_drew ?_ | refine bk_drewN ?_ _ | refine bk_alloc ?_ _ | refine bk_far ?_ (by simp; try omega) _))), (by repeat (with_reducible (first | exact K1 | apply bk_set | refine bk_drew ?_ | refine bk_drewN ?_ _ | refine bk_alloc ?_ _ | refine bk_far ?_ (by simp; try omega) _))), by rw [HS.out.1]; refine bk_eq (by repeat (with_reducible (first | exact K2 | apply bk_set | refine bk_drew ?_ | refine bk_drewN ?_ _ | refine bk_alloc ?_ _ | refine bk_far ?_ (by simp; try omega) _))) ?_; (simp [crI] <;> (try (unfold wrap64; omega)) <;> (try omega)), by rw [HS.out.2]; refine bk_eq (by repeat (with_reducible (first | exact K3 | apply bk_set | refine bk_drew ?_ | refine bk_drewN ?_ _ | refine bk_alloc ?_ _ | refine bk_far ?_ (by simp; try omega) _))) ?_; (simp [ciI] <;> (try (unfold wrap64; omega)) <;> (try omega)), (by repeat (with_reducible (first | exact hB | refine Below.setCell ?_ (by (try simp) <;> omega) _ | refine Below.drew ?_ | refine Below.alloc ?_ (by (try simp) <;> omega) _)))⟩
                case measure => simp [intOf]; omega
            · have hmn : m = n := by omega
              rw [hmn] at K2 hc2 K3 hc3
              clear hmn
              go_wp2_with (first | fail)
              rw [rounds_succ]; go_wp2_with (first | fail)
              go_region
              go_wp2
              refine end_cct (w.heap.size) (w.heap.size + 1) 23 23 rfl rfl rfl rfl Try.underlying23 rfl Try.underlying23 rfl ?_
              apply Exists.intro; apply Exists.intro
              refine ⟨(by repeat (with_reducible (first | exact K0 | apply bk_set | refine bk_drew ?_ | refine bk_drewN ?_ _ | refine bk_alloc ?_ _ | refine bk_far ?_ (by simp; try omega) _))), (by repeat (with_reducible (first | exact K1 | apply bk_set | refine bk_drew ?_ | refine bk_drewN ?_ _ | refine bk_alloc ?_ _ | refine bk_far ?_ (by simp; try omega) _))), by kernel_rfl, by kernel_rfl, ?_⟩
              exact Ret.of (HE.out ▸ rfl) (by repeat (with_reducible (first | exact hB | refine Below.setCell ?_ (by (try simp) <;> omega) _ | refine Below.drew ?_ | refine Below.alloc ?_ (by (try simp) <;> omega) _)))

end Go.Proofs.Ytbhacanijenbeaa
