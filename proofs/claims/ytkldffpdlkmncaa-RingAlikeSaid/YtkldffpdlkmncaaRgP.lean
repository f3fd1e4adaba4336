/- ring: a topology with two ends each way, out of any numbers (Grid.topo). -/
import Derived.Test.YtkldffpdlkmncaaUp
import Derived.Test.YtkldffpdlkmncaaMa
import Derived.BigRegion
import Derived.Deep.RegionHeld3
set_option linter.unusedVariables false
set_option linter.unusedSimpArgs false
namespace Go.Proofs.Ytkldffpdlkmncaa
open Go.RowKit Go.Viv

theorem share {P G : Prop} (h : P → G) (k : P) : G := h k
/-- a topology that may be, with two ends each way, sides of 1 to 9 -/
structure Small (k : Int) (W H : Nat) (t s : Int) : Prop where
  ok : checkE k W H t s = 0
  t0 : 0 ≤ t
  w1 : 1 ≤ W
  w9 : W ≤ 9
  h1 : 1 ≤ H
  h9 : H ≤ 9
def TopoP (w : World) (e : Ending) (w' : World) : Prop := ∃ (k t s : Int) (W H : Nat), e = .returned (topoV k W H t s) ∧ Small k W H t s ∧ Below w.heap.size w w'

theorem small_of {k : Int} {W H : Nat} {t s : Int} (h1 : 1 ≤ k ∧ k ≤ 5) (hW : 1 ≤ W ∧ W ≤ 9) (hH : 1 ≤ H ∧ H ≤ 9) (ht : 0 ≤ t ∧ t ≤ 2) (h5 : k = 5 → W = H) (hts : t = 0 → s = 0) (h23 : k ≠ 2 → k ≠ 3 → t = 0) (h3 : k = 3 → t ≠ 0) (h2 : k = 2 → t ≠ 0 → s ≠ 0) (hs : 0 ≤ s ∧ (s = 0 ∨ t = 2 ∧ s < H ∨ t = 1 ∧ s < W)) : Small k W H t s := by
  refine ⟨?_, ht.1, hW.1, hW.2, hH.1, hH.2⟩
  unfold checkE
  (repeat' split) <;> omega
set_option maxRecDepth 20000 in
set_option maxHeartbeats 4000000 in
theorem rgTopo_calls (K W H T S : Int) (w : World) (bK : -9223372036854775808 ≤ K ∧ K ≤ 9223372036854775807) (bW : -9223372036854775808 ≤ W ∧ W ≤ 9223372036854775807) (bH : -9223372036854775808 ≤ H ∧ H ≤ 9223372036854775807) (bT : -9223372036854775808 ≤ T ∧ T ≤ 9223372036854775807) (bS : -9223372036854775808 ≤ S ∧ S ≤ 9223372036854775807) :
    Calls Try.prog 21 #[.agg #[.int .i64 K, .int .i64 W, .int .i64 H, .int .i64 T, .int .i64 S]] w (TopoP w) := by
  have K0 := bk_alloc (bk_new w (.cells #[.int .i64 K, .int .i64 W, .int .i64 H, .int .i64 T, .int .i64 S] 51)) (.cells #[.int .u8 0, .int .i64 0, .int .i64 0, .int .u8 0, .int .i64 0] 23)
  have K1 := bk_newn (w.alloc (.cells #[.int .i64 K, .int .i64 W, .int .i64 H, .int .i64 T, .int .i64 S] 51)) (.cells #[.int .u8 0, .int .i64 0, .int .i64 0, .int .u8 0, .int .i64 0] 23) (w.heap.size + 1) (by simp)
  have B0 := (boxed w (.cells #[.int .i64 K, .int .i64 W, .int .i64 H, .int .i64 T, .int .i64 S] 51)).alloc (by simp) (.cells #[.int .u8 0, .int .i64 0, .int .i64 0, .int .u8 0, .int .i64 0] 23)
  have C1 := Lib.hid (fun w => up_calls K 5 w (by omega) (by omega) bK.1 bK.2)
  have C2 := Lib.hid (fun w => up_calls W 9 w (by omega) (by omega) bW.1 bW.2)
  have C3 := Lib.hid (fun w => up_calls H 9 w (by omega) (by omega) bH.1 bH.2)
  have C4 := Lib.hid (fun w => up_calls T 2 w (by omega) (by omega) bT.1 bT.2)
  have C5 := Lib.hid (fun w n (h : 0 < n) (h9 : n ≤ 9) => up_calls S n w h (by omega) bS.1 bS.2)
  have e1 := Int.emod_nonneg K (show (5 : Int) ≠ 0 by omega); have e2 := Int.emod_lt_of_pos K (show (0 : Int) < 5 by omega)
  have e3 := Int.emod_nonneg W (show (9 : Int) ≠ 0 by omega); have e4 := Int.emod_lt_of_pos W (show (0 : Int) < 9 by omega)
  have e5 := Int.emod_nonneg H (show (9 : Int) ≠ 0 by omega); have e6 := Int.emod_lt_of_pos H (show (0 : Int) < 9 by omega)
  have e7 := Int.emod_nonneg T (show (2 : Int) ≠ 0 by omega); have e8 := Int.emod_lt_of_pos T (show (0 : Int) < 2 by omega)
  obtain ⟨kk, hkk⟩ : ∃ q, 1 + K % 5 = q := ⟨_, rfl⟩
  obtain ⟨gw, hgw⟩ : ∃ q : Nat, 1 + W % 9 = (q : Int) := Int.eq_ofNat_of_zero_le (by omega)
  obtain ⟨gh, hgh⟩ : ∃ q : Nat, 1 + H % 9 = (q : Int) := Int.eq_ofNat_of_zero_le (by omega)
  obtain ⟨tt, htt⟩ : ∃ q, 1 + T % 2 = q := ⟨_, rfl⟩
  have k1 : 1 ≤ kk ∧ kk ≤ 5 := by omega
  have w1 : 1 ≤ gw ∧ gw ≤ 9 := by omega
  have h1 : 1 ≤ gh ∧ gh ≤ 9 := by omega
  have t1 : 1 ≤ tt ∧ tt ≤ 2 := by omega
  have v1 : IntKind.i64.wrap (1 + K % 5) = kk := by rw [hkk, IntKind.wrap_i64]; omega
  have v2 : IntKind.u8.wrap kk = kk := by rw [IntKind.wrap_u8]; omega
  have v3 : IntKind.i64.wrap (1 + W % 9) = (gw : Int) := by rw [hgw, IntKind.wrap_i64]; omega
  have v4 : IntKind.i64.wrap (1 + H % 9) = (gh : Int) := by rw [hgh, IntKind.wrap_i64]; omega
  have v5 : IntKind.i64.wrap (1 + T % 2) = tt := by rw [htt, IntKind.wrap_i64]; omega
  have v6 : IntKind.u8.wrap tt = tt := by rw [IntKind.wrap_u8]; omega
  clear hkk hgw hgh htt e1 e2 e3 e4 e5 e6 e7 e8
  go_enter Try.func21, Try.ntmps21
  go_wp2_with (first | fail)
  generalize (w.alloc (.cells #[.int .i64 K, .int .i64 W, .int .i64 H, .int .i64 T, .int .i64 S] 51)).alloc (.cells #[.int .u8 0, .int .i64 0, .int .i64 0, .int .u8 0, .int .i64 0] 23) = W0 at *
  have k0 := bk_cell K0
  apply share
  · intro rest
    go_region_held3 (fun w' => w'.cell? ⟨w.heap.size, 0, none⟩ = some (.int .i64 K) ∧ w'.cell? ⟨w.heap.size, 1, none⟩ = some (.int .i64 W) ∧ w'.cell? ⟨w.heap.size, 2, none⟩ = some (.int .i64 H))
      (first | go_keep)
      (first | (go_at_call 49; ((with_reducible refine (C1.out _).mono ?_); rintro e w' ⟨rfl, rfl⟩)) | (go_at_call 49; ((with_reducible refine (C2.out _).mono ?_); rintro e w' ⟨rfl, rfl⟩)) | (go_at_call 49; ((with_reducible refine (C3.out _).mono ?_); rintro e w' ⟨rfl, rfl⟩)))
    all_goals exact rest
  have KT := bk_drew (bk_new W0 (.cells #[.int .u8 kk, .int .i64 gw, .int .i64 gh, .int .u8 0, .int .i64 0] 23))
  have KG := bk_drew (bk_alloc K0 (.cells #[.int .u8 kk, .int .i64 gw, .int .i64 gh, .int .u8 0, .int .i64 0] 23))
  have KR := bk_drew (bk_alloc K1 (.cells #[.int .u8 kk, .int .i64 gw, .int .i64 gh, .int .u8 0, .int .i64 0] 23))
  have hBw := (B0.alloc B0.size (.cells #[.int .u8 kk, .int .i64 gw, .int .i64 gh, .int .u8 0, .int .i64 0] 23)).drew
  have hlt := bk_lt K1
  generalize (W0.alloc (.cells #[.int .u8 kk, .int .i64 gw, .int .i64 gh, .int .u8 0, .int .i64 0] 23)).drew = W1 at *
  generalize hTB : W0.heap.size = tb at *
  have hlt2 : w.heap.size < tb := by omega
  have hB := Below.refl W1.heap.size W1
  clear k0 K0 K1 B0 C1 C2 C3 v1 v2 v3 v4 hTB
  have hcT := bk_cell KT; have hcG := bk_cell KG
  have hfT := bk_free KT; have hfR := bk_free KR; have hcR := bk_cell KR
  obtain ⟨sz, hsz⟩ : ∃ sz : Nat, sz = if tt = 2 then gh else gw := ⟨_, rfl⟩
  have hsz1 : 1 ≤ sz ∧ sz ≤ 9 := by rw [hsz]; split <;> omega
  have s0 := Int.emod_nonneg S (show (sz : Int) ≠ 0 by omega); have s1 := Int.emod_lt_of_pos S (show (0 : Int) < (sz : Int) by omega)
  have C6 : Hid (∀ w, Calls Try.prog 49 #[.int .i64 S, .int .i64 (sz : Int)] w fun e w' => e = .returned (.int .i64 (S % sz)) ∧ w = w') := fun w => C5.out w sz (by omega) (by omega)
  obtain ⟨sh, hsh⟩ : ∃ sh, S % (sz : Int) = sh := ⟨_, rfl⟩
  rw [hsh] at s0 s1 C6
  have HSZ : Hid (tt = 2 → sz = gh) := fun h => by rw [hsz, if_pos h]
  have HSW : Hid (tt = 1 → sz = gw) := fun h => by rw [hsz, if_neg (by omega)]
  have HT : Hid (T % 2 = T % 2) := rfl
  clear hsh C5 hsz
  have ht : tt = 1 ∨ tt = 2 := by omega
  have hk : kk = 1 ∨ kk = 2 ∨ kk = 3 ∨ kk = 4 ∨ kk = 5 := by omega
  clear t1 k1
  rcases ht with rfl | rfl
  · obtain rfl := HSW.out rfl
    rcases hk with rfl | rfl | rfl | rfl | rfl
    all_goals
      go_wp2_with (first | (go_at_call 49; ((with_reducible refine (C4.out _).mono ?_); rintro e w' ⟨rfl, rfl⟩)) | (go_at_call 49; ((with_reducible refine (C6.out _).mono ?_); rintro e w' ⟨rfl, rfl⟩)))
      all_goals
        refine end_c (w.heap.size + 1) 23 rfl rfl rfl Try.underlying23 rfl ?_
        apply Exists.intro
        refine ⟨(by repeat (with_reducible (first | exact KR | apply bk_set | refine bk_drew ?_ | refine bk_drewN ?_ _ | refine bk_alloc ?_ _ | refine bk_far ?_ (by simp; try omega) _))), by kernel_rfl, ?_⟩
        exact ⟨_, _, _, _, _, rfl, small_of (by omega) (by omega) (by omega) (by omega) (by omega) (by omega) (by omega) (by omega) (by omega) (by omega), (by repeat (with_reducible (first | exact hBw.trans (hB.mono hBw.size) | refine Below.setCell ?_ (by have h1_ := hBw.size; have h2_ := hB.size; (try simp) <;> omega) _ | refine Below.drew ?_ | refine Below.alloc ?_ (by have h1_ := hBw.size; have h2_ := hB.size; (try simp) <;> omega) _)))⟩
  · obtain rfl := HSZ.out rfl
    rcases hk with rfl | rfl | rfl | rfl | rfl
    all_goals
      go_wp2_with (first | (go_at_call 49; ((with_reducible refine (C4.out _).mono ?_); rintro e w' ⟨rfl, rfl⟩)) | (go_at_call 49; ((with_reducible refine (C6.out _).mono ?_); rintro e w' ⟨rfl, rfl⟩)))
      all_goals
        refine end_c (w.heap.size + 1) 23 rfl rfl rfl Try.underlying23 rfl ?_
        apply Exists.intro
        refine ⟨(by repeat (with_reducible (first | exact KR | apply bk_set | refine bk_drew ?_ | refine bk_drewN ?_ _ | refine bk_alloc ?_ _ | refine bk_far ?_ (by simp; try omega) _))), by kernel_rfl, ?_⟩
        exact ⟨_, _, _, _, _, rfl, small_of (by omega) (by omega) (by omega) (by omega) (by omega) (by omega) (by omega) (by omega) (by omega) (by omega), (by repeat (with_reducible (first | exact hBw.trans (hB.mono hBw.size) | refine Below.setCell ?_ (by have h1_ := hBw.size; have h2_ := hB.size; (try simp) <;> omega) _ | refine Below.drew ?_ | refine Below.alloc ?_ (by have h1_ := hBw.size; have h2_ := hB.size; (try simp) <;> omega) _)))⟩
end Go.Proofs.Ytkldffpdlkmncaa
