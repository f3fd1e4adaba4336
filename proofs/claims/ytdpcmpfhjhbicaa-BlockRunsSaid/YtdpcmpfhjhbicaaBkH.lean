/- The blocks of a generation. -/
import Derived.Test.YtdpcmpfhjhbicaaBkG
set_option linter.unusedVariables false
set_option linter.unusedSimpArgs false
namespace Go.Proofs.Ytdpcmpfhjhbicaa
open Go.RowKit Go.Viv

section
variable (k W H t s : Int)
/-- the cells of a block's array -/
def blkA (u v : Int) : Array Value := #[.int .i64 (celX k W H t s u v), .int .i64 (celY k W H t s u v), .int .i64 (celX k W H t s (u + 1) v), .int .i64 (celY k W H t s (u + 1) v),
  .int .i64 (celX k W H t s u (v + 1)), .int .i64 (celY k W H t s u (v + 1)), .int .i64 (celX k W H t s (u + 1) (v + 1)), .int .i64 (celY k W H t s (u + 1) (v + 1))]
/-- are the first j places of a block cells? -/
def okTo (u v : Int) : Nat → Bool
  | 0 => true
  | j + 1 => okTo u v j && celB k W H t s (u + (j : Int) % 2) (v + (j : Int) / 2)
def rowV (odd v : Int) (j : Nat) : List Value := (List.range j).flatMap fun (n : Nat) => if okTo k W H t s (odd + 2 * n) v 4 then (blkA k W H t s (odd + 2 * n) v).toList else []
def toV (odd : Int) (wn i : Nat) : List Value := (List.range i).flatMap fun (n : Nat) => rowV k W H t s odd (odd + 2 * n) wn
theorem rowV_succ (odd v : Int) (j : Nat) : rowV k W H t s odd v (j + 1) = rowV k W H t s odd v j ++ (if okTo k W H t s (odd + 2 * j) v 4 then (blkA k W H t s (odd + 2 * j) v).toList else []) := by
  unfold rowV; rw [List.range_succ, List.flatMap_append]; simp
theorem toV_succ (odd : Int) (wn i : Nat) : toV k W H t s odd wn (i + 1) = toV k W H t s odd wn i ++ rowV k W H t s odd (odd + 2 * i) wn := by
  unfold toV; rw [List.range_succ, List.flatMap_append]; simp
end
theorem eight {cur : Array Value} {X Y : Nat → Value} (hs : cur.size = 8) (h : ∀ m, m < 4 → cur[2 * m]? = some (X m) ∧ cur[2 * m + 1]? = some (Y m)) : cur = #[X 0, Y 0, X 1, Y 1, X 2, Y 2, X 3, Y 3] := by
  apply Array.ext (by simpa using hs)
  intro i h1 h2
  have : i = 0 ∨ i = 1 ∨ i = 2 ∨ i = 3 ∨ i = 4 ∨ i = 5 ∨ i = 6 ∨ i = 7 := by omega
  have g : ∀ v, cur[i]? = some v → cur[i] = v := fun v hv => by rw [Array.getElem?_eq_getElem h1] at hv; exact Option.some.inj hv
  rcases this with rfl | rfl | rfl | rfl | rfl | rfl | rfl | rfl
  · exact g _ (h 0 (by omega)).1
  · exact g _ (h 0 (by omega)).2
  · exact g _ (h 1 (by omega)).1
  · exact g _ (h 1 (by omega)).2
  · exact g _ (h 2 (by omega)).1
  · exact g _ (h 2 (by omega)).2
  · exact g _ (h 3 (by omega)).1
  · exact g _ (h 3 (by omega)).2
theorem blk_info : (Try.prog.info? 88).map (fun i => (i.zero, i.size, i.bytes)) = some (some (.agg #[.int .i64 0, .int .i64 0, .int .i64 0, .int .i64 0, .int .i64 0, .int .i64 0, .int .i64 0, .int .i64 0]), 8, 64) := by kernel_rfl
theorem blk_size : (Try.prog.info? 88).map (·.size) = some 8 := by kernel_rfl

/-- what blocks comes to -/
def BlocksP (k W H t s odd : Int) (wn hn : Nat) (w : World) (e : Ending) (w' : World) : Prop :=
  ∃ v n, e = .returned v ∧ w'.ownsRow w.heap.size 88 8 v n (toV k W H t s odd wn hn) ∧ n * 8 = (toV k W H t s odd wn hn).length ∧ n ≤ 1048576 ∧ Below w.heap.size w w'

set_option maxRecDepth 20000 in
set_option maxHeartbeats 8000000 in
theorem blocks_calls (k W H t s odd : Int) (wn hn : Nat) (w : World) (t0 : 0 ≤ t) (w0 : 0 < W) (w1 : W ≤ 65536) (h0 : 0 < H) (h1 : H ≤ 65536) (hW : W = 2 * (wn : Int)) (hH : H = 2 * (hn : Int)) (hm : hn * wn ≤ 1048576) (o0 : 0 ≤ odd) (o1 : odd ≤ 1) :
    Calls Try.prog 46 #[topoV k W H t s, .int .i64 odd] w (BlocksP k W H t s odd wn hn w) := by
  have KT := bk_new w (.cells #[.int .u8 k, .int .i64 W, .int .i64 H, .int .u8 t, .int .i64 s] 29)
  have hB := boxed w (.cells #[.int .u8 k, .int .i64 W, .int .i64 H, .int .u8 t, .int .i64 s] 29)
  have CC := Lib.hid (fun (u v : Int) (w : World) u0 u1 v0 v1 => bcell_calls k W H t s u v w t0 (by omega) w1 (by omega) h1 u0 u1 v0 v1)
  have W1 : W ≤ 2 * (wn : Int) := by omega
  have W2 : 2 * (wn : Int) ≤ W := by omega
  have H1 : H ≤ 2 * (hn : Int) := by omega
  have H2 : 2 * (hn : Int) ≤ H := by omega
  have HM := Lib.hid hm
  clear hW hH hm
  go_enter Try.func46, Try.ntmps46
  go_wp2_with (first | fail)
  generalize w.alloc (.cells #[.int .u8 k, .int .i64 W, .int .i64 H, .int .u8 t, .int .i64 s] 29) = W0 at *
  go_loopw [5, 6] (fun l v wr => ∃ i n : Nat, v = .int .i64 (odd + 2 * (i : Int)) ∧ i ≤ hn ∧ Hid (wr.ownsRow w.heap.size 88 8 l n (toV k W H t s odd wn i)) ∧ Hid (n * 8 = (toV k W H t s odd wn i).length) ∧ Hid (n ≤ i * wn) ∧ Hid (wr.heap[w.heap.size]? = some (.cells #[.int .u8 k, .int .i64 W, .int .i64 H, .int .u8 t, .int .i64 s] 29 (0, 0))) ∧ Below w.heap.size w wr) (fun _ v _ => (hn + hn + 2 - (intOf v).toNat))
  case atStart => exact ⟨0, 0, by simp, by omega, World.ownsRow_nil _ _ _ _, rfl, (Nat.zero_le _ : 0 ≤ 0 * wn), KT, hB⟩
  obtain ⟨i, n, rfl, hi, HO, HL, HN, KT1, hB1⟩ := hrel
  clear KT hB
  by_cases hlt : i < hn
  · have d1 : decide (odd + 2 * (i : Int) < H) = true := decide_eq_true (by omega)
    have hcT := bk_cell KT1.out
    go_wp2_with (first | fail)
    obtain ⟨wo, rfl⟩ : ∃ wo : World, wo = wr := ⟨_, rfl⟩
    clear hcT d1
    go_loopw [5, 7] (fun l v wr => ∃ j n : Nat, v = .int .i64 (odd + 2 * (j : Int)) ∧ j ≤ wn ∧ Hid (wr.ownsRow w.heap.size 88 8 l n (toV k W H t s odd wn i ++ rowV k W H t s odd (odd + 2 * (i : Int)) j)) ∧ Hid (n * 8 = (toV k W H t s odd wn i ++ rowV k W H t s odd (odd + 2 * (i : Int)) j).length) ∧ Hid (n ≤ i * wn + j) ∧ Hid (wr.heap[w.heap.size]? = some (.cells #[.int .u8 k, .int .i64 W, .int .i64 H, .int .u8 t, .int .i64 s] 29 (0, 0))) ∧ Below w.heap.size w wr) (fun _ v _ => (wn + wn + 2 - (intOf v).toNat))
    case atStart => exact ⟨0, n, by simp, by omega, by show World.ownsRow _ _ _ _ _ _ _; simpa [rowV] using HO.out, by show _ = _; simpa [rowV] using HL.out, by show _ ≤ _; simpa using HN.out, KT1.out, hB1⟩
    clear HO HL HN KT1 hB1
    obtain ⟨j, n', rfl, hj, HO, HL, HN, KT1, hB1⟩ := hrel
    by_cases hjl : j < wn
    · have d1 : decide (odd + 2 * (j : Int) < W) = true := decide_eq_true (by omega)
      have hcT := bk_cell KT1.out
      go_wp2_with (first | fail)
      obtain ⟨wi, rfl⟩ : ∃ wi : World, wi = wr := ⟨_, rfl⟩
      clear hcT d1
      have u0 : 0 ≤ odd + 2 * (j : Int) := by omega
      have u1 : odd + 2 * (j : Int) ≤ 65536 := by omega
      have v0 : 0 ≤ odd + 2 * (i : Int) := by omega
      have v1 : odd + 2 * (i : Int) ≤ 65536 := by omega
      have Kb := bk_new wi (.cells #[.int .i64 0, .int .i64 0, .int .i64 0, .int .i64 0, .int .i64 0, .int .i64 0, .int .i64 0, .int .i64 0] 88)
      have KT2 := bk_alloc KT1.out (.cells #[.int .i64 0, .int .i64 0, .int .i64 0, .int .i64 0, .int .i64 0, .int .i64 0, .int .i64 0, .int .i64 0] 88)
      have hBi := boxed wi (.cells #[.int .i64 0, .int .i64 0, .int .i64 0, .int .i64 0, .int .i64 0, .int .i64 0, .int .i64 0, .int .i64 0] 88)
      have hwi := bk_lt KT1.out
      go_loopw [9, 27] (fun ok m wr => ∃ m' : Nat, m = .int .i64 m' ∧ m' ≤ 4 ∧ ok = .bool (okTo k W H t s (odd + 2 * (j : Int)) (odd + 2 * (i : Int)) m') ∧ Hid (∃ cur, wr.heap[wi.heap.size]? = some (.cells cur 88 (0, 0)) ∧ cur.size = 8 ∧ ∀ q : Nat, q < m' → cur[2 * q]? = some (.int .i64 (celX k W H t s (odd + 2 * (j : Int) + (q : Int) % 2) (odd + 2 * (i : Int) + (q : Int) / 2))) ∧ cur[2 * q + 1]? = some (.int .i64 (celY k W H t s (odd + 2 * (j : Int) + (q : Int) % 2) (odd + 2 * (i : Int) + (q : Int) / 2)))) ∧ Hid (wr.heap[w.heap.size]? = some (.cells #[.int .u8 k, .int .i64 W, .int .i64 H, .int .u8 t, .int .i64 s] 29 (0, 0))) ∧ Below wi.heap.size wi wr) (fun _ m _ => 4 - (intOf m).toNat)
      case atStart => exact ⟨0, rfl, by omega, rfl, ⟨_, Kb, rfl, fun _ h => absurd h (by omega)⟩, KT2, hBi⟩
      clear Kb KT2 hBi
      obtain ⟨m, rfl, hm, rfl, HC, KT2, hBi⟩ := hrel
      by_cases hml : m < 4
      · obtain ⟨cur, Kb, hs, hcu⟩ := HC.out
        have Kb := Lib.hid Kb; have hcu := Lib.hid hcu; have hsz := Lib.hid hs; clear hs HC
        have hcT := bk_cell KT2.out
        generalize odd + 2 * (j : Int) = u at *
        generalize odd + 2 * (i : Int) = v at *
        have CX := CC.out (u + (m : Int) % 2) (v + (m : Int) / 2) wr (by omega) (by omega) (by omega) (by omega)
        have HX := Lib.hid (rfl : celX k W H t s (u + (m : Int) % 2) (v + (m : Int) / 2) = celX k W H t s (u + (m : Int) % 2) (v + (m : Int) / 2))
        have HQ : ∀ X Y B, celX k W H t s (u + (m : Int) % 2) (v + (m : Int) / 2) = X → celY k W H t s (u + (m : Int) % 2) (v + (m : Int) / 2) = Y → celB k W H t s (u + (m : Int) % 2) (v + (m : Int) / 2) = B →
            Hid (celX k W H t s (u + (m : Int) % 2) (v + (m : Int) / 2) = X ∧ celY k W H t s (u + (m : Int) % 2) (v + (m : Int) / 2) = Y ∧ celB k W H t s (u + (m : Int) % 2) (v + (m : Int) / 2) = B) := fun X Y B a b c => ⟨a, b, c⟩
        obtain ⟨X, hX⟩ : ∃ X, celX k W H t s (u + (m : Int) % 2) (v + (m : Int) / 2) = X := ⟨_, rfl⟩
        obtain ⟨Y, hY⟩ : ∃ X, celY k W H t s (u + (m : Int) % 2) (v + (m : Int) / 2) = X := ⟨_, rfl⟩
        obtain ⟨B, hBq⟩ : ∃ X, celB k W H t s (u + (m : Int) % 2) (v + (m : Int) / 2) = X := ⟨_, rfl⟩
        replace HQ := HQ X Y B hX hY hBq
        rw [hX, hY, hBq] at CX
        have CX := Lib.hid CX
        clear hX hY hBq HX
        have h0 : m * 2 < cur.size := by rw [hsz.out]; omega
        have h1' : m * 2 + 1 < cur.size := by rw [hsz.out]; omega
        have HR : Hid (∀ (w2 : World), Below wr.heap.size wr w2 → ∀ w3, w3 = (((w2.alloc (.cells #[.int .i64 X, .int .i64 Y] 87)).setCell ⟨wi.heap.size, m * 2, none⟩ (.int .i64 X)).setCell ⟨wi.heap.size, m * 2 + 1, none⟩ (.int .i64 Y)) →
            Hid (∃ cur, w3.heap[wi.heap.size]? = some (.cells cur 88 (0, 0)) ∧ cur.size = 8 ∧ ∀ q : Nat, q < m + 1 → cur[2 * q]? = some (.int .i64 (celX k W H t s (u + (q : Int) % 2) (v + (q : Int) / 2))) ∧ cur[2 * q + 1]? = some (.int .i64 (celY k W H t s (u + (q : Int) % 2) (v + (q : Int) / 2)))) ∧ Hid (w3.heap[w.heap.size]? = some (.cells #[.int .u8 k, .int .i64 W, .int .i64 H, .int .u8 t, .int .i64 s] 29 (0, 0))) ∧ Below wi.heap.size wi w3) := by
          intro w2 hb2 w3 e
          subst e
          have Kb2 := bk_alloc (bk_below Kb.out hb2) (.cells #[.int .i64 X, .int .i64 Y] 87)
          refine ⟨⟨_, bk_set (bk_set Kb2 (m * 2) _) (m * 2 + 1) _, by simp [hsz.out], fun q hq => ?_⟩, bk_far (bk_far (bk_alloc (bk_below KT2.out hb2) _) (by simp; omega) _) (by simp; omega) _, ?_⟩
          · by_cases e : q = m
            · subst e
              rw [HQ.out.1, HQ.out.2.1]
              have g0 : 2 * q = q * 2 := by omega
              rw [g0]
              simp [Array.getElem?_setIfInBounds, h0, h1']
            · have := hcu.out q (by omega)
              have n1 : ¬ m * 2 = 2 * q := by omega
              have n2 : ¬ m * 2 + 1 = 2 * q := by omega
              have n3 : ¬ m * 2 = 2 * q + 1 := by omega
              have n4 : ¬ m * 2 + 1 = 2 * q + 1 := by omega
              rw [Array.getElem?_setIfInBounds_ne n2, Array.getElem?_setIfInBounds_ne n1, Array.getElem?_setIfInBounds_ne n4, Array.getElem?_setIfInBounds_ne n3]
              exact this
          · have hq := (hBi.trans (hb2.mono hBi.size))
            exact ((hq.alloc hq.size _).setCell (p := ⟨wi.heap.size, m * 2, none⟩) (Nat.le_refl _) _).setCell (p := ⟨wi.heap.size, m * 2 + 1, none⟩) (Nat.le_refl _) _
        have HF : Hid (∀ (w2 : World), Below wr.heap.size wr w2 → ((w2.alloc (.cells #[.int .i64 X, .int .i64 Y] 87)).cell? ⟨wi.heap.size, m * 2, none⟩ = some cur[m * 2] ∧ (∀ x, (w2.alloc (.cells #[.int .i64 X, .int .i64 Y] 87)).frozen? ⟨wi.heap.size, x, none⟩ = false)) ∧
            (((w2.alloc (.cells #[.int .i64 X, .int .i64 Y] 87)).setCell ⟨wi.heap.size, m * 2, none⟩ (.int .i64 X)).cell? ⟨wi.heap.size, m * 2 + 1, none⟩ = some cur[m * 2 + 1] ∧ ∀ x, ((w2.alloc (.cells #[.int .i64 X, .int .i64 Y] 87)).setCell ⟨wi.heap.size, m * 2, none⟩ (.int .i64 X)).frozen? ⟨wi.heap.size, x, none⟩ = false)) := by
          intro w2 hb2
          have Kb2 := bk_alloc (bk_below Kb.out hb2) (.cells #[.int .i64 X, .int .i64 Y] 87)
          refine ⟨⟨(bk_cell Kb2 (m * 2)).trans (Array.getElem?_eq_getElem h0), bk_free Kb2⟩, (bk_cell (bk_set Kb2 (m * 2) _) (m * 2 + 1)).trans ?_, bk_free (bk_set Kb2 (m * 2) _)⟩
          rw [Array.getElem?_setIfInBounds_ne (by omega)]
          exact Array.getElem?_eq_getElem h1'
        cases hq : okTo k W H t s u v m
        all_goals
          have HK : Hid (okTo k W H t s u v (m + 1) = (okTo k W H t s u v m && B)) := by show (okTo k W H t s u v m && celB k W H t s (u + (m : Int) % 2) (v + (m : Int) / 2)) = _; rw [HQ.out.2.2]
          rw [hq] at HK
          clear hq
          go_wp2_with (first | (go_at_call 67; ((with_reducible refine CX.out.mono ?_); rintro e w2 ⟨rfl, hb2⟩; obtain ⟨⟨f1, f2⟩, f3, f4⟩ := HF.out w2 hb2)))
          go_roundw
          case rel =>
            obtain ⟨r1, r2, r3⟩ := HR.out w2 hb2 _ rfl
            exact ⟨m + 1, by go_num, by omega, by rw [HK.out]; rfl, r1, r2, r3⟩
          case measure => simp [intOf]; omega
      · obtain rfl : m = 4 := by omega
        obtain ⟨cur, Kb, hs, hcu⟩ := HC.out
        have HRow := Lib.hid (rowV_succ k W H t s odd (odd + 2 * (i : Int)) j)
        have hu2 : Hid (odd + 2 * (j : Int) + 2 = odd + 2 * ((j + 1 : Nat) : Int)) := by show _ = _; omega
        have hmeas : Hid (wn + wn + 2 - (odd + 2 * (j : Int) + 2).toNat < wn + wn + 2 - (odd + 2 * (j : Int)).toNat) := by show _ < _; omega
        have hn1 : n' ≤ 1048576 := by
          have a1 := HN.out; have a2 := HM.out
          have a3 : i * wn + wn ≤ hn * wn := by have := Nat.mul_le_mul_right wn (show i + 1 ≤ hn by omega); rwa [Nat.succ_mul] at this
          omega
        have HN2 : Hid (n' + 1 ≤ i * wn + (j + 1)) := by have := HN.out; show _ ≤ _; omega
        have HN3 : Hid (n' ≤ i * wn + (j + 1)) := by have := HN.out; show _ ≤ _; omega
        have ecur : cur = blkA k W H t s (odd + 2 * (j : Int)) (odd + 2 * (i : Int)) := by
          rw [eight (X := fun q => .int .i64 (celX k W H t s ((odd + 2 * (j : Int)) + (q : Int) % 2) ((odd + 2 * (i : Int)) + (q : Int) / 2))) (Y := fun q => .int .i64 (celY k W H t s ((odd + 2 * (j : Int)) + (q : Int) % 2) ((odd + 2 * (i : Int)) + (q : Int) / 2))) hs hcu]
          simp [blkA]
        subst ecur
        clear hs hcu HC
        have HOw := Lib.hid (own_below HO.out hBi)
        have hBw := hB1.trans (hBi.mono hB1.size)
        cases hq : okTo k W H t s (odd + 2 * (j : Int)) (odd + 2 * (i : Int)) 4
        · rw [hq] at HRow
          simp only [Bool.false_eq_true, if_false, List.append_nil] at HRow
          clear hq
          have HB := Lib.hid hBw; clear hBw hBi
          go_wp2
          go_roundw
          case rel => exact ⟨j + 1, n', by rw [← hu2.out], by omega, by show World.ownsRow _ _ _ _ _ _ _; rw [HRow.out]; exact HOw.out, by show _ = _; rw [HRow.out]; exact HL.out, HN3, KT2.out, HB.out⟩
          case measure => exact hmeas.out
        · rw [hq] at HRow
          simp only [if_true] at HRow
          clear hq
          have HB := Lib.hid hBw; clear hBi
          have hsz := hBw.size
          obtain ⟨x0, x1, x2, x3, x4, x5, x6, x7, hA⟩ : ∃ x0 x1 x2 x3 x4 x5 x6 x7 : Int, blkA k W H t s (odd + 2 * (j : Int)) (odd + 2 * (i : Int)) = #[.int .i64 x0, .int .i64 x1, .int .i64 x2, .int .i64 x3, .int .i64 x4, .int .i64 x5, .int .i64 x6, .int .i64 x7] := ⟨_, _, _, _, _, _, _, _, rfl⟩
          rw [hA] at HRow Kb
          clear hA
          have HOA : Hid (∀ z ∈ (#[.int .i64 x0, .int .i64 x1, .int .i64 x2, .int .i64 x3, .int .i64 x4, .int .i64 x5, .int .i64 x6, .int .i64 x7] : Array Value).toList, z.oneCell' = true) := by
            intro z hz
            simp only [List.mem_cons, List.not_mem_nil, or_false] at hz
            rcases hz with rfl | rfl | rfl | rfl | rfl | rfl | rfl | rfl <;> rfl
          have HRD := Lib.hid (Rd.of_block (xs := (#[.int .i64 x0, .int .i64 x1, .int .i64 x2, .int .i64 x3, .int .i64 x4, .int .i64 x5, .int .i64 x6, .int .i64 x7] : Array Value).toList) (bk_new wr (.cells #[.int .i64 x0, .int .i64 x1, .int .i64 x2, .int .i64 x3, .int .i64 x4, .int .i64 x5, .int .i64 x6, .int .i64 x7] 88)) fun j u hu => by simpa using hu)
          have HO3 := Lib.hid (own_below HOw.out (boxed wr (.cells #[.int .i64 x0, .int .i64 x1, .int .i64 x2, .int .i64 x3, .int .i64 x4, .int .i64 x5, .int .i64 x6, .int .i64 x7] 88)))
          have KT3 := Lib.hid (bk_alloc KT2.out (.cells #[.int .i64 x0, .int .i64 x1, .int .i64 x2, .int .i64 x3, .int .i64 x4, .int .i64 x5, .int .i64 x6, .int .i64 x7] 88))
          have HB3 := Lib.hid (hBw.alloc hBw.size (.cells #[.int .i64 x0, .int .i64 x1, .int .i64 x2, .int .i64 x3, .int .i64 x4, .int .i64 x5, .int .i64 x6, .int .i64 x7] 88))
          clear hBw
          go_wp2_with (first | (refine wpList_load_row (by rfl) 88 _ (by rfl) wi.heap.size (by rfl) 88 _ (0, 0) _ Kb Try.underlying88 rfl blk_size ?_) | (at_builtin; (refine app_rd rfl (.tmp 52) (.tmp 54) 82 rfl w.heap.size 88 _ 8 64 Try.underlying82 blk_info rfl (by decide) _ n' _ (by rfl) HO3.out (some ⟨wr.heap.size, 0, none⟩) 1 1 (#[.int .i64 x0, .int .i64 x1, .int .i64 x2, .int .i64 x3, .int .i64 x4, .int .i64 x5, .int .i64 x6, .int .i64 x7] : Array Value).toList (by rfl) HRD.out rfl HOA.out (by unfold maxLen; omega) (by omega) (by simp; omega) ?_); intro v' w3 hown3 hb3 hgr3))
          have KT4 : Hid (w3.heap[w.heap.size]? = some (.cells #[.int .u8 k, .int .i64 W, .int .i64 H, .int .u8 t, .int .i64 s] 29 (0, 0))) := (hgr3.block w.heap.size (bk_lt KT3.out) (own_ne HO3.out KT3.out (by decide))).trans KT3.out
          have HB4 := Lib.hid (HB3.out.trans hb3)
          have HO4 := Lib.hid hown3
          clear hown3 hb3 hgr3 KT3 HO3 HB3
          go_roundw
          case rel => exact ⟨j + 1, n' + 1, by rw [← hu2.out], by omega, by show World.ownsRow _ _ _ _ _ _ _; rw [HRow.out, ← List.append_assoc]; exact HO4.out, by show _ = _; rw [HRow.out, ← List.append_assoc, List.length_append, ← HL.out]; simp; omega, HN2, KT4.out, HB4.out⟩
          case measure => exact hmeas.out
    · obtain rfl : j = wn := by omega
      have d1 : decide (odd + 2 * (j : Int) < W) = false := decide_eq_false (by omega)
      have hcT := bk_cell KT1.out
      have hu2 : Hid (odd + 2 * (i : Int) + 2 = odd + 2 * ((i + 1 : Nat) : Int)) := by show _ = _; omega
      have hmeas : Hid (hn + hn + 2 - (odd + 2 * (i : Int) + 2).toNat < hn + hn + 2 - (odd + 2 * (i : Int)).toNat) := by show _ < _; omega
      have HN2 : Hid (n' ≤ (i + 1) * j) := by have := HN.out; show _ ≤ _; rw [Nat.succ_mul]; exact this
      have HB := Lib.hid hB1; clear hB1
      go_wp2
      go_roundw
      case rel => exact ⟨i + 1, n', by rw [← hu2.out], by omega, by show World.ownsRow _ _ _ _ _ _ _; rw [toV_succ]; exact HO.out, by show _ = _; rw [toV_succ]; exact HL.out, HN2, KT1.out, HB.out⟩
      case measure => exact hmeas.out
  · obtain rfl : i = hn := by omega
    have d1 : decide (odd + 2 * (i : Int) < H) = false := decide_eq_false (by omega)
    have hcT := bk_cell KT1.out
    go_wp2
    go_ret
    exact ⟨_, n, rfl, HO.out, HL.out, by have := HN.out; have := HM.out; omega, hB1⟩
end Go.Proofs.Ytdpcmpfhjhbicaa
