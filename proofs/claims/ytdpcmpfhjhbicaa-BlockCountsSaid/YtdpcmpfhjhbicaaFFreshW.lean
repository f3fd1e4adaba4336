/- A new store of bytes: the walk. -/
import Derived.Test.YtdpcmpfhjhbicaaFFresh
import Derived.StillTactics
import Derived.Deep.RegionLaw
set_option linter.unusedVariables false
set_option linter.unusedSimpArgs false
namespace Go.Proofs.Ytdpcmpfhjhbicaa
open Go.RowKit

theorem u8info : (Try.prog.info? 5).map (fun i => (i.zero, i.size, i.bytes)) = some (some (.int .u8 0), 1, 1) := by kernel_rfl
theorem rowinfo : (Try.prog.info? 44).map (fun i => (i.zero, i.size, i.bytes)) = some (some (.slice none 0 0), 1, 24) := by kernel_rfl

set_option maxRecDepth 20000 in
set_option maxHeartbeats 2000000 in
theorem bfresh (W H : Nat) (St : Int) (w : World) (hW0 : 0 < W) (hW : W ≤ 65536) (hH0 : 0 < H) (hH : H ≤ 65536) :
    Calls Try.prog 61 #[.agg #[.int .i64 W, .int .i64 H, .int .i64 St], .bool false] w fun e w' => ∃ gr c G, e = .returned (.iface 124 (.agg #[.slice (some ⟨gr, 0, none⟩) H c])) ∧
      BytesAt gr W H (fun _ _ => 0) G w' ∧ (∀ b, bytesS gr H G b → w.heap.size ≤ b) ∧ Below w.heap.size w w' := by
  obtain ⟨i0, hi0, hz0, hz1, hz2⟩ := info_parts rowinfo
  have hmk := run_makeN (P := Try.prog) Try.underlying44 u8info W (by omega) (by omega)
  have KS := bk_alloc (bk_newn w (.cells #[.int .i64 W, .int .i64 H, .int .i64 St] 34) w.heap.size rfl) (.cells #[.slice none 0 0] 124)
  have KB := bk_newn (w.alloc (.cells #[.int .i64 W, .int .i64 H, .int .i64 St] 34)) (.cells #[.slice none 0 0] 124) (w.heap.size + 1) (by simp)
  have hBw : Below w.heap.size w ((w.alloc (.cells #[.int .i64 W, .int .i64 H, .int .i64 St] 34)).alloc (.cells #[.slice none 0 0] 124)) := (boxed _ _).alloc (by simp) _
  go_enter Try.func61, Try.ntmps61
  go_wp2_with (first | fail)
  generalize ((w.alloc (.cells #[.int .i64 W, .int .i64 H, .int .i64 St] 34)).alloc (.cells #[.slice none 0 0] 124)) = W0 at *
  go_loopw [33] (fun i wr => ∃ (k : Nat) (L : List Nat) (v : Value), i = .int .i64 k ∧ k ≤ H ∧ Hid (L.length = k) ∧ wr.heap[w.heap.size]? = some (.cells #[.int .i64 W, .int .i64 H, .int .i64 St] 34 (0, 0)) ∧ Hid (Made w.heap.size (w.heap.size + 1) W L v w wr)) (fun i _ => H - (intOf i).toNat)
  case atStart => exact ⟨0, [], .slice none 0 0, rfl, Nat.zero_le _, rfl, KS, ⟨KB, World.ownsRow_nil _ _ _ _, by simp, by simp, by simp, hBw⟩⟩
  clear KS KB hBw
  obtain ⟨k, L, v, rfl, hk, HL, KS, HM⟩ := hrel
  by_cases hlt : k < H
  · have hcS := bk_cell KS
    have hcB := bk_cell HM.out.box
    have hfB := bk_free HM.out.box
    have hsz := HM.out.below.size
    have hb1 := bk_lt HM.out.box
    have ag := own_ne HM.out.own HM.out.box (by decide)
    have as' := own_ne HM.out.own KS (by decide)
    have hcB1 := bk_cell (bk_alloc HM.out.box (.cells (madeCells #[.int .u8 0] W) 5))
    have hcB2 := bk_cell (bk_alloc (bk_alloc HM.out.box (.cells (madeCells #[.int .u8 0] W) 5)) (.cells #[.slice (some ⟨wr.heap.size, 0, none⟩) W W] 44))
    go_wp2_with (first | fail)
    go_region_law
      ((refine step_append_lies _ (by rfl) _ _ _ (by rfl) w.heap.size 44 i0 _ 1 24 Try.underlying105 hi0 hz0 hz1 hz2 rfl (by omega) v L.length (rowsV W L) (by rfl) (((HM.out.own.alloc _).alloc _).drew) ⟨wr.heap.size + 1, 0, none⟩ 1 1 [.slice (some ⟨wr.heap.size, 0, none⟩) W W] (by rfl) (by rfl) (World.news_of_block (cs := #[.slice (some ⟨wr.heap.size, 0, none⟩) W W]) (t := 44) (fr := (0, 0)) (bk_drew (bk_newn _ _ (wr.heap.size + 1) (by simp)))) (by simp [Value.oneCell']) (by omega) (by have := HL.out; unfold maxLen; omega) (by have := HL.out; omega) (by simp; omega) (wr.heap.size + 1 + 1) (by simp) ?_; intro gg cap w1 hown1 hgrow hat hlt1; have kB : w1.heap[w.heap.size + 1]? = some (.cells #[v] 124 (0, 0)) := (hgrow.block _ (by simp; omega) ag).trans (bk_drew (bk_alloc (bk_alloc HM.out.box _) _)); have hcx := bk_cell kB; have hfx := bk_free kB; have kS : w1.heap[w.heap.size]? = some (.cells #[.int .i64 W, .int .i64 H, .int .i64 St] 34 (0, 0)) := (hgrow.block _ (by simp; omega) as').trans (bk_drew (bk_alloc (bk_alloc KS _) _)); have hcy := bk_cell kS))
    all_goals
      have hR := Lib.hid (HM.out.step (w1 := ((wr.alloc (.cells (zeros W) 5)).alloc (.cells #[.slice (some ⟨wr.heap.size, 0, none⟩) W W] 44)).drew) (by omega) (((boxed _ _).alloc (by simp) _).drew) (bk_drew (bk_alloc (bk_new wr _) _)) hown1 hgrow (by omega))
      have kS2 := bk_far kS (p := ⟨w.heap.size + 1, 0, none⟩) (by simp) (.slice (some ⟨gg, 0, none⟩) (L.length + 1) cap)
      have HL2 : Hid ((L ++ [wr.heap.size]).length = k + 1) := by show (L ++ [wr.heap.size]).length = k + 1; rw [List.length_append, HL.out]; rfl
      clear hown1 hgrow hat hlt1 kB hcx hfx kS hcy hcB1 hcB2 hcB hfB hcS HM KS HL
      go_wp2
      go_roundw
      case rel => exact ⟨k + 1, _, _, by go_num, by omega, HL2, kS2, hR⟩
      case measure => simp [intOf]; omega
  · obtain rfl : k = H := by omega
    obtain ⟨gr, c, rfl, hby, hge⟩ := HM.out.done (by rw [HL.out]; exact hH0)
    rw [HL.out] at hby hge
    have hbl := HM.out.below
    have hcB := bk_cell HM.out.box
    rw [HL.out] at hcB
    clear HM KS
    have HBY := Lib.hid hby; have HGE := Lib.hid hge; clear hby hge
    go_wp2
    go_ret
    exact ⟨gr, c, _, rfl, HBY.out, HGE.out, hbl⟩
end Go.Proofs.Ytdpcmpfhjhbicaa
