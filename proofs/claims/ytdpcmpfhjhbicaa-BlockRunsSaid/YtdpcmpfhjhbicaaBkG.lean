/- A place's cell; the blocks of a generation. -/
import Derived.Test.YtdpcmpfhjhbicaaBkF
import Derived.Test.YtdpcmpfhjhbicaaFG
set_option linter.unusedVariables false
set_option linter.unusedSimpArgs false
namespace Go.Proofs.Ytdpcmpfhjhbicaa
open Go.RowKit Go.Viv

/-- block.cell: in home numbers -/
def celX (k W H t s u v : Int) : Int := cellX k W H t s (u - W / 2) (v - H / 2) + W / 2
def celY (k W H t s u v : Int) : Int := cellY k W H t s (u - W / 2) (v - H / 2) + H / 2
def celB (k W H t s u v : Int) : Bool := cellE k W H t s (u - W / 2) (v - H / 2) == 0
theorem cellXY_bd {k W H t s x y : Int} (t0 : 0 ≤ t) (hx : -200000 ≤ x ∧ x ≤ 200000) (hy : -200000 ≤ y ∧ y ≤ 200000) : (-1000000 ≤ cellX k W H t s x y ∧ cellX k W H t s x y ≤ 1000000) ∧ (-1000000 ≤ cellY k W H t s x y ∧ cellY k W H t s x y ≤ 1000000) := by
  by_cases hc : checkE k W H t s = 0
  · have ok := topoOk_of t0 hc
    have w0 := ok.w0; have w1 := ok.w1; have h0 := ok.h0; have h1 := ok.h1
    have m1 : ∀ a, W = 0 ∨ (0 ≤ a % W ∧ a % W < W) := fun a => by
      by_cases e : W = 0
      · exact .inl e
      · exact .inr ⟨Int.emod_nonneg _ e, Int.emod_lt_of_pos _ (by omega)⟩
    have m2 : ∀ a, H = 0 ∨ (0 ≤ a % H ∧ a % H < H) := fun a => by
      by_cases e : H = 0
      · exact .inl e
      · exact .inr ⟨Int.emod_nonneg _ e, Int.emod_lt_of_pos _ (by omega)⟩
    have z1 : W = 0 → ¬ (k = 2 ∧ t = 1) ∧ ¬ 3 ≤ k := fun e => ⟨fun h => by have := (ok.torus h.1 (by omega)).2.1; omega, fun h => by have := (ok.ends h).1; omega⟩
    have z2 : H = 0 → ¬ (k = 2 ∧ t = 2) ∧ ¬ 3 ≤ k := fun e => ⟨fun h => by have := (ok.torus h.1 (by omega)).2.2; omega, fun h => by have := (ok.ends h).2; omega⟩
    constructor
    · unfold cellX
      split
      · omega
      · split
        · unfold cellU first
          split
          · rename_i h; rcases m1 (x - -(W / 2) - (y - -(H / 2)) / H * s) with e | e
            · exact absurd h (z1 e).1
            · omega
          · split
            · rename_i h; rcases m1 (W - 1 - (x - -(W / 2)) + s) with e | e
              · exact absurd (by omega) (z1 e).2
              · omega
            · split
              · rename_i h; rcases m1 (x - -(W / 2)) with e | e
                · exact absurd (by omega) (z1 e).2
                · omega
              · rcases m1 (x - -(W / 2)) with e | e
                · subst e; simp; omega
                · omega
        · omega
    · unfold cellY
      split
      · omega
      · split
        · unfold cellV first
          split
          · rename_i h; rcases m2 (y - -(H / 2) - (x - -(W / 2)) / W * s) with e | e
            · exact absurd h (z2 e).1
            · omega
          · split
            · rename_i h; rcases m2 (H - 1 - (y - -(H / 2)) + s) with e | e
              · exact absurd (by omega) (z2 e).2
              · omega
            · split
              · rename_i h; rcases m2 (y - -(H / 2)) with e | e
                · exact absurd (by omega) (z2 e).2
                · omega
              · rcases m2 (y - -(H / 2)) with e | e
                · subst e; simp; omega
                · omega
        · omega
  · have e : cellE k W H t s x y = 9 := by unfold cellE; rw [if_pos hc]
    unfold cellX cellY
    rw [if_pos (by omega), if_pos (by omega)]
    omega

set_option maxRecDepth 20000 in
set_option maxHeartbeats 4000000 in
theorem bcell_calls (k W H t s u v : Int) (w : World) (t0 : 0 ≤ t) (w0 : 0 ≤ W) (w1 : W ≤ 65536) (h0 : 0 ≤ H) (h1 : H ≤ 65536) (u0 : 0 ≤ u) (u1 : u ≤ 65540) (v0 : 0 ≤ v) (v1 : v ≤ 65540) :
    Calls Try.prog 67 #[topoV k W H t s, .int .i64 u, .int .i64 v] w (Ret (.tuple #[pt (celX k W H t s u v) (celY k W H t s u v), .bool (celB k W H t s u v)]) w) := by
  have hbd := cellXY_bd (k := k) (W := W) (H := H) (t := t) (s := s) (x := u - W / 2) (y := v - H / 2) t0 (by omega) (by omega)
  have KT := bk_alloc (bk_new w (.cells #[.int .u8 k, .int .i64 W, .int .i64 H, .int .u8 t, .int .i64 s] 29)) (.cells #[.int .i64 0, .int .i64 0] 87)
  have KP := bk_new (w.alloc (.cells #[.int .u8 k, .int .i64 W, .int .i64 H, .int .u8 t, .int .i64 s] 29)) (.cells #[.int .i64 0, .int .i64 0] 87)
  have hB := (boxed w (.cells #[.int .u8 k, .int .i64 W, .int .i64 H, .int .u8 t, .int .i64 s] 29)).alloc (by simp) (.cells #[.int .i64 0, .int .i64 0] 87)
  simp only [World.size_alloc] at KP
  have hcT := bk_cell KT
  have CC := Lib.hid (fun w => CellF_calls k W H t s (u - W / 2) (v - H / 2) w t0)
  have HX : ∀ x, cellX k W H t s (u - W / 2) (v - H / 2) = x → Hid (celX k W H t s u v = x + W / 2) := fun x e => by rw [← e]; rfl
  have HY : ∀ x, cellY k W H t s (u - W / 2) (v - H / 2) = x → Hid (celY k W H t s u v = x + H / 2) := fun x e => by rw [← e]; rfl
  have HB : ∀ x, cellE k W H t s (u - W / 2) (v - H / 2) = x → Hid (celB k W H t s u v = (x == 0)) := fun x e => by rw [← e]; rfl
  generalize cellX k W H t s (u - W / 2) (v - H / 2) = X at *
  generalize cellY k W H t s (u - W / 2) (v - H / 2) = Y at *
  generalize cellE k W H t s (u - W / 2) (v - H / 2) = E at *
  have HX := HX X rfl; have HY := HY Y rfl; have HB := HB E rfl
  obtain ⟨⟨x0, x1⟩, y0, y1⟩ := hbd
  have HKT := Lib.hid KT; have HKP := Lib.hid KP; have HBB := Lib.hid hB
  clear KT KP hB
  go_enter Try.func67, Try.ntmps67
  go_wp2_with (go_at_call 76; ((with_reducible refine (CC.out _).mono ?_); rintro e w2 ⟨rfl, hb1⟩; have KT1 := bk_alloc (bk_below HKT.out hb1) (.cells #[.int .i64 X, .int .i64 Y] 87); have KP1 := bk_alloc (bk_below HKP.out hb1) (.cells #[.int .i64 X, .int .i64 Y] 87); have hcT1 := bk_cell KT1; have hcP1 := bk_cell KP1; have hfP1 := bk_free KP1; clear KT1; have KP1' := Lib.hid KP1; clear KP1))
  have KPP := KP1'.out
  refine end_ct (w.heap.size + 1) 87 rfl rfl rfl Try.underlying87 rfl ⟨_, bk_eq (cs' := #[.int .i64 (X + W / 2), .int .i64 (Y + H / 2)]) (by repeat (with_reducible (first | exact KPP | apply bk_set | refine bk_drew ?_ | refine bk_drewN ?_ _ | refine bk_alloc ?_ _ | refine bk_far ?_ (by simp; try omega) _))) (by simp), rfl, Ret.of (by rw [HX.out, HY.out, HB.out]; rfl) ?_⟩
  have hbb := (next HBB.out hb1).alloc (next HBB.out hb1).size (.cells #[.int .i64 X, .int .i64 Y] 87)
  exact (hbb.setCell (p := ⟨w.heap.size + 1, 0, none⟩) (by show w.heap.size ≤ w.heap.size + 1; omega) _).setCell (p := ⟨w.heap.size + 1, 1, none⟩) (by show w.heap.size ≤ w.heap.size + 1; omega) _
end Go.Proofs.Ytdpcmpfhjhbicaa
