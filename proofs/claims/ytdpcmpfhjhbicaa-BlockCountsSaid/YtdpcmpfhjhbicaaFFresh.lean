/- A new store of bytes. -/
import Derived.Test.YtdpcmpfhjhbicaaFByteC
import Derived.Deep.RegionHeld3
import Derived.Deep.AppendLies
set_option linter.unusedVariables false
set_option linter.unusedSimpArgs false
namespace Go.Proofs.Ytdpcmpfhjhbicaa
open Go.RowKit

/-- the rows' slices, by their blocks -/
def rowsV (W : Nat) (L : List Nat) : List Value := L.map fun g => .slice (some ⟨g, 0, none⟩) W W
def zeros (W : Nat) : Array Value := madeCells #[.int .u8 0] W

/-- rows that are being made: their list lies in the box B -/
structure Made (n₀ B W : Nat) (L : List Nat) (v : Value) (w0 w : World) : Prop where
  box : w.heap[B]? = some (.cells #[v] 124 (0, 0))
  own : w.ownsRow n₀ 44 1 v L.length (rowsV W L)
  rows : ∀ g ∈ L, w.heap[g]? = some (.cells (zeros W) 5 (0, 0))
  nodup : L.Nodup
  ge : ∀ g ∈ L, n₀ ≤ g
  below : Below n₀ w0 w

theorem Made.step {n₀ B W : Nat} {L : List Nat} {v v' : Value} {w0 w w1 w2 : World} (h : Made n₀ B W L v w0 w) (hw : n₀ ≤ w.heap.size)
    (h1 : Below w.heap.size w w1) (hz : w1.heap[w.heap.size]? = some (.cells (zeros W) 5 (0, 0)))
    (hown : w2.ownsRow n₀ 44 1 v' (L.length + 1) (rowsV W L ++ [.slice (some ⟨w.heap.size, 0, none⟩) W W])) (hg : w1.grownBy w2 v.ownBlock) (hBn : n₀ ≤ B) :
    Made n₀ B W (L ++ [w.heap.size]) v' w0 (w2.setCell ⟨B, 0, none⟩ v') := by
  have o1 := own_below h.own h1
  have kB : w2.heap[B]? = some (.cells #[v] 124 (0, 0)) := by
    have := bk_below h.box h1
    exact (hg.block B (bk_lt this) (own_ne o1 this (by decide))).trans this
  refine ⟨bk_eq (bk_set kB 0 _) (by simp), ?_, ?_, ?_, ?_, ?_⟩
  · have e : rowsV W (L ++ [w.heap.size]) = rowsV W L ++ [.slice (some ⟨w.heap.size, 0, none⟩) W W] := by simp [rowsV]
    rw [e, List.length_append, List.length_singleton]
    refine hown.kept (grownBy_setCellB w2 B v') ?_
    exact .inr (own_ne hown kB (by decide)).symm
  · intro g hg'
    have key : w1.heap[g]? = some (.cells (zeros W) 5 (0, 0)) := by
      rcases List.mem_append.1 hg' with hm | hm
      · exact bk_below (h.rows g hm) h1
      · rw [List.mem_singleton.1 hm]; exact hz
    have k2 := (hg.block g (bk_lt key) (own_ne o1 key (by decide))).trans key
    refine bk_far k2 ?_ _
    rintro rfl
    rw [kB] at k2
    simp at k2
  · refine List.nodup_append.2 ⟨h.nodup, by simp, ?_⟩
    intro a ha b hb
    have := bk_lt (h.rows a ha)
    rw [List.mem_singleton.1 hb]; omega
  · intro g hg'
    rcases List.mem_append.1 hg' with hm | hm
    · exact h.ge g hm
    · rw [List.mem_singleton.1 hm]; exact hw
  · refine Below.setCell (p := ⟨B, 0, none⟩) ?_ hBn _
    refine (h.below.trans (h1.mono hw)).grown hg (Nat.le_trans hw h1.size) ?_
    intro k hk
    exact own_block h.own k hk

theorem Made.done {n₀ B W : Nat} {L : List Nat} {v : Value} {w0 w : World} (h : Made n₀ B W L v w0 w) (h0 : 0 < L.length) :
    ∃ gr c, v = .slice (some ⟨gr, 0, none⟩) L.length c ∧ BytesAt gr W L.length (fun _ _ => 0) (fun y => L.getD y 0) w ∧ ∀ b, bytesS gr L.length (fun y => L.getD y 0) b → n₀ ≤ b := by
  rcases h.own.2 with ⟨_, h1⟩ | ⟨gr, cap, cur, rfl, hb, hg, hcap, hn, hz, ht⟩
  · omega
  · refine ⟨gr, cap, rfl, ⟨⟨cur, hg, fun y hy => ⟨W, ?_⟩⟩, fun y hy => ?_, ?_⟩, ?_⟩
    · have : (rowsV W L)[y]? = some (.slice (some ⟨L.getD y 0, 0, none⟩) W W) := by simp [rowsV, List.getElem?_eq_getElem hy, List.getD]
      rw [← ht, List.getElem?_take_of_lt (by omega)] at this
      simpa using this
    · have hm : L.getD y 0 ∈ L := by simp [List.getD, List.getElem?_eq_getElem hy]
      exact ⟨_, h.rows _ hm, fun x hx => by unfold zeros; exact made_at (z := .int .u8 0) rfl _ _ hx⟩
    · intro y y' hy hy' e
      simp only [List.getD, List.getElem?_eq_getElem hy, List.getElem?_eq_getElem hy', Option.getD_some] at e
      exact (List.getElem_inj h.nodup).1 e
    · rintro b (rfl | ⟨y, hy, rfl⟩)
      · exact hb
      · exact h.ge _ (by simp [List.getD, List.getElem?_eq_getElem hy])
end Go.Proofs.Ytdpcmpfhjhbicaa
