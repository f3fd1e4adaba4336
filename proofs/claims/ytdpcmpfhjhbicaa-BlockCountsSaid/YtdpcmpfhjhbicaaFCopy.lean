/- A store of bytes, copied. -/
import Derived.Test.YtdpcmpfhjhbicaaFFreshW
set_option linter.unusedVariables false
set_option linter.unusedSimpArgs false
namespace Go.Proofs.Ytdpcmpfhjhbicaa
open Go.RowKit

/-- a row's cells -/
def rowL (W : Nat) (f : Nat → Nat → Int) (y : Nat) : List Value := (List.range W).map fun x => .int .u8 (f y x)
theorem rowL_length (W : Nat) (f : Nat → Nat → Int) (y : Nat) : (rowL W f y).length = W := by simp [rowL]
theorem rowL_at {W : Nat} {f : Nat → Nat → Int} {y x : Nat} (h : x < W) : (rowL W f y)[x]? = some (.int .u8 (f y x)) := by simp [rowL, h]
theorem rowL_one (W : Nat) (f : Nat → Nat → Int) (y : Nat) : ∀ u ∈ rowL W f y, u.oneCell' = true := by
  intro u hu
  obtain ⟨x, _, rfl⟩ := List.mem_map.1 hu
  rfl

/-- rows that are being copied -/
structure Copied (n₀ gr W H : Nat) (f : Nat → Nat → Int) (L : List Nat) (w0 w : World) : Prop where
  rows : ∃ cur, w.heap[gr]? = some (.cells cur 44 (0, 0)) ∧ cur.size = H ∧ ∀ y, y < L.length → ∃ c, cur[y]? = some (.slice (some ⟨L.getD y 0, 0, none⟩) W c)
  row : ∀ y, y < L.length → ∃ cur, w.heap[L.getD y 0]? = some (.cells cur 5 (0, 0)) ∧ ∀ x, x < W → cur[x]? = some (.int .u8 (f y x))
  nodup : L.Nodup
  ge : ∀ g ∈ L, n₀ ≤ g
  lt : ∀ g ∈ L, g < w.heap.size
  below : Below n₀ w0 w

theorem getD_app {L : List Nat} {y g : Nat} (h : y < L.length) : (L ++ [g]).getD y 0 = L.getD y 0 := by
  simp [List.getD, List.getElem?_append_left h]
theorem getD_last {L : List Nat} {g : Nat} : (L ++ [g]).getD L.length 0 = g := by
  simp [List.getD]
theorem getD_mem {L : List Nat} {y : Nat} (h : y < L.length) : L.getD y 0 ∈ L := by
  simp [List.getD, List.getElem?_eq_getElem h]

theorem Copied.step {n₀ gr W H : Nat} {f : Nat → Nat → Int} {L : List Nat} {w0 w w1 : World} {c : Nat} (h : Copied n₀ gr W H f L w0 w) (hw : n₀ ≤ w.heap.size) (hgr : n₀ ≤ gr)
    (h1 : Below w.heap.size w w1) (hown : w1.ownsRow n₀ 5 1 (.slice (some ⟨w.heap.size, 0, none⟩) W c) W (rowL W f L.length)) (hlt : L.length < H) :
    Copied n₀ gr W H f (L ++ [w.heap.size]) w0 (w1.setCell ⟨gr, L.length, none⟩ (.slice (some ⟨w.heap.size, 0, none⟩) W c)) := by
  obtain ⟨cur, hc, hsz, hr⟩ := h.rows
  have kn : ∃ cur, w1.heap[w.heap.size]? = some (.cells cur 5 (0, 0)) ∧ ∀ x, x < W → cur[x]? = some (.int .u8 (f L.length x)) := by
    rcases hown.2 with ⟨h0, _⟩ | ⟨g, cap, cu, hv, _, hg, hcap, _, hz, ht⟩
    · cases h0
    · injection hv with hv1 _ _
      simp at hv1
      subst hv1
      refine ⟨cu, hg, fun x hx => ?_⟩
      have := rowL_at (f := f) (y := L.length) hx
      rw [← ht, List.getElem?_take_of_lt (by omega)] at this
      simpa using this
  obtain ⟨cn, hn, hnr⟩ := kn
  have hgne : ∀ y, y < L.length → L.getD y 0 ≠ w.heap.size := fun y hy e => by have := h.lt _ (getD_mem hy); omega
  have hc1 := bk_below hc h1
  have hne1 : w.heap.size ≠ gr := by have := bk_lt hc; omega
  refine ⟨⟨_, bk_set hc1 L.length _, by simpa using hsz, fun y hy => ?_⟩, fun y hy => ?_, ?_, ?_, ?_, ?_⟩
  · rw [List.length_append, List.length_singleton] at hy
    by_cases e : y = L.length
    · subst e
      exact ⟨c, by rw [getD_last]; simp [hsz, hlt]⟩
    · obtain ⟨c', hc'⟩ := hr y (by omega)
      exact ⟨c', by rw [getD_app (by omega)]; simp [Array.getElem?_setIfInBounds, Ne.symm e, hc']⟩
  · rw [List.length_append, List.length_singleton] at hy
    by_cases e : y = L.length
    · subst e
      rw [getD_last]
      exact ⟨cn, bk_far hn hne1 _, hnr⟩
    · rw [getD_app (by omega)]
      obtain ⟨cu, hcu, hru⟩ := h.row y (by omega)
      refine ⟨cu, bk_far (bk_below hcu h1) ?_ _, hru⟩
      intro e2
      have e2 : L.getD y 0 = gr := e2
      rw [e2, hc] at hcu
      simp at hcu
  · refine List.nodup_append.2 ⟨h.nodup, by simp, ?_⟩
    intro a ha b hb
    have := h.lt a ha
    rw [List.mem_singleton.1 hb]; omega
  · intro g hg
    rcases List.mem_append.1 hg with hm | hm
    · exact h.ge g hm
    · rw [List.mem_singleton.1 hm]; exact hw
  · intro g hg
    have : (w1.setCell ⟨gr, L.length, none⟩ (.slice (some ⟨w.heap.size, 0, none⟩) W c)).heap.size = w1.heap.size := by simp [World.setCell]
    rw [this]
    have h2 := bk_lt hn
    rcases List.mem_append.1 hg with hm | hm
    · have := h.lt g hm; have := h1.size; omega
    · rw [List.mem_singleton.1 hm]; exact h2
  · exact (h.below.trans (h1.mono hw)).setCell (p := ⟨gr, L.length, none⟩) hgr _

theorem Copied.done {n₀ gr W : Nat} {f : Nat → Nat → Int} {L : List Nat} {w0 w : World} (h : Copied n₀ gr W L.length f L w0 w) (hgr : n₀ ≤ gr) :
    BytesAt gr W L.length f (fun y => L.getD y 0) w ∧ ∀ b, bytesS gr L.length (fun y => L.getD y 0) b → n₀ ≤ b := by
  refine ⟨⟨let ⟨cur, hc, _, hr⟩ := h.rows; ⟨cur, hc, hr⟩, h.row, fun y y' hy hy' e => ?_⟩, ?_⟩
  · simp only [List.getD, List.getElem?_eq_getElem hy, List.getElem?_eq_getElem hy', Option.getD_some] at e
    exact (List.getElem_inj h.nodup).1 e
  · rintro b (rfl | ⟨y, hy, rfl⟩)
    · exact hgr
    · exact h.ge _ (getD_mem hy)

set_option maxRecDepth 20000 in
set_option maxHeartbeats 2000000 in
theorem bcopied {gr W H c : Nat} {f : Nat → Nat → Int} {G : Nat → Nat} {w : World} (h : BytesAt gr W H f G w) (hW0 : 0 < W) (hW : W ≤ 65536) (hH0 : 0 < H) (hH : H ≤ 65536) :
    Calls Try.prog 120 #[.agg #[.slice (some ⟨gr, 0, none⟩) H c]] w fun e w' => ∃ gr' c' G', e = .returned (.iface 124 (.agg #[.slice (some ⟨gr', 0, none⟩) H c'])) ∧
      BytesAt gr' W H f G' w' ∧ (∀ b, bytesS gr' H G' b → w.heap.size ≤ b) ∧ Below w.heap.size w w' := by
  obtain ⟨i0, hi0, hz0, hz1, hz2⟩ := info_parts u8info
  have hmk := run_makeN (P := Try.prog) Try.underlying105 rowinfo H (by omega) (by omega)
  simp only [Nat.mul_one] at hmk
  have H0 := Lib.hid h
  have K1 := bk_alloc (bk_alloc (bk_newn w (.cells #[.slice (some ⟨gr, 0, none⟩) H c] 124) w.heap.size rfl) (.cells (madeCells #[.slice none 0 0] H) 44)) (.cells #[.slice (some ⟨w.heap.size + 1, 0, none⟩) H H] 124)
  have K2 := bk_alloc (bk_newn (w.alloc (.cells #[.slice (some ⟨gr, 0, none⟩) H c] 124)) (.cells (madeCells #[.slice none 0 0] H) 44) (w.heap.size + 1) (by simp)) (.cells #[.slice (some ⟨w.heap.size + 1, 0, none⟩) H H] 124)
  have K3 := bk_newn ((w.alloc (.cells #[.slice (some ⟨gr, 0, none⟩) H c] 124)).alloc (.cells (madeCells #[.slice none 0 0] H) 44)) (.cells #[.slice (some ⟨w.heap.size + 1, 0, none⟩) H H] 124) (w.heap.size + 1 + 1) (by simp)
  have hBw : Below w.heap.size w (((w.alloc (.cells #[.slice (some ⟨gr, 0, none⟩) H c] 124)).alloc (.cells (madeCells #[.slice none 0 0] H) 44)).alloc (.cells #[.slice (some ⟨w.heap.size + 1, 0, none⟩) H H] 124)) := ((boxed _ _).alloc (by simp) _).alloc (by simp; omega) _
  clear h
  go_enter Try.func120, Try.ntmps120
  go_wp2_with (first | fail)
  generalize (((w.alloc (.cells #[.slice (some ⟨gr, 0, none⟩) H c] 124)).alloc (.cells (madeCells #[.slice none 0 0] H) 44)).alloc (.cells #[.slice (some ⟨w.heap.size + 1, 0, none⟩) H H] 124)) = W0 at *
  go_loopw [14] (fun i wr => ∃ (k : Nat) (L : List Nat), i = .int .i64 k ∧ k ≤ H ∧ Hid (L.length = k) ∧ wr.heap[w.heap.size + 1 + 1]? = some (.cells #[.slice (some ⟨w.heap.size + 1, 0, none⟩) H H] 124 (0, 0)) ∧ Hid (Copied w.heap.size (w.heap.size + 1) W H f L w wr)) (fun i _ => H - (intOf i).toNat)
  case atStart => exact ⟨0, [], rfl, Nat.zero_le _, rfl, K3, ⟨⟨_, K2, by simp [madeCells], by simp⟩, by simp, by simp, by simp, by simp, hBw⟩⟩
  clear K1 K2 K3 hBw
  obtain ⟨k, L, rfl, hk, HL, K3, HC⟩ := hrel
  by_cases hlt : k < H
  · have hsrc := Lib.hid (H0.out.keep (w' := wr) fun b hb => HC.out.below.block b (H0.out.lt b hb))
    obtain ⟨c1, hc1⟩ := hsrc.out.rowcell k hlt
    have hc3 := bk_cell K3
    have hsz := HC.out.below.size
    have hl3 := bk_lt K3
    obtain ⟨cur, kR, hcz, _⟩ := HC.out.rows
    have hnews : ∀ (j : Nat) u, (rowL W f k)[j]? = some u → wr.cell? (Addr.add ⟨G k, 0, none⟩ j) = some u := by
      intro j u hu
      have hj : j < W := by have := (List.getElem?_eq_some_iff.1 hu).1; rwa [rowL_length] at this
      rw [rowL_at hj] at hu
      have e : Addr.add ⟨G k, 0, none⟩ j = ⟨G k, j, none⟩ := by unfold Addr.add; split <;> simp_all
      rw [e, hsrc.out.cell k j hlt hj, ← hu]
    have HN := Lib.hid hnews; clear hnews
    obtain ⟨u0, hu0⟩ : ∃ u, cur[k]? = some u := ⟨_, Array.getElem?_eq_getElem (by omega)⟩
    have HU := Lib.hid hu0; clear hu0
    have HZ := Lib.hid hcz; clear hcz
    go_wp2_with (first | fail)
    go_region_held3 (fun w' => w'.cell? ⟨w.heap.size + 1 + 1, 0, none⟩ = some (.slice (some ⟨w.heap.size + 1, 0, none⟩) H H))
      (first
        | go_keep
        | (rw [hgrow.cell_far _ (by simp; omega) (by simp [Value.ownBlock])]; assumption))
      ((refine step_append_lies _ (by rfl) _ _ _ (by rfl) w.heap.size 5 i0 _ 1 1 Try.underlying44 hi0 hz0 hz1 hz2 rfl (by omega) (.slice none 0 0) 0 [] (by rfl) (World.ownsRow_nil _ _ _ _) ⟨G k, 0, none⟩ W c1 (rowL W f k) (by rfl) (by rw [rowL_length]; omega) (by exact HN.out) (rowL_one W f k) hW0 (by unfold maxLen; omega) (by omega) (by simp; omega) wr.heap.size (by simp) ?_; intro gg cap w1 hown1 hgrow hat hlt1; have kR1 := (hgrow.block _ (by simp; omega) (by simp [Value.ownBlock])).trans (bk_drew kR); have hcx := (bk_cell kR1 k).trans HU.out; have hfx := bk_free kR1 k))
    obtain rfl : gg = wr.heap.size := by simpa [Value.ownBlock] using hat
    rw [Nat.zero_add, List.nil_append] at hown1
    have hb1 := below_of_nil hgrow
    have hR : Hid (Copied w.heap.size (w.heap.size + 1) W H f (L ++ [wr.heap.size]) w (w1.setCell ⟨w.heap.size + 1, k, none⟩ (.slice (some ⟨wr.heap.size, 0, none⟩) W cap))) := by
      have := HC.out.step (c := cap) (w1 := w1) hsz (by omega) ((Below.refl _ wr).drew.trans (by exact hb1)) (by rw [HL.out]; exact hown1) (by rw [HL.out]; exact hlt)
      rw [HL.out] at this
      exact this
    have HL2 : Hid ((L ++ [wr.heap.size]).length = k + 1) := by show (L ++ [wr.heap.size]).length = k + 1; rw [List.length_append, HL.out]; rfl
    have K3' : (w1.setCell ⟨w.heap.size + 1, k, none⟩ (.slice (some ⟨wr.heap.size, 0, none⟩) W cap)).heap[w.heap.size + 1 + 1]? = some (.cells #[.slice (some ⟨w.heap.size + 1, 0, none⟩) H H] 124 (0, 0)) := bk_far (bk_below (bk_drew K3) hb1) (by simp) _
    clear hown1 hgrow hat hlt1 hcx hfx kR1 HC K3 HL hb1 hc3 hc1 hsrc HN
    go_wp2
    go_roundw
    case rel => exact ⟨k + 1, _, by go_num, by omega, HL2, K3', hR⟩
    case measure => simp [intOf]; omega
  · have e : k = H := by omega
    have e2 := HL.out
    have hc3 := bk_cell K3
    have hD := HC.out
    rw [← e, ← e2] at hD
    have hD := Lib.hid hD
    have e3 : Hid (L.length = H) := by show L.length = H; omega
    clear HC HL e2
    have e := Lib.hid e
    go_wp2
    go_ret
    obtain ⟨r1, r2⟩ := hD.out.done (by omega)
    have hbl := hD.out.below
    rw [e3.out] at r1 r2
    exact ⟨_, _, _, rfl, r1, r2, hbl⟩
end Go.Proofs.Ytdpcmpfhjhbicaa
