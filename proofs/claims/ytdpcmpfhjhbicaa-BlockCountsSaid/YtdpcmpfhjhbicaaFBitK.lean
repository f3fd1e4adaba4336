/- A store of bits, copied. -/
import Derived.Test.YtdpcmpfhjhbicaaFBitF
set_option linter.unusedVariables false
set_option linter.unusedSimpArgs false
namespace Go.Proofs.Ytdpcmpfhjhbicaa
open Go.RowKit

theorem aset_same {a : Array Value} {i : Nat} (h : i < a.size) (v : Value) : (a.setIfInBounds i v)[i]? = some v := by simp [h]

/-- rows that are being copied -/
structure CopiedT (n₀ gr W H : Nat) (f : Nat → Nat → Int) (L : List Nat) (w0 w : World) : Prop where
  rows : ∃ cur, w.heap[gr]? = some (.cells cur 120 (0, 0)) ∧ cur.size = H * 2 ∧ ∀ y, y < L.length → cur[y * 2]? = some (.int .i64 W) ∧ ∃ c, cur[y * 2 + 1]? = some (.slice (some ⟨L.getD y 0, 0, none⟩) (nw W) c)
  row : ∀ y, y < L.length → ∃ cur, w.heap[L.getD y 0]? = some (.cells cur 128 (0, 0)) ∧ ∀ k, k < nw W → ∃ v : Nat, v < 18446744073709551616 ∧ cur[k]? = some (.int .u64 v) ∧ ∀ j, j < 64 → 64 * k + j < W → f y (64 * k + j) = if v.testBit j then 1 else 0
  nodup : L.Nodup
  ge : ∀ g ∈ L, n₀ ≤ g
  lt : ∀ g ∈ L, g < w.heap.size
  below : Below n₀ w0 w

theorem CopiedT.step {n₀ gr W H : Nat} {f : Nat → Nat → Int} {L : List Nat} {w0 w w1 : World} {g c : Nat} (h : CopiedT n₀ gr W H f L w0 w) (hw : n₀ ≤ w.heap.size) (hgr : n₀ ≤ gr)
    (h1 : Below w.heap.size w w1) (hgw : w.heap.size ≤ g) (kn : ∃ cur, w1.heap[g]? = some (.cells cur 128 (0, 0)) ∧ ∀ k, k < nw W → ∃ v : Nat, v < 18446744073709551616 ∧ cur[k]? = some (.int .u64 v) ∧ ∀ j, j < 64 → 64 * k + j < W → f L.length (64 * k + j) = if v.testBit j then 1 else 0) (hlt : L.length < H) :
    CopiedT n₀ gr W H f (L ++ [g]) w0 ((w1.setCell ⟨gr, L.length * 2, none⟩ (.int .i64 W)).setCell ⟨gr, L.length * 2 + 1, none⟩ (.slice (some ⟨g, 0, none⟩) (nw W) c)) := by
  obtain ⟨cur, hc, hsz, hr⟩ := h.rows
  obtain ⟨cn, hn, hnr⟩ := kn
  have hc1 := bk_below hc h1
  have hne1 : g ≠ gr := by have := bk_lt hc; omega
  refine ⟨⟨_, bk_set (bk_set hc1 _ _) _ _, by simpa using hsz, fun y hy => ?_⟩, fun y hy => ?_, ?_, ?_, ?_, ?_⟩
  · rw [List.length_append, List.length_singleton] at hy
    by_cases e : y = L.length
    · subst e
      refine ⟨?_, c, ?_⟩
      · rw [Array.getElem?_setIfInBounds_ne (by omega)]
        exact aset_same (by omega) _
      · rw [getD_last]
        exact aset_same (by simp; omega) _
    · obtain ⟨h2, c', hc'⟩ := hr y (by omega)
      refine ⟨?_, c', ?_⟩
      · rw [Array.getElem?_setIfInBounds_ne (by omega), Array.getElem?_setIfInBounds_ne (by omega)]; exact h2
      · rw [getD_app (by omega), Array.getElem?_setIfInBounds_ne (by omega), Array.getElem?_setIfInBounds_ne (by omega)]; exact hc'
  · rw [List.length_append, List.length_singleton] at hy
    by_cases e : y = L.length
    · subst e
      rw [getD_last]
      exact ⟨cn, bk_far (bk_far hn hne1 _) hne1 _, hnr⟩
    · rw [getD_app (by omega)]
      obtain ⟨cu, hcu, hru⟩ := h.row y (by omega)
      have hne2 : L.getD y 0 ≠ gr := by
        intro e2
        rw [e2, hc] at hcu
        simp at hcu
      exact ⟨cu, bk_far (bk_far (bk_below hcu h1) hne2 _) hne2 _, hru⟩
  · refine List.nodup_append.2 ⟨h.nodup, by simp, ?_⟩
    intro a ha b hb
    have := h.lt a ha
    rw [List.mem_singleton.1 hb]; omega
  · intro g' hg
    rcases List.mem_append.1 hg with hm | hm
    · exact h.ge g' hm
    · rw [List.mem_singleton.1 hm]; omega
  · intro g' hg
    have : ((w1.setCell ⟨gr, L.length * 2, none⟩ (.int .i64 W)).setCell ⟨gr, L.length * 2 + 1, none⟩ (.slice (some ⟨g, 0, none⟩) (nw W) c)).heap.size = w1.heap.size := by simp [World.setCell]
    rw [this]
    have h2 := bk_lt hn
    rcases List.mem_append.1 hg with hm | hm
    · have := h.lt g' hm; have := h1.size; omega
    · rw [List.mem_singleton.1 hm]; exact h2
  · exact ((h.below.trans (h1.mono hw)).setCell (p := ⟨gr, L.length * 2, none⟩) hgr _).setCell (p := ⟨gr, L.length * 2 + 1, none⟩) hgr _

theorem CopiedT.done {n₀ gr W : Nat} {f : Nat → Nat → Int} {L : List Nat} {w0 w : World} (h : CopiedT n₀ gr W L.length f L w0 w) (hgr : n₀ ≤ gr) :
    BitsAt gr W L.length f (fun y => L.getD y 0) w ∧ ∀ b, bytesS gr L.length (fun y => L.getD y 0) b → n₀ ≤ b := by
  refine ⟨⟨let ⟨cur, hc, _, hr⟩ := h.rows; ⟨cur, hc, hr⟩, h.row, fun y y' hy hy' e => ?_⟩, ?_⟩
  · simp only [List.getD, List.getElem?_eq_getElem hy, List.getElem?_eq_getElem hy', Option.getD_some] at e
    exact (List.getElem_inj h.nodup).1 e
  · rintro b (rfl | ⟨y, hy, rfl⟩)
    · exact hgr
    · exact h.ge _ (getD_mem hy)

/-- the words of a row that lies somewhere, as a list -/
theorem words_list {cur : Array Value} {n : Nat} {P : Nat → Nat → Prop} (h : ∀ k, k < n → ∃ v : Nat, v < 18446744073709551616 ∧ cur[k]? = some (.int .u64 v) ∧ P k v) :
    ∃ l : List Nat, l.length = n ∧ (∀ k, k < n → cur[k]? = some (.int .u64 (l.getD k 0))) ∧ ∀ k, k < n → l.getD k 0 < 18446744073709551616 ∧ P k (l.getD k 0) := by
  induction n with
  | zero => exact ⟨[], rfl, by simp, by simp⟩
  | succ n ih =>
    obtain ⟨l, h1, h2, h3⟩ := ih fun k hk => h k (by omega)
    obtain ⟨v, hv, hc, hp⟩ := h n (by omega)
    have ea : ∀ k, k < n → (l ++ [v]).getD k 0 = l.getD k 0 := fun k hk => getD_app (by omega)
    have eb : (l ++ [v]).getD n 0 = v := by have := getD_last (L := l) (g := v); rwa [h1] at this
    refine ⟨l ++ [v], by simp [h1], fun k hk => ?_, fun k hk => ?_⟩
    · by_cases e : k = n
      · subst e; rw [eb]; exact hc
      · rw [ea k (by omega)]; exact h2 k (by omega)
    · by_cases e : k = n
      · subst e; rw [eb]; exact ⟨hv, hp⟩
      · rw [ea k (by omega)]; exact h3 k (by omega)
/-- words as cells -/
def wordL (l : List Nat) : List Value := l.map fun (v : Nat) => Value.int .u64 (v : Int)
theorem wordL_at {l : List Nat} {k : Nat} (h : k < l.length) : (wordL l)[k]? = some (.int .u64 (l.getD k 0 : Nat)) := by
  simp [wordL, List.getElem?_eq_getElem h, List.getD]
theorem wordL_one (l : List Nat) : ∀ u ∈ wordL l, u.oneCell' = true := by
  intro u hu
  obtain ⟨x, _, rfl⟩ := List.mem_map.1 hu
  rfl

set_option maxRecDepth 20000 in
set_option maxHeartbeats 2000000 in
theorem tcopied {gr W H c : Nat} {f : Nat → Nat → Int} {G : Nat → Nat} {w : World} (h : BitsAt gr W H f G w) (hW0 : 0 < W) (hW : W ≤ 65536) (hH0 : 0 < H) (hH : H ≤ 65536) :
    Calls Try.prog 116 #[.agg #[.slice (some ⟨gr, 0, none⟩) H c]] w fun e w' => ∃ gr' c' G', e = .returned (.iface 117 (.agg #[.slice (some ⟨gr', 0, none⟩) H c'])) ∧
      BitsAt gr' W H f G' w' ∧ (∀ b, bytesS gr' H G' b → w.heap.size ≤ b) ∧ Below w.heap.size w w' := by
  obtain ⟨i0, hi0, hz0, hz1, hz2⟩ := info_parts u64info
  have hmk := run_makeN (P := Try.prog) Try.underlying115 brinfo H (by omega) (by omega)
  have hn0 := nw_pos hW0
  have hn1 := nw_le (n := W) (by omega)
  have H0 := Lib.hid h
  have K2 := bk_alloc (bk_newn (w.alloc (.cells #[.slice (some ⟨gr, 0, none⟩) H c] 117)) (.cells (madeCells #[.int .i64 0, .slice none 0 0] (H * 2)) 120) (w.heap.size + 1) (by simp)) (.cells #[.slice (some ⟨w.heap.size + 1, 0, none⟩) H H] 117)
  have K3 := bk_newn ((w.alloc (.cells #[.slice (some ⟨gr, 0, none⟩) H c] 117)).alloc (.cells (madeCells #[.int .i64 0, .slice none 0 0] (H * 2)) 120)) (.cells #[.slice (some ⟨w.heap.size + 1, 0, none⟩) H H] 117) (w.heap.size + 1 + 1) (by simp)
  have hBw : Below w.heap.size w (((w.alloc (.cells #[.slice (some ⟨gr, 0, none⟩) H c] 117)).alloc (.cells (madeCells #[.int .i64 0, .slice none 0 0] (H * 2)) 120)).alloc (.cells #[.slice (some ⟨w.heap.size + 1, 0, none⟩) H H] 117)) := ((boxed _ _).alloc (by simp) _).alloc (by simp; omega) _
  clear h
  go_enter Try.func116, Try.ntmps116
  go_wp2_with (first | fail)
  generalize (((w.alloc (.cells #[.slice (some ⟨gr, 0, none⟩) H c] 117)).alloc (.cells (madeCells #[.int .i64 0, .slice none 0 0] (H * 2)) 120)).alloc (.cells #[.slice (some ⟨w.heap.size + 1, 0, none⟩) H H] 117)) = W0 at *
  go_loopw [14] (fun i wr => ∃ (k : Nat) (L : List Nat), i = .int .i64 k ∧ k ≤ H ∧ Hid (L.length = k) ∧ wr.heap[w.heap.size + 1 + 1]? = some (.cells #[.slice (some ⟨w.heap.size + 1, 0, none⟩) H H] 117 (0, 0)) ∧ Hid (CopiedT w.heap.size (w.heap.size + 1) W H f L w wr)) (fun i _ => H - (intOf i).toNat)
  case atStart => exact ⟨0, [], rfl, Nat.zero_le _, rfl, K3, ⟨⟨_, K2, by simp [madeCells], by simp⟩, by simp, by simp, by simp, by simp, hBw⟩⟩
  clear K2 K3 hBw
  obtain ⟨k, L, rfl, hk, HL, K3, HC⟩ := hrel
  by_cases hlt : k < H
  · have hsrc := Lib.hid (H0.out.keep (w' := wr) fun b hb => HC.out.below.block b (H0.out.lt b hb))
    obtain ⟨c1, hc1⟩ := hsrc.out.rowcell k hlt
    have hc0 := hsrc.out.ncell k hlt
    have hsz := HC.out.below.size
    have hl3 := bk_lt K3
    obtain ⟨cur, kR, hcz, _⟩ := HC.out.rows
    obtain ⟨cw, kW, hw0⟩ := hsrc.out.row k hlt
    obtain ⟨ws, hwl, hwc, hwp⟩ := words_list hw0
    have hnews : ∀ (j : Nat) u, (wordL ws)[j]? = some u → wr.cell? (Addr.add ⟨G k, 0, none⟩ j) = some u := by
      intro j u hu
      have hj : j < ws.length := by have := (List.getElem?_eq_some_iff.1 hu).1; simpa [wordL] using this
      rw [wordL_at hj] at hu
      have e : Addr.add ⟨G k, 0, none⟩ j = ⟨G k, j, none⟩ := by unfold Addr.add; split <;> simp_all
      rw [e, bk_cell kW, ← hu]
      exact hwc j (by omega)
    have HN := Lib.hid hnews; clear hnews
    have HW0 := Lib.hid hw0; have HWL := Lib.hid hwl; have HWC := Lib.hid hwc; have HWP := Lib.hid hwp; clear hw0 hwl hwc hwp
    obtain ⟨u0, hu0⟩ : ∃ u, cur[k * 2]? = some u := ⟨_, Array.getElem?_eq_getElem (by omega)⟩
    obtain ⟨u1, hu1⟩ : ∃ u, cur[k * 2 + 1]? = some u := ⟨_, Array.getElem?_eq_getElem (by omega)⟩
    have HU := Lib.hid hu0; have HU1 := Lib.hid hu1; clear hu0 hu1
    have HZ := Lib.hid hcz; clear hcz
    have K5 := bk_new wr (.cells #[.int .i64 W, .slice (some ⟨G k, 0, none⟩) (nw W) c1] 120)
    have hc5 := bk_cell K5
    have hc3 := bk_cell (bk_alloc K3 (.cells #[.int .i64 W, .slice (some ⟨G k, 0, none⟩) (nw W) c1] 120))
    have hne1 : ¬ (wr.heap.size = w.heap.size + 1) := by omega
    have hne2 : ¬ (w.heap.size + 1 = wr.heap.size) := by omega
    have hb5 := boxed wr (.cells #[.int .i64 W, .slice (some ⟨G k, 0, none⟩) (nw W) c1] 120)
    go_wp2_with (first | fail)
    go_region_held3 (fun w' => w'.cell? ⟨w.heap.size + 1 + 1, 0, none⟩ = some (.slice (some ⟨w.heap.size + 1, 0, none⟩) H H) ∧ w'.cell? ⟨wr.heap.size, 0, none⟩ = some (.int .i64 W) ∧ w'.cell? ⟨wr.heap.size, 1, none⟩ = some (.slice (some ⟨G k, 0, none⟩) (nw W) c1))
      (first
        | go_keep
        | (go_split_ands
           refine ⟨?_, ?_, ?_⟩
           · (rw [hgrow.cell_far _ (by simp; omega) (by simp [Value.ownBlock])]; assumption)
           · (rw [hgrow.cell_far _ (by simp) (by simp [Value.ownBlock])]; assumption)
           · (rw [hgrow.cell_far _ (by simp) (by simp [Value.ownBlock])]; assumption)))
      ((refine step_append_lies _ (by rfl) _ _ _ (by rfl) w.heap.size 128 i0 _ 1 8 Try.underlying118 hi0 hz0 hz1 hz2 rfl (by omega) (.slice none 0 0) 0 [] (by rfl) (World.ownsRow_nil _ _ _ _) ⟨G k, 0, none⟩ (nw W) c1 (wordL ws) (by rfl) (by have := HWL.out; simp [wordL]; omega) (by intro j u hu; exact cell_later hb5.drew (HN.out j u hu)) (wordL_one ws) hn0 (by unfold maxLen; omega) (by omega) (by simp; omega) (wr.heap.size + 1) (by simp) ?_; intro gg cap w1 hown1 hgrow hat hlt1; have kR1 := (hgrow.block _ (by simp; omega) (by simp [Value.ownBlock])).trans (bk_drew (bk_alloc kR (.cells #[.int .i64 W, .slice (some ⟨G k, 0, none⟩) (nw W) c1] 120))); have hcx := (bk_cell kR1 (k * 2)).trans HU.out; have hcy := (bk_cell kR1 (k * 2 + 1)).trans HU1.out; have hfx := bk_free kR1 (k * 2); have hfy := bk_free kR1 (k * 2 + 1)))
    obtain rfl : gg = wr.heap.size + 1 := by simpa [Value.ownBlock] using hat
    rw [Nat.zero_add, List.nil_append] at hown1
    have hb1 := below_of_nil hgrow
    have kn : ∃ cur, w1.heap[wr.heap.size + 1]? = some (.cells cur 128 (0, 0)) ∧ ∀ i, i < nw W → ∃ v : Nat, v < 18446744073709551616 ∧ cur[i]? = some (.int .u64 v) ∧ ∀ j, j < 64 → 64 * i + j < W → f L.length (64 * i + j) = if v.testBit j then 1 else 0 := by
      rw [HL.out]
      rcases hown1.2 with ⟨h0, _⟩ | ⟨g, cp, cu, hv, _, hg, hcap, _, hz, ht⟩
      · cases h0
      · injection hv with hv1 _ _
        simp at hv1
        subst hv1
        refine ⟨cu, hg, fun i hi => ⟨ws.getD i 0, (HWP.out i hi).1, ?_, (HWP.out i hi).2⟩⟩
        have := wordL_at (l := ws) (k := i) (by rw [HWL.out]; exact hi)
        rw [← ht, List.getElem?_take_of_lt (by omega)] at this
        simpa using this
    have hnb : Below wr.heap.size wr w1 := (hb5.drew).trans ((by exact hb1 : Below (wr.alloc (.cells #[.int .i64 W, .slice (some ⟨G k, 0, none⟩) (nw W) c1] 120)).heap.size _ w1).mono (by simp))
    have hR : Hid (CopiedT w.heap.size (w.heap.size + 1) W H f (L ++ [wr.heap.size + 1]) w ((w1.setCell ⟨w.heap.size + 1, k * 2, none⟩ (.int .i64 W)).setCell ⟨w.heap.size + 1, k * 2 + 1, none⟩ (.slice (some ⟨wr.heap.size + 1, 0, none⟩) (nw W) cap))) := by
      have := HC.out.step (g := wr.heap.size + 1) (c := cap) (w1 := w1) hsz (by omega) hnb (by omega) kn (by rw [HL.out]; exact hlt)
      rw [HL.out] at this
      exact this
    have HL2 : Hid ((L ++ [wr.heap.size + 1]).length = k + 1) := by show (L ++ [wr.heap.size + 1]).length = k + 1; rw [List.length_append, HL.out]; rfl
    have K3' : ((w1.setCell ⟨w.heap.size + 1, k * 2, none⟩ (.int .i64 W)).setCell ⟨w.heap.size + 1, k * 2 + 1, none⟩ (.slice (some ⟨wr.heap.size + 1, 0, none⟩) (nw W) cap)).heap[w.heap.size + 1 + 1]? = some (.cells #[.slice (some ⟨w.heap.size + 1, 0, none⟩) H H] 117 (0, 0)) := bk_far (bk_far (bk_below K3 hnb) (by simp) _) (by simp) _
    clear hown1 hgrow hat hlt1 hcx hcy hfx hfy kR1 HC K3 HL hb1 hc3 hc1 hc0 hc5 hsrc HN kn hnb K5 hb5
    go_wp2
    go_roundw
    case rel => exact ⟨k + 1, _, by go_num, by omega, HL2, K3', hR⟩
    case measure => simp [intOf]; omega
  · have e : k = H := by omega
    have e2 := HL.out
    have hc3 := bk_cell K3
    have hD := HC.out
    rw [← e, ← e2] at hD
    have hD := Lib.hid hD
    have e3 : Hid (L.length = H) := by show L.length = H; omega
    clear HC HL e2
    have e := Lib.hid e
    go_wp2
    go_ret
    obtain ⟨r1, r2⟩ := hD.out.done (by omega)
    have hbl := hD.out.below
    rw [e3.out] at r1 r2
    exact ⟨_, _, _, rfl, r1, r2, hbl⟩
end Go.Proofs.Ytdpcmpfhjhbicaa
