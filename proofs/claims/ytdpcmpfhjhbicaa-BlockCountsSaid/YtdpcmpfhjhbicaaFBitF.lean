/- A new store of bits. -/
import Derived.Test.YtdpcmpfhjhbicaaFBitC
set_option linter.unusedVariables false
set_option linter.unusedSimpArgs false
namespace Go.Proofs.Ytdpcmpfhjhbicaa
open Go.RowKit

theorem brinfo : (Try.prog.info? 120).map (fun i => (i.zero, i.size, i.bytes)) = some (some (.agg #[.int .i64 0, .slice none 0 0]), 2, 32) := by kernel_rfl

/-- the rows, by their words' blocks -/
def rowsT (W : Nat) (L : List Nat) : List Value := L.flatMap fun g => [.int .i64 W, .slice (some ⟨g, 0, none⟩) (nw W) (nw W)]
theorem rowsT_length (W : Nat) (L : List Nat) : (rowsT W L).length = L.length * 2 := by
  induction L with
  | nil => rfl
  | cons g L ih => simp only [rowsT, List.flatMap_cons, List.length_append, List.length_cons, List.length_nil] at ih ⊢; omega
theorem rowsT_at (W : Nat) (L : List Nat) (y : Nat) (hy : y < L.length) : (rowsT W L)[y * 2]? = some (.int .i64 W) ∧ (rowsT W L)[y * 2 + 1]? = some (.slice (some ⟨L.getD y 0, 0, none⟩) (nw W) (nw W)) := by
  induction L generalizing y with
  | nil => simp at hy
  | cons g L ih =>
    cases y with
    | zero => simp [rowsT]
    | succ y =>
      obtain ⟨h1, h2⟩ := ih y (by simpa using hy)
      have e : rowsT W (g :: L) = .int .i64 W :: .slice (some ⟨g, 0, none⟩) (nw W) (nw W) :: rowsT W L := rfl
      rw [e, show (y + 1) * 2 = y * 2 + 1 + 1 from by omega]
      simp only [List.getElem?_cons_succ]
      exact ⟨h1, by simpa [List.getD] using h2⟩

/-- rows that are being made: their list lies in the box B -/
structure MadeT (n₀ B W : Nat) (L : List Nat) (v : Value) (w0 w : World) : Prop where
  box : w.heap[B]? = some (.cells #[v] 117 (0, 0))
  own : w.ownsRow n₀ 120 2 v L.length (rowsT W L)
  rows : ∀ g ∈ L, w.heap[g]? = some (.cells (zwords (nw W)) 128 (0, 0))
  nodup : L.Nodup
  ge : ∀ g ∈ L, n₀ ≤ g
  below : Below n₀ w0 w

theorem MadeT.step {n₀ B W g : Nat} {L : List Nat} {v v' : Value} {w0 w w1 w2 : World} (h : MadeT n₀ B W L v w0 w) (hw : n₀ ≤ w.heap.size)
    (h1 : Below w.heap.size w w1) (hgw : w.heap.size ≤ g) (hz : w1.heap[g]? = some (.cells (zwords (nw W)) 128 (0, 0)))
    (hown : w2.ownsRow n₀ 120 2 v' (L.length + 1) (rowsT W L ++ [.int .i64 W, .slice (some ⟨g, 0, none⟩) (nw W) (nw W)])) (hg : w1.grownBy w2 v.ownBlock) (hBn : n₀ ≤ B) :
    MadeT n₀ B W (L ++ [g]) v' w0 (w2.setCell ⟨B, 0, none⟩ v') := by
  have o1 := own_below h.own h1
  have kB : w2.heap[B]? = some (.cells #[v] 117 (0, 0)) := by
    have := bk_below h.box h1
    exact (hg.block B (bk_lt this) (own_ne o1 this (by decide))).trans this
  refine ⟨bk_eq (bk_set kB 0 _) (by simp), ?_, ?_, ?_, ?_, ?_⟩
  · have e : rowsT W (L ++ [g]) = rowsT W L ++ [.int .i64 W, .slice (some ⟨g, 0, none⟩) (nw W) (nw W)] := by simp [rowsT]
    rw [e, List.length_append, List.length_singleton]
    refine hown.kept (grownBy_setCellB w2 B v') ?_
    exact .inr (own_ne hown kB (by decide)).symm
  · intro g' hg'
    have key : w1.heap[g']? = some (.cells (zwords (nw W)) 128 (0, 0)) := by
      rcases List.mem_append.1 hg' with hm | hm
      · exact bk_below (h.rows g' hm) h1
      · rw [List.mem_singleton.1 hm]; exact hz
    have k2 := (hg.block g' (bk_lt key) (own_ne o1 key (by decide))).trans key
    refine bk_far k2 ?_ _
    rintro rfl
    rw [kB] at k2
    simp at k2
  · refine List.nodup_append.2 ⟨h.nodup, by simp, ?_⟩
    intro a ha b hb
    have := bk_lt (h.rows a ha)
    rw [List.mem_singleton.1 hb]; omega
  · intro g' hg'
    rcases List.mem_append.1 hg' with hm | hm
    · exact h.ge g' hm
    · rw [List.mem_singleton.1 hm]; omega
  · refine Below.setCell (p := ⟨B, 0, none⟩) ?_ hBn _
    refine (h.below.trans (h1.mono hw)).grown hg (Nat.le_trans hw h1.size) ?_
    intro k hk
    exact own_block h.own k hk

theorem MadeT.done {n₀ B W : Nat} {L : List Nat} {v : Value} {w0 w : World} (h : MadeT n₀ B W L v w0 w) (h0 : 0 < L.length) :
    ∃ gr c, v = .slice (some ⟨gr, 0, none⟩) L.length c ∧ BitsAt gr W L.length (fun _ _ => 0) (fun y => L.getD y 0) w ∧ ∀ b, bytesS gr L.length (fun y => L.getD y 0) b → n₀ ≤ b := by
  rcases h.own.2 with ⟨_, h1⟩ | ⟨gr, cap, cur, rfl, hb, hg, hcap, hn, hz, ht⟩
  · omega
  · have tk : ∀ i u, i < L.length * 2 → (rowsT W L)[i]? = some u → cur[i]? = some u := by
      intro i u hi hu
      rw [← ht, List.getElem?_take_of_lt hi] at hu
      simpa using hu
    refine ⟨gr, cap, rfl, ⟨⟨cur, hg, fun y hy => ⟨tk _ _ (by omega) (rowsT_at W L y hy).1, nw W, tk _ _ (by omega) (rowsT_at W L y hy).2⟩⟩, fun y hy => ?_, ?_⟩, ?_⟩
    · exact ⟨_, h.rows _ (getD_mem hy), fun k hk => ⟨0, by omega, by unfold zwords; exact made_at (z := .int .u64 0) rfl _ _ hk, fun j hj hl => by simp⟩⟩
    · intro y y' hy hy' e
      simp only [List.getD, List.getElem?_eq_getElem hy, List.getElem?_eq_getElem hy', Option.getD_some] at e
      exact (List.getElem_inj h.nodup).1 e
    · rintro b (rfl | ⟨y, hy, rfl⟩)
      · exact hb
      · exact h.ge _ (getD_mem hy)

set_option maxRecDepth 20000 in
set_option maxHeartbeats 2000000 in
theorem tfresh (W H : Nat) (St : Int) (w : World) (hW0 : 0 < W) (hW : W ≤ 65536) (hH0 : 0 < H) (hH : H ≤ 65536) :
    Calls Try.prog 61 #[.agg #[.int .i64 W, .int .i64 H, .int .i64 St], .bool true] w fun e w' => ∃ gr c G, e = .returned (.iface 117 (.agg #[.slice (some ⟨gr, 0, none⟩) H c])) ∧
      BitsAt gr W H (fun _ _ => 0) G w' ∧ (∀ b, bytesS gr H G b → w.heap.size ≤ b) ∧ Below w.heap.size w w' := by
  have KS := bk_alloc (bk_newn w (.cells #[.int .i64 W, .int .i64 H, .int .i64 St] 34) w.heap.size rfl) (.cells #[.slice none 0 0] 117)
  have KB := bk_newn (w.alloc (.cells #[.int .i64 W, .int .i64 H, .int .i64 St] 34)) (.cells #[.slice none 0 0] 117) (w.heap.size + 1) (by simp)
  have hBw : Below w.heap.size w ((w.alloc (.cells #[.int .i64 W, .int .i64 H, .int .i64 St] 34)).alloc (.cells #[.slice none 0 0] 117)) := (boxed _ _).alloc (by simp) _
  go_enter Try.func61, Try.ntmps61
  go_wp2_with (first | fail)
  generalize ((w.alloc (.cells #[.int .i64 W, .int .i64 H, .int .i64 St] 34)).alloc (.cells #[.slice none 0 0] 117)) = W0 at *
  go_loopw [13] (fun i wr => ∃ (k : Nat) (L : List Nat) (v : Value), i = .int .i64 k ∧ k ≤ H ∧ Hid (L.length = k) ∧ wr.heap[w.heap.size]? = some (.cells #[.int .i64 W, .int .i64 H, .int .i64 St] 34 (0, 0)) ∧ Hid (MadeT w.heap.size (w.heap.size + 1) W L v w wr)) (fun i _ => H - (intOf i).toNat)
  case atStart => exact ⟨0, [], .slice none 0 0, rfl, Nat.zero_le _, rfl, KS, ⟨KB, World.ownsRow_nil _ _ _ _, by simp, by simp, by simp, hBw⟩⟩
  clear KS KB hBw
  obtain ⟨k, L, v, rfl, hk, HL, KS, HM⟩ := hrel
  by_cases hlt : k < H
  · have hcS := bk_cell KS
    have hsz := HM.out.below.size
    have hb1 := bk_lt HM.out.box
    go_wp2_with (first | fail)
    refine (New_row W (by omega) _).mono ?_
    rintro e w1 ⟨g, rfl, hg1, hgz, hbn⟩
    have hcB := bk_cell (bk_alloc (bk_below HM.out.box hbn) (.cells #[.int .i64 W, .slice (some ⟨g, 0, none⟩) (nw W) (nw W)] 120))
    have hown0 := Lib.hid (own_below HM.out.own hbn)
    have HG := Lib.hid hgz; clear hgz
    have hs1 := hbn.size
    have Kn := bk_newn (w1.alloc (.cells #[.int .i64 W, .slice (some ⟨g, 0, none⟩) (nw W) (nw W)] 120)) (.cells #[.int .i64 W, .slice (some ⟨g, 0, none⟩) (nw W) (nw W)] 120) (w1.heap.size + 1) (by simp)
    have hnb : Below wr.heap.size wr ((w1.alloc (.cells #[.int .i64 W, .slice (some ⟨g, 0, none⟩) (nw W) (nw W)] 120)).alloc (.cells #[.int .i64 W, .slice (some ⟨g, 0, none⟩) (nw W) (nw W)] 120)) := (hbn.alloc hs1 _).alloc (by simp; omega) _
    have ob := own_block (own_below HM.out.own hnb)
    clear hcS
    go_wp2_with (first
      | (at_builtin; refine app_rd rfl _ _ 115 (by rfl) w.heap.size 120 (.agg #[.int .i64 0, .slice none 0 0]) 2 32 Try.underlying115 brinfo rfl (by decide) v L.length (rowsT W L) (by rfl) (own_below HM.out.own hnb) (some ⟨w1.heap.size + 1, 0, none⟩) 1 1 [.int .i64 W, .slice (some ⟨g, 0, none⟩) (nw W) (nw W)] (by rfl) (Rd.of_block Kn (by simp)) (by rfl) (by simp [Value.oneCell']) (by have := HL.out; unfold maxLen; omega) (by have := HL.out; omega) (by simp; omega) ?_; intro v1 w2 hown2 hb2 hg2; have kB2 : w2.heap[w.heap.size + 1]? = some (.cells #[v] 117 (0, 0)) := (hg2.block _ (by simp; omega) (own_ne (own_below HM.out.own hnb) (bk_below HM.out.box hnb) (by decide))).trans (bk_below HM.out.box hnb); have hcx := bk_cell kB2; have hfx := bk_free kB2; obtain ⟨A1, c1, rfl⟩ := own_slice hown2))
    have hR := Lib.hid (HM.out.step hsz hnb hg1 (bk_alloc (bk_alloc HG.out _) _) hown2 hg2 (by omega))
    have kS2 := bk_far ((hg2.block w.heap.size (by simp; omega) (own_ne (own_below HM.out.own hnb) (bk_below KS hnb) (by decide))).trans (bk_below KS hnb)) (p := ⟨w.heap.size + 1, 0, none⟩) (by simp) (.slice A1 (L.length + 1) c1)
    have HL2 : Hid ((L ++ [g]).length = k + 1) := by show (L ++ [g]).length = k + 1; rw [List.length_append, HL.out]; rfl
    go_roundw
    case rel => exact ⟨k + 1, _, _, by go_num, by omega, HL2, kS2, hR⟩
    case measure => simp [intOf]; omega
  · obtain rfl : k = H := by omega
    obtain ⟨gr, c, rfl, hby, hge⟩ := HM.out.done (by rw [HL.out]; exact hH0)
    rw [HL.out] at hby hge
    have hbl := HM.out.below
    have hcB := bk_cell HM.out.box
    rw [HL.out] at hcB
    clear HM KS
    have HBY := Lib.hid hby; have HGE := Lib.hid hge; clear hby hge
    go_wp2
    go_ret
    exact ⟨gr, c, _, rfl, HBY.out, HGE.out, hbl⟩
end Go.Proofs.Ytdpcmpfhjhbicaa
