/- The walk of fold.Part. -/
import Derived.Test.YtfdehecekghlmaaGlueB
set_option linter.unusedVariables false
set_option linter.unusedSimpArgs false
namespace Go.Proofs.Ytfdehecekghlmaa
open Go.RowKit Go.Viv
attribute [local go_sem] run_store_complex run_store_float

theorem flat3 {α β : Type} (f : α → List β) (hf : ∀ a, (f a).length = 3) : ∀ (L : List α) (j : Nat) (m : α) (q : Nat), L[j]? = some m → q < 3 → (L.flatMap f)[j * 3 + q]? = (f m)[q]?
  | [], j, m, q, h, _ => by simp at h
  | a :: L, 0, m, q, h, hq => by
    simp at h; subst h
    rw [List.flatMap_cons, Nat.zero_mul, Nat.zero_add, List.getElem?_append_left (by rw [hf]; exact hq)]
  | a :: L, j + 1, m, q, h, hq => by
    have ih := flat3 f hf L j m q (by simpa using h) hq
    rw [List.flatMap_cons, List.getElem?_append_right (by rw [hf]; omega), hf, ← ih]
    congr 1; omega
theorem ownsRow_forms_ {w : World} {base e size n : Nat} {v : Value} {xs : List Value} (h : w.ownsRow base e size v n xs) : (v = .slice none 0 0 ∧ n = 0) ∨ ∃ g cap, v = .slice (some ⟨g, 0, none⟩) n cap := by
  rcases h.2 with h0 | ⟨g, cap, _, hv, _⟩
  · exact .inl h0
  · exact .inr ⟨g, cap, hv⟩
theorem own_form {w : World} {base e size n : Nat} {v : Value} {xs : List Value} (h : w.ownsRow base e size v n xs) (hn : 0 < n) : ∃ g cap, v = .slice (some ⟨g, 0, none⟩) n cap := by
  rcases h.2 with ⟨_, h0⟩ | ⟨g, cap, _, hv, _⟩
  · omega
  · exact ⟨g, cap, hv⟩
theorem cell_lt {w : World} {g o : Nat} {v : Value} (h : w.cell? ⟨g, o, none⟩ = some v) : g < w.heap.size := by
  rcases Nat.lt_or_ge g w.heap.size with h' | h'
  · exact h'
  · exfalso; simp [World.cell?, Array.getElem?_eq_none h'] at h
theorem mvCells_len (m : Mv) : (mvCells m).length = 3 := rfl

/-- gluing maps lie in a block -/
def MvsAt (w : World) (g : Nat) (L : List Mv) : Prop := ∀ (j : Nat) (m : Mv), L[j]? = some m → w.cell? ⟨g, j * 3, none⟩ = some (.complex .f64 (mvR m.k) 0) ∧ w.cell? ⟨g, j * 3 + 1, none⟩ = some (.bool m.f) ∧ w.cell? ⟨g, j * 3 + 2, none⟩ = some (.complex .f64 (fl m.x) (fl m.y))
theorem MvsAt.below {w w1 : World} {g : Nat} {L : List Mv} (h : MvsAt w g L) (hb : Below w.heap.size w w1) : MvsAt w1 g L := fun j m hm => ⟨cell_later hb (h j m hm).1, cell_later hb (h j m hm).2.1, cell_later hb (h j m hm).2.2⟩
theorem mvs_of {w : World} {base e g n cap : Nat} {L : List Mv} (hn : n = L.length) (h : w.ownsRow base e 3 (.slice (some ⟨g, 0, none⟩) n cap) n (L.flatMap mvCells)) : MvsAt w g L := by
  intro j m hm
  have hj : j < L.length := (List.getElem?_eq_some_iff.1 hm).1
  have h0 := flat3 mvCells mvCells_len L j m 0 hm (by decide)
  have h1 := flat3 mvCells mvCells_len L j m 1 hm (by decide)
  have h2 := flat3 mvCells mvCells_len L j m 2 hm (by decide)
  refine ⟨?_, ?_, ?_⟩
  · rw [h.cellAt (j * 3) (by omega), ← Nat.add_zero (j * 3), h0]; rfl
  · rw [h.cellAt (j * 3 + 1) (by omega), h1]; rfl
  · rw [h.cellAt (j * 3 + 2) (by omega), h2]; rfl
theorem ints_of {w : World} {base e g n cap : Nat} {l : List Int} (h : w.ownsRow base e 1 (.slice (some ⟨g, 0, none⟩) n cap) n (l.map (Value.int .i64))) : ∀ (j : Nat) (x : Int), l[j]? = some x → w.cell? ⟨g, j, none⟩ = some (.int .i64 x) := by
  intro j x hx
  have hl := h.1
  rw [List.length_map] at hl
  have hj : j < l.length := (List.getElem?_eq_some_iff.1 hx).1
  rw [h.cellAt j (by omega), List.getElem?_map, hx]; rfl
theorem glue_k {k W H t s : Int} : ∀ m ∈ glueL k W H t s, m.k = 0 ∨ m.k = 2 := by
  intro m hm
  unfold glueL at hm
  split at hm
  · simp at hm
  · simp only [List.mem_append] at hm
    rcases hm with hm | hm
    · split at hm
      · simp at hm; subst hm; unfold glueX; split <;> simp
      · simp at hm
    · split at hm
      · simp at hm; subst hm; unfold glueY; split <;> simp
      · simp at hm
theorem glue_len {k W H t s : Int} (u v : Int) : (glueL k W H t s).length ≤ (tilesL W H u v).length ∧ (glueL k W H t s).length ≤ 2 := by
  unfold glueL tilesL
  split
  · simp
  · by_cases hW : 0 < W <;> by_cases hH : 0 < H <;> simp [hW, hH]
theorem partS_k {L : List Mv} {ts : List Int} (hL : ∀ m ∈ L, m.k = 0 ∨ m.k = 2) : ∀ j, 0 ≤ (partS L ts j).1 ∧ (partS L ts j).1 ≤ 3
  | 0 => by simp [partS]
  | j + 1 => by
    have ih := partS_k (ts := ts) hL j
    unfold partS
    split
    · unfold partStep thenK
      split
      · show 0 ≤ _ % 4 ∧ _ % 4 ≤ 3
        omega
      · exact ih
    · exact ih
theorem partS_odd {L : List Mv} {ts : List Int} {j : Nat} {m : Mv} {i : Int} (hm : L[j]? = some m) (hi : ts[j]? = some i) (ho : i % 2 = 1) : partS L ts (j + 1) = (thenK (partS L ts j).1 m.k m.f, (partS L ts j).2 != m.f) := by
  simp [partS, hm, hi, partStep, ho]
theorem partS_even {L : List Mv} {ts : List Int} {j : Nat} {m : Mv} {i : Int} (hm : L[j]? = some m) (hi : ts[j]? = some i) (ho : i % 2 = 0) : partS L ts (j + 1) = partS L ts j := by
  simp [partS, hm, hi, partStep, ho]
theorem int_info : (Try.prog.info? 3).map (fun i => (i.zero, i.size, i.bytes)) = some (some (.int .i64 0), 1, 8) := by kernel_rfl

set_option maxHeartbeats 2000000 in
theorem Part_bad (k W H t s x y : Int) (w : World) (t0 : 0 ≤ t) (h : checkE k W H t s ≠ 0) :
    Calls Try.prog 14 #[topoV k W H t s, pt x y] w (Ret (.tuple #[.int .i64 0, .int .i64 9]) w) := by
  have K1 : (((w.alloc (.cells #[.int .u8 k, .int .i64 W, .int .i64 H, .int .u8 t, .int .i64 s] 23)).alloc (.cells #[.int .i64 x, .int .i64 y] 25)).alloc (.cells #[.int .i64 x, .int .i64 y] 25)).heap[w.heap.size]? = some (.cells #[.int .u8 k, .int .i64 W, .int .i64 H, .int .u8 t, .int .i64 s] 23 (0, 0)) := (bk_alloc (bk_alloc (bk_new _ _) _) _)
  have K2 : (((w.alloc (.cells #[.int .u8 k, .int .i64 W, .int .i64 H, .int .u8 t, .int .i64 s] 23)).alloc (.cells #[.int .i64 x, .int .i64 y] 25)).alloc (.cells #[.int .i64 x, .int .i64 y] 25)).heap[w.heap.size + 1]? = some (.cells #[.int .i64 x, .int .i64 y] 25 (0, 0)) := (bk_alloc (by have := bk_new (w.alloc (.cells #[.int .u8 k, .int .i64 W, .int .i64 H, .int .u8 t, .int .i64 s] 23)) (.cells #[.int .i64 x, .int .i64 y] 25); simpa only [World.size_alloc] using this) _)
  have K3 : (((w.alloc (.cells #[.int .u8 k, .int .i64 W, .int .i64 H, .int .u8 t, .int .i64 s] 23)).alloc (.cells #[.int .i64 x, .int .i64 y] 25)).alloc (.cells #[.int .i64 x, .int .i64 y] 25)).heap[w.heap.size + 1 + 1]? = some (.cells #[.int .i64 x, .int .i64 y] 25 (0, 0)) := (by have := bk_new ((w.alloc (.cells #[.int .u8 k, .int .i64 W, .int .i64 H, .int .u8 t, .int .i64 s] 23)).alloc (.cells #[.int .i64 x, .int .i64 y] 25)) (.cells #[.int .i64 x, .int .i64 y] 25); simpa only [World.size_alloc] using this)
  have hBw : Below w.heap.size w (((w.alloc (.cells #[.int .u8 k, .int .i64 W, .int .i64 H, .int .u8 t, .int .i64 s] 23)).alloc (.cells #[.int .i64 x, .int .i64 y] 25)).alloc (.cells #[.int .i64 x, .int .i64 y] 25)) := ((boxed _ _).alloc (by simp) _).alloc (by simp; try omega) _
  go_enter Try.func14, Try.ntmps14
  go_wp2_with (first | fail)
  generalize hW0 : (((w.alloc (.cells #[.int .u8 k, .int .i64 W, .int .i64 H, .int .u8 t, .int .i64 s] 23)).alloc (.cells #[.int .i64 x, .int .i64 y] 25)).alloc (.cells #[.int .i64 x, .int .i64 y] 25)) = W0 at *
  clear hW0
  have hB := same W0
  have K10 := K1
  have K20 := K2
  have K30 := K3
  refine (of_bad _ _ _ _ _ _ _ t0 h).mono ?_
  rintro e w1 ⟨rfl, hb1⟩
  replace hB := next hB hb1; replace K1 := bk_below K1 hb1; have hcK1 := bk_cell K1; have hfK1 := bk_free K1; have hlK1 := bk_lt K1
  go_wp2
  go_ret2
  exact Ret.of rfl (by repeat (with_reducible (first | exact hBw.trans (hB.mono hBw.size) | refine Below.setCell ?_ (by have h1_ := hBw.size; have h2_ := hB.size; (try simp) <;> omega) _ | refine Below.drew ?_ | refine Below.alloc ?_ (by have h1_ := hBw.size; have h2_ := hB.size; (try simp) <;> omega) _)))

set_option maxHeartbeats 2000000 in
theorem Part_far (k W H t s x y : Int) (w : World) (t0 : 0 ≤ t) (h : checkE k W H t s = 0) (hn : (nearI x && nearI y) = false) :
    Calls Try.prog 14 #[topoV k W H t s, pt x y] w (Ret (.tuple #[.int .i64 0, .int .i64 5]) w) := by
  have h := Lib.hid h
  have HA : Hid ([(x, y)].all nearP = false) := by show [(x, y)].all nearP = false; simpa [nearP] using hn
  clear hn
  have K1 : (((w.alloc (.cells #[.int .u8 k, .int .i64 W, .int .i64 H, .int .u8 t, .int .i64 s] 23)).alloc (.cells #[.int .i64 x, .int .i64 y] 25)).alloc (.cells #[.int .i64 x, .int .i64 y] 25)).heap[w.heap.size]? = some (.cells #[.int .u8 k, .int .i64 W, .int .i64 H, .int .u8 t, .int .i64 s] 23 (0, 0)) := (bk_alloc (bk_alloc (bk_new _ _) _) _)
  have K2 : (((w.alloc (.cells #[.int .u8 k, .int .i64 W, .int .i64 H, .int .u8 t, .int .i64 s] 23)).alloc (.cells #[.int .i64 x, .int .i64 y] 25)).alloc (.cells #[.int .i64 x, .int .i64 y] 25)).heap[w.heap.size + 1]? = some (.cells #[.int .i64 x, .int .i64 y] 25 (0, 0)) := (bk_alloc (by have := bk_new (w.alloc (.cells #[.int .u8 k, .int .i64 W, .int .i64 H, .int .u8 t, .int .i64 s] 23)) (.cells #[.int .i64 x, .int .i64 y] 25); simpa only [World.size_alloc] using this) _)
  have K3 : (((w.alloc (.cells #[.int .u8 k, .int .i64 W, .int .i64 H, .int .u8 t, .int .i64 s] 23)).alloc (.cells #[.int .i64 x, .int .i64 y] 25)).alloc (.cells #[.int .i64 x, .int .i64 y] 25)).heap[w.heap.size + 1 + 1]? = some (.cells #[.int .i64 x, .int .i64 y] 25 (0, 0)) := (by have := bk_new ((w.alloc (.cells #[.int .u8 k, .int .i64 W, .int .i64 H, .int .u8 t, .int .i64 s] 23)).alloc (.cells #[.int .i64 x, .int .i64 y] 25)) (.cells #[.int .i64 x, .int .i64 y] 25); simpa only [World.size_alloc] using this)
  have hBw : Below w.heap.size w (((w.alloc (.cells #[.int .u8 k, .int .i64 W, .int .i64 H, .int .u8 t, .int .i64 s] 23)).alloc (.cells #[.int .i64 x, .int .i64 y] 25)).alloc (.cells #[.int .i64 x, .int .i64 y] 25)) := ((boxed _ _).alloc (by simp) _).alloc (by simp; try omega) _
  go_enter Try.func14, Try.ntmps14
  go_wp2_with (first | fail)
  generalize hW0 : (((w.alloc (.cells #[.int .u8 k, .int .i64 W, .int .i64 H, .int .u8 t, .int .i64 s] 23)).alloc (.cells #[.int .i64 x, .int .i64 y] 25)).alloc (.cells #[.int .i64 x, .int .i64 y] 25)) = W0 at *
  clear hW0
  have hB := same W0
  have K10 := K1
  have K20 := K2
  have K30 := K3
  have HP := Lib.hid (pts_one K3)
  refine (of_pts _ _ _ _ _ _ _ 1 _ [(x, y)] _ t0 h.out rfl (by decide) HP.out).mono ?_
  rintro e w1 ⟨rfl, hb1⟩
  rw [HA.out]; simp only [Bool.false_eq_true, ↓reduceIte]
  replace hB := next hB hb1; replace K1 := bk_below K1 hb1; have hcK1 := bk_cell K1; have hfK1 := bk_free K1; have hlK1 := bk_lt K1
  go_wp2
  go_ret2
  exact Ret.of rfl (by repeat (with_reducible (first | exact hBw.trans (hB.mono hBw.size) | refine Below.setCell ?_ (by have h1_ := hBw.size; have h2_ := hB.size; (try simp) <;> omega) _ | refine Below.drew ?_ | refine Below.alloc ?_ (by have h1_ := hBw.size; have h2_ := hB.size; (try simp) <;> omega) _)))

set_option maxHeartbeats 2000000 in
theorem Part_e (k W H t s x y : Int) (w : World) (t0 : 0 ≤ t) (h : checkE k W H t s = 0) (hx0 : nearI x = true) (hy0 : nearI y = true) (he : cellE k W H t s x y ≠ 0) :
    Calls Try.prog 14 #[topoV k W H t s, pt x y] w (Ret (.tuple #[.int .i64 0, .int .i64 (cellE k W H t s x y)]) w) := by
  obtain ⟨E, hE⟩ : ∃ E, cellE k W H t s x y = E := ⟨_, rfl⟩
  rw [hE] at he ⊢
  have hne : (E != 0) = true := by simpa using he
  have EE := Lib.hid hE; clear hE he
  have hk := Lib.hid h; clear h
  have HA : Hid ([(x, y)].all nearP = true) := by show [(x, y)].all nearP = true; simp [nearP, hx0, hy0]
  have hx := Lib.hid hx0; have hy := Lib.hid hy0
  clear hx0 hy0
  have K1 : (((w.alloc (.cells #[.int .u8 k, .int .i64 W, .int .i64 H, .int .u8 t, .int .i64 s] 23)).alloc (.cells #[.int .i64 x, .int .i64 y] 25)).alloc (.cells #[.int .i64 x, .int .i64 y] 25)).heap[w.heap.size]? = some (.cells #[.int .u8 k, .int .i64 W, .int .i64 H, .int .u8 t, .int .i64 s] 23 (0, 0)) := (bk_alloc (bk_alloc (bk_new _ _) _) _)
  have K2 : (((w.alloc (.cells #[.int .u8 k, .int .i64 W, .int .i64 H, .int .u8 t, .int .i64 s] 23)).alloc (.cells #[.int .i64 x, .int .i64 y] 25)).alloc (.cells #[.int .i64 x, .int .i64 y] 25)).heap[w.heap.size + 1]? = some (.cells #[.int .i64 x, .int .i64 y] 25 (0, 0)) := (bk_alloc (by have := bk_new (w.alloc (.cells #[.int .u8 k, .int .i64 W, .int .i64 H, .int .u8 t, .int .i64 s] 23)) (.cells #[.int .i64 x, .int .i64 y] 25); simpa only [World.size_alloc] using this) _)
  have K3 : (((w.alloc (.cells #[.int .u8 k, .int .i64 W, .int .i64 H, .int .u8 t, .int .i64 s] 23)).alloc (.cells #[.int .i64 x, .int .i64 y] 25)).alloc (.cells #[.int .i64 x, .int .i64 y] 25)).heap[w.heap.size + 1 + 1]? = some (.cells #[.int .i64 x, .int .i64 y] 25 (0, 0)) := (by have := bk_new ((w.alloc (.cells #[.int .u8 k, .int .i64 W, .int .i64 H, .int .u8 t, .int .i64 s] 23)).alloc (.cells #[.int .i64 x, .int .i64 y] 25)) (.cells #[.int .i64 x, .int .i64 y] 25); simpa only [World.size_alloc] using this)
  have hBw : Below w.heap.size w (((w.alloc (.cells #[.int .u8 k, .int .i64 W, .int .i64 H, .int .u8 t, .int .i64 s] 23)).alloc (.cells #[.int .i64 x, .int .i64 y] 25)).alloc (.cells #[.int .i64 x, .int .i64 y] 25)) := ((boxed _ _).alloc (by simp) _).alloc (by simp; try omega) _
  go_enter Try.func14, Try.ntmps14
  go_wp2_with (first | fail)
  generalize hW0 : (((w.alloc (.cells #[.int .u8 k, .int .i64 W, .int .i64 H, .int .u8 t, .int .i64 s] 23)).alloc (.cells #[.int .i64 x, .int .i64 y] 25)).alloc (.cells #[.int .i64 x, .int .i64 y] 25)) = W0 at *
  clear hW0
  have hB := same W0
  have K10 := K1
  have K20 := K2
  have K30 := K3
  have HP := Lib.hid (pts_one K3)
  refine (of_pts _ _ _ _ _ _ _ 1 _ [(x, y)] _ t0 hk.out rfl (by decide) HP.out).mono ?_
  rintro e w1 ⟨rfl, hb1⟩
  rw [HA.out]; simp only [↓reduceIte]
  replace hB := next hB hb1; replace K1 := bk_below K1 hb1; have hcK1 := bk_cell K1; have hfK1 := bk_free K1; have hlK1 := bk_lt K1; replace K2 := bk_below K2 hb1; have hcK2 := bk_cell K2; have hfK2 := bk_free K2; have hlK2 := bk_lt K2
  go_wp2_with (first | fail)
  have KG := bk_new w1 (.cells #[.int .u8 k, .int .i64 W, .int .i64 H, .int .u8 t, .int .i64 s, .int .i64 (first W), .int .i64 (first H)] 64)
  replace hB := next hB (boxed w1 (.cells #[.int .u8 k, .int .i64 W, .int .i64 H, .int .u8 t, .int .i64 s, .int .i64 (first W), .int .i64 (first H)] 64))
  replace K1 := bk_alloc K1 (.cells #[.int .u8 k, .int .i64 W, .int .i64 H, .int .u8 t, .int .i64 s, .int .i64 (first W), .int .i64 (first H)] 64)
  replace K2 := bk_alloc K2 (.cells #[.int .u8 k, .int .i64 W, .int .i64 H, .int .u8 t, .int .i64 s, .int .i64 (first W), .int .i64 (first H)] 64)
  generalize hWG : w1.alloc (.cells #[.int .u8 k, .int .i64 W, .int .i64 H, .int .u8 t, .int .i64 s, .int .i64 (first W), .int .i64 (first H)] 64) = WG at *
  clear hWG
  generalize w1.heap.size = g at *
  refine (cell_calls _ _ _ _ _ _ _ _ hk.out t0 hx.out hy.out).mono ?_
  rintro e w2 ⟨rfl, hb1⟩
  rw [EE.out]
  replace hB := next hB hb1
  go_wp2
  go_ret2
  exact Ret.of rfl (by repeat (with_reducible (first | exact hBw.trans (hB.mono hBw.size) | refine Below.setCell ?_ (by have h1_ := hBw.size; have h2_ := hB.size; (try simp) <;> omega) _ | refine Below.drew ?_ | refine Below.alloc ?_ (by have h1_ := hBw.size; have h2_ := hB.size; (try simp) <;> omega) _)))

set_option maxRecDepth 20000 in
set_option maxHeartbeats 8000000 in
theorem Part_ok11 (k W H t s x y : Int) (w : World) (t0 : 0 ≤ t) (h : checkE k W H t s = 0) (hx0 : nearI x = true) (hy0 : nearI y = true) (he : cellE k W H t s x y = 0) (hW : 0 < W) (hH : 0 < H) :
    Calls Try.prog 14 #[topoV k W H t s, pt x y] w (Ret (.tuple #[.int .i64 (partN k W H t s x y), .int .i64 0]) w) := by
  have h0 := topoOk t0 h
  have hpe := part_eq h0 h he
  have w0 := h0.w0; have w1_ := h0.w1; have h0_ := h0.h0; have h1_ := h0.h1
  obtain ⟨f1, f2⟩ := first_bounds W w0 w1_
  obtain ⟨f3, f4⟩ := first_bounds H h0_ h1_
  obtain ⟨x1, x2⟩ := nearI_iff.1 hx0
  obtain ⟨y1, y2⟩ := nearI_iff.1 hy0
  have EE := Lib.hid he; clear he
  have hgm := glue_k (k := k) (W := W) (H := H) (t := t) (s := s)
  have hge : glueE k W H t s = 0 := if_neg (by simp [h])
  obtain ⟨hln, hl2⟩ := glue_len (k := k) (W := W) (H := H) (t := t) (s := s) (x - first W) (y - first H)
  have hT : tilesL W H (x - first W) (y - first H) = [(x - first W) / W, (y - first H) / H] := by unfold tilesL; simp [hW, hH]
  have hgl := fun w => Glue_calls k W H t s w t0
  rw [hge] at hgl
  obtain ⟨u, hu⟩ : ∃ u, x - first W = u := ⟨_, rfl⟩
  obtain ⟨v, hv⟩ : ∃ v, y - first H = v := ⟨_, rfl⟩
  have u1 : -2199023255552 ≤ u := by omega
  have u2 : u ≤ 2199023255552 := by omega
  have v1 : -2199023255552 ≤ v := by omega
  have v2 : v ≤ 2199023255552 := by omega
  have gU : (if 0 < W then x - first W else x) = u := (gluedU w0).trans hu
  have gV : (if 0 < H then y - first H else y) = v := (gluedU h0_).trans hv
  rw [hu] at hpe hln hT; rw [hv] at hpe hln hT
  clear hu hv
  obtain ⟨L, hL⟩ : ∃ L, glueL k W H t s = L := ⟨_, rfl⟩
  rw [hL] at hgl hgm hpe hln hl2
  clear hL
  obtain ⟨TS, hTS⟩ : ∃ TS, tilesL W H u v = TS := ⟨_, rfl⟩
  rw [hTS] at hpe hln hT
  clear hTS hge h0
  obtain ⟨N, hN⟩ : ∃ N, L.length = N := ⟨_, rfl⟩
  rw [hN] at hpe hln hl2
  obtain ⟨X, hX⟩ : ∃ X, partN k W H t s x y = X := ⟨_, rfl⟩
  rw [hX] at hpe ⊢
  clear hX
  have HPE := Lib.hid hpe; have HGM := Lib.hid hgm; have HT := Lib.hid hT; have HN := Lib.hid hN; have HGL := Lib.hid hgl
  have GU := Lib.hid gU; have GV := Lib.hid gV
  clear hpe hgm hT hN hgl gU gV
  have hk := Lib.hid h; clear h
  have HA : Hid ([(x, y)].all nearP = true) := by show [(x, y)].all nearP = true; simp [nearP, hx0, hy0]
  have hx := Lib.hid hx0; have hy := Lib.hid hy0
  clear hx0 hy0
  have K1 : (((w.alloc (.cells #[.int .u8 k, .int .i64 W, .int .i64 H, .int .u8 t, .int .i64 s] 23)).alloc (.cells #[.int .i64 x, .int .i64 y] 25)).alloc (.cells #[.int .i64 x, .int .i64 y] 25)).heap[w.heap.size]? = some (.cells #[.int .u8 k, .int .i64 W, .int .i64 H, .int .u8 t, .int .i64 s] 23 (0, 0)) := (bk_alloc (bk_alloc (bk_new _ _) _) _)
  have K2 : (((w.alloc (.cells #[.int .u8 k, .int .i64 W, .int .i64 H, .int .u8 t, .int .i64 s] 23)).alloc (.cells #[.int .i64 x, .int .i64 y] 25)).alloc (.cells #[.int .i64 x, .int .i64 y] 25)).heap[w.heap.size + 1]? = some (.cells #[.int .i64 x, .int .i64 y] 25 (0, 0)) := (bk_alloc (by have := bk_new (w.alloc (.cells #[.int .u8 k, .int .i64 W, .int .i64 H, .int .u8 t, .int .i64 s] 23)) (.cells #[.int .i64 x, .int .i64 y] 25); simpa only [World.size_alloc] using this) _)
  have K3 : (((w.alloc (.cells #[.int .u8 k, .int .i64 W, .int .i64 H, .int .u8 t, .int .i64 s] 23)).alloc (.cells #[.int .i64 x, .int .i64 y] 25)).alloc (.cells #[.int .i64 x, .int .i64 y] 25)).heap[w.heap.size + 1 + 1]? = some (.cells #[.int .i64 x, .int .i64 y] 25 (0, 0)) := (by have := bk_new ((w.alloc (.cells #[.int .u8 k, .int .i64 W, .int .i64 H, .int .u8 t, .int .i64 s] 23)).alloc (.cells #[.int .i64 x, .int .i64 y] 25)) (.cells #[.int .i64 x, .int .i64 y] 25); simpa only [World.size_alloc] using this)
  have hBw : Below w.heap.size w (((w.alloc (.cells #[.int .u8 k, .int .i64 W, .int .i64 H, .int .u8 t, .int .i64 s] 23)).alloc (.cells #[.int .i64 x, .int .i64 y] 25)).alloc (.cells #[.int .i64 x, .int .i64 y] 25)) := ((boxed _ _).alloc (by simp) _).alloc (by simp; try omega) _
  go_enter Try.func14, Try.ntmps14
  go_wp2_with (first | fail)
  generalize hW0 : (((w.alloc (.cells #[.int .u8 k, .int .i64 W, .int .i64 H, .int .u8 t, .int .i64 s] 23)).alloc (.cells #[.int .i64 x, .int .i64 y] 25)).alloc (.cells #[.int .i64 x, .int .i64 y] 25)) = W0 at *
  clear hW0
  have hB := same W0
  have K10 := K1
  have K20 := K2
  have K30 := K3
  have HP := Lib.hid (pts_one K3)
  refine (of_pts _ _ _ _ _ _ _ 1 _ [(x, y)] _ t0 hk.out rfl (by decide) HP.out).mono ?_
  rintro e w1 ⟨rfl, hb1⟩
  rw [HA.out]; simp only [↓reduceIte]
  replace hB := next hB hb1; replace K1 := bk_below K1 hb1; have hcK1 := bk_cell K1; have hfK1 := bk_free K1; have hlK1 := bk_lt K1; replace K2 := bk_below K2 hb1; have hcK2 := bk_cell K2; have hfK2 := bk_free K2; have hlK2 := bk_lt K2
  go_wp2_with (first | fail)
  have KG := bk_new w1 (.cells #[.int .u8 k, .int .i64 W, .int .i64 H, .int .u8 t, .int .i64 s, .int .i64 (first W), .int .i64 (first H)] 64)
  replace hB := next hB (boxed w1 (.cells #[.int .u8 k, .int .i64 W, .int .i64 H, .int .u8 t, .int .i64 s, .int .i64 (first W), .int .i64 (first H)] 64))
  replace K1 := bk_alloc K1 (.cells #[.int .u8 k, .int .i64 W, .int .i64 H, .int .u8 t, .int .i64 s, .int .i64 (first W), .int .i64 (first H)] 64)
  replace K2 := bk_alloc K2 (.cells #[.int .u8 k, .int .i64 W, .int .i64 H, .int .u8 t, .int .i64 s, .int .i64 (first W), .int .i64 (first H)] 64)
  generalize hWG : w1.alloc (.cells #[.int .u8 k, .int .i64 W, .int .i64 H, .int .u8 t, .int .i64 s, .int .i64 (first W), .int .i64 (first H)] 64) = WG at *
  clear hWG
  generalize w1.heap.size = g at *
  refine (cell_calls _ _ _ _ _ _ _ _ hk.out t0 hx.out hy.out).mono ?_
  rintro e w2 ⟨rfl, hb1⟩
  rw [EE.out]
  replace hB := next hB hb1
  replace K1 := bk_below K1 hb1; replace K2 := bk_below K2 hb1; replace KG := bk_below KG hb1
  have hc1 := bk_cell K1; have hl1 := bk_lt K1; have hc2 := bk_cell K2; have hl2 := bk_lt K2; have hcG := bk_cell KG; have hlG := bk_lt KG
  go_wp2_with (first | fail)
  refine (HGL.out _).mono ?_
  rintro e w3 ⟨vm, rfl, hb1, hom⟩
  replace hB := next hB (box hb1)
  replace K1 := bk_below K1 (box hb1); replace K2 := bk_below K2 (box hb1); replace KG := bk_below KG (box hb1)
  have hc1 := bk_cell K1; have hl1 := bk_lt K1; have hc2 := bk_cell K2; have hl2 := bk_lt K2; have hcG := bk_cell KG; have hlG := bk_lt KG
  have hM := same w3
  rw [HN.out] at hom
  go_wp2_with (first | fail)
  refine (home_calls _ _ _ _ _ _ _ _ _ _ f1 f2 f3 f4 x1 x2 y1 y2).mono ?_
  rintro e w4 ⟨rfl, hb1⟩
  rw [GU.out, GV.out]
  replace hB := next hB hb1; replace hM := next hM hb1
  replace KG := bk_below KG hb1
  have hcG := bk_cell KG; have hlG := bk_lt KG
  go_wp2_with (first | fail)
  refine (cut_calls _ _ _ w0 w1_ (by omega) (by omega)).mono ?_
  rintro e w5 ⟨rfl, hb1⟩
  replace hB := next hB hb1; replace hM := next hM hb1
  replace KG := bk_below KG hb1
  have hcG := bk_cell KG; have hlG := bk_lt KG
  go_wp2_with (first | fail)
  refine (cut_calls _ _ _ h0_ h1_ (by omega) (by omega)).mono ?_
  rintro e w6 ⟨rfl, hb1⟩
  replace hB := next hB hb1; replace hM := next hM hb1
  replace KG := bk_below KG hb1
  have hcG := bk_cell KG; have hlG := bk_lt KG
  have hwb := hBw.size; have hwb2 := hB.size
  have hQ := same w6; have KGS := KG
  rcases ownsRow_forms_ hom with ⟨rfl, h0N⟩ | ⟨gm, cap, rfl⟩
  · have HPX : Hid (X = 0) := by
      show X = 0
      have := HPE.out
      rw [h0N] at this
      simpa [partS] using this.symm
    clear hom HPE HGM HT HN hln
    go_wp2_with (first | (at_builtin; (refine app_nil rfl (.tmp 74) (.tmp 76) 48 rfl w6.heap.size 3 _ 1 8 Try.underlying48 int_info rfl (by decide) (by decide) (by rfl) _ _ #[.int .i64 (u / W)] (by rfl) (by exact bk_newn _ _ _ (by first | rfl | simp)) rfl (by simp [Value.oneCell']) (by simp) ?_); intro v0 wv0 hown hbv; (replace hQ := next (w := w6) (by repeat (with_reducible (first | exact hQ | refine Below.setCell ?_ (by have h2_ := hQ.size; (try simp) <;> omega) _ | refine Below.drew ?_ | refine Below.alloc ?_ (by have h2_ := hQ.size; (try simp) <;> omega) _))) hbv); (replace KG := bk_below KGS hQ); have hC := same wv0; have hcG := bk_cell KG; have hlG := bk_lt KG) | (at_builtin; (refine app_own rfl (.tmp 82) (.tmp 84) 48 rfl w6.heap.size 3 _ 1 8 Try.underlying48 int_info rfl (by decide) (by decide) _ _ _ (by rfl) (by exact own_below hown (by repeat (with_reducible (first | exact hC | refine Below.setCell ?_ (by have h2_ := hC.size; (try simp) <;> omega) _ | refine Below.drew ?_ | refine Below.alloc ?_ (by have h2_ := hC.size; (try simp) <;> omega) _)))) (by decide) _ _ #[.int .i64 (v / H)] (by rfl) (by exact bk_newn _ _ _ (by first | rfl | simp)) rfl (by simp [Value.oneCell']) (by have h2_ := hQ.size; (try simp) <;> omega) ?_); intro v1 wv1 hown2 hbv2 hgr; (replace hQ := Below.trans (a := w6) (by repeat (with_reducible (first | exact hQ | refine Below.setCell ?_ (by have h2_ := hQ.size; (try simp) <;> omega) _ | refine Below.drew ?_ | refine Below.alloc ?_ (by have h2_ := hQ.size; (try simp) <;> omega) _))) hbv2)) | fail)
    refine wp_loop_rounds 1 ?_
    rw [rounds_succ]
    go_wp2_with (first | (go_at_call 45; ((with_reducible refine (Which_calls _ _ _ _ false 0 0 0 _ ⟨by decide, by decide, isW_one, isW_zero, isW_zero, isW_zero⟩ near0 near0).mono ?_); rintro e w8 ⟨rfl, hb1⟩)))
    go_ret2
    refine Ret.of (by rw [HPX.out]; rfl) ?_
    have hB2 := hB.trans (hQ.mono hB.size)
    exact hBw.trans (Below.mono (next hB2 (box hb1)) hBw.size)
  · have hmv := Lib.hid (mvs_of HN.out.symm hom)
    clear hom
    go_wp2_with (first | (at_builtin; (refine app_nil rfl (.tmp 74) (.tmp 76) 48 rfl w6.heap.size 3 _ 1 8 Try.underlying48 int_info rfl (by decide) (by decide) (by rfl) _ _ #[.int .i64 (u / W)] (by rfl) (by exact bk_newn _ _ _ (by first | rfl | simp)) rfl (by simp [Value.oneCell']) (by simp) ?_); intro v0 wv0 hown hbv; (replace hQ := next (w := w6) (by repeat (with_reducible (first | exact hQ | refine Below.setCell ?_ (by have h2_ := hQ.size; (try simp) <;> omega) _ | refine Below.drew ?_ | refine Below.alloc ?_ (by have h2_ := hQ.size; (try simp) <;> omega) _))) hbv); (replace KG := bk_below KGS hQ); have hC := same wv0; have hcG := bk_cell KG; have hlG := bk_lt KG) | (at_builtin; (refine app_own rfl (.tmp 82) (.tmp 84) 48 rfl w6.heap.size 3 _ 1 8 Try.underlying48 int_info rfl (by decide) (by decide) _ _ _ (by rfl) (by exact own_below hown (by repeat (with_reducible (first | exact hC | refine Below.setCell ?_ (by have h2_ := hC.size; (try simp) <;> omega) _ | refine Below.drew ?_ | refine Below.alloc ?_ (by have h2_ := hC.size; (try simp) <;> omega) _)))) (by decide) _ _ #[.int .i64 (v / H)] (by rfl) (by exact bk_newn _ _ _ (by first | rfl | simp)) rfl (by simp [Value.oneCell']) (by have h2_ := hQ.size; (try simp) <;> omega) ?_); intro v1 wv1 hown2 hbv2 hgr; (replace hQ := Below.trans (a := w6) (by repeat (with_reducible (first | exact hQ | refine Below.setCell ?_ (by have h2_ := hQ.size; (try simp) <;> omega) _ | refine Below.drew ?_ | refine Below.alloc ?_ (by have h2_ := hQ.size; (try simp) <;> omega) _))) hbv2)) | fail)
    replace hown2 : World.ownsRow wv1 w6.heap.size 3 1 v1 2 [.int .i64 (u / W), .int .i64 (v / H)] := hown2
    obtain ⟨gt, ct, rfl⟩ := own_form hown2 (by decide)
    have hti := Lib.hid (ints_of (l := [u / W, v / H]) hown2)
    clear hown2
    have hmq := Lib.hid ((hmv.out.below hM).below hQ)
    clear hmv hM
    have KPt := bk_new wv1 (.cells #[.complex .f64 4607182418800017408 0, .bool false, .complex .f64 0 0] 41)
    have a1 := and1
    go_loopw [89] (fun i wr => ∃ (j : Nat) (tr ti mr mi : Nat), i = .int .i64 j ∧ j ≤ N ∧ wr.heap[wv1.heap.size]? = some (.cells #[.complex .f64 tr ti, .bool (partS L TS j).2, .complex .f64 mr mi] 41 (0, 0)) ∧ IsIso tr ti mr mi (partS L TS j).1 0 0 ∧ Below wv1.heap.size wv1 wr) (fun i _ => N - (intOf i).toNat)
    case atStart => exact ⟨0, 4607182418800017408, 0, 0, 0, rfl, Nat.zero_le _, KPt, ⟨by show (0 : Int) ≤ 0; decide, by show (0 : Int) ≤ 3; decide, isW_one, isW_zero, isW_zero, isW_zero⟩, boxed _ _⟩
    case round =>
      obtain ⟨j, tr, ti, mr, mi, rfl, hj, KP, hI, hR⟩ := hrel
      clear KPt
      have hcP := bk_cell KP; have hfP := bk_free KP; have hlP := bk_lt KP
      by_cases hlt : j < N
      · obtain ⟨m, hm⟩ : ∃ m, L[j]? = some m := ⟨_, List.getElem?_eq_getElem (by rw [HN.out]; exact hlt)⟩
        obtain ⟨i, hi⟩ : ∃ i, TS[j]? = some i := ⟨_, List.getElem?_eq_getElem (by omega)⟩
        have hm0 : wr.cell? ⟨gm, j * 3, none⟩ = some (.complex .f64 (mvR m.k) 0) := cell_later hR (hmq.out j m hm).1
        have hm1 : wr.cell? ⟨gm, j * 3 + 1, none⟩ = some (.bool m.f) := cell_later hR (hmq.out j m hm).2.1
        have hm2 : wr.cell? ⟨gm, j * 3 + 2, none⟩ = some (.complex .f64 (fl m.x) (fl m.y)) := cell_later hR (hmq.out j m hm).2.2
        have hct : wr.cell? ⟨gt, j, none⟩ = some (.int .i64 i) := cell_later hR (hti.out j i (by rw [← HT.out]; exact hi))
        have hgtl := cell_lt hct
        have hjT : j < 2 := by have h_ := hln; rw [HT.out] at h_; simp at h_; omega
        have hmk := HGM.out m (List.mem_of_getElem? hm)
        have hb3 := mvR_isIso hmk isW_zero isW_zero
        clear hmk
        rcases (show i % 2 = 0 ∨ i % 2 = 1 by omega) with ho | ho
        · have hst := Lib.hid (partS_even hm hi ho)
          clear hm hi
          obtain ⟨F, hF⟩ : ∃ F, (partS L TS j).2 = F := ⟨_, rfl⟩
          rw [hF] at KP hcP
          have HF := Lib.hid hF; clear hF
          go_wp2
          go_roundw
          case rel => exact ⟨j + 1, tr, ti, mr, mi, by go_num, by omega, by rw [hst.out, HF.out]; exact (by repeat (with_reducible (first | exact KP | apply bk_set | refine bk_drew ?_ | refine bk_drewN ?_ _ | refine bk_alloc ?_ _ | refine bk_far ?_ (by simp; try omega) _))), by rw [hst.out]; exact hI, (by repeat (with_reducible (first | exact hR | refine Below.setCell ?_ (by have h2_ := hR.size; (try simp) <;> omega) _ | refine Below.drew ?_ | refine Below.alloc ?_ (by have h2_ := hR.size; (try simp) <;> omega) _)))⟩
          case measure => simp [intOf]; omega
        · have hst := Lib.hid (partS_odd hm hi ho)
          clear hm hi
          obtain ⟨F, hF⟩ : ∃ F, (partS L TS j).2 = F := ⟨_, rfl⟩
          obtain ⟨KK, hK⟩ : ∃ KK, (partS L TS j).1 = KK := ⟨_, rfl⟩
          rw [hF] at KP hcP
          rw [hK] at hI
          have HF := Lib.hid hF; clear hF
          have HK2 := Lib.hid hK; clear hK
          go_wp2_with (first | fail)
          refine (Then0_calls _ _ _ _ _ _ _ _ _ _ _ _ _ hI hb3).mono ?_
          rintro e w8 ⟨xr, xi, yr, yi, rfl, hx, hb1⟩
          replace KP := bk_below KP (box hb1)
          replace hR := next hR (box hb1)
          have hcP := bk_cell KP; have hfP := bk_free KP; have hlP := bk_lt KP
          go_wp2
          go_roundw
          case rel => exact ⟨j + 1, xr, xi, yr, yi, by go_num, by omega, by rw [hst.out, HF.out]; refine bk_eq (by repeat (with_reducible (first | exact KP | apply bk_set | refine bk_drew ?_ | refine bk_drewN ?_ _ | refine bk_alloc ?_ _ | refine bk_far ?_ (by simp; try omega) _))) ?_; rfl, by rw [hst.out, HK2.out]; exact hx, (by repeat (with_reducible (first | exact hR | refine Below.setCell ?_ (by have h2_ := hR.size; (try simp) <;> omega) _ | refine Below.drew ?_ | refine Below.alloc ?_ (by have h2_ := hR.size; (try simp) <;> omega) _)))⟩
          case measure => simp [intOf]; omega
      · obtain rfl : j = N := by omega
        have HPX : Hid ((if (partS L TS j).2 = true then (partS L TS j).1 + 4 else (partS L TS j).1) = X) := HPE.out
        obtain ⟨F, hF⟩ : ∃ F, (partS L TS j).2 = F := ⟨_, rfl⟩
        obtain ⟨KK, hK⟩ : ∃ KK, (partS L TS j).1 = KK := ⟨_, rfl⟩
        rw [hF] at KP hcP
        rw [hK] at hI
        rw [hF, hK] at HPX
        clear hF hK HPE HT HN hln HGM
        go_wp2_with (first | (go_at_call 45; ((with_reducible refine (Which_calls _ _ _ _ _ _ _ _ _ hI near0 near0).mono ?_); rintro e w8 ⟨rfl, hb1⟩; rw [HPX.out])))
        go_ret2
        have hB2 := (hB.trans (hQ.mono hB.size)).trans (hR.mono (Nat.le_trans hB.size hQ.size))
        exact Ret.of rfl (hBw.trans (Below.mono (next hB2 hb1) hBw.size))

set_option maxRecDepth 20000 in
set_option maxHeartbeats 8000000 in
theorem Part_ok10 (k W H t s x y : Int) (w : World) (t0 : 0 ≤ t) (h : checkE k W H t s = 0) (hx0 : nearI x = true) (hy0 : nearI y = true) (he : cellE k W H t s x y = 0) (hW : 0 < W) (hH : ¬ 0 < H) :
    Calls Try.prog 14 #[topoV k W H t s, pt x y] w (Ret (.tuple #[.int .i64 (partN k W H t s x y), .int .i64 0]) w) := by
  have h0 := topoOk t0 h
  have hpe := part_eq h0 h he
  have w0 := h0.w0; have w1_ := h0.w1; have h0_ := h0.h0; have h1_ := h0.h1
  obtain ⟨f1, f2⟩ := first_bounds W w0 w1_
  obtain ⟨f3, f4⟩ := first_bounds H h0_ h1_
  obtain ⟨x1, x2⟩ := nearI_iff.1 hx0
  obtain ⟨y1, y2⟩ := nearI_iff.1 hy0
  have EE := Lib.hid he; clear he
  have hgm := glue_k (k := k) (W := W) (H := H) (t := t) (s := s)
  have hge : glueE k W H t s = 0 := if_neg (by simp [h])
  obtain ⟨hln, hl2⟩ := glue_len (k := k) (W := W) (H := H) (t := t) (s := s) (x - first W) (y - first H)
  have hT : tilesL W H (x - first W) (y - first H) = [(x - first W) / W] := by unfold tilesL; simp [hW, hH]
  have hgl := fun w => Glue_calls k W H t s w t0
  rw [hge] at hgl
  obtain ⟨u, hu⟩ : ∃ u, x - first W = u := ⟨_, rfl⟩
  obtain ⟨v, hv⟩ : ∃ v, y - first H = v := ⟨_, rfl⟩
  have u1 : -2199023255552 ≤ u := by omega
  have u2 : u ≤ 2199023255552 := by omega
  have v1 : -2199023255552 ≤ v := by omega
  have v2 : v ≤ 2199023255552 := by omega
  have gU : (if 0 < W then x - first W else x) = u := (gluedU w0).trans hu
  have gV : (if 0 < H then y - first H else y) = v := (gluedU h0_).trans hv
  rw [hu] at hpe hln hT; rw [hv] at hpe hln hT
  clear hu hv
  obtain ⟨L, hL⟩ : ∃ L, glueL k W H t s = L := ⟨_, rfl⟩
  rw [hL] at hgl hgm hpe hln hl2
  clear hL
  obtain ⟨TS, hTS⟩ : ∃ TS, tilesL W H u v = TS := ⟨_, rfl⟩
  rw [hTS] at hpe hln hT
  clear hTS hge h0
  obtain ⟨N, hN⟩ : ∃ N, L.length = N := ⟨_, rfl⟩
  rw [hN] at hpe hln hl2
  obtain ⟨X, hX⟩ : ∃ X, partN k W H t s x y = X := ⟨_, rfl⟩
  rw [hX] at hpe ⊢
  clear hX
  have HPE := Lib.hid hpe; have HGM := Lib.hid hgm; have HT := Lib.hid hT; have HN := Lib.hid hN; have HGL := Lib.hid hgl
  have GU := Lib.hid gU; have GV := Lib.hid gV
  clear hpe hgm hT hN hgl gU gV
  have hk := Lib.hid h; clear h
  have HA : Hid ([(x, y)].all nearP = true) := by show [(x, y)].all nearP = true; simp [nearP, hx0, hy0]
  have hx := Lib.hid hx0; have hy := Lib.hid hy0
  clear hx0 hy0
  have K1 : (((w.alloc (.cells #[.int .u8 k, .int .i64 W, .int .i64 H, .int .u8 t, .int .i64 s] 23)).alloc (.cells #[.int .i64 x, .int .i64 y] 25)).alloc (.cells #[.int .i64 x, .int .i64 y] 25)).heap[w.heap.size]? = some (.cells #[.int .u8 k, .int .i64 W, .int .i64 H, .int .u8 t, .int .i64 s] 23 (0, 0)) := (bk_alloc (bk_alloc (bk_new _ _) _) _)
  have K2 : (((w.alloc (.cells #[.int .u8 k, .int .i64 W, .int .i64 H, .int .u8 t, .int .i64 s] 23)).alloc (.cells #[.int .i64 x, .int .i64 y] 25)).alloc (.cells #[.int .i64 x, .int .i64 y] 25)).heap[w.heap.size + 1]? = some (.cells #[.int .i64 x, .int .i64 y] 25 (0, 0)) := (bk_alloc (by have := bk_new (w.alloc (.cells #[.int .u8 k, .int .i64 W, .int .i64 H, .int .u8 t, .int .i64 s] 23)) (.cells #[.int .i64 x, .int .i64 y] 25); simpa only [World.size_alloc] using this) _)
  have K3 : (((w.alloc (.cells #[.int .u8 k, .int .i64 W, .int .i64 H, .int .u8 t, .int .i64 s] 23)).alloc (.cells #[.int .i64 x, .int .i64 y] 25)).alloc (.cells #[.int .i64 x, .int .i64 y] 25)).heap[w.heap.size + 1 + 1]? = some (.cells #[.int .i64 x, .int .i64 y] 25 (0, 0)) := (by have := bk_new ((w.alloc (.cells #[.int .u8 k, .int .i64 W, .int .i64 H, .int .u8 t, .int .i64 s] 23)).alloc (.cells #[.int .i64 x, .int .i64 y] 25)) (.cells #[.int .i64 x, .int .i64 y] 25); simpa only [World.size_alloc] using this)
  have hBw : Below w.heap.size w (((w.alloc (.cells #[.int .u8 k, .int .i64 W, .int .i64 H, .int .u8 t, .int .i64 s] 23)).alloc (.cells #[.int .i64 x, .int .i64 y] 25)).alloc (.cells #[.int .i64 x, .int .i64 y] 25)) := ((boxed _ _).alloc (by simp) _).alloc (by simp; try omega) _
  go_enter Try.func14, Try.ntmps14
  go_wp2_with (first | fail)
  generalize hW0 : (((w.alloc (.cells #[.int .u8 k, .int .i64 W, .int .i64 H, .int .u8 t, .int .i64 s] 23)).alloc (.cells #[.int .i64 x, .int .i64 y] 25)).alloc (.cells #[.int .i64 x, .int .i64 y] 25)) = W0 at *
  clear hW0
  have hB := same W0
  have K10 := K1
  have K20 := K2
  have K30 := K3
  have HP := Lib.hid (pts_one K3)
  refine (of_pts _ _ _ _ _ _ _ 1 _ [(x, y)] _ t0 hk.out rfl (by decide) HP.out).mono ?_
  rintro e w1 ⟨rfl, hb1⟩
  rw [HA.out]; simp only [↓reduceIte]
  replace hB := next hB hb1; replace K1 := bk_below K1 hb1; have hcK1 := bk_cell K1; have hfK1 := bk_free K1; have hlK1 := bk_lt K1; replace K2 := bk_below K2 hb1; have hcK2 := bk_cell K2; have hfK2 := bk_free K2; have hlK2 := bk_lt K2
  go_wp2_with (first | fail)
  have KG := bk_new w1 (.cells #[.int .u8 k, .int .i64 W, .int .i64 H, .int .u8 t, .int .i64 s, .int .i64 (first W), .int .i64 (first H)] 64)
  replace hB := next hB (boxed w1 (.cells #[.int .u8 k, .int .i64 W, .int .i64 H, .int .u8 t, .int .i64 s, .int .i64 (first W), .int .i64 (first H)] 64))
  replace K1 := bk_alloc K1 (.cells #[.int .u8 k, .int .i64 W, .int .i64 H, .int .u8 t, .int .i64 s, .int .i64 (first W), .int .i64 (first H)] 64)
  replace K2 := bk_alloc K2 (.cells #[.int .u8 k, .int .i64 W, .int .i64 H, .int .u8 t, .int .i64 s, .int .i64 (first W), .int .i64 (first H)] 64)
  generalize hWG : w1.alloc (.cells #[.int .u8 k, .int .i64 W, .int .i64 H, .int .u8 t, .int .i64 s, .int .i64 (first W), .int .i64 (first H)] 64) = WG at *
  clear hWG
  generalize w1.heap.size = g at *
  refine (cell_calls _ _ _ _ _ _ _ _ hk.out t0 hx.out hy.out).mono ?_
  rintro e w2 ⟨rfl, hb1⟩
  rw [EE.out]
  replace hB := next hB hb1
  replace K1 := bk_below K1 hb1; replace K2 := bk_below K2 hb1; replace KG := bk_below KG hb1
  have hc1 := bk_cell K1; have hl1 := bk_lt K1; have hc2 := bk_cell K2; have hl2 := bk_lt K2; have hcG := bk_cell KG; have hlG := bk_lt KG
  go_wp2_with (first | fail)
  refine (HGL.out _).mono ?_
  rintro e w3 ⟨vm, rfl, hb1, hom⟩
  replace hB := next hB (box hb1)
  replace K1 := bk_below K1 (box hb1); replace K2 := bk_below K2 (box hb1); replace KG := bk_below KG (box hb1)
  have hc1 := bk_cell K1; have hl1 := bk_lt K1; have hc2 := bk_cell K2; have hl2 := bk_lt K2; have hcG := bk_cell KG; have hlG := bk_lt KG
  have hM := same w3
  rw [HN.out] at hom
  go_wp2_with (first | fail)
  refine (home_calls _ _ _ _ _ _ _ _ _ _ f1 f2 f3 f4 x1 x2 y1 y2).mono ?_
  rintro e w4 ⟨rfl, hb1⟩
  rw [GU.out, GV.out]
  replace hB := next hB hb1; replace hM := next hM hb1
  replace KG := bk_below KG hb1
  have hcG := bk_cell KG; have hlG := bk_lt KG
  go_wp2_with (first | fail)
  refine (cut_calls _ _ _ w0 w1_ (by omega) (by omega)).mono ?_
  rintro e w5 ⟨rfl, hb1⟩
  replace hB := next hB hb1; replace hM := next hM hb1
  replace KG := bk_below KG hb1
  have hcG := bk_cell KG; have hlG := bk_lt KG
  go_wp2_with (first | fail)
  refine (cut_calls _ _ _ h0_ h1_ (by omega) (by omega)).mono ?_
  rintro e w6 ⟨rfl, hb1⟩
  replace hB := next hB hb1; replace hM := next hM hb1
  replace KG := bk_below KG hb1
  have hcG := bk_cell KG; have hlG := bk_lt KG
  have hwb := hBw.size; have hwb2 := hB.size
  have hQ := same w6; have KGS := KG
  rcases ownsRow_forms_ hom with ⟨rfl, h0N⟩ | ⟨gm, cap, rfl⟩
  · have HPX : Hid (X = 0) := by
      show X = 0
      have := HPE.out
      rw [h0N] at this
      simpa [partS] using this.symm
    clear hom HPE HGM HT HN hln
    go_wp2_with (first | (at_builtin; (refine app_nil rfl (.tmp 74) (.tmp 76) 48 rfl w6.heap.size 3 _ 1 8 Try.underlying48 int_info rfl (by decide) (by decide) (by rfl) _ _ #[.int .i64 (u / W)] (by rfl) (by exact bk_newn _ _ _ (by first | rfl | simp)) rfl (by simp [Value.oneCell']) (by simp) ?_); intro v0 wv0 hown hbv; (replace hQ := next (w := w6) (by repeat (with_reducible (first | exact hQ | refine Below.setCell ?_ (by have h2_ := hQ.size; (try simp) <;> omega) _ | refine Below.drew ?_ | refine Below.alloc ?_ (by have h2_ := hQ.size; (try simp) <;> omega) _))) hbv); (replace KG := bk_below KGS hQ); have hC := same wv0; have hcG := bk_cell KG; have hlG := bk_lt KG) | fail)
    refine wp_loop_rounds 1 ?_
    rw [rounds_succ]
    go_wp2_with (first | (go_at_call 45; ((with_reducible refine (Which_calls _ _ _ _ false 0 0 0 _ ⟨by decide, by decide, isW_one, isW_zero, isW_zero, isW_zero⟩ near0 near0).mono ?_); rintro e w8 ⟨rfl, hb1⟩)))
    go_ret2
    refine Ret.of (by rw [HPX.out]; rfl) ?_
    have hB2 := hB.trans (hQ.mono hB.size)
    exact hBw.trans (Below.mono (next hB2 (box hb1)) hBw.size)
  · have hmv := Lib.hid (mvs_of HN.out.symm hom)
    clear hom
    go_wp2_with (first | (at_builtin; (refine app_nil rfl (.tmp 74) (.tmp 76) 48 rfl w6.heap.size 3 _ 1 8 Try.underlying48 int_info rfl (by decide) (by decide) (by rfl) _ _ #[.int .i64 (u / W)] (by rfl) (by exact bk_newn _ _ _ (by first | rfl | simp)) rfl (by simp [Value.oneCell']) (by simp) ?_); intro v0 wv0 hown hbv; (replace hQ := next (w := w6) (by repeat (with_reducible (first | exact hQ | refine Below.setCell ?_ (by have h2_ := hQ.size; (try simp) <;> omega) _ | refine Below.drew ?_ | refine Below.alloc ?_ (by have h2_ := hQ.size; (try simp) <;> omega) _))) hbv); (replace KG := bk_below KGS hQ); have hC := same wv0; have hcG := bk_cell KG; have hlG := bk_lt KG) | fail)
    replace hown : World.ownsRow wv0 w6.heap.size 3 1 v0 1 [.int .i64 (u / W)] := hown
    obtain ⟨gt, ct, rfl⟩ := own_form hown (by decide)
    have hti := Lib.hid (ints_of (l := [u / W]) hown)
    clear hown
    have hmq := Lib.hid ((hmv.out.below hM).below hQ)
    clear hmv hM
    have KPt := bk_new wv0 (.cells #[.complex .f64 4607182418800017408 0, .bool false, .complex .f64 0 0] 41)
    have a1 := and1
    go_loopw [89] (fun i wr => ∃ (j : Nat) (tr ti mr mi : Nat), i = .int .i64 j ∧ j ≤ N ∧ wr.heap[wv0.heap.size]? = some (.cells #[.complex .f64 tr ti, .bool (partS L TS j).2, .complex .f64 mr mi] 41 (0, 0)) ∧ IsIso tr ti mr mi (partS L TS j).1 0 0 ∧ Below wv0.heap.size wv0 wr) (fun i _ => N - (intOf i).toNat)
    case atStart => exact ⟨0, 4607182418800017408, 0, 0, 0, rfl, Nat.zero_le _, KPt, ⟨by show (0 : Int) ≤ 0; decide, by show (0 : Int) ≤ 3; decide, isW_one, isW_zero, isW_zero, isW_zero⟩, boxed _ _⟩
    case round =>
      obtain ⟨j, tr, ti, mr, mi, rfl, hj, KP, hI, hR⟩ := hrel
      clear KPt
      have hcP := bk_cell KP; have hfP := bk_free KP; have hlP := bk_lt KP
      by_cases hlt : j < N
      · obtain ⟨m, hm⟩ : ∃ m, L[j]? = some m := ⟨_, List.getElem?_eq_getElem (by rw [HN.out]; exact hlt)⟩
        obtain ⟨i, hi⟩ : ∃ i, TS[j]? = some i := ⟨_, List.getElem?_eq_getElem (by omega)⟩
        have hm0 : wr.cell? ⟨gm, j * 3, none⟩ = some (.complex .f64 (mvR m.k) 0) := cell_later hR (hmq.out j m hm).1
        have hm1 : wr.cell? ⟨gm, j * 3 + 1, none⟩ = some (.bool m.f) := cell_later hR (hmq.out j m hm).2.1
        have hm2 : wr.cell? ⟨gm, j * 3 + 2, none⟩ = some (.complex .f64 (fl m.x) (fl m.y)) := cell_later hR (hmq.out j m hm).2.2
        have hct : wr.cell? ⟨gt, j, none⟩ = some (.int .i64 i) := cell_later hR (hti.out j i (by rw [← HT.out]; exact hi))
        have hgtl := cell_lt hct
        have hjT : j < 1 := by have h_ := hln; rw [HT.out] at h_; simp at h_; omega
        have hmk := HGM.out m (List.mem_of_getElem? hm)
        have hb3 := mvR_isIso hmk isW_zero isW_zero
        clear hmk
        rcases (show i % 2 = 0 ∨ i % 2 = 1 by omega) with ho | ho
        · have hst := Lib.hid (partS_even hm hi ho)
          clear hm hi
          obtain ⟨F, hF⟩ : ∃ F, (partS L TS j).2 = F := ⟨_, rfl⟩
          rw [hF] at KP hcP
          have HF := Lib.hid hF; clear hF
          go_wp2
          go_roundw
          case rel => exact ⟨j + 1, tr, ti, mr, mi, by go_num, by omega, by rw [hst.out, HF.out]; exact (by repeat (with_reducible (first | exact KP | apply bk_set | refine bk_drew ?_ | refine bk_drewN ?_ _ | refine bk_alloc ?_ _ | refine bk_far ?_ (by simp; try omega) _))), by rw [hst.out]; exact hI, (by repeat (with_reducible (first | exact hR | refine Below.setCell ?_ (by have h2_ := hR.size; (try simp) <;> omega) _ | refine Below.drew ?_ | refine Below.alloc ?_ (by have h2_ := hR.size; (try simp) <;> omega) _)))⟩
          case measure => simp [intOf]; omega
        · have hst := Lib.hid (partS_odd hm hi ho)
          clear hm hi
          obtain ⟨F, hF⟩ : ∃ F, (partS L TS j).2 = F := ⟨_, rfl⟩
          obtain ⟨KK, hK⟩ : ∃ KK, (partS L TS j).1 = KK := ⟨_, rfl⟩
          rw [hF] at KP hcP
          rw [hK] at hI
          have HF := Lib.hid hF; clear hF
          have HK2 := Lib.hid hK; clear hK
          go_wp2_with (first | fail)
          refine (Then0_calls _ _ _ _ _ _ _ _ _ _ _ _ _ hI hb3).mono ?_
          rintro e w8 ⟨xr, xi, yr, yi, rfl, hx, hb1⟩
          replace KP := bk_below KP (box hb1)
          replace hR := next hR (box hb1)
          have hcP := bk_cell KP; have hfP := bk_free KP; have hlP := bk_lt KP
          go_wp2
          go_roundw
          case rel => exact ⟨j + 1, xr, xi, yr, yi, by go_num, by omega, by rw [hst.out, HF.out]; refine bk_eq (by repeat (with_reducible (first | exact KP | apply bk_set | refine bk_drew ?_ | refine bk_drewN ?_ _ | refine bk_alloc ?_ _ | refine bk_far ?_ (by simp; try omega) _))) ?_; rfl, by rw [hst.out, HK2.out]; exact hx, (by repeat (with_reducible (first | exact hR | refine Below.setCell ?_ (by have h2_ := hR.size; (try simp) <;> omega) _ | refine Below.drew ?_ | refine Below.alloc ?_ (by have h2_ := hR.size; (try simp) <;> omega) _)))⟩
          case measure => simp [intOf]; omega
      · obtain rfl : j = N := by omega
        have HPX : Hid ((if (partS L TS j).2 = true then (partS L TS j).1 + 4 else (partS L TS j).1) = X) := HPE.out
        obtain ⟨F, hF⟩ : ∃ F, (partS L TS j).2 = F := ⟨_, rfl⟩
        obtain ⟨KK, hK⟩ : ∃ KK, (partS L TS j).1 = KK := ⟨_, rfl⟩
        rw [hF] at KP hcP
        rw [hK] at hI
        rw [hF, hK] at HPX
        clear hF hK HPE HT HN hln HGM
        go_wp2_with (first | (go_at_call 45; ((with_reducible refine (Which_calls _ _ _ _ _ _ _ _ _ hI near0 near0).mono ?_); rintro e w8 ⟨rfl, hb1⟩; rw [HPX.out])))
        go_ret2
        have hB2 := (hB.trans (hQ.mono hB.size)).trans (hR.mono (Nat.le_trans hB.size hQ.size))
        exact Ret.of rfl (hBw.trans (Below.mono (next hB2 hb1) hBw.size))

set_option maxRecDepth 20000 in
set_option maxHeartbeats 8000000 in
theorem Part_ok01 (k W H t s x y : Int) (w : World) (t0 : 0 ≤ t) (h : checkE k W H t s = 0) (hx0 : nearI x = true) (hy0 : nearI y = true) (he : cellE k W H t s x y = 0) (hW : ¬ 0 < W) (hH : 0 < H) :
    Calls Try.prog 14 #[topoV k W H t s, pt x y] w (Ret (.tuple #[.int .i64 (partN k W H t s x y), .int .i64 0]) w) := by
  have h0 := topoOk t0 h
  have hpe := part_eq h0 h he
  have w0 := h0.w0; have w1_ := h0.w1; have h0_ := h0.h0; have h1_ := h0.h1
  obtain ⟨f1, f2⟩ := first_bounds W w0 w1_
  obtain ⟨f3, f4⟩ := first_bounds H h0_ h1_
  obtain ⟨x1, x2⟩ := nearI_iff.1 hx0
  obtain ⟨y1, y2⟩ := nearI_iff.1 hy0
  have EE := Lib.hid he; clear he
  have hgm := glue_k (k := k) (W := W) (H := H) (t := t) (s := s)
  have hge : glueE k W H t s = 0 := if_neg (by simp [h])
  obtain ⟨hln, hl2⟩ := glue_len (k := k) (W := W) (H := H) (t := t) (s := s) (x - first W) (y - first H)
  have hT : tilesL W H (x - first W) (y - first H) = [(y - first H) / H] := by unfold tilesL; simp [hW, hH]
  have hgl := fun w => Glue_calls k W H t s w t0
  rw [hge] at hgl
  obtain ⟨u, hu⟩ : ∃ u, x - first W = u := ⟨_, rfl⟩
  obtain ⟨v, hv⟩ : ∃ v, y - first H = v := ⟨_, rfl⟩
  have u1 : -2199023255552 ≤ u := by omega
  have u2 : u ≤ 2199023255552 := by omega
  have v1 : -2199023255552 ≤ v := by omega
  have v2 : v ≤ 2199023255552 := by omega
  have gU : (if 0 < W then x - first W else x) = u := (gluedU w0).trans hu
  have gV : (if 0 < H then y - first H else y) = v := (gluedU h0_).trans hv
  rw [hu] at hpe hln hT; rw [hv] at hpe hln hT
  clear hu hv
  obtain ⟨L, hL⟩ : ∃ L, glueL k W H t s = L := ⟨_, rfl⟩
  rw [hL] at hgl hgm hpe hln hl2
  clear hL
  obtain ⟨TS, hTS⟩ : ∃ TS, tilesL W H u v = TS := ⟨_, rfl⟩
  rw [hTS] at hpe hln hT
  clear hTS hge h0
  obtain ⟨N, hN⟩ : ∃ N, L.length = N := ⟨_, rfl⟩
  rw [hN] at hpe hln hl2
  obtain ⟨X, hX⟩ : ∃ X, partN k W H t s x y = X := ⟨_, rfl⟩
  rw [hX] at hpe ⊢
  clear hX
  have HPE := Lib.hid hpe; have HGM := Lib.hid hgm; have HT := Lib.hid hT; have HN := Lib.hid hN; have HGL := Lib.hid hgl
  have GU := Lib.hid gU; have GV := Lib.hid gV
  clear hpe hgm hT hN hgl gU gV
  have hk := Lib.hid h; clear h
  have HA : Hid ([(x, y)].all nearP = true) := by show [(x, y)].all nearP = true; simp [nearP, hx0, hy0]
  have hx := Lib.hid hx0; have hy := Lib.hid hy0
  clear hx0 hy0
  have K1 : (((w.alloc (.cells #[.int .u8 k, .int .i64 W, .int .i64 H, .int .u8 t, .int .i64 s] 23)).alloc (.cells #[.int .i64 x, .int .i64 y] 25)).alloc (.cells #[.int .i64 x, .int .i64 y] 25)).heap[w.heap.size]? = some (.cells #[.int .u8 k, .int .i64 W, .int .i64 H, .int .u8 t, .int .i64 s] 23 (0, 0)) := (bk_alloc (bk_alloc (bk_new _ _) _) _)
  have K2 : (((w.alloc (.cells #[.int .u8 k, .int .i64 W, .int .i64 H, .int .u8 t, .int .i64 s] 23)).alloc (.cells #[.int .i64 x, .int .i64 y] 25)).alloc (.cells #[.int .i64 x, .int .i64 y] 25)).heap[w.heap.size + 1]? = some (.cells #[.int .i64 x, .int .i64 y] 25 (0, 0)) := (bk_alloc (by have := bk_new (w.alloc (.cells #[.int .u8 k, .int .i64 W, .int .i64 H, .int .u8 t, .int .i64 s] 23)) (.cells #[.int .i64 x, .int .i64 y] 25); simpa only [World.size_alloc] using this) _)
  have K3 : (((w.alloc (.cells #[.int .u8 k, .int .i64 W, .int .i64 H, .int .u8 t, .int .i64 s] 23)).alloc (.cells #[.int .i64 x, .int .i64 y] 25)).alloc (.cells #[.int .i64 x, .int .i64 y] 25)).heap[w.heap.size + 1 + 1]? = some (.cells #[.int .i64 x, .int .i64 y] 25 (0, 0)) := (by have := bk_new ((w.alloc (.cells #[.int .u8 k, .int .i64 W, .int .i64 H, .int .u8 t, .int .i64 s] 23)).alloc (.cells #[.int .i64 x, .int .i64 y] 25)) (.cells #[.int .i64 x, .int .i64 y] 25); simpa only [World.size_alloc] using this)
  have hBw : Below w.heap.size w (((w.alloc (.cells #[.int .u8 k, .int .i64 W, .int .i64 H, .int .u8 t, .int .i64 s] 23)).alloc (.cells #[.int .i64 x, .int .i64 y] 25)).alloc (.cells #[.int .i64 x, .int .i64 y] 25)) := ((boxed _ _).alloc (by simp) _).alloc (by simp; try omega) _
  go_enter Try.func14, Try.ntmps14
  go_wp2_with (first | fail)
  generalize hW0 : (((w.alloc (.cells #[.int .u8 k, .int .i64 W, .int .i64 H, .int .u8 t, .int .i64 s] 23)).alloc (.cells #[.int .i64 x, .int .i64 y] 25)).alloc (.cells #[.int .i64 x, .int .i64 y] 25)) = W0 at *
  clear hW0
  have hB := same W0
  have K10 := K1
  have K20 := K2
  have K30 := K3
  have HP := Lib.hid (pts_one K3)
  refine (of_pts _ _ _ _ _ _ _ 1 _ [(x, y)] _ t0 hk.out rfl (by decide) HP.out).mono ?_
  rintro e w1 ⟨rfl, hb1⟩
  rw [HA.out]; simp only [↓reduceIte]
  replace hB := next hB hb1; replace K1 := bk_below K1 hb1; have hcK1 := bk_cell K1; have hfK1 := bk_free K1; have hlK1 := bk_lt K1; replace K2 := bk_below K2 hb1; have hcK2 := bk_cell K2; have hfK2 := bk_free K2; have hlK2 := bk_lt K2
  go_wp2_with (first | fail)
  have KG := bk_new w1 (.cells #[.int .u8 k, .int .i64 W, .int .i64 H, .int .u8 t, .int .i64 s, .int .i64 (first W), .int .i64 (first H)] 64)
  replace hB := next hB (boxed w1 (.cells #[.int .u8 k, .int .i64 W, .int .i64 H, .int .u8 t, .int .i64 s, .int .i64 (first W), .int .i64 (first H)] 64))
  replace K1 := bk_alloc K1 (.cells #[.int .u8 k, .int .i64 W, .int .i64 H, .int .u8 t, .int .i64 s, .int .i64 (first W), .int .i64 (first H)] 64)
  replace K2 := bk_alloc K2 (.cells #[.int .u8 k, .int .i64 W, .int .i64 H, .int .u8 t, .int .i64 s, .int .i64 (first W), .int .i64 (first H)] 64)
  generalize hWG : w1.alloc (.cells #[.int .u8 k, .int .i64 W, .int .i64 H, .int .u8 t, .int .i64 s, .int .i64 (first W), .int .i64 (first H)] 64) = WG at *
  clear hWG
  generalize w1.heap.size = g at *
  refine (cell_calls _ _ _ _ _ _ _ _ hk.out t0 hx.out hy.out).mono ?_
  rintro e w2 ⟨rfl, hb1⟩
  rw [EE.out]
  replace hB := next hB hb1
  replace K1 := bk_below K1 hb1; replace K2 := bk_below K2 hb1; replace KG := bk_below KG hb1
  have hc1 := bk_cell K1; have hl1 := bk_lt K1; have hc2 := bk_cell K2; have hl2 := bk_lt K2; have hcG := bk_cell KG; have hlG := bk_lt KG
  go_wp2_with (first | fail)
  refine (HGL.out _).mono ?_
  rintro e w3 ⟨vm, rfl, hb1, hom⟩
  replace hB := next hB (box hb1)
  replace K1 := bk_below K1 (box hb1); replace K2 := bk_below K2 (box hb1); replace KG := bk_below KG (box hb1)
  have hc1 := bk_cell K1; have hl1 := bk_lt K1; have hc2 := bk_cell K2; have hl2 := bk_lt K2; have hcG := bk_cell KG; have hlG := bk_lt KG
  have hM := same w3
  rw [HN.out] at hom
  go_wp2_with (first | fail)
  refine (home_calls _ _ _ _ _ _ _ _ _ _ f1 f2 f3 f4 x1 x2 y1 y2).mono ?_
  rintro e w4 ⟨rfl, hb1⟩
  rw [GU.out, GV.out]
  replace hB := next hB hb1; replace hM := next hM hb1
  replace KG := bk_below KG hb1
  have hcG := bk_cell KG; have hlG := bk_lt KG
  go_wp2_with (first | fail)
  refine (cut_calls _ _ _ w0 w1_ (by omega) (by omega)).mono ?_
  rintro e w5 ⟨rfl, hb1⟩
  replace hB := next hB hb1; replace hM := next hM hb1
  replace KG := bk_below KG hb1
  have hcG := bk_cell KG; have hlG := bk_lt KG
  go_wp2_with (first | fail)
  refine (cut_calls _ _ _ h0_ h1_ (by omega) (by omega)).mono ?_
  rintro e w6 ⟨rfl, hb1⟩
  replace hB := next hB hb1; replace hM := next hM hb1
  replace KG := bk_below KG hb1
  have hcG := bk_cell KG; have hlG := bk_lt KG
  have hwb := hBw.size; have hwb2 := hB.size
  have hQ := same w6; have KGS := KG
  rcases ownsRow_forms_ hom with ⟨rfl, h0N⟩ | ⟨gm, cap, rfl⟩
  · have HPX : Hid (X = 0) := by
      show X = 0
      have := HPE.out
      rw [h0N] at this
      simpa [partS] using this.symm
    clear hom HPE HGM HT HN hln
    go_wp2_with (first | (at_builtin; (refine app_nil rfl (.tmp 82) (.tmp 84) 48 rfl w6.heap.size 3 _ 1 8 Try.underlying48 int_info rfl (by decide) (by decide) (by rfl) _ _ #[.int .i64 (v / H)] (by rfl) (by exact bk_newn _ _ _ (by first | rfl | simp)) rfl (by simp [Value.oneCell']) (by simp) ?_); intro v1 wv1 hown hbv; (replace hQ := next (w := w6) (by repeat (with_reducible (first | exact hQ | refine Below.setCell ?_ (by have h2_ := hQ.size; (try simp) <;> omega) _ | refine Below.drew ?_ | refine Below.alloc ?_ (by have h2_ := hQ.size; (try simp) <;> omega) _))) hbv); (replace KG := bk_below KGS hQ); have hC := same wv1; have hcG := bk_cell KG; have hlG := bk_lt KG) | fail)
    refine wp_loop_rounds 1 ?_
    rw [rounds_succ]
    go_wp2_with (first | (go_at_call 45; ((with_reducible refine (Which_calls _ _ _ _ false 0 0 0 _ ⟨by decide, by decide, isW_one, isW_zero, isW_zero, isW_zero⟩ near0 near0).mono ?_); rintro e w8 ⟨rfl, hb1⟩)))
    go_ret2
    refine Ret.of (by rw [HPX.out]; rfl) ?_
    have hB2 := hB.trans (hQ.mono hB.size)
    exact hBw.trans (Below.mono (next hB2 (box hb1)) hBw.size)
  · have hmv := Lib.hid (mvs_of HN.out.symm hom)
    clear hom
    go_wp2_with (first | (at_builtin; (refine app_nil rfl (.tmp 82) (.tmp 84) 48 rfl w6.heap.size 3 _ 1 8 Try.underlying48 int_info rfl (by decide) (by decide) (by rfl) _ _ #[.int .i64 (v / H)] (by rfl) (by exact bk_newn _ _ _ (by first | rfl | simp)) rfl (by simp [Value.oneCell']) (by simp) ?_); intro v1 wv1 hown hbv; (replace hQ := next (w := w6) (by repeat (with_reducible (first | exact hQ | refine Below.setCell ?_ (by have h2_ := hQ.size; (try simp) <;> omega) _ | refine Below.drew ?_ | refine Below.alloc ?_ (by have h2_ := hQ.size; (try simp) <;> omega) _))) hbv); (replace KG := bk_below KGS hQ); have hC := same wv1; have hcG := bk_cell KG; have hlG := bk_lt KG) | fail)
    replace hown : World.ownsRow wv1 w6.heap.size 3 1 v1 1 [.int .i64 (v / H)] := hown
    obtain ⟨gt, ct, rfl⟩ := own_form hown (by decide)
    have hti := Lib.hid (ints_of (l := [v / H]) hown)
    clear hown
    have hmq := Lib.hid ((hmv.out.below hM).below hQ)
    clear hmv hM
    have KPt := bk_new wv1 (.cells #[.complex .f64 4607182418800017408 0, .bool false, .complex .f64 0 0] 41)
    have a1 := and1
    go_loopw [89] (fun i wr => ∃ (j : Nat) (tr ti mr mi : Nat), i = .int .i64 j ∧ j ≤ N ∧ wr.heap[wv1.heap.size]? = some (.cells #[.complex .f64 tr ti, .bool (partS L TS j).2, .complex .f64 mr mi] 41 (0, 0)) ∧ IsIso tr ti mr mi (partS L TS j).1 0 0 ∧ Below wv1.heap.size wv1 wr) (fun i _ => N - (intOf i).toNat)
    case atStart => exact ⟨0, 4607182418800017408, 0, 0, 0, rfl, Nat.zero_le _, KPt, ⟨by show (0 : Int) ≤ 0; decide, by show (0 : Int) ≤ 3; decide, isW_one, isW_zero, isW_zero, isW_zero⟩, boxed _ _⟩
    case round =>
      obtain ⟨j, tr, ti, mr, mi, rfl, hj, KP, hI, hR⟩ := hrel
      clear KPt
      have hcP := bk_cell KP; have hfP := bk_free KP; have hlP := bk_lt KP
      by_cases hlt : j < N
      · obtain ⟨m, hm⟩ : ∃ m, L[j]? = some m := ⟨_, List.getElem?_eq_getElem (by rw [HN.out]; exact hlt)⟩
        obtain ⟨i, hi⟩ : ∃ i, TS[j]? = some i := ⟨_, List.getElem?_eq_getElem (by omega)⟩
        have hm0 : wr.cell? ⟨gm, j * 3, none⟩ = some (.complex .f64 (mvR m.k) 0) := cell_later hR (hmq.out j m hm).1
        have hm1 : wr.cell? ⟨gm, j * 3 + 1, none⟩ = some (.bool m.f) := cell_later hR (hmq.out j m hm).2.1
        have hm2 : wr.cell? ⟨gm, j * 3 + 2, none⟩ = some (.complex .f64 (fl m.x) (fl m.y)) := cell_later hR (hmq.out j m hm).2.2
        have hct : wr.cell? ⟨gt, j, none⟩ = some (.int .i64 i) := cell_later hR (hti.out j i (by rw [← HT.out]; exact hi))
        have hgtl := cell_lt hct
        have hjT : j < 1 := by have h_ := hln; rw [HT.out] at h_; simp at h_; omega
        have hmk := HGM.out m (List.mem_of_getElem? hm)
        have hb3 := mvR_isIso hmk isW_zero isW_zero
        clear hmk
        rcases (show i % 2 = 0 ∨ i % 2 = 1 by omega) with ho | ho
        · have hst := Lib.hid (partS_even hm hi ho)
          clear hm hi
          obtain ⟨F, hF⟩ : ∃ F, (partS L TS j).2 = F := ⟨_, rfl⟩
          rw [hF] at KP hcP
          have HF := Lib.hid hF; clear hF
          go_wp2
          go_roundw
          case rel => exact ⟨j + 1, tr, ti, mr, mi, by go_num, by omega, by rw [hst.out, HF.out]; exact (by repeat (with_reducible (first | exact KP | apply bk_set | refine bk_drew ?_ | refine bk_drewN ?_ _ | refine bk_alloc ?_ _ | refine bk_far ?_ (by simp; try omega) _))), by rw [hst.out]; exact hI, (by repeat (with_reducible (first | exact hR | refine Below.setCell ?_ (by have h2_ := hR.size; (try simp) <;> omega) _ | refine Below.drew ?_ | refine Below.alloc ?_ (by have h2_ := hR.size; (try simp) <;> omega) _)))⟩
          case measure => simp [intOf]; omega
        · have hst := Lib.hid (partS_odd hm hi ho)
          clear hm hi
          obtain ⟨F, hF⟩ : ∃ F, (partS L TS j).2 = F := ⟨_, rfl⟩
          obtain ⟨KK, hK⟩ : ∃ KK, (partS L TS j).1 = KK := ⟨_, rfl⟩
          rw [hF] at KP hcP
          rw [hK] at hI
          have HF := Lib.hid hF; clear hF
          have HK2 := Lib.hid hK; clear hK
          go_wp2_with (first | fail)
          refine (Then0_calls _ _ _ _ _ _ _ _ _ _ _ _ _ hI hb3).mono ?_
          rintro e w8 ⟨xr, xi, yr, yi, rfl, hx, hb1⟩
          replace KP := bk_below KP (box hb1)
          replace hR := next hR (box hb1)
          have hcP := bk_cell KP; have hfP := bk_free KP; have hlP := bk_lt KP
          go_wp2
          go_roundw
          case rel => exact ⟨j + 1, xr, xi, yr, yi, by go_num, by omega, by rw [hst.out, HF.out]; refine bk_eq (by repeat (with_reducible (first | exact KP | apply bk_set | refine bk_drew ?_ | refine bk_drewN ?_ _ | refine bk_alloc ?_ _ | refine bk_far ?_ (by simp; try omega) _))) ?_; rfl, by rw [hst.out, HK2.out]; exact hx, (by repeat (with_reducible (first | exact hR | refine Below.setCell ?_ (by have h2_ := hR.size; (try simp) <;> omega) _ | refine Below.drew ?_ | refine Below.alloc ?_ (by have h2_ := hR.size; (try simp) <;> omega) _)))⟩
          case measure => simp [intOf]; omega
      · obtain rfl : j = N := by omega
        have HPX : Hid ((if (partS L TS j).2 = true then (partS L TS j).1 + 4 else (partS L TS j).1) = X) := HPE.out
        obtain ⟨F, hF⟩ : ∃ F, (partS L TS j).2 = F := ⟨_, rfl⟩
        obtain ⟨KK, hK⟩ : ∃ KK, (partS L TS j).1 = KK := ⟨_, rfl⟩
        rw [hF] at KP hcP
        rw [hK] at hI
        rw [hF, hK] at HPX
        clear hF hK HPE HT HN hln HGM
        go_wp2_with (first | (go_at_call 45; ((with_reducible refine (Which_calls _ _ _ _ _ _ _ _ _ hI near0 near0).mono ?_); rintro e w8 ⟨rfl, hb1⟩; rw [HPX.out])))
        go_ret2
        have hB2 := (hB.trans (hQ.mono hB.size)).trans (hR.mono (Nat.le_trans hB.size hQ.size))
        exact Ret.of rfl (hBw.trans (Below.mono (next hB2 hb1) hBw.size))

set_option maxRecDepth 20000 in
set_option maxHeartbeats 8000000 in
theorem Part_ok00 (k W H t s x y : Int) (w : World) (t0 : 0 ≤ t) (h : checkE k W H t s = 0) (hx0 : nearI x = true) (hy0 : nearI y = true) (he : cellE k W H t s x y = 0) (hW : ¬ 0 < W) (hH : ¬ 0 < H) :
    Calls Try.prog 14 #[topoV k W H t s, pt x y] w (Ret (.tuple #[.int .i64 (partN k W H t s x y), .int .i64 0]) w) := by
  have h0 := topoOk t0 h
  have hpe := part_eq h0 h he
  have w0 := h0.w0; have w1_ := h0.w1; have h0_ := h0.h0; have h1_ := h0.h1
  obtain ⟨f1, f2⟩ := first_bounds W w0 w1_
  obtain ⟨f3, f4⟩ := first_bounds H h0_ h1_
  obtain ⟨x1, x2⟩ := nearI_iff.1 hx0
  obtain ⟨y1, y2⟩ := nearI_iff.1 hy0
  have EE := Lib.hid he; clear he
  have hgm := glue_k (k := k) (W := W) (H := H) (t := t) (s := s)
  have hge : glueE k W H t s = 0 := if_neg (by simp [h])
  obtain ⟨hln, hl2⟩ := glue_len (k := k) (W := W) (H := H) (t := t) (s := s) (x - first W) (y - first H)
  have hT : tilesL W H (x - first W) (y - first H) = [] := by unfold tilesL; simp [hW, hH]
  have hgl := fun w => Glue_calls k W H t s w t0
  rw [hge] at hgl
  obtain ⟨u, hu⟩ : ∃ u, x - first W = u := ⟨_, rfl⟩
  obtain ⟨v, hv⟩ : ∃ v, y - first H = v := ⟨_, rfl⟩
  have u1 : -2199023255552 ≤ u := by omega
  have u2 : u ≤ 2199023255552 := by omega
  have v1 : -2199023255552 ≤ v := by omega
  have v2 : v ≤ 2199023255552 := by omega
  have gU : (if 0 < W then x - first W else x) = u := (gluedU w0).trans hu
  have gV : (if 0 < H then y - first H else y) = v := (gluedU h0_).trans hv
  rw [hu] at hpe hln hT; rw [hv] at hpe hln hT
  clear hu hv
  obtain ⟨L, hL⟩ : ∃ L, glueL k W H t s = L := ⟨_, rfl⟩
  rw [hL] at hgl hgm hpe hln hl2
  clear hL
  obtain ⟨TS, hTS⟩ : ∃ TS, tilesL W H u v = TS := ⟨_, rfl⟩
  rw [hTS] at hpe hln hT
  clear hTS hge h0
  obtain ⟨N, hN⟩ : ∃ N, L.length = N := ⟨_, rfl⟩
  rw [hN] at hpe hln hl2
  obtain ⟨X, hX⟩ : ∃ X, partN k W H t s x y = X := ⟨_, rfl⟩
  rw [hX] at hpe ⊢
  clear hX
  have HPE := Lib.hid hpe; have HGM := Lib.hid hgm; have HT := Lib.hid hT; have HN := Lib.hid hN; have HGL := Lib.hid hgl
  have GU := Lib.hid gU; have GV := Lib.hid gV
  clear hpe hgm hT hN hgl gU gV
  have hk := Lib.hid h; clear h
  have HA : Hid ([(x, y)].all nearP = true) := by show [(x, y)].all nearP = true; simp [nearP, hx0, hy0]
  have hx := Lib.hid hx0; have hy := Lib.hid hy0
  clear hx0 hy0
  have K1 : (((w.alloc (.cells #[.int .u8 k, .int .i64 W, .int .i64 H, .int .u8 t, .int .i64 s] 23)).alloc (.cells #[.int .i64 x, .int .i64 y] 25)).alloc (.cells #[.int .i64 x, .int .i64 y] 25)).heap[w.heap.size]? = some (.cells #[.int .u8 k, .int .i64 W, .int .i64 H, .int .u8 t, .int .i64 s] 23 (0, 0)) := (bk_alloc (bk_alloc (bk_new _ _) _) _)
  have K2 : (((w.alloc (.cells #[.int .u8 k, .int .i64 W, .int .i64 H, .int .u8 t, .int .i64 s] 23)).alloc (.cells #[.int .i64 x, .int .i64 y] 25)).alloc (.cells #[.int .i64 x, .int .i64 y] 25)).heap[w.heap.size + 1]? = some (.cells #[.int .i64 x, .int .i64 y] 25 (0, 0)) := (bk_alloc (by have := bk_new (w.alloc (.cells #[.int .u8 k, .int .i64 W, .int .i64 H, .int .u8 t, .int .i64 s] 23)) (.cells #[.int .i64 x, .int .i64 y] 25); simpa only [World.size_alloc] using this) _)
  have K3 : (((w.alloc (.cells #[.int .u8 k, .int .i64 W, .int .i64 H, .int .u8 t, .int .i64 s] 23)).alloc (.cells #[.int .i64 x, .int .i64 y] 25)).alloc (.cells #[.int .i64 x, .int .i64 y] 25)).heap[w.heap.size + 1 + 1]? = some (.cells #[.int .i64 x, .int .i64 y] 25 (0, 0)) := (by have := bk_new ((w.alloc (.cells #[.int .u8 k, .int .i64 W, .int .i64 H, .int .u8 t, .int .i64 s] 23)).alloc (.cells #[.int .i64 x, .int .i64 y] 25)) (.cells #[.int .i64 x, .int .i64 y] 25); simpa only [World.size_alloc] using this)
  have hBw : Below w.heap.size w (((w.alloc (.cells #[.int .u8 k, .int .i64 W, .int .i64 H, .int .u8 t, .int .i64 s] 23)).alloc (.cells #[.int .i64 x, .int .i64 y] 25)).alloc (.cells #[.int .i64 x, .int .i64 y] 25)) := ((boxed _ _).alloc (by simp) _).alloc (by simp; try omega) _
  go_enter Try.func14, Try.ntmps14
  go_wp2_with (first | fail)
  generalize hW0 : (((w.alloc (.cells #[.int .u8 k, .int .i64 W, .int .i64 H, .int .u8 t, .int .i64 s] 23)).alloc (.cells #[.int .i64 x, .int .i64 y] 25)).alloc (.cells #[.int .i64 x, .int .i64 y] 25)) = W0 at *
  clear hW0
  have hB := same W0
  have K10 := K1
  have K20 := K2
  have K30 := K3
  have HP := Lib.hid (pts_one K3)
  refine (of_pts _ _ _ _ _ _ _ 1 _ [(x, y)] _ t0 hk.out rfl (by decide) HP.out).mono ?_
  rintro e w1 ⟨rfl, hb1⟩
  rw [HA.out]; simp only [↓reduceIte]
  replace hB := next hB hb1; replace K1 := bk_below K1 hb1; have hcK1 := bk_cell K1; have hfK1 := bk_free K1; have hlK1 := bk_lt K1; replace K2 := bk_below K2 hb1; have hcK2 := bk_cell K2; have hfK2 := bk_free K2; have hlK2 := bk_lt K2
  go_wp2_with (first | fail)
  have KG := bk_new w1 (.cells #[.int .u8 k, .int .i64 W, .int .i64 H, .int .u8 t, .int .i64 s, .int .i64 (first W), .int .i64 (first H)] 64)
  replace hB := next hB (boxed w1 (.cells #[.int .u8 k, .int .i64 W, .int .i64 H, .int .u8 t, .int .i64 s, .int .i64 (first W), .int .i64 (first H)] 64))
  replace K1 := bk_alloc K1 (.cells #[.int .u8 k, .int .i64 W, .int .i64 H, .int .u8 t, .int .i64 s, .int .i64 (first W), .int .i64 (first H)] 64)
  replace K2 := bk_alloc K2 (.cells #[.int .u8 k, .int .i64 W, .int .i64 H, .int .u8 t, .int .i64 s, .int .i64 (first W), .int .i64 (first H)] 64)
  generalize hWG : w1.alloc (.cells #[.int .u8 k, .int .i64 W, .int .i64 H, .int .u8 t, .int .i64 s, .int .i64 (first W), .int .i64 (first H)] 64) = WG at *
  clear hWG
  generalize w1.heap.size = g at *
  refine (cell_calls _ _ _ _ _ _ _ _ hk.out t0 hx.out hy.out).mono ?_
  rintro e w2 ⟨rfl, hb1⟩
  rw [EE.out]
  replace hB := next hB hb1
  replace K1 := bk_below K1 hb1; replace K2 := bk_below K2 hb1; replace KG := bk_below KG hb1
  have hc1 := bk_cell K1; have hl1 := bk_lt K1; have hc2 := bk_cell K2; have hl2 := bk_lt K2; have hcG := bk_cell KG; have hlG := bk_lt KG
  go_wp2_with (first | fail)
  refine (HGL.out _).mono ?_
  rintro e w3 ⟨vm, rfl, hb1, hom⟩
  replace hB := next hB (box hb1)
  replace K1 := bk_below K1 (box hb1); replace K2 := bk_below K2 (box hb1); replace KG := bk_below KG (box hb1)
  have hc1 := bk_cell K1; have hl1 := bk_lt K1; have hc2 := bk_cell K2; have hl2 := bk_lt K2; have hcG := bk_cell KG; have hlG := bk_lt KG
  have hM := same w3
  rw [HN.out] at hom
  go_wp2_with (first | fail)
  refine (home_calls _ _ _ _ _ _ _ _ _ _ f1 f2 f3 f4 x1 x2 y1 y2).mono ?_
  rintro e w4 ⟨rfl, hb1⟩
  rw [GU.out, GV.out]
  replace hB := next hB hb1; replace hM := next hM hb1
  replace KG := bk_below KG hb1
  have hcG := bk_cell KG; have hlG := bk_lt KG
  go_wp2_with (first | fail)
  refine (cut_calls _ _ _ w0 w1_ (by omega) (by omega)).mono ?_
  rintro e w5 ⟨rfl, hb1⟩
  replace hB := next hB hb1; replace hM := next hM hb1
  replace KG := bk_below KG hb1
  have hcG := bk_cell KG; have hlG := bk_lt KG
  go_wp2_with (first | fail)
  refine (cut_calls _ _ _ h0_ h1_ (by omega) (by omega)).mono ?_
  rintro e w6 ⟨rfl, hb1⟩
  replace hB := next hB hb1; replace hM := next hM hb1
  replace KG := bk_below KG hb1
  have hcG := bk_cell KG; have hlG := bk_lt KG
  have hwb := hBw.size; have hwb2 := hB.size
  have hQ := same w6; have KGS := KG
  rcases ownsRow_forms_ hom with ⟨rfl, h0N⟩ | ⟨gm, cap, rfl⟩
  · have HPX : Hid (X = 0) := by
      show X = 0
      have := HPE.out
      rw [h0N] at this
      simpa [partS] using this.symm
    clear hom HPE HGM HT HN hln
    go_wp2_with (first | fail)
    refine wp_loop_rounds 1 ?_
    rw [rounds_succ]
    go_wp2_with (first | (go_at_call 45; ((with_reducible refine (Which_calls _ _ _ _ false 0 0 0 _ ⟨by decide, by decide, isW_one, isW_zero, isW_zero, isW_zero⟩ near0 near0).mono ?_); rintro e w8 ⟨rfl, hb1⟩)))
    go_ret2
    refine Ret.of (by rw [HPX.out]; rfl) ?_
    have hB2 := hB.trans (hQ.mono hB.size)
    exact hBw.trans (Below.mono (next hB2 (box hb1)) hBw.size)
  · have hmv := Lib.hid (mvs_of HN.out.symm hom)
    clear hom
    go_wp2_with (first | fail)
    have hmq := Lib.hid ((hmv.out.below hM).below hQ)
    clear hmv hM
    have KPt := bk_new w6 (.cells #[.complex .f64 4607182418800017408 0, .bool false, .complex .f64 0 0] 41)
    have a1 := and1
    go_loopw [89] (fun i wr => ∃ (j : Nat) (tr ti mr mi : Nat), i = .int .i64 j ∧ j ≤ N ∧ wr.heap[w6.heap.size]? = some (.cells #[.complex .f64 tr ti, .bool (partS L TS j).2, .complex .f64 mr mi] 41 (0, 0)) ∧ IsIso tr ti mr mi (partS L TS j).1 0 0 ∧ Below w6.heap.size w6 wr) (fun i _ => N - (intOf i).toNat)
    case atStart => exact ⟨0, 4607182418800017408, 0, 0, 0, rfl, Nat.zero_le _, KPt, ⟨by show (0 : Int) ≤ 0; decide, by show (0 : Int) ≤ 3; decide, isW_one, isW_zero, isW_zero, isW_zero⟩, boxed _ _⟩
    case round =>
      obtain ⟨j, tr, ti, mr, mi, rfl, hj, KP, hI, hR⟩ := hrel
      clear KPt
      have hcP := bk_cell KP; have hfP := bk_free KP; have hlP := bk_lt KP
      by_cases hlt : j < N
      · exfalso; have h_ := hln; rw [HT.out] at h_; simp at h_; omega
      · obtain rfl : j = N := by omega
        have HPX : Hid ((if (partS L TS j).2 = true then (partS L TS j).1 + 4 else (partS L TS j).1) = X) := HPE.out
        obtain ⟨F, hF⟩ : ∃ F, (partS L TS j).2 = F := ⟨_, rfl⟩
        obtain ⟨KK, hK⟩ : ∃ KK, (partS L TS j).1 = KK := ⟨_, rfl⟩
        rw [hF] at KP hcP
        rw [hK] at hI
        rw [hF, hK] at HPX
        clear hF hK HPE HT HN hln HGM
        go_wp2_with (first | (go_at_call 45; ((with_reducible refine (Which_calls _ _ _ _ _ _ _ _ _ hI near0 near0).mono ?_); rintro e w8 ⟨rfl, hb1⟩; rw [HPX.out])))
        go_ret2
        have hB2 := (hB.trans (hQ.mono hB.size)).trans (hR.mono (Nat.le_trans hB.size hQ.size))
        exact Ret.of rfl (hBw.trans (Below.mono (next hB2 hb1) hBw.size))

theorem Part_calls (k W H t s x y : Int) (w : World) (t0 : 0 ≤ t) :
    Calls Try.prog 14 #[topoV k W H t s, pt x y] w (Ret (.tuple #[.int .i64 (partN k W H t s x y), .int .i64 (cellE k W H t s x y)]) w) := by
  by_cases h : checkE k W H t s = 0
  · cases hn : (nearI x && nearI y) with
    | true =>
      simp only [Bool.and_eq_true] at hn
      by_cases he : cellE k W H t s x y = 0
      · rw [he]
        by_cases hW : 0 < W <;> by_cases hH : 0 < H
        · exact Part_ok11 k W H t s x y w t0 h hn.1 hn.2 he hW hH
        · exact Part_ok10 k W H t s x y w t0 h hn.1 hn.2 he hW hH
        · exact Part_ok01 k W H t s x y w t0 h hn.1 hn.2 he hW hH
        · exact Part_ok00 k W H t s x y w t0 h hn.1 hn.2 he hW hH
      · have e1 : partN k W H t s x y = 0 := by unfold partN; rw [if_pos he]
        rw [e1]
        exact Part_e k W H t s x y w t0 h hn.1 hn.2 he
    | false =>
      have e0 : cellE k W H t s x y = 5 := by unfold cellE; rw [if_neg (by simp [h]), if_pos hn]
      have e1 : partN k W H t s x y = 0 := by unfold partN; rw [if_pos (by simp [e0])]
      rw [e0, e1]
      exact Part_far k W H t s x y w t0 h hn
  · have e0 : cellE k W H t s x y = 9 := by unfold cellE; rw [if_pos h]
    have e1 : partN k W H t s x y = 0 := by unfold partN; rw [if_pos (by simp [e0])]
    rw [e0, e1]
    exact Part_bad k W H t s x y w t0 h

end Go.Proofs.Ytfdehecekghlmaa
