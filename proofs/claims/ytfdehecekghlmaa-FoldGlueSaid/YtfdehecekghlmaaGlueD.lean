/- The walks of vivariumref06.SameIsos and of the law FoldGlue. -/
import Derived.Test.YtfdehecekghlmaaAwake
import Derived.Test.YtfdehecekghlmaaGlueC
import Derived.Test.YtfdehecekghlmaaLawKit
import Derived.Maps.AppendAt
import Derived.Deep.QuietTactic
import Derived.BigQuiet
set_option linter.unusedVariables false
set_option linter.unusedSimpArgs false
namespace Go.Proofs.Ytfdehecekghlmaa
open Go.RowKit Go.Viv Go.Proofs.Ytfdehecekghlmaa.PFoldRing
theorem run_equalIn_complex {P : Program} (w : World) (d : Nat) (t : TypeId) (k k' : FloatKind) (a b c e : Nat) (h : P.underlying t = some (.complex k')) : (Op.equalIn (d + 1) t (.complex k a b) (.complex k c e)).run P w = .ok ((k.format.order a c == some .eq) && (k.format.order b e == some .eq)) w := by
  simp [Op.equalIn, run_underlying h, Op.floatEq]
attribute [local go_sem] run_store_complex run_store_float run_equalIn_complex

theorem mvR_ord {k : Int} (h : k = 0 ∨ k = 2) : F64.order (mvR k) (mvR k) = some .eq := by
  rcases h with rfl | rfl
  · exact ord isW_one isW_one
  · exact ord isW_neg isW_neg
theorem fl_ord {n : Int} (hn : n.natAbs ≤ 9007199254740992) : F64.order (fl n) (fl n) = some .eq := by
  rw [show (some Ordering.eq) = some (compare n n) by simp]; exact ord (isW_fl n hn) (isW_fl n hn)
theorem zz_ord : F64.order 0 0 = some .eq := ord isW_zero isW_zero

/-- maps whose numbers are not great -/
def Small (l : List Mv) : Prop := ∀ m ∈ l, (m.k = 0 ∨ m.k = 2) ∧ m.x.natAbs ≤ 9007199254740992 ∧ m.y.natAbs ≤ 9007199254740992
theorem glue_small {k W H t s : Int} (t0 : 0 ≤ t) : Small (glueL k W H t s) := by
  intro m hm
  refine ⟨glue_k m hm, ?_⟩
  unfold glueL at hm
  split at hm
  · simp at hm
  · rename_i hc
    have h := topoOk t0 (by simp at hc; exact hc.1 : checkE k W H t s = 0)
    have w0 := h.w0; have w1 := h.w1; have h0 := h.h0; have h1 := h.h1
    obtain ⟨s1, s2⟩ := h.sh
    obtain ⟨f1, f2⟩ := first_b w0 w1
    obtain ⟨f3, f4⟩ := first_b h0 h1
    simp only [List.mem_append] at hm
    rcases hm with hm | hm
    · split at hm
      · simp at hm; subst hm; unfold glueX; split <;> dsimp only <;> (try split) <;> omega
      · simp at hm
    · split at hm
      · simp at hm; subst hm; unfold glueY; split <;> dsimp only <;> (try split) <;> omega
      · simp at hm

theorem SameIsos_nil (a1 a2 : Option Addr) (c1 c2 : Nat) (w : World) : Calls Try.prog 20 #[.slice a1 0 c1, .slice a2 0 c2] w (Ret (.bool true) w) := by
  go_enter Try.func20, Try.ntmps20
  go_wp2_with (first | fail)
  refine wp_loop_rounds 1 ?_
  rw [rounds_succ]; go_wp2
  go_ret
  exact Ret.of rfl (same _)

set_option maxHeartbeats 4000000 in
theorem SameIsos_some (g1 g2 n c1 c2 : Nat) (l : List Mv) (w : World) (hn : l.length = n) (hb : n ≤ 1000) (hs : Small l) (h1 : MvsAt w g1 l) (h2 : MvsAt w g2 l) :
    Calls Try.prog 20 #[.slice (some ⟨g1, 0, none⟩) n c1, .slice (some ⟨g2, 0, none⟩) n c2] w (Ret (.bool true) w) := by
  have HN := Lib.hid hn; have HS := Lib.hid hs; have H1 := Lib.hid h1; have H2 := Lib.hid h2
  clear hn hs h1 h2
  have hz := zz_ord
  go_enter Try.func20, Try.ntmps20
  go_wp2_with (first | fail)
  go_loopw [5] (fun i wr => ∃ j : Nat, i = .int .i64 j ∧ j ≤ n ∧ Below w.heap.size w wr) (fun i _ => n - (intOf i).toNat)
  case atStart => exact ⟨0, rfl, Nat.zero_le _, same _⟩
  obtain ⟨j, rfl, hj, hR⟩ := hrel
  by_cases hlt : j < n
  · obtain ⟨m, hm⟩ : ∃ m, l[j]? = some m := ⟨_, List.getElem?_eq_getElem (by rw [HN.out]; exact hlt)⟩
    obtain ⟨s1, s2, s3⟩ := HS.out m (List.mem_of_getElem? hm)
    have o1 := mvR_ord s1; have o2 := fl_ord s2; have o3 := fl_ord s3
    have a0 := cell_later hR (H1.out j m hm).1; have a1 := cell_later hR (H1.out j m hm).2.1; have a2 := cell_later hR (H1.out j m hm).2.2
    have b0 := cell_later hR (H2.out j m hm).1; have b1 := cell_later hR (H2.out j m hm).2.1; have b2 := cell_later hR (H2.out j m hm).2.2
    clear s1 s2 s3 hm
    obtain ⟨r, hr⟩ : ∃ r, mvR m.k = r := ⟨_, rfl⟩
    obtain ⟨X, hX⟩ : ∃ X, fl m.x = X := ⟨_, rfl⟩
    obtain ⟨Y, hY⟩ : ∃ Y, fl m.y = Y := ⟨_, rfl⟩
    rw [hr] at o1 a0 b0
    rw [hX] at o2 a2 b2
    rw [hY] at o3 a2 b2
    clear hr hX hY
    go_wp2_with (first | fail)
    go_quiet (fail)
    go_wp2
    go_roundw
    case rel => exact ⟨j + 1, by go_num, by omega, by repeat (with_reducible (first | exact hR | refine Below.drew ?_ | refine below_drewN ?_ _))⟩
    case measure => simp [intOf]; omega
  · go_wp2
    go_ret
    exact Ret.of rfl hR

theorem SameIsos_own {b1 b2 n : Nat} {v1 v2 : Value} {l : List Mv} {w : World} (h1 : w.ownsRow b1 41 3 v1 n (l.flatMap mvCells)) (h2 : w.ownsRow b2 41 3 v2 n (l.flatMap mvCells)) (hn : l.length = n) (hb : n ≤ 1000) (hs : Small l) :
    Calls Try.prog 20 #[v1, v2] w (Ret (.bool true) w) := by
  by_cases h0 : 0 < n
  · obtain ⟨g1, c1, rfl⟩ := own_form h1 h0
    obtain ⟨g2, c2, rfl⟩ := own_form h2 h0
    exact SameIsos_some g1 g2 n c1 c2 l w hn hb hs (mvs_of hn.symm h1) (mvs_of hn.symm h2)
  · obtain rfl : n = 0 := by omega
    have f : ∀ {b : Nat} {v : Value}, w.ownsRow b 41 3 v 0 (l.flatMap mvCells) → ∃ a c, v = .slice a 0 c := by
      intro b v h
      rcases ownsRow_forms_ h with ⟨rfl, _⟩ | ⟨g, c, rfl⟩
      · exact ⟨none, 0, rfl⟩
      · exact ⟨_, c, rfl⟩
    obtain ⟨a1, c1, rfl⟩ := f h1
    obtain ⟨a2, c2, rfl⟩ := f h2
    exact SameIsos_nil a1 a2 c1 c2 w

theorem gb_refl (w : World) (r : Option Nat) : w.grownBy w r := ⟨rfl, rfl, rfl, Nat.le_refl _, fun _ _ _ => rfl⟩
theorem gb_set {w wr : World} {g i : Nat} {u : Value} (h : w.grownBy wr (some g)) : w.grownBy (wr.setCell ⟨g, i, none⟩ u) (some g) :=
  ⟨h.os, h.tape, h.output, by simpa using h.size, fun k hk hne => (Below.heap_setCell wr ⟨g, i, none⟩ u k (fun e => hne (by rw [e]))).trans (h.block k hk hne)⟩
theorem gb_below {w wr w2 : World} {g : Nat} (h : w.grownBy wr (some g)) (h2 : Below wr.heap.size wr w2) : w.grownBy w2 (some g) :=
  ⟨h2.os.trans h.os, h2.tape.trans h.tape, h2.output.trans h.output, Nat.le_trans h.size h2.size, fun k hk hne => (h2.block k (Nat.lt_of_lt_of_le hk h.size)).trans (h.block k hk hne)⟩
theorem gb_next {w wr w2 : World} {g : Nat} {r : Option Nat} (h : w.grownBy wr (some g)) (h2 : wr.grownBy w2 r) (hr : ∀ k, r = some k → k = g ∨ w.heap.size ≤ k) : w.grownBy w2 (some g) :=
  ⟨h2.os.trans h.os, h2.tape.trans h.tape, h2.output.trans h.output, Nat.le_trans h.size h2.size, fun k hk hne => (h2.block k (Nat.lt_of_lt_of_le hk h.size) (fun e => by
    rcases hr k e.symm with h' | h'
    · exact hne (by rw [h'])
    · omega)).trans (h.block k hk hne)⟩
theorem gb_B {B : Nat} {a w wr : World} {g : Nat} (h : w.grownBy wr (some g)) (hB : Below B a w) (h1 : B ≤ w.heap.size) (h2 : B ≤ g) : Below B a wr :=
  hB.grown h h1 (fun k hk => by cases hk; exact h2)
theorem own_gb {w wr : World} {base e size n g : Nat} {v : Value} {xs : List Value} (h : w.ownsRow base e size v n xs) (hg : w.grownBy wr (some g)) (hne : v.ownBlock ≠ some g) : wr.ownsRow base e size v n xs := by
  refine ⟨h.1, ?_⟩
  rcases h.2 with h0 | ⟨k, cap, cur, hv, hb, hk, r⟩
  · exact .inl h0
  · refine .inr ⟨k, cap, cur, hv, hb, (hg.block k (bk_lt hk) (fun e => hne (by rw [hv, ← e]; rfl))).trans hk, r⟩
theorem own_lt {w : World} {base e size n : Nat} {v : Value} {xs : List Value} (h : w.ownsRow base e size v n xs) : ∀ k, v.ownBlock = some k → k < w.heap.size := by
  intro k hk
  rcases h.2 with ⟨rfl, _⟩ | ⟨g, cap, cur, rfl, _, hg, _⟩
  · cases hk
  · simp [Value.ownBlock] at hk; rw [← hk]; exact bk_lt hg
/-- append(s, x), s of one's own, and where the row lies behind it -/
theorem app_at {P : Program} {w : World} {ops : Array Oper} {rest : List Oper} {o : Oper} {a : Act} {Q : Exit → Act → World → Prop} (hgd : o.guard = none) (s x : Operand) (t : TypeId)
    (ho : o.op = .call { callee := .builtin .append, args := #[s, x], argTypes := #[t, t] })
    (base : Nat) (e : TypeId) (z : Value) (size bytes : Nat) (ht : P.underlying t = some (.slice e)) (hinfo : (P.info? e).map (fun i => (i.zero, i.size, i.bytes)) = some (some z, size, bytes))
    (hzs : z.cells.size = size) (hsz : 0 < size) (hby : bytes ≤ 1000)
    (v : Value) (n : Nat) (xs : List Value) (hs : a.eval s = v) (hown : w.ownsRow base e size v n xs) (hn : n ≤ 10000000)
    (g : Nat) (tt : TypeId) (cs : Array Value) (hx : a.eval x = .slice (some ⟨g, 0, none⟩) 1 1) (hg : w.heap[g]? = some (.cells cs tt (0, 0))) (hcs : cs.size = size) (h1 : ∀ u ∈ cs.toList, u.oneCell' = true) (hbase : base ≤ w.heap.size)
    (h : ∀ v' w', w'.ownsRow base e size v' (n + 1) (xs ++ cs.toList) → w.grownBy w' v.ownBlock → (v'.ownBlock = v.ownBlock ∨ v'.ownBlock = some w.heap.size) → wpList P ops Q rest (a.put o.dst v') w') : wpList P ops Q (o :: rest) a w := by
  obtain ⟨i, hi, hz, hs1, hb1⟩ := info_parts hinfo
  refine wpList_append_own_at w hgd s x t ho base e i z size bytes ht hi hz hs1 hb1 hzs hsz v n xs hs hown ⟨g, 0, none⟩ 1 1 cs.toList hx (by simp [hcs]) (news_at hg) h1 (by unfold maxLen; omega) (by
    have : (n + 1) * bytes ≤ 10000001 * 1000 := Nat.mul_le_mul (by omega) hby
    omega) hbase ?_
  intro v' w' h2 h3 _ h5
  exact h v' w' h2 h3 h5

set_option maxRecDepth 20000 in
set_option maxHeartbeats 8000000 in
theorem FoldGlue_walk {k W H t s k2 W2 H2 t2 s2 : Int} (w : World) (bk : 0 ≤ k ∧ k ≤ 255) (bW : -9223372036854775808 ≤ W ∧ W ≤ 9223372036854775807) (bH : -9223372036854775808 ≤ H ∧ H ≤ 9223372036854775807) (bt : 0 ≤ t ∧ t ≤ 255) (bs : -9223372036854775808 ≤ s ∧ s ≤ 9223372036854775807) (bk2 : 0 ≤ k2 ∧ k2 ≤ 255) (bW2 : -9223372036854775808 ≤ W2 ∧ W2 ≤ 9223372036854775807) (bH2 : -9223372036854775808 ≤ H2 ∧ H2 ≤ 9223372036854775807) (bt2 : 0 ≤ t2 ∧ t2 ≤ 255) (bs2 : -9223372036854775808 ≤ s2 ∧ s2 ≤ 9223372036854775807) :
    Calls Try.prog 5 #[topoV k W H t s, topoV k2 W2 H2 t2 s2] w (Ret (.bool true) w) := by
  have c1 := fun w => rGlue_calls k W H t s w bt.1
  have c2 := fun w => rGlue_calls k2 W2 H2 t2 s2 w bt2.1
  have c3 := fun w => Glue_calls k W H t s w bt.1
  have c4 := fun w => Glue_calls k2 W2 H2 t2 s2 w bt2.1
  have sL := glue_small (k := k) (W := W) (H := H) (s := s) bt.1
  have sM := glue_small (k := k2) (W := W2) (H := H2) (s := s2) bt2.1
  have lL := (glue_len (k := k) (W := W) (H := H) (t := t) (s := s) 0 0).2
  have lM := (glue_len (k := k2) (W := W2) (H := H2) (t := t2) (s := s2) 0 0).2
  obtain ⟨L, hL⟩ : ∃ L, glueL k W H t s = L := ⟨_, rfl⟩
  obtain ⟨M, hM⟩ : ∃ M, glueL k2 W2 H2 t2 s2 = M := ⟨_, rfl⟩
  obtain ⟨E, hE⟩ : ∃ E, glueE k W H t s = E := ⟨_, rfl⟩
  obtain ⟨F, hF⟩ : ∃ F, glueE k2 W2 H2 t2 s2 = F := ⟨_, rfl⟩
  rw [hL, hE] at c1 c3; rw [hM, hF] at c2 c4; rw [hL] at sL lL; rw [hM] at sM lM
  have C1 := Lib.hid c1; have C2 := Lib.hid c2; have C3 := Lib.hid c3; have C4 := Lib.hid c4; have SL := Lib.hid sL; have SM := Lib.hid sM
  clear c1 c2 c3 c4 sL sM hL hM hE hF bk bW bH bt bs bk2 bW2 bH2 bt2 bs2
  obtain ⟨nL, hnL⟩ : ∃ n, L.length = n := ⟨_, rfl⟩
  obtain ⟨nM, hnM⟩ : ∃ n, M.length = n := ⟨_, rfl⟩
  rw [hnL] at lL; rw [hnM] at lM
  have HNL := Lib.hid hnL; have HNM := Lib.hid hnM; clear hnL hnM
  have K1 : ((w.alloc (.cells #[.int .u8 k, .int .i64 W, .int .i64 H, .int .u8 t, .int .i64 s] 23)).alloc (.cells #[.int .u8 k2, .int .i64 W2, .int .i64 H2, .int .u8 t2, .int .i64 s2] 23)).heap[w.heap.size]? = some (.cells #[.int .u8 k, .int .i64 W, .int .i64 H, .int .u8 t, .int .i64 s] 23 (0, 0)) := (bk_alloc (bk_new _ _) _)
  have K2 : ((w.alloc (.cells #[.int .u8 k, .int .i64 W, .int .i64 H, .int .u8 t, .int .i64 s] 23)).alloc (.cells #[.int .u8 k2, .int .i64 W2, .int .i64 H2, .int .u8 t2, .int .i64 s2] 23)).heap[w.heap.size + 1]? = some (.cells #[.int .u8 k2, .int .i64 W2, .int .i64 H2, .int .u8 t2, .int .i64 s2] 23 (0, 0)) := (by have := bk_new (w.alloc (.cells #[.int .u8 k, .int .i64 W, .int .i64 H, .int .u8 t, .int .i64 s] 23)) (.cells #[.int .u8 k2, .int .i64 W2, .int .i64 H2, .int .u8 t2, .int .i64 s2] 23); simpa only [World.size_alloc] using this)
  have hBw : Below w.heap.size w ((w.alloc (.cells #[.int .u8 k, .int .i64 W, .int .i64 H, .int .u8 t, .int .i64 s] 23)).alloc (.cells #[.int .u8 k2, .int .i64 W2, .int .i64 H2, .int .u8 t2, .int .i64 s2] 23)) := (boxed _ _).alloc (by simp) _
  go_enter Try.func5, Try.ntmps5
  go_wp2_with (first | fail)
  generalize hW0 : ((w.alloc (.cells #[.int .u8 k, .int .i64 W, .int .i64 H, .int .u8 t, .int .i64 s] 23)).alloc (.cells #[.int .u8 k2, .int .i64 W2, .int .i64 H2, .int .u8 t2, .int .i64 s2] 23)) = W0 at *
  clear hW0
  have hB := same W0
  have K10 := K1
  have K20 := K2
  refine (awake_calls _).mono ?_
  rintro e w1 ⟨rfl, hb1⟩
  replace hB := next hB hb1; replace K1 := bk_below K1 hb1; have hcK1 := bk_cell K1; have hfK1 := bk_free K1; have hlK1 := bk_lt K1; replace K2 := bk_below K2 hb1; have hcK2 := bk_cell K2; have hfK2 := bk_free K2; have hlK2 := bk_lt K2
  go_wp2_with (first | fail)
  refine (C1.out _).mono ?_
  rintro e w2 ⟨vW, rfl, hb1, oW⟩
  rw [HNL.out] at oW
  replace hB := next hB hb1; replace K1 := bk_below K1 hb1; have hcK1 := bk_cell K1; have hfK1 := bk_free K1; have hlK1 := bk_lt K1; replace K2 := bk_below K2 hb1; have hcK2 := bk_cell K2; have hfK2 := bk_free K2; have hlK2 := bk_lt K2
  go_wp2_with (first | fail)
  refine (C2.out _).mono ?_
  rintro e w3 ⟨vN, rfl, hb1, oN⟩
  rw [HNM.out] at oN
  replace hB := next hB hb1; replace K1 := bk_below K1 hb1; have hcK1 := bk_cell K1; have hfK1 := bk_free K1; have hlK1 := bk_lt K1; replace K2 := bk_below K2 hb1; have hcK2 := bk_cell K2; have hfK2 := bk_free K2; have hlK2 := bk_lt K2
  replace oW := own_below oW hb1
  go_wp2_with (first | fail)
  refine (C3.out _).mono ?_
  rintro e w4 ⟨vA, rfl, hb1, oA⟩
  rw [HNL.out] at oA
  have hsz3 := hB.size
  replace hB := next hB hb1; replace K1 := bk_below K1 hb1; have hcK1 := bk_cell K1; have hfK1 := bk_free K1; have hlK1 := bk_lt K1; replace K2 := bk_below K2 hb1; have hcK2 := bk_cell K2; have hfK2 := bk_free K2; have hlK2 := bk_lt K2
  have hsz4 := hb1.size
  have ltW := own_lt oW; have ltN := own_lt oN; have geA := own_block oA
  have hs3 : W0.heap.size ≤ w3.heap.size := hsz3
  replace oW := own_below oW hb1; replace oN := own_below oN hb1
  go_wp2_with (first | fail)
  refine (C4.out _).mono ?_
  rintro e w5 ⟨vB, rfl, hb1, oB⟩
  rw [HNM.out] at oB
  replace hB := next hB hb1; replace K1 := bk_below K1 hb1; have hcK1 := bk_cell K1; have hfK1 := bk_free K1; have hlK1 := bk_lt K1; replace K2 := bk_below K2 hb1; have hcK2 := bk_cell K2; have hfK2 := bk_free K2; have hlK2 := bk_lt K2
  have hsz5 := hb1.size
  have ltA := own_lt oA; have geB := own_block oB
  replace oW := own_below oW hb1; replace oN := own_below oN hb1; replace oA := own_below oA hb1
  go_wp2_with (first | fail)
  refine (SameIsos_own oA oW HNL.out (by omega) SL.out).mono ?_
  rintro e w6 ⟨rfl, hb1⟩
  replace hB := next hB hb1; replace K1 := bk_below K1 hb1; have hcK1 := bk_cell K1; have hfK1 := bk_free K1; have hlK1 := bk_lt K1; replace K2 := bk_below K2 hb1; have hcK2 := bk_cell K2; have hfK2 := bk_free K2; have hlK2 := bk_lt K2
  replace oW := own_below oW hb1; replace oN := own_below oN hb1; replace oA := own_below oA hb1; replace oB := own_below oB hb1
  have hw36 : w3.heap.size ≤ w6.heap.size := by have := hb1.size; omega
  clear hb1
  have neK : w.heap.size < W0.heap.size := bk_lt K10
  rcases ownsRow_forms_ oA with ⟨rfl, h0⟩ | ⟨gA, cA, rfl⟩
  · subst h0
    have neW : vW.ownBlock ≠ some w6.heap.size := fun h_ => by have := own_lt oW _ h_; omega
    have neN : vN.ownBlock ≠ some w6.heap.size := fun h_ => by have := own_lt oN _ h_; omega
    have neB : vB.ownBlock ≠ some w6.heap.size := fun h_ => by have := own_lt oB _ h_; omega
    have hg0 : W0.heap.size ≤ w6.heap.size := hB.size
    clear oA geA ltA ltW ltN geB
    go_wp2_with (first | fail)
    refine wp_loop_rounds 1 ?_
    rw [rounds_succ]; go_wp2_with (first | fail)
    go_loopw [16, 10] (fun i v wq => ∃ (j : Nat) (xs : List Value), i = .int .i64 j ∧ j ≤ 8 ∧ wq.ownsRow w3.heap.size 41 3 v (0 + j) xs ∧ (∀ q, v.ownBlock = some q → q = w6.heap.size ∨ w6.heap.size ≤ q) ∧ w6.grownBy wq (some (w6.heap.size))) (fun i _ _ => 8 - (intOf i).toNat)
    case atStart => exact ⟨0, _, rfl, Nat.zero_le _, World.ownsRow_nil _ _ _ _, (fun q hq => absurd hq (by simp [Value.ownBlock])), gb_refl _ _⟩
    obtain ⟨j8, xs, rfl, hj8, hO, hq, hG⟩ := hrel
    by_cases hlt8 : j8 < 8
    · have hsz := hG.size
      have hb3 : w3.heap.size ≤ w6.heap.size := hw36
      go_wp2_with (first | (at_builtin; (refine app_at rfl (.tmp 62) (.tmp 64) 35 rfl w3.heap.size 41 _ 3 40 Try.underlying35 iso_info rfl (by decide) (by decide) _ _ _ (by rfl) (by exact own_below hO (boxed _ _)) (by omega) _ _ #[.complex .f64 0 0, .bool false, .complex .f64 4620693217682128896 0] (by rfl) (by exact bk_newn _ _ _ (by first | rfl | simp)) rfl (by simp [Value.oneCell']) (by simp; omega) ?_); intro v' w' hO' hgr hblk) | fail)
      go_roundw
      case rel =>
        refine ⟨j8 + 1, _, by go_num, by omega, hO', ?_, gb_next (gb_below hG (boxed _ _)) hgr hq⟩
        intro q hq'
        rcases hblk with e_ | e_
        · exact hq q (e_ ▸ hq')
        · rw [e_] at hq'
          simp at hq'
          right; omega
      case measure => simp [intOf]; omega
    · have oW' := own_gb oW hG neW; have oN' := own_gb oN hG neN; have oB' := own_gb oB hG neB
      have K1' := (hG.block _ (bk_lt K1) (fun e_ => by simp at e_; omega)).trans K1
      have hB' := gb_B hG hB hB.size hg0
      have hc1' := bk_cell K1'; have hl1' := bk_lt K1'
      clear hO hq
      go_wp2_with (first | fail)
      refine (C3.out _).mono ?_
      rintro e w8 ⟨vC, rfl, hb1, oC⟩
      rw [HNL.out] at oC
      replace hB' := next hB' hb1
      replace oW' := own_below oW' hb1; replace oN' := own_below oN' hb1; replace oB' := own_below oB' hb1
      go_wp2_with (first | fail)
      refine (SameIsos_own oB' oN' HNM.out (by omega) SM.out).mono ?_
      rintro e w9 ⟨rfl, hb1⟩
      replace hB' := next hB' hb1
      replace oW' := own_below oW' hb1; replace oC := own_below oC hb1
      go_wp2_with (first | fail)
      refine (SameIsos_own oC oW' HNL.out (by omega) SL.out).mono ?_
      rintro e w10 ⟨rfl, hb1⟩
      replace hB' := next hB' hb1
      go_wp2
      go_ret
      exact Ret.of rfl (hBw.trans (hB'.mono hBw.size))
  · have neW : vW.ownBlock ≠ some gA := fun h_ => by have a_ := ltW _ h_; have b_ : w3.heap.size ≤ gA := geA _ rfl; omega
    have neN : vN.ownBlock ≠ some gA := fun h_ => by have a_ := ltN _ h_; have b_ : w3.heap.size ≤ gA := geA _ rfl; omega
    have neB : vB.ownBlock ≠ some gA := fun h_ => by have a_ : gA < w4.heap.size := ltA _ rfl; have b_ := geB _ h_; omega
    have hg0 : W0.heap.size ≤ gA := Nat.le_trans hs3 (geA _ rfl)
    have gA3 : w3.heap.size ≤ gA := geA _ rfl
    obtain ⟨cur0, kA, hncap, hcm, hcs⟩ : ∃ cur, w6.heap[gA]? = some (.cells cur 41 (0, 0)) ∧ nL ≤ cA ∧ cA ≤ maxLen ∧ cur.size = cA * 3 := by
      rcases oA.2 with ⟨h_, _⟩ | ⟨g_, c_, cur, h_, _, hg_, h1_, h2_, h3_, _⟩
      · cases h_
      · simp only [Value.slice.injEq, Option.some.injEq, Addr.mk.injEq, and_true, true_and] at h_
        obtain ⟨rfl, rfl⟩ := h_
        exact ⟨cur, hg_, h1_, h2_, h3_⟩
    clear oA geA ltA ltW ltN geB
    have HCS := Lib.hid hcs; clear hcs
    go_wp2_with (first | fail)
    go_loopw [15] (fun i wr => ∃ (j : Nat) (cur : Array Value), i = .int .i64 j ∧ j ≤ nL ∧ wr.heap[gA]? = some (.cells cur 41 (0, 0)) ∧ Hid (cur.size = cA * 3) ∧ w6.grownBy wr (some gA)) (fun i _ => nL - (intOf i).toNat)
    case atStart => exact ⟨0, cur0, rfl, Nat.zero_le _, kA, HCS, gb_refl _ _⟩
    obtain ⟨j, cur, rfl, hj, KA, HC, hG⟩ := hrel
    clear kA HCS
    by_cases hlt : j < nL
    · have hbd : j * 3 + 2 < cur.size := by have h_ := HC.out; omega
      obtain ⟨z0, a0⟩ : ∃ z, wr.cell? ⟨gA, j * 3, none⟩ = some z := ⟨cur[j * 3]'(by omega), by rw [bk_cell KA]; exact Array.getElem?_eq_getElem _⟩
      obtain ⟨z1, a1⟩ : ∃ z, wr.cell? ⟨gA, j * 3 + 1, none⟩ = some z := ⟨cur[j * 3 + 1]'(by omega), by rw [bk_cell KA]; exact Array.getElem?_eq_getElem _⟩
      obtain ⟨z2, a2⟩ : ∃ z, wr.cell? ⟨gA, j * 3 + 2, none⟩ = some z := ⟨cur[j * 3 + 2]'(by omega), by rw [bk_cell KA]; exact Array.getElem?_eq_getElem _⟩
      have hfA := bk_free KA
      clear hbd
      go_wp2
      go_roundw
      case rel =>
        refine ⟨j + 1, _, by go_num, by omega, (by repeat (with_reducible (first | exact KA | apply bk_set | refine bk_drew ?_ | refine bk_drewN ?_ _ | refine bk_alloc ?_ _ | refine bk_far ?_ (by simp; try omega) _))), ?_, gb_set (gb_set (gb_set hG))⟩
        have h_ := HC.out
        show _ = _
        simpa using h_
      case measure => simp [intOf]; omega
    · have hjn : j = nL := by omega
      have hO : wr.ownsRow w3.heap.size 41 3 (.slice (some ⟨gA, 0, none⟩) nL cA) nL (cur.toList.take (nL * 3)) :=
        ⟨by have h_ := HC.out; simp; omega, .inr ⟨gA, cA, cur, rfl, gA3, KA, hncap, hcm, HC.out, rfl⟩⟩
      clear hjn KA HC
      go_wp2_with (first | fail)
      go_loopw [16, 10] (fun i v wq => ∃ (j : Nat) (xs : List Value), i = .int .i64 j ∧ j ≤ 8 ∧ wq.ownsRow w3.heap.size 41 3 v (nL + j) xs ∧ (∀ q, v.ownBlock = some q → q = gA ∨ w6.heap.size ≤ q) ∧ w6.grownBy wq (some (gA))) (fun i _ _ => 8 - (intOf i).toNat)
      case atStart => exact ⟨0, _, rfl, Nat.zero_le _, hO, (fun q hq => .inl (by simpa [Value.ownBlock, eq_comm] using hq)), hG⟩
      obtain ⟨j8, xs, rfl, hj8, hO, hq, hG⟩ := hrel
      by_cases hlt8 : j8 < 8
      · have hsz := hG.size
        have hb3 : w3.heap.size ≤ w6.heap.size := hw36
        go_wp2_with (first | (at_builtin; (refine app_at rfl (.tmp 62) (.tmp 64) 35 rfl w3.heap.size 41 _ 3 40 Try.underlying35 iso_info rfl (by decide) (by decide) _ _ _ (by rfl) (by exact own_below hO (boxed _ _)) (by omega) _ _ #[.complex .f64 0 0, .bool false, .complex .f64 4620693217682128896 0] (by rfl) (by exact bk_newn _ _ _ (by first | rfl | simp)) rfl (by simp [Value.oneCell']) (by simp; omega) ?_); intro v' w' hO' hgr hblk) | fail)
        go_roundw
        case rel =>
          refine ⟨j8 + 1, _, by go_num, by omega, hO', ?_, gb_next (gb_below hG (boxed _ _)) hgr hq⟩
          intro q hq'
          rcases hblk with e_ | e_
          · exact hq q (e_ ▸ hq')
          · rw [e_] at hq'
            simp at hq'
            right; omega
        case measure => simp [intOf]; omega
      · have oW' := own_gb oW hG neW; have oN' := own_gb oN hG neN; have oB' := own_gb oB hG neB
        have K1' := (hG.block _ (bk_lt K1) (fun e_ => by simp at e_; omega)).trans K1
        have hB' := gb_B hG hB hB.size hg0
        have hc1' := bk_cell K1'; have hl1' := bk_lt K1'
        clear hO hq
        go_wp2_with (first | fail)
        refine (C3.out _).mono ?_
        rintro e w8 ⟨vC, rfl, hb1, oC⟩
        rw [HNL.out] at oC
        replace hB' := next hB' hb1
        replace oW' := own_below oW' hb1; replace oN' := own_below oN' hb1; replace oB' := own_below oB' hb1
        go_wp2_with (first | fail)
        refine (SameIsos_own oB' oN' HNM.out (by omega) SM.out).mono ?_
        rintro e w9 ⟨rfl, hb1⟩
        replace hB' := next hB' hb1
        replace oW' := own_below oW' hb1; replace oC := own_below oC hb1
        go_wp2_with (first | fail)
        refine (SameIsos_own oC oW' HNL.out (by omega) SL.out).mono ?_
        rintro e w10 ⟨rfl, hb1⟩
        replace hB' := next hB' hb1
        go_wp2
        go_ret
        exact Ret.of rfl (hBw.trans (hB'.mono hBw.size))

end Go.Proofs.Ytfdehecekghlmaa
