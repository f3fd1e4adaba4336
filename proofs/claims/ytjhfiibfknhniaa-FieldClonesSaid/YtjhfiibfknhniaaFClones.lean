/- The walk of the law FieldClones. -/
import Derived.Test.YtjhfiibfknhniaaFLines
set_option linter.unusedVariables false
set_option linter.unusedSimpArgs false
namespace Go.Proofs.Ytjhfiibfknhniaa
open Go.RowKit Go.Shelf Go.Viv
attribute [local go_sem] Oper.semAt_some

theorem alloc4 (w : World) (o1 o2 o3 o4 : Obj) : ∃ W', ((((w.alloc o1).alloc o2).alloc o3).alloc o4) = W' ∧ Below w.heap.size w W' ∧ W'.heap.size = w.heap.size + 4 ∧ W'.heap[w.heap.size]? = some o1 ∧ W'.heap[w.heap.size + 1]? = some o2 ∧ W'.heap[w.heap.size + 1 + 1]? = some o3 ∧ W'.heap[w.heap.size + 1 + 1 + 1]? = some o4 := by
  obtain ⟨W', e, hb, hs, k1, k2, k3, k4, _⟩ := alloc7 w o1 o2 o3 o4 o1 o1 o1
  have h : ∀ (W : World) (o : Obj) (n : Nat), n = W.heap.size → (W.alloc o).heap[n]? = some o := fun W o n h => by subst h; exact World.alloc_heap_new W o
  have p : ∀ (W : World) (o p : Obj) (n : Nat), W.heap[n]? = some o → (W.alloc p).heap[n]? = some o := fun W o p n h => (Below.heap_alloc _ _ _ (Array.getElem?_eq_some_iff.1 h).1).trans h
  exact ⟨_, rfl, ((((boxed w _).alloc (by simp) _).alloc (by simp; try omega) _).alloc (by simp; try omega) _), by simp, p _ _ _ _ (p _ _ _ _ (p _ _ _ _ (h w o1 _ rfl))), p _ _ _ _ (p _ _ _ _ (h _ o2 _ (by simp))), p _ _ _ _ (h _ o3 _ (by simp)), h _ o4 _ (by simp)⟩

/-- append(s, x...) inside a fence, s of one's own, x whatever row -/
theorem app_rdIn {F : Fence} {n₀ : Nat} {P : Program} {w : World} {ops : Array Oper} {rest : List Oper} {o : Oper} {a : Act} {Q : Exit → Act → World → Prop} (hgd : o.guard = none) (s x : Operand) (t : TypeId)
    (ho : o.op = .call { callee := .builtin .append, args := #[s, x], argTypes := #[t, t] })
    (base : Nat) (e : TypeId) (z : Value) (size bytes : Nat) (ht : P.underlying t = some (.slice e)) (hinfo : (P.info? e).map (fun i => (i.zero, i.size, i.bytes)) = some (some z, size, bytes))
    (hzs : z.cells.size = size) (hsz : 0 < size)
    (v : Value) (n : Nat) (xs : List Value) (hs : a.eval s = v) (hown : w.ownsRow base e size v n xs)
    (A : Option Addr) (m c : Nat) (news : List Value) (hx : a.eval x = .slice A m c) (hr : Rd w A news) (hm : news.length = m * size) (h1 : ∀ u ∈ news, u.oneCell' = true)
    (h63 : n + m ≤ maxLen) (hby : (n + m) * bytes ≤ 140737488355328) (hbase : base ≤ w.heap.size)
    (h : ∀ v' w', w'.ownsRow base e size v' (n + m) (xs ++ news) → w.grownBy w' v.ownBlock → wpListIn F n₀ P ops Q rest (a.put o.dst v') w') : wpListIn F n₀ P ops Q (o :: rest) a w := by
  obtain ⟨i, hi, hz, hs1, hb1⟩ := info_parts hinfo
  cases A with
  | none =>
    have hn0 : news = [] := hr.1 rfl
    subst hn0
    have hm0 : m = 0 := by
      rcases Nat.eq_zero_or_pos m with h0 | h0
      · exact h0
      · have := Nat.mul_pos h0 hsz; simp at hm; omega
    subst hm0
    refine wpListIn_plain hgd fun K hK => ?_
    have hrun : (Builtin.append_ #[t, t] o.type #[v, .slice none 0 c]).run P w = .ok v w := by
      rcases hown.2 with ⟨rfl, rfl⟩ | ⟨g, cap, cur, rfl, _, _, hnc, _⟩
      · simp [Builtin.append_, run_underlying ht, sizeOf, typeInfo, hi, Builtin.lenOf, Builtin.firstCells]
      · simp [Builtin.append_, run_underlying ht, sizeOf, typeInfo, hi, Builtin.lenOf, Builtin.firstCells, hnc, storeCells]
    unfold Oper.wpIn
    refine ⟨?_, ?_⟩
    · simp [Oper.about, ho, resolve, Target.leads, Sem.run_pure]
    · rw [Oper.semAt_plain F _ _ (by rw [ho]; intro c hc'; cases hc')]
      simp [execOp, ho, resolve, invoke, builtin, hs, hx, hrun, Result.andThen]
      exact hK _ _ (h v w (by simpa using hown) (World.grownBy.refl _ _))
  | some ad => exact wpListIn_append_own w hgd s x t ho base e i z size bytes ht hi hz hs1 hb1 hzs hsz v n xs hs hown ad m c news hx hm (hr.2 ad rfl) h1 h63 hby hbase fun v' w' a b _ => h v' w' a b

/-- what lies where, in the law -/
structure CSt (B0 B1 B2 B3 BG BQ : Nat) (px py s : Int) (g g' g'' : Nat) (D D' D'' : FD) (S S' S'' : Nat → Prop) (w W : World) : Prop where
  o : B0 < B1 ∧ B1 < B2 ∧ B2 < B3 ∧ B3 < BG ∧ BG < BQ
  k0 : W.heap[B0]? = some (.cells #[.int .i64 px] 3 (0, 0))
  k1 : W.heap[B1]? = some (.cells #[.int .i64 py] 3 (0, 0))
  k2 : W.heap[B2]? = some (.cells #[.int .u8 s] 5 (0, 0))
  k3 : W.heap[B3]? = some (.cells #[.bool false] 4 (0, 0))
  kg : W.heap[BG]? = some (.cells #[.pointer (some ⟨g', 0, none⟩)] 22 (0, 0))
  kq : W.heap[BQ]? = some (.cells #[.pointer (some ⟨g'', 0, none⟩)] 22 (0, 0))
  f : Fld g D S W
  f' : Fld g' D' S' W
  f'' : Fld g'' D'' S'' W
  s0 : ∀ b, S b → B3 < b ∧ b < BG ∧ ¬ S' b
  s1 : ∀ b, S' b → B3 < b ∧ b < BG ∧ ¬ S b
  s2 : ∀ b, S'' b → BG < b
  bel : Below B0 w W
section
variable {B0 B1 B2 B3 BG BQ : Nat} {px py s : Int} {g g' g'' : Nat} {D D' D'' E : FD} {S S' S'' : Nat → Prop} {w W W' : World}
theorem CSt.below (h : CSt B0 B1 B2 B3 BG BQ px py s g g' g'' D D' D'' S S' S'' w W) (hb : Below W.heap.size W W') : CSt B0 B1 B2 B3 BG BQ px py s g g' g'' D D' D'' S S' S'' w W' :=
  ⟨h.o, bk_below h.k0 hb, bk_below h.k1 hb, bk_below h.k2 hb, bk_below h.k3 hb, bk_below h.kg hb, bk_below h.kq hb, h.f.below hb, h.f'.below hb, h.f''.below hb, h.s0, h.s1, h.s2, h.bel.trans (hb.mono (by have := bk_lt h.k0; omega))⟩
theorem CSt.wrote1 (h : CSt B0 B1 B2 B3 BG BQ px py s g g' g'' D D' D'' S S' S'' w W) (hw : Wrote S' W W') (hf : Fld g' E S' W') : CSt B0 B1 B2 B3 BG BQ px py s g g' g'' D E D'' S S' S'' w W' := by
  have o := h.o
  have e : ∀ b, b < W.heap.size → (b ≤ B3 ∨ BG ≤ b) → W'.heap[b]? = W.heap[b]? := fun b h1 h2 => hw.block b h1 (fun hs => by have := h.s1 b hs; omega)
  exact ⟨o, (e B0 (bk_lt h.k0) (by omega)).trans h.k0, (e B1 (bk_lt h.k1) (by omega)).trans h.k1, (e B2 (bk_lt h.k2) (by omega)).trans h.k2, (e B3 (bk_lt h.k3) (by omega)).trans h.k3, (e BG (bk_lt h.kg) (by omega)).trans h.kg, (e BQ (bk_lt h.kq) (by omega)).trans h.kq,
    h.f.wrote hw fun b hs => (h.s0 b hs).2.2, hf, h.f''.wrote hw fun b hs hs' => (by have := h.s2 b hs; have := h.s1 b hs'; omega), h.s0, h.s1, h.s2, h.bel.trans (hw.below (by have := bk_lt h.k0; omega) fun b hs => by have := h.s1 b hs; omega)⟩
theorem CSt.wrote0 (h : CSt B0 B1 B2 B3 BG BQ px py s g g' g'' D D' D'' S S' S'' w W) (hw : Wrote S W W') (hf : Fld g E S W') : CSt B0 B1 B2 B3 BG BQ px py s g g' g'' E D' D'' S S' S'' w W' := by
  have o := h.o
  have e : ∀ b, b < W.heap.size → (b ≤ B3 ∨ BG ≤ b) → W'.heap[b]? = W.heap[b]? := fun b h1 h2 => hw.block b h1 (fun hs => by have := h.s0 b hs; omega)
  exact ⟨o, (e B0 (bk_lt h.k0) (by omega)).trans h.k0, (e B1 (bk_lt h.k1) (by omega)).trans h.k1, (e B2 (bk_lt h.k2) (by omega)).trans h.k2, (e B3 (bk_lt h.k3) (by omega)).trans h.k3, (e BG (bk_lt h.kg) (by omega)).trans h.kg, (e BQ (bk_lt h.kq) (by omega)).trans h.kq,
    hf, h.f'.wrote hw fun b hs => (h.s1 b hs).2.2, h.f''.wrote hw fun b hs hs' => (by have := h.s2 b hs; have := h.s0 b hs'; omega), h.s0, h.s1, h.s2, h.bel.trans (hw.below (by have := bk_lt h.k0; omega) fun b hs => by have := h.s0 b hs; omega)⟩
end
theorem same_put {D : FD} (h : D.Ok) {x y s : Int} (hb : hasB D.W D.H x y = true) (hs : s < D.St) : sameC (D.put x y s) D ↔ D.f y.toNat x.toNat = s := by
  obtain ⟨h1, h2, h3, h4⟩ := hasB_of hb
  have e : D.put x y s = { D with f := setF D.f y.toNat x.toNat s } := by unfold FD.put; rw [if_pos hb, if_pos hs]
  rw [e]
  constructor
  · intro hc
    have := hc.2.2.2 y.toNat x.toNat (by show y.toNat < D.H; omega) (by show x.toNat < D.W; omega)
    simp [setF] at this
    exact this.symm
  · intro hv
    refine ⟨rfl, rfl, rfl, fun y' x' _ _ => ?_⟩
    show setF D.f y.toNat x.toNat s y' x' = D.f y' x'
    unfold setF
    split
    · rename_i hc; rw [hc.1, hc.2]; exact hv.symm
    · rfl

theorem getset {D : FD} (h : D.Ok) (eS : D.St = 256) (x y s : Int) (hs : 0 ≤ s ∧ s ≤ 255) : ∃ v e, getV D x y = .tuple #[.int .u8 v, .int .i64 e] ∧ setE D x y s = e ∧ (e = 130 ∨ e = 0 ∧ (sameC (D.put x y s) D ↔ v = s)) := by
  cases hb : hasB D.W D.H x y
  · exact ⟨0, 130, by simp [getV, hb], by simp [setE, hb], .inl rfl⟩
  · exact ⟨D.f y.toNat x.toNat, 0, by simp [getV, hb], by unfold setE; rw [if_pos hb, if_pos (by omega)], .inr ⟨rfl, same_put h hb (by omega)⟩⟩
theorem liv_none (D : FD) : livL { D with f := fun _ _ => 0 } = [] := by
  unfold livL livTo
  rw [List.flatMap_eq_nil_iff]
  intro y _
  unfold livRow
  rw [List.filterMap_eq_nil_iff]
  intro x _
  simp [celAt]

theorem keepC {g h : Nat} {cs cs2 : Array Value} {t t2 : TypeId} {w w1 w2 : World} {p q : Prop} (h1 : w.heap[g]? = some (.cells cs t (0, 0))) (h2 : w.heap[h]? = some (.cells cs2 t2 (0, 0))) (hb : p ∧ q ∧ Below w.heap.size w w1) (hb1 : Below w1.heap.size w1 w2) :
    w2.cell? ⟨g, 0, none⟩ = cs[0]? ∧ w2.cell? ⟨h, 0, none⟩ = cs2[0]? ∧ Below w.heap.size w w2 := by
  have hb' := hb.2.2.trans (hb1.mono hb.2.2.size)
  exact ⟨bk_cell (bk_below h1 hb') 0, bk_cell (bk_below h2 hb') 0, hb'⟩

theorem keepsOthers_below {A B : World} (h : Below A.heap.size A B) : KeepsOthers A B := ⟨h.size, fun k o hk _ => (h.block k (Array.getElem?_eq_some_iff.1 hk).1).trans hk⟩
theorem keepsOn_below {S : Nat → Prop} {A B C : World} (h : KeepsOn S A B) (hS : ∀ b, S b → b < B.heap.size) (hb : Below B.heap.size B C) : KeepsOn S A C := fun b hs => (hb.block b (hS b hs)).trans (h b hs)
theorem getV_any (E : FD) (x y : Int) : ∃ a j, getV E x y = .tuple #[.int .u8 a, .int .i64 j] ∧ (j = 0 ∨ j = 130) := by
  cases hb : hasB E.W E.H x y
  · exact ⟨0, 130, by simp [getV, hb], .inr rfl⟩
  · exact ⟨E.f y.toNat x.toNat, 0, by simp [getV, hb], .inl rfl⟩
theorem get_good {D : FD} {px py s cx cy cv a j : Int} (hm : (cx, cy, cv) ∈ livL D) (hg : getV (D.put px py s) cx cy = .tuple #[.int .u8 a, .int .i64 j]) : j = 0 ∧ ¬ cv = 0 ∧ (a = cv ∨ (cx = px ∧ cy = py ∧ a = s)) := by
  obtain ⟨y, x, hy, hx, hz, he⟩ := liv_mem hm
  obtain ⟨rfl, rfl, rfl⟩ : cx = (x : Int) ∧ cy = (y : Int) ∧ cv = D.f y x := by simpa using he
  have eW : (D.put px py s).W = D.W := by unfold FD.put; split; (· split <;> rfl); rfl
  have eH : (D.put px py s).H = D.H := by unfold FD.put; split; (· split <;> rfl); rfl
  have hb : hasB (D.put px py s).W (D.put px py s).H x y = true := by rw [eW, eH]; exact hasB_yes (by omega) (by omega) (by omega) (by omega)
  unfold getV at hg
  rw [if_pos hb] at hg
  simp only [Int.toNat_natCast, Value.tuple.injEq, Array.mk.injEq, List.cons.injEq, Value.int.injEq, true_and, and_true] at hg
  refine ⟨hg.2.symm, hz, ?_⟩
  rw [← hg.1]
  unfold FD.put
  cases hp : hasB D.W D.H px py
  · left; simp
  · by_cases hs : s < D.St
    · obtain ⟨h1, h2, h3, h4⟩ := hasB_of hp
      simp only [if_true, if_pos hs]
      unfold setF
      by_cases e : y = py.toNat ∧ x = px.toNat
      · right; rw [if_pos e]; exact ⟨by omega, by omega, rfl⟩
      · left; rw [if_neg e]
    · left; simp [hs]

def ClnI (M B0 B1 B2 B3 BG BN : Nat) (px py s : Int) (g' : Nat) (D' : FD) (S' : Nat → Prop) (w : World) (pre : List Cel) (W : World) : Prop :=
  W.heap[B0]? = some (.cells #[.int .i64 px] 3 (0, 0)) ∧ W.heap[B1]? = some (.cells #[.int .i64 py] 3 (0, 0)) ∧ W.heap[B2]? = some (.cells #[.int .u8 s] 5 (0, 0)) ∧ W.heap[B3]? = some (.cells #[.bool false] 4 (0, 0)) ∧
  W.heap[BG]? = some (.cells #[.pointer (some ⟨g', 0, none⟩)] 22 (0, 0)) ∧ W.heap[BN]? = some (.cells #[.int .i64 pre.length] 3 (0, 0)) ∧ Fld g' D' S' W ∧ Below B0 w W ∧ M ≤ W.heap.size
theorem fld_own {g : Nat} {D : FD} {S : Nat → Prop} {B : Nat} (hS : ∀ b, S b → b < B) : OwnFrom B (fun (_ : List Cel) W => Fld g D S W) := fun s X Y row hs hg hr =>
  hs.keep fun b hb => hg.block b (hs.lt b hb) (fun e => by have := (hr b e.symm).1; have := hS b hb; omega)
theorem clnI_own {M B0 B1 B2 B3 BG BN B : Nat} {px py s : Int} {g' : Nat} {D' : FD} {S' : Nat → Prop} {w : World} (h1 : B0 ≤ w.heap.size) (h2 : B0 ≤ B) (hS : ∀ b, S' b → b < B) : OwnFrom B (ClnI M B0 B1 B2 B3 BG BN px py s g' D' S' w) :=
  OwnFrom.and ((blk_own _ _ _).from _) (OwnFrom.and ((blk_own _ _ _).from _) (OwnFrom.and ((blk_own _ _ _).from _) (OwnFrom.and ((blk_own _ _ _).from _) (OwnFrom.and ((blk_own _ _ _).from _) (OwnFrom.and ((blk_own _ _ _).from _) (OwnFrom.and (fld_own hS) (OwnFrom.and (ownFrom_below h1 h2) (fun s X Y row hs hg _ => Nat.le_trans hs hg.size))))))))

set_option maxRecDepth 100000 in
set_option maxHeartbeats 8000000 in
theorem FieldClones_walk (x : Int) (Ao : Option Addr) (n c : Nat) (ls : List (List Int)) (px py s : Int) (w : World) (hx : -9223372036854775808 ≤ x ∧ x ≤ 9223372036854775807) (hn : ls.length = n) (hnb : n ≤ 140737488351232) (hl : LnsAt w Ao ls)
    (hpx : -9223372036854775808 ≤ px ∧ px ≤ 9223372036854775807) (hpy : -9223372036854775808 ≤ py ∧ py ≤ 9223372036854775807) (hs : 0 ≤ s ∧ s ≤ 255) :
    Calls Try.prog 6 #[.int .i64 x, .slice Ao n c, .int .i64 px, .int .i64 py, .int .u8 s] w (Ret (.bool true) w) := by
  have HL := Lib.hid hl; clear hl
  have HLN := Lib.hid hn; clear hn
  have HPX := Lib.hid hpx; have HPY := Lib.hid hpy; clear hpx hpy
  refine (callsIn_wide (n := 8)).1 ?_
  refine callsIn_of_wp_marks Try.func6 rfl trivial ?_ rfl
  simp only [Try.ntmps6, List.size_toArray, List.length_cons, List.length_nil, Nat.reduceAdd, Nat.reduceSub, Array.replicate_succ, Array.replicate_zero, List.push_toArray, List.append_toArray, List.nil_append, List.cons_append]
  gi_wp2_with (first | fail)
  obtain ⟨w0, e0, hb0, hz0, K0, K1, K2, K3⟩ := alloc4 w (.cells #[.int .i64 px] 3) (.cells #[.int .i64 py] 3) (.cells #[.int .u8 s] 5) (.cells #[.bool false] 4)
  rw [e0]; clear e0
  generalize hB0 : w.heap.size = B0 at *
  have l1 : B0 < B0 + 1 := by omega
  have l2 : B0 + 1 < B0 + 1 + 1 := by omega
  have l3 : B0 + 1 + 1 < B0 + 1 + 1 + 1 := by omega
  have l4 : B0 + 1 + 1 + 1 < w0.heap.size := by omega
  generalize B0 + 1 + 1 + 1 = B3 at *
  generalize B0 + 1 + 1 = B2 at *
  generalize B0 + 1 = B1 at *
  clear hz0
  have HB0 := Lib.hid hB0; clear hB0
  refine ⟨trivial, (callsIn_wide.2 (alive13 _)).mono ?_⟩
  rintro e w1 ⟨rfl, hb1⟩
  replace K0 := bk_below K0 hb1; replace K1 := bk_below K1 hb1; replace K2 := bk_below K2 hb1; replace K3 := bk_below K3 hb1
  have hsz0 : B0 ≤ w0.heap.size := by omega
  replace l4 : B3 < w1.heap.size := Nat.lt_of_lt_of_le l4 hb1.size
  replace hb0 := hb0.trans (hb1.mono hsz0)
  clear hb1 hsz0
  gi_wp2_with (first | fail)
  refine ⟨trivial, (callsIn_wide.2 (New_any _ _ _)).mono ?_⟩
  rintro e w2 (⟨g, S, rfl, x1, x2, n1, n2, hF, hS, hb⟩ | ⟨m, rfl, hm, rfl⟩)
  rotate_left
  · have hm0 : (m == 0) = false := beq_eq_false_iff_ne.2 (by omega)
    have hm1 : (m != 0) = true := bne_iff_ne.2 (by omega)
    have hc3 := bk_cell K3; have hf3 := bk_free K3
    gi_wp2
    have kr : (w1.setCell ⟨B3, 0, none⟩ (.bool true)).heap[B3]? = some (.cells #[.bool true] 4 (0, 0)) := bk_eq (by repeat (with_reducible (first | exact K3 | apply bk_set | refine bk_drew ?_ | refine bk_drewN ?_ _ | refine bk_alloc ?_ _ | refine bk_far ?_ (by simp; try omega) _))) (by simp)
    refine ⟨_, res_c1 rfl _ _ B3 _ rfl (bk_cell kr 0) Try.underlying4, rfl, ?_⟩
    rw [HB0.out]
    exact hb0.setCell (p := ⟨B3, 0, none⟩) (by simp; omega) _
  obtain ⟨W, rfl⟩ := Int.eq_ofNat_of_zero_le (show 0 ≤ x by omega)
  simp only [Int.toNat_natCast] at hF
  have hLF := Lib.hid (lf_zero (ls := ls) hF)
  generalize hN1 : w1.heap.size = N1 at *
  have hsz1 : B0 ≤ w1.heap.size := by omega
  have HSS := Lib.hid hS
  replace K0 := bk_below K0 (by rw [← hN1] at hb; exact hb); replace K1 := bk_below K1 (by rw [← hN1] at hb; exact hb); replace K2 := bk_below K2 (by rw [← hN1] at hb; exact hb); replace K3 := bk_below K3 (by rw [← hN1] at hb; exact hb)
  have hsN : N1 ≤ w2.heap.size := by have := hb.size; omega
  replace hb0 := hb0.trans (hb.mono (by omega))
  have HK : Hid (∀ wr, Wrote S w2 wr → wr.heap[B0]? = some (.cells #[.int .i64 px] 3 (0, 0)) ∧ wr.heap[B1]? = some (.cells #[.int .i64 py] 3 (0, 0)) ∧ wr.heap[B2]? = some (.cells #[.int .u8 s] 5 (0, 0)) ∧ wr.heap[B3]? = some (.cells #[.bool false] 4 (0, 0)) ∧ Below B0 w wr ∧ LnsAt wr Ao ls) := fun wr hw => by
    have e : ∀ b, b < N1 → wr.heap[b]? = w2.heap[b]? := fun b hb' => hw.block b (by omega) (fun h => by have := HSS.out b h; omega)
    have hbw : Below B0 w wr := hb0.trans (hw.below (by omega) fun b h => by have := HSS.out b h; omega)
    exact ⟨(e B0 (by omega)).trans K0, (e B1 (by omega)).trans K1, (e B2 (by omega)).trans K2, (e B3 (by omega)).trans K3, hbw, HL.out.below (by rw [HB0.out]; exact hbw)⟩
  have hltS := Lib.hid hF.lt
  clear hF hS hb hx K0 K1 K2 K3 hb0
  gi_wp2_with (first | fail)
  gi_loopw [14] (fun i wr => ∃ k : Nat, i = .int .i64 k ∧ k ≤ n ∧ Hid (LF g S W n ls k wr) ∧ Wrote S w2 wr) (fun i _ => n - (intOf i).toNat)
  case atStart => exact ⟨0, rfl, Nat.zero_le _, hLF.out, Wrote.refl _ _⟩
  clear hLF
  obtain ⟨k, rfl, hk, hLF, hW⟩ := hrel
  by_cases hlt : k < n
  · obtain ⟨-, -, -, -, hB, hLn⟩ := HK.out _ hW
    obtain ⟨b, off, A', c', rfl, hcell, hrow, hrb, hrz⟩ := hLn.row (r := k) (by rw [HLN.out]; exact hlt)
    have HRZ := Lib.hid hrz
    have hlay : Hid (∀ (A : Option Addr) (c : Nat) (w' : World), LF g S W n ls k w' → Rd w' A ((ls.getD k []).map (.int .u8)) → (0 < (ls.getD k []).length → ∃ b off, A = some ⟨b, off, none⟩ ∧ ¬ S b ∧ b < w'.heap.size) →
        Calls Try.prog 11 #[.pointer (some ⟨g, 0, none⟩), .int .i64 k, .slice A (ls.getD k []).length c] w' fun e w2 => e = .returned (.int .i64 (lnE W (ls.getD k []))) ∧ LF g S W n ls (k + 1) w2 ∧ Wrote S w' w2) :=
      fun A c w' h1 h2 h3 => lay_ln h1 HLN.out.symm hlt (by omega) h2 hrb HRZ.out h3
    clear hrz hLn
    generalize hq : ls.getD k [] = l at *
    have HRW := Lib.hid hrow; clear hrow hq
    gi_wp2_with (first
      | (gi_at_builtin; refine app_rdIn rfl _ _ 28 (by rfl) wr.heap.size 5 (.int .u8 0) 1 1 Try.underlying28 (by kernel_rfl) rfl (by decide) (.slice none 0 0) 0 [] (by rfl) (World.ownsRow_nil _ _ _ _) A' l.length c' (l.map (.int .u8)) (by rfl) HRW.out (by simp) (by simp [Value.oneCell']) (by unfold maxLen; omega) (by omega) (Nat.le_refl _) ?_; intro v1 w3 hown hg2; rw [Nat.zero_add, List.nil_append] at hown; obtain ⟨A1, c1, rfl⟩ := own_slice hown))
    have hb2' := below_of_nil hg2
    have hR1 := Lib.hid (Rd.of_own hown)
    have hA1 : Hid (0 < l.length → ∃ b off, A1 = some ⟨b, off, none⟩ ∧ ¬ S b ∧ b < w3.heap.size) := fun h => by
      obtain ⟨g1, e1, e2, e3⟩ := own_at hown h
      exact ⟨g1, 0, e1, fun hs => (by have := (hLF.out.choose_spec.1).lt g1 hs; omega), e3⟩
    have hLF2 := Lib.hid (hLF.out.below hb2')
    have hW2 := hW.trans (Wrote.of_below hb2')
    clear hown hg2 hLF hB hb2' hcell hW
    refine ⟨trivial, (callsIn_wide.2 (hlay.out _ _ _ hLF2.out hR1.out hA1.out)).mono ?_⟩
    rintro e w4 ⟨rfl, hLF3, hw3⟩
    have hLF3 := Lib.hid hLF3
    have hW3 := hW2.trans hw3
    clear hLF2 hW2 hw3 hR1 hA1 hlay
    gi_wp2_with (first | fail)
    go_roundw
    case rel => exact ⟨k + 1, by go_num, by omega, hLF3, hW3⟩
    case measure => simp [intOf]; omega
  obtain rfl : k = n := by omega
  clear hlt hk
  obtain ⟨D, hF, eW, eH, eS, ep, -⟩ := hLF.out
  obtain ⟨K0, K1, K2, K3, hB, -⟩ := HK.out _ hW
  have HS1 := Lib.hid (fun b hb => HSS.out b hb)
  clear hLF HK HSS hltS hW HL
  have HF := Lib.hid hF; clear hF
  gi_wp2_with (first | fail)
  refine ⟨trivial, (callsIn_wide.2 (Pop_calls HF.out)).mono ?_⟩
  rintro e w3 ⟨rfl, hb⟩
  have hl0 := Nat.le_of_lt (bk_lt K0)
  replace HF := Lib.hid (HF.out.below hb)
  replace K0 := bk_below K0 hb; replace K1 := bk_below K1 hb; replace K2 := bk_below K2 hb; replace K3 := bk_below K3 hb
  replace hB := hB.trans (hb.mono hl0)
  clear hb hl0
  gi_wp2_with (first | fail)
  refine ⟨trivial, (callsIn_wide.2 (Clone_calls HF.out)).mono ?_⟩
  rintro e w4 ⟨g', S', rfl, hF', hS', hb⟩
  have hl0 := Nat.le_of_lt (bk_lt K0)
  have hlS := HF.out.lt
  have hsS : ∀ b, S b → B3 < b ∧ b < w4.heap.size ∧ ¬ S' b := fun b h => ⟨by have := HS1.out b h; omega, by have := hlS b h; have := hb.size; omega, fun h' => by have := hS' b h'; have := hlS b h; omega⟩
  have hsS' : ∀ b, S' b → B3 < b ∧ b < w4.heap.size ∧ ¬ S b := fun b h => ⟨by have := hS' b h; have := bk_lt K3; omega, hF'.lt b h, fun h' => by have := hS' b h; have := hlS b h'; omega⟩
  replace HF := Lib.hid (HF.out.below hb)
  replace K0 := bk_below K0 hb; replace K1 := bk_below K1 hb; replace K2 := bk_below K2 hb; replace K3 := bk_below K3 hb
  replace hB := hB.trans (hb.mono hl0)
  have HF' := Lib.hid hF'
  have HSS := Lib.hid hsS; have HSS' := Lib.hid hsS'
  clear hb hlS hS' hF' hsS hsS' HS1
  gi_wp2_with (first | fail)
  have KG := bk_new w4 (.cells #[.pointer (some ⟨g', 0, none⟩)] 22)
  have hb := boxed w4 (.cells #[.pointer (some ⟨g', 0, none⟩)] 22)
  replace HF := Lib.hid (HF.out.below hb); replace HF' := Lib.hid (HF'.out.below hb)
  have hl3 : B3 < w4.heap.size := bk_lt K3
  replace hl0 := Nat.le_of_lt (bk_lt K0)
  replace K0 := bk_below K0 hb; replace K1 := bk_below K1 hb; replace K2 := bk_below K2 hb; replace K3 := bk_below K3 hb
  replace hB := hB.trans (hb.mono hl0)
  generalize hBG : w4.heap.size = BG at *
  clear hb
  generalize (w4.alloc (.cells #[.pointer (some ⟨g', 0, none⟩)] 22)) = w5 at *
  refine ⟨trivial, (callsIn_wide.2 (Cells_calls HF.out)).mono ?_⟩
  rintro e w6 ⟨g2, S2, BQ, rfl, hF2, hS2, hBQ, KQ, hb⟩
  have hl5 : BG < w5.heap.size := bk_lt KG
  have HC : Hid (CSt B0 B1 B2 B3 BG BQ px py s g g' g2 D D D S S' S2 w w6) := ⟨by omega, bk_below K0 hb, bk_below K1 hb, bk_below K2 hb, bk_below K3 hb, bk_below KG hb, KQ, HF.out.below hb, HF'.out.below hb, hF2, HSS.out, HSS'.out, fun b h => by have := hS2 b h; omega, hB.trans (hb.mono (Nat.le_of_lt (bk_lt K0)))⟩
  clear hl0 K0 K1 K2 K3 KG KQ hF2 hS2 hBQ hb hB HF HF' HSS HSS' hl3 hl5 hBG
  have hss : ∀ (w' : World) (e : Ending) (w'' : World), SameP D D w' e w'' → e = .returned (.bool true) ∧ Below w'.heap.size w' w'' := fun _ _ _ ⟨b, he, hi, hb⟩ => ⟨by rw [he, hi.2 ⟨rfl, rfl, rfl, fun _ _ _ _ => rfl⟩], hb⟩
  have HSM := Lib.hid hss; clear hss
  have hfe : ∀ (g : Nat) (lb : Array Value) (W : World), (binOp .eql 43 (.func (.func g) #[] lb) .nilFunc).run Try.prog W = .ok (.bool false) W := fun _ _ _ => by kernel_rfl
  have hcg := bk_cell HC.out.kg
  gi_wp2_with (first | fail)
  refine ⟨trivial, (callsIn_wide.2 ((Same_calls HC.out.f' HC.out.f).mono fun _ _ r => HSM.out _ _ _ r)).mono ?_⟩
  rintro e w7 ⟨rfl, hb⟩
  clear hcg
  replace HC := Lib.hid (HC.out.below hb)
  have hcg := bk_cell HC.out.kg
  clear hb
  gi_wp2_with (first | fail)
  refine ⟨trivial, (callsIn_wide.2 ((Same_calls HC.out.f HC.out.f').mono fun _ _ r => HSM.out _ _ _ r)).mono ?_⟩
  rintro e w8 ⟨rfl, hb⟩
  clear hcg
  replace HC := Lib.hid (HC.out.below hb)
  have hcg := bk_cell HC.out.kg; have hc0 := bk_cell HC.out.k0; have hc1 := bk_cell HC.out.k1; have hc2 := bk_cell HC.out.k2
  clear hb
  have cp := Packed_calls HC.out.f'
  have cw := W_calls HC.out.f'
  have ch := H_calls HC.out.f'
  have cs' := States_calls HC.out.f'
  rw [ep] at cp; rw [eW] at cw; rw [eH] at ch; rw [eS] at cs'
  have CP := Lib.hid cp; have CW := Lib.hid cw; have CH := Lib.hid ch; have CS := Lib.hid cs'
  clear cp cw ch cs'
  gi_wp2_with (first
    | (refine ⟨trivial, ?_⟩; gi_at_call 17; ((with_reducible refine (callsIn_wide.2 CP.out).mono ?_); rintro e w' ⟨rfl, rfl⟩))
    | (refine ⟨trivial, ?_⟩; gi_at_call 22; ((with_reducible refine (callsIn_wide.2 CW.out).mono ?_); rintro e w' ⟨rfl, rfl⟩))
    | (refine ⟨trivial, ?_⟩; gi_at_call 23; ((with_reducible refine (callsIn_wide.2 CH.out).mono ?_); rintro e w' ⟨rfl, rfl⟩))
    | (refine ⟨trivial, ?_⟩; gi_at_call 24; ((with_reducible refine (callsIn_wide.2 CS.out).mono ?_); rintro e w' ⟨rfl, rfl⟩)))
  obtain ⟨v, e0, hgv, hse, hcs⟩ := getset HC.out.f.ok eS px py s hs
  have cg := Get_calls px py HC.out.f'
  rw [hgv] at cg
  have CG := Lib.hid cg; clear cg
  refine ⟨trivial, (callsIn_wide.2 CG.out).mono ?_⟩
  rintro e w9 ⟨rfl, hb⟩
  clear CG hcg hc0 hc1 hc2
  replace HC := Lib.hid (HC.out.below hb)
  have hcg := bk_cell HC.out.kg; have hc0 := bk_cell HC.out.k0; have hc1 := bk_cell HC.out.k1; have hc2 := bk_cell HC.out.k2
  clear hb
  gi_wp2_with (first | fail)
  have cg := Set_calls px py s HC.out.f' hs.1 hs.2
  rw [hse] at cg
  have CG := Lib.hid cg; clear cg
  refine ⟨trivial, (callsIn_wide.2 CG.out).mono ?_⟩
  rintro e w10 ⟨rfl, hf10, hw10⟩
  replace HC := Lib.hid (HC.out.wrote1 hw10 hf10)
  clear CG hcg hc0 hc1 hc2 hf10 hw10
  have hcg := bk_cell HC.out.kg; have hc0 := bk_cell HC.out.k0; have hc1 := bk_cell HC.out.k1; have hc2 := bk_cell HC.out.k2
  gi_wp2_with (first | fail)
  have cg := Get_calls px py HC.out.f
  rw [hgv] at cg
  have CG := Lib.hid cg; clear cg
  refine ⟨trivial, (callsIn_wide.2 CG.out).mono ?_⟩
  rintro e w11 ⟨rfl, hb⟩
  clear CG hcg hc0 hc1 hc2
  replace HC := Lib.hid (HC.out.below hb)
  have hcg := bk_cell HC.out.kg; have hc0 := bk_cell HC.out.k0; have hc1 := bk_cell HC.out.k1; have hc2 := bk_cell HC.out.k2
  clear hb
  have HGV := Lib.hid hgv; clear hgv hse
  gi_wp2_with (first | fail)
  gi_cut [149] from 124 (fun u wc => u = .bool false ∧ Hid (CSt B0 B1 B2 B3 BG BQ px py s g g' g2 D (D.put px py s) D S S' S2 w wc))
  case first =>
    rename_i J1 K1 hJ1 hK1
    have hvv : (v != v) = false := bne_self_eq_false v
    refine wpIn_mono (Q := barred _) ?_ barred_out
    refine wpIn_wide.2 ?_
    rcases hcs with rfl | ⟨rfl, hsm⟩
    · have HX : Hid (∀ m, CSt B0 B1 B2 B3 BG BQ px py s g g' g2 D (D.put px py s) D S S' S2 w (w11.drewN m)) := fun m => HC.out.below ⟨rfl, rfl, rfl, Nat.le_refl _, fun _ _ => rfl⟩
      go_quiet (fail)
      refine barred_nm ?_
      refine hK1 _ _ (Met.intro (hJ1 _ _ ?_))
      (repeat apply Exists.intro)
      refine ⟨?rel, rfl⟩
      case rel => exact ⟨rfl, HX.out _⟩
    · have csm : ∀ w', Below w11.heap.size w11 w' → Calls Try.prog 19 #[.pointer (some ⟨g', 0, none⟩), .pointer (some ⟨g, 0, none⟩)] w' fun e w'' => e = .returned (.bool (v == s)) ∧ Below w'.heap.size w' w'' := fun w' hx => (Same_calls (HC.out.below hx).f' (HC.out.below hx).f).mono fun e w' ⟨b, he, hi, hb⟩ => by
        refine ⟨?_, hb⟩
        rw [he]
        congr 2
        rw [Bool.eq_iff_iff, hi, hsm, beq_iff_eq]
      have CSM := Lib.hid csm; clear csm hsm
      have hcell : Hid (∀ wz, Below w11.heap.size w11 wz → CSt B0 B1 B2 B3 BG BQ px py s g g' g2 D (D.put px py s) D S S' S2 w wz) := fun wz hz => HC.out.below hz
      have hbb : ((v == s) != (v == s)) = false := bne_self_eq_false _
      have HK1 := Lib.hid HC.out.kg; have HK2 := Lib.hid HC.out.k2
      go_region_held3 (fun w' => w'.cell? ⟨BG, 0, none⟩ = some (.pointer (some ⟨g', 0, none⟩)) ∧ w'.cell? ⟨B2, 0, none⟩ = some (.int .u8 s) ∧ Below w11.heap.size w11 w')
        (first | exact ⟨hcg 0, hc2 0, (same w11).drew⟩ | exact keepC HK1.out HK2.out (by assumption) hb1)
        ((go_at_call 19; (with_reducible refine (CSM.out _ (And.right (And.right (by assumption)))).mono ?_); rintro e w1 ⟨rfl, hb1⟩))
      rename_i hH
      refine barred_nm ?_
      refine hK1 _ _ (Met.intro (hJ1 _ _ ?_))
      (repeat apply Exists.intro)
      refine ⟨?rel, rfl⟩
      case rel => exact ⟨rfl, hcell.out _ hH.2.2⟩
  case rest =>
    clear hcg hc0 hc1 hc2 HC
    obtain ⟨rfl, HC⟩ := hcut
    gi_upto_region 20 with (fail)
    gi_cut [157] from 29 (fun u wc => u = .bool false ∧ Hid (CSt B0 B1 B2 B3 BG BQ px py s g g' g2 { D with f := fun _ _ => 0 } (D.put px py s) D S S' S2 w wc))
    case first =>
      gi_wp2_with (first | fail)
      refine ⟨trivial, (callsIn_wide.2 (Clear_calls HC.out.f)).mono ?_⟩
      rintro e w12 ⟨rfl, hf12, hw12⟩
      replace HC := Lib.hid (HC.out.wrote0 hw12 hf12)
      clear hf12 hw12
      gi_wp2_with (first | fail)
      have cpp := Pop_calls HC.out.f
      rw [liv_none] at cpp
      have CPP := Lib.hid cpp; clear cpp
      refine ⟨trivial, (callsIn_wide.2 CPP.out).mono ?_⟩
      rintro e w13 ⟨rfl, hb⟩
      replace HC := Lib.hid (HC.out.below hb)
      clear hb CPP
      gi_wp2
      gi_meet
      case rel => exact ⟨rfl, HC⟩
    case rest =>
      clear HC
      obtain ⟨rfl, HC⟩ := hcut
      gi_wp2_with (first | fail)
      have KN := bk_new wc (.cells #[.int .i64 0] 3)
      have HC2 := HC.out.below (boxed wc (.cells #[.int .i64 0] 3))
      have hbn : BQ < wc.heap.size := bk_lt HC.out.kq
      have hlq : ∀ b, (S2 b ∨ b = BQ) → b < wc.heap.size := fun b hb => by
        rcases hb with hb | rfl
        · exact HC.out.f''.lt b hb
        · exact hbn
      generalize hBN : wc.heap.size = BN at *
      generalize wc.alloc (.cells #[.int .i64 0] 3) = w14 at *
      have hit := living_fld BQ HC2.kq HC2.f''
      have o := HC2.o
      have hl1 : BN < w14.heap.size := bk_lt KN
      have hS'0 : ∀ b, S' b → b < BG := fun b hb => (HC2.s1 b hb).2.1
      have hS' := Lib.hid hS'0
      have hB0w : B0 ≤ w.heap.size := by rw [HB0.out]; exact Nat.le_refl _
      have hll : (livL D).length ≤ 1048576 := by have := livTo_length D D.H; have := HC2.f''.ok.wh; unfold livL; omega
      obtain ⟨K0, K1, K2, K3, KG, hf', hbel⟩ := (⟨HC2.k0, HC2.k1, HC2.k2, HC2.k3, HC2.kg, HC2.f', HC2.bel⟩ : _ ∧ _ ∧ _ ∧ _ ∧ _ ∧ _ ∧ _)
      clear HC HC2 hBN
      refine wpIn_rangeFunc_ownH rfl (by omega) (gf := 51) (lb := #[.pointer (some ⟨BQ, 0, none⟩)]) rfl trivial (enters_of Try.func51 (by kernel_rfl) rfl)
        (hit.2 7 (by omega)) keepsOn_t (keepsOn_b hit.1) (Below.refl _ _) (fun _ => rfl)
        (ClnI w14.heap.size B0 B1 B2 B3 BG BN px py s g' (D.put px py s) S' w) (fun c xs _ => c = .ret ∧ ¬ xs <+: livL D) (clnI_own hB0w (by omega) (fun b hb => by have := hS'.out b hb; omega)) (fun _ _ _ _ _ hs _ _ => hs)
        ⟨K0, K1, K2, K3, KG, KN, hf', hbel, Nat.le_refl _⟩ (fun x a' Wx => ∃ BX, BN < BX ∧ Wx.heap[BX]? = some (.cells #[.int .i64 x.1, .int .i64 x.2.1] 46 (0, 0)) ∧ a' = { tmps := #[.int .i64 W, .slice Ao k c, .int .i64 px, .int .i64 py, .int .u8 s, undef, undef, .pointer (some ⟨B0, 0, none⟩), .pointer (some ⟨B1, 0, none⟩), .pointer (some ⟨B2, 0, none⟩), .pointer (some ⟨B3, 0, none⟩), .bool true, .pointer (some ⟨g, 0, none⟩), .int .i64 0, .int .i64 k, u15, .int .i64 (livL D).length, .pointer (some ⟨BG, 0, none⟩), .func (.func 51) #[] #[.pointer (some ⟨BQ, 0, none⟩)], .int .u8 v, .int .i64 e0, .int .i64 e0, .int .u8 v, .int .i64 e0, .pointer (some ⟨BN, 0, none⟩), .pointer (some ⟨BX, 0, none⟩), .int .u8 x.2.2, undef, undef, u29, u30, u31, u32, u33, u34, u35, u36, u37, u38, u39, u40, u41, u42, u43, u44, u45, u46, u47, u48, u49, u50, u51, u52, u53, u54, u55, u56, u57, u58, u59, u60, u61, u62, u63, u64, u65, u66, u67, u68, u69, u70, u71, u72, u73, u74, u75, u76, u77, u78, u79, u80, u81, u82, u83, u84, u85, u86, u87, u88, u89, u90, u91, u92, u93, u94, u95, u96, u97, u98, u99, u100, u101, u102, u103, u104, u105, u106, u107, u108, u109, u110, u111, u112, u113, u114, u115, u116, u117, u118, u119, u120, u121, u122, u123, u124, u125, u126, u127, u128, u129, u130, u131, u132, u133, u134, u135, u136, u137, u138, u139, u140, u141, u142, u143, u144, u145, u146, u147, u148, u149, u150, u151, u152, u153, u154, u155, u156, .bool false, .func (.func 51) #[] #[.pointer (some ⟨BQ, 0, none⟩)], .agg #[.int .i64 x.1, .int .i64 x.2.1], .int .u8 x.2.2, u161, u162, u163, u164, u165, u166, u167, u168, u169, u170, u171, u172, u173, u174, u175, u176, u177, u178, u179, u180, u181, u182, u183, u184, u185, u186, u187, u188, u189, u190, u191, u192, u193, u194, u195, u196, u197, u198, u199, u200, u201, u202, u203, u204, u205], defers := [] })
        (fun x a' s X Y row ⟨Bx, h1, h2, h3⟩ hg hr => ⟨Bx, h1, (blk_own (β := Unit) Bx _ (fun _ => _)) () X Y row h2 hg (fun r e => (hr r e).2), h3⟩) ?assign ?body ?done ?stop
      case assign =>
        intro l pre x Wa K hi hK
        obtain ⟨K0, K1, K2, K3, KG, KN, hf', hbel, hM⟩ := id hi
        simp [celV]
        gi_wp2
        refine hK _ _ ((KeepsOthers.alloc _ _).from _) (fun b hb => Below.heap_alloc _ _ _ (by have := hlq b hb; omega)) ⟨bk_alloc K0 _, bk_alloc K1 _, bk_alloc K2 _, bk_alloc K3 _, bk_alloc KG _, bk_alloc KN _, hf'.below (boxed _ _), hbel.alloc (by omega) _, by simp; omega⟩ ⟨Wa.heap.size, by omega, bk_new Wa _, rfl⟩
      case body =>
        rintro l pre ⟨cx, cy, cv⟩ a' Wa hl ⟨r, hr⟩ ⟨K0, K1, K2, K3, KG, KN, hf', hbel, hM⟩ ⟨BX, hBX, KX, rfl⟩ hlt
        obtain ⟨a, j, hgv, hj⟩ := getV_any (D.put px py s) cx cy
        have hgood : Hid (pre ++ [(cx, cy, cv)] <+: livL D → j = 0 ∧ ¬ cv = 0 ∧ (a = cv ∨ (cx = px ∧ cy = py ∧ a = s))) := fun ⟨r, hr⟩ => get_good (by rw [← hr]; simp) hgv
        have hpl : pre.length < 4294967296 := by omega
        have cg := Get_calls cx cy hf'
        rw [hgv] at cg
        have CG := Lib.hid cg; clear cg hgv
        have hcX := bk_cell KX; have hcG := bk_cell KG
        have hwl : ∀ b, (S2 b ∨ b = BQ) → b < Wa.heap.size := fun b hb => by have := hlq b hb; omega
        clear hit hl hr hlt hll HPX HPY eW eH eS ep hs n1 n2 x1 x2 hN1 hsz1 hsN hnb l4
        (repeat (rename_i h; clear h))
        gi_wp2_with (first | fail)
        refine ⟨trivial, (CallsIn.inRound l (callsIn_wide.2 CG.out)).mono ?_⟩
        rintro e wP ⟨rfl, hb⟩
        have hko : KeepsOthers Wa wP := keepsOthers_below hb
        replace K0 := bk_below K0 hb; replace K1 := bk_below K1 hb; replace K2 := bk_below K2 hb; replace K3 := bk_below K3 hb; replace KG := bk_below KG hb; replace KN := bk_below KN hb; replace KX := bk_below KX hb
        clear hcX hcG CG
        have hend : Hid (ownPostG w14.heap.size (KeepsOn fun b => S2 b ∨ b = BQ) (ClnI w14.heap.size B0 B1 B2 B3 BG BN px py s g' (D.put px py s) S' w) (fun c xs _ => c = .ret ∧ ¬ xs <+: livL D) (pre ++ [(cx, cy, cv)]) Wa Exit.normal { tmps := #[], defers := [] } (wP.setCell ⟨BN, 0, none⟩ (.int .i64 (pre.length + 1)))) := by
          have hsz := hb.size
          refine ⟨((hko.trans (KeepsOthers.setCell _ _ _)).from _), keepsOn_set (keepsOn_below (keepsOn_refl _ _) hwl hb) (fun h => by have := hlq _ h; omega), (by repeat (with_reducible (first | exact K0 | apply bk_set | refine bk_drew ?_ | refine bk_drewN ?_ _ | refine bk_alloc ?_ _ | refine bk_far ?_ (by simp; try omega) _))), (by repeat (with_reducible (first | exact K1 | apply bk_set | refine bk_drew ?_ | refine bk_drewN ?_ _ | refine bk_alloc ?_ _ | refine bk_far ?_ (by simp; try omega) _))), (by repeat (with_reducible (first | exact K2 | apply bk_set | refine bk_drew ?_ | refine bk_drewN ?_ _ | refine bk_alloc ?_ _ | refine bk_far ?_ (by simp; try omega) _))), (by repeat (with_reducible (first | exact K3 | apply bk_set | refine bk_drew ?_ | refine bk_drewN ?_ _ | refine bk_alloc ?_ _ | refine bk_far ?_ (by simp; try omega) _))), (by repeat (with_reducible (first | exact KG | apply bk_set | refine bk_drew ?_ | refine bk_drewN ?_ _ | refine bk_alloc ?_ _ | refine bk_far ?_ (by simp; try omega) _))), bk_eq (by repeat (with_reducible (first | exact KN | apply bk_set | refine bk_drew ?_ | refine bk_drewN ?_ _ | refine bk_alloc ?_ _ | refine bk_far ?_ (by simp; try omega) _))) (by simp), ?_, ?_, by simp; omega⟩
          · exact (hf'.below hb).keep fun b hS => Below.heap_setCell _ _ _ b (fun e => by have := hS'.out b hS; have e : b = BN := e; omega)
          · exact (hbel.trans (hb.mono (by omega))).setCell (p := ⟨BN, 0, none⟩) (by simp; omega) _
        have hcX := bk_cell KX; have hc0 := bk_cell K0; have hc1 := bk_cell K1; have hc2 := bk_cell K2; have hc3 := bk_cell K3; have hcN := bk_cell KN; have hf3 := bk_free K3; have hfN := bk_free KN
        clear K0 K1 K2 K3 KG KN KX hf' hbel hb hwl hlq hS' hM hl1 o hbn hB0w l1 l2 l3 hBX
        have h7 : j = 130 ∨ (j = 0 ∧ cv = 0) ∨ (j = 0 ∧ ¬ cv = 0 ∧ a = cv) ∨ (j = 0 ∧ ¬ cv = 0 ∧ ¬ a = cv ∧ ¬ cx = px) ∨ (j = 0 ∧ ¬ cv = 0 ∧ ¬ a = cv ∧ cx = px ∧ ¬ cy = py) ∨ (j = 0 ∧ ¬ cv = 0 ∧ ¬ a = cv ∧ cx = px ∧ cy = py ∧ ¬ a = s) ∨ (j = 0 ∧ ¬ cv = 0 ∧ ¬ a = cv ∧ cx = px ∧ cy = py ∧ a = s) := by omega
        clear hj
        rcases h7 with h7 | h7 | h7 | h7 | h7 | h7 | h7
        · have hn : ¬ (pre ++ [(cx, cy, cv)] <+: livL D) := fun hp => by have := hgood.out hp; omega
          have HN := Lib.hid hn; clear hn
          have d1 : (j != 0) = true := bne_iff_ne.2 (by omega); clear h7
          gi_wp2
          exact ⟨((hko.trans (KeepsOthers.setCell _ _ _)).from _), rfl, HN.out⟩
        · have hn : ¬ (pre ++ [(cx, cy, cv)] <+: livL D) := fun hp => by have := hgood.out hp; omega
          have HN := Lib.hid hn; clear hn
          have d1 : (j != 0) = false := (bne_eq_false_iff_eq).2 (by omega); have d2 : (cv == 0) = true := beq_iff_eq.2 (by omega); clear h7
          gi_wp2
          exact ⟨((hko.trans (KeepsOthers.setCell _ _ _)).from _), rfl, HN.out⟩
        · have d1 : (j != 0) = false := (bne_eq_false_iff_eq).2 (by omega); have d2 : (cv == 0) = false := beq_eq_false_iff_ne.2 (by omega); have d3 : (a != cv) = false := (bne_eq_false_iff_eq).2 (by omega); clear h7
          gi_wp2
          exact hend.out
        · have hn : ¬ (pre ++ [(cx, cy, cv)] <+: livL D) := fun hp => by have := hgood.out hp; omega
          have HN := Lib.hid hn; clear hn
          have d1 : (j != 0) = false := (bne_eq_false_iff_eq).2 (by omega); have d2 : (cv == 0) = false := beq_eq_false_iff_ne.2 (by omega); have d3 : (a != cv) = true := bne_iff_ne.2 (by omega); have d4 : (cx != px) = true := bne_iff_ne.2 (by omega); clear h7
          gi_wp2
          exact ⟨((hko.trans (KeepsOthers.setCell _ _ _)).from _), rfl, HN.out⟩
        · have hn : ¬ (pre ++ [(cx, cy, cv)] <+: livL D) := fun hp => by have := hgood.out hp; omega
          have HN := Lib.hid hn; clear hn
          have d1 : (j != 0) = false := (bne_eq_false_iff_eq).2 (by omega); have d2 : (cv == 0) = false := beq_eq_false_iff_ne.2 (by omega); have d3 : (a != cv) = true := bne_iff_ne.2 (by omega); have d4 : (cx != px) = false := (bne_eq_false_iff_eq).2 (by omega); have d5 : (cy != py) = true := bne_iff_ne.2 (by omega); clear h7
          gi_wp2
          exact ⟨((hko.trans (KeepsOthers.setCell _ _ _)).from _), rfl, HN.out⟩
        · have hn : ¬ (pre ++ [(cx, cy, cv)] <+: livL D) := fun hp => by have := hgood.out hp; omega
          have HN := Lib.hid hn; clear hn
          have d1 : (j != 0) = false := (bne_eq_false_iff_eq).2 (by omega); have d2 : (cv == 0) = false := beq_eq_false_iff_ne.2 (by omega); have d3 : (a != cv) = true := bne_iff_ne.2 (by omega); have d4 : (cx != px) = false := (bne_eq_false_iff_eq).2 (by omega); have d5 : (cy != py) = false := (bne_eq_false_iff_eq).2 (by omega); have d6 : (a != s) = true := bne_iff_ne.2 (by omega); clear h7
          gi_wp2
          exact ⟨((hko.trans (KeepsOthers.setCell _ _ _)).from _), rfl, HN.out⟩
        · have d1 : (j != 0) = false := (bne_eq_false_iff_eq).2 (by omega); have d2 : (cv == 0) = false := beq_eq_false_iff_ne.2 (by omega); have d3 : (a != cv) = true := bne_iff_ne.2 (by omega); have d4 : (cx != px) = false := (bne_eq_false_iff_eq).2 (by omega); have d5 : (cy != py) = false := (bne_eq_false_iff_eq).2 (by omega); have d6 : (a != s) = false := (bne_eq_false_iff_eq).2 (by omega); clear h7
          gi_wp2
          exact hend.out
      case done =>
        rintro Dd ys Wz hD rfl ⟨K0, K1, K2, K3, KG, KN, hf', hbel, hM⟩ hK
        have hcN := bk_cell KN; have hc3 := bk_cell K3; have hf3 := bk_free K3
        have hne : B3 ≠ Dd := by omega
        have hwD : w.heap.size ≤ Dd := by have := HB0.out; omega
        have hee : (((livL D).length : Int) == ((livL D).length : Int)) = true := beq_self_eq_true _
        clear K0 K1 K2 KG KN hf' hit hlq hM hll
        gi_wp2
        have hK' : (Wz.setCell ⟨B3, 0, none⟩ (.bool true)).heap[Dd]? = some (.deferred (some [])) := (KeepsOthers.setCell _ _ _).same Dd _ hK rfl
        have kr : (Wz.setCell ⟨B3, 0, none⟩ (.bool true)).heap[B3]? = some (.cells #[.bool true] 4 (0, 0)) := bk_eq (by repeat (with_reducible (first | exact K3 | apply bk_set | refine bk_drew ?_ | refine bk_drewN ?_ _ | refine bk_alloc ?_ _ | refine bk_far ?_ (by simp; try omega) _))) (by simp)
        refine ⟨by simp, .inl ⟨_, _, rfl, run_takeDeferred hK', ?_⟩⟩
        refine ⟨_, res_c1 rfl _ _ B3 _ rfl (bk_cell (((grownBy_putObj' _ Dd (.deferred none)).block B3 (bk_lt kr) (by simpa using hne)).trans kr) 0) Try.underlying4, rfl, ?_⟩
        rw [HB0.out]
        exact (hbel.setCell (p := ⟨B3, 0, none⟩) (by simp; omega) _).trans (belowK_b (w := w) hB0w _ Dd _ _ hwD hK' rfl rfl)
      case stop =>
        rintro D2 c pre Wz _ hp h _
        exact absurd hp h.2
end Go.Proofs.Ytjhfiibfknhniaa
