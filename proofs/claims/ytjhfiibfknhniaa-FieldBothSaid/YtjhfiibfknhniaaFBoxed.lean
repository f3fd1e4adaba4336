/- The law's own look at the box: the living cells lie in it, rising, as many as Pop says, one on each edge. -/
import Derived.Test.YtjhfiibfknhniaaFAlive
import Derived.Sort.CutIn
import Derived.Stop.RegionWithIn
set_option linter.unusedVariables false
set_option linter.unusedSimpArgs false
namespace Go.Proofs.Ytjhfiibfknhniaa
open Go.RowKit Go.Shelf Go.Viv
attribute [local go_sem] Oper.semAt_some

/-- a post that bars a panic -/
def barred (Q : Exit → Act → World → Prop) : Exit → Act → World → Prop
  | .panic _, _, _ => False
  | e, a, w => Q e a w
theorem barred_out {Q : Exit → Act → World → Prop} : ∀ e a w, barred Q e a w → Q e a w
  | .panic _, _, _, h => h.elim
  | .normal, _, _, h => h
  | .ret, _, _, h => h
  | .exit _, _, _, h => h
  | .goto _, _, _, h => h
  | .outgrown, _, _, h => h
theorem barred_nm {Q : Exit → Act → World → Prop} {a : Act} {w : World} (h : Q .normal a w) : barred Q .normal a w := h

theorem res_c1 {P : Program} {fn : Func} {p : Tmp} {ty : TypeId} (h : fn.results = #[.cell p ty]) (tmps : Array Value) (w : World) (g : Nat) (v : Value)
    (hp : tmps.getD p undef = .pointer (some ⟨g, 0, none⟩)) (hg : w.cell? ⟨g, 0, none⟩ = some v) (hu : P.underlying ty = some .bool) :
    (results fn tmps).run P w = .ok v w := by
  have hp' : tmps[p]?.getD undef = .pointer (some ⟨g, 0, none⟩) := by simpa using hp
  have hagg : (isAgg ty).run P w = .ok false w := by simp [isAgg, run_underlying hu]
  simp [results, h, hp', asAddr, loadVar, hagg, hg]

/-- one cell ahead of another -/
def ahead (a b : Cel) : Prop := a.2.1 < b.2.1 ∨ a.2.1 = b.2.1 ∧ a.1 < b.1
def lastX (L : List Cel) : Int := (L.getLast?.map (·.1)).getD (-1)
def lastY (L : List Cel) : Int := (L.getLast?.map (·.2.1)).getD (-1)
theorem last_ahead {pre : List Cel} {x : Cel} (h : (pre ++ [x]).Pairwise ahead) (h0 : 0 ≤ x.2.1) : lastY pre < x.2.1 ∨ lastY pre = x.2.1 ∧ lastX pre < x.1 := by
  unfold lastX lastY
  cases hl : pre.getLast? with
  | none => left; simp; omega
  | some c =>
    have hm := List.mem_of_getLast? hl
    have := (List.pairwise_append.1 h).2.2 c hm x (by simp)
    simpa [ahead] using this

theorem livRow_mem {D : FD} {y k : Nat} {c : Cel} (h : c ∈ livRow D y k) : ∃ x : Nat, x < k ∧ ¬ D.f y x = 0 ∧ c = ((x : Int), (y : Int), D.f y x) := by
  obtain ⟨x, hx, h⟩ := List.mem_filterMap.1 h
  rw [List.mem_range] at hx
  unfold celAt at h
  split at h
  · cases h
  · exact ⟨x, hx, by assumption, (Option.some.inj h).symm⟩
theorem livRow_rising (D : FD) (y k : Nat) : (livRow D y k).Pairwise ahead := by
  induction k with
  | zero => simp [livRow]
  | succ k ih =>
    by_cases h : D.f y k = 0
    · rw [livRow_zero D y k h]; exact ih
    · rw [livRow_some D y k h]
      refine List.pairwise_append.2 ⟨ih, by simp, fun a ha b hb => ?_⟩
      obtain ⟨x, hx, _, rfl⟩ := livRow_mem ha
      obtain rfl := List.mem_singleton.1 hb
      exact .inr ⟨rfl, by simp; omega⟩
theorem livTo_mem {D : FD} {y : Nat} {c : Cel} (h : c ∈ livTo D y) : ∃ y' x : Nat, y' < y ∧ x < D.W ∧ ¬ D.f y' x = 0 ∧ c = ((x : Int), (y' : Int), D.f y' x) := by
  obtain ⟨y', hy, h⟩ := List.mem_flatMap.1 h
  rw [List.mem_range] at hy
  obtain ⟨x, a, b, c⟩ := livRow_mem h
  exact ⟨y', x, hy, a, b, c⟩
theorem livTo_rising (D : FD) (y : Nat) : (livTo D y).Pairwise ahead := by
  induction y with
  | zero => simp [livTo]
  | succ y ih =>
    rw [livTo_succ]
    refine List.pairwise_append.2 ⟨ih, livRow_rising D y D.W, fun a ha b hb => ?_⟩
    obtain ⟨y', x', hy, _, _, rfl⟩ := livTo_mem ha
    obtain ⟨x, _, _, rfl⟩ := livRow_mem hb
    exact .inl (by simp; omega)

/-- what the walk wants to know of the cells and of the box -/
structure BoxOk (L : List Cel) (x y a b : Int) : Prop where
  rg : -1 ≤ x ∧ x ≤ 65537 ∧ -1 ≤ y ∧ y ≤ 65537 ∧ 0 ≤ a ∧ a ≤ 65537 ∧ 0 ≤ b ∧ b ≤ 65537
  cel : ∀ c ∈ L, (¬ c.2.2 = 0) ∧ (0 ≤ c.1 ∧ c.1 ≤ 65536) ∧ (0 ≤ c.2.1 ∧ c.2.1 ≤ 65536) ∧ x ≤ c.1 ∧ c.1 < x + a ∧ y ≤ c.2.1 ∧ c.2.1 < y + b
  up : L.Pairwise ahead
  nil : L = [] → x = 0 ∧ y = 0 ∧ a = 0 ∧ b = 0
  edge : L ≠ [] → L.any (fun c => c.1 == x) = true ∧ L.any (fun c => c.1 == x + a - 1) = true ∧ L.any (fun c => c.2.1 == y) = true ∧ L.any (fun c => c.2.1 == y + b - 1) = true
theorem boxOk {D : FD} (h : D.Ok) : ∃ x y a b, boxV (livL D) = .tuple #[.agg #[.int .i64 x, .int .i64 y, .int .i64 a, .int .i64 b], .bool (!(livL D).isEmpty)] ∧ BoxOk (livL D) x y a b := by
  have hL : ∀ c ∈ livL D, (¬ c.2.2 = 0) ∧ (0 ≤ c.1 ∧ c.1 ≤ 65536) ∧ (0 ≤ c.2.1 ∧ c.2.1 ≤ 65536) := by
    intro c hc
    obtain ⟨y, x, hy, hx, hz, rfl⟩ := liv_mem hc
    have := h.w1; have := h.h1
    exact ⟨hz, ⟨by simp, by simp; omega⟩, by simp, by simp; omega⟩
  have hup : (livL D).Pairwise ahead := livTo_rising D D.H
  generalize livL D = L at hL hup
  by_cases e : L = []
  · subst e
    exact ⟨0, 0, 0, 0, by simp [boxV, low, high], ⟨by omega, fun c hc => (by cases hc), hup, fun _ => ⟨rfl, rfl, rfl, rfl⟩, fun h => absurd rfl h⟩⟩
  · have hie : L.isEmpty = false := by simpa using e
    have n1 : L.map (·.1) ≠ [] := by simpa using e
    have n2 : L.map (·.2.1) ≠ [] := by simpa using e
    have r1 : ∀ z ∈ L.map (·.1), 0 ≤ z ∧ z ≤ 65536 := by intro z hz; obtain ⟨c, hc, rfl⟩ := List.mem_map.1 hz; exact (hL c hc).2.1
    have r2 : ∀ z ∈ L.map (·.2.1), 0 ≤ z ∧ z ≤ 65536 := by intro z hz; obtain ⟨c, hc, rfl⟩ := List.mem_map.1 hz; exact (hL c hc).2.2
    have a1 := r1 _ (low_mem n1); have a2 := r1 _ (high_mem n1); have a3 := r2 _ (low_mem n2); have a4 := r2 _ (high_mem n2)
    have c1 := low_le_high (L.map (·.1)); have c2 := low_le_high (L.map (·.2.1))
    refine ⟨low (L.map (·.1)), low (L.map (·.2.1)), high (L.map (·.1)) - low (L.map (·.1)) + 1, high (L.map (·.2.1)) - low (L.map (·.2.1)) + 1, by simp [boxV, hie], ⟨by omega, fun c hc => ?_, hup, fun h => absurd h e, fun _ => ?_⟩⟩
    · obtain ⟨q1, q2, q3⟩ := hL c hc
      have m1 : c.1 ∈ L.map (·.1) := List.mem_map.2 ⟨c, hc, rfl⟩
      have m2 : c.2.1 ∈ L.map (·.2.1) := List.mem_map.2 ⟨c, hc, rfl⟩
      have := low_le m1; have := le_high m1; have := low_le m2; have := le_high m2
      exact ⟨q1, q2, q3, by omega, by omega, by omega, by omega⟩
    · have f : ∀ (g : Cel → Int) (v : Int), v ∈ L.map g → L.any (fun c => g c == v) = true := fun g v hv => by
        obtain ⟨c, hc, rfl⟩ := List.mem_map.1 hv
        exact List.any_eq_true.2 ⟨c, hc, by simp⟩
      exact ⟨f _ _ (low_mem n1), f _ _ (by have := high_mem n1; rwa [show ∀ a b : Int, a + (b - a + 1) - 1 = b by intros; omega]), f _ _ (low_mem n2), f _ _ (by have := high_mem n2; rwa [show ∀ a b : Int, a + (b - a + 1) - 1 = b by intros; omega])⟩

theorem alloc7 (w : World) (o1 o2 o3 o4 o5 o6 o7 : Obj) : ∃ W', (((((((w.alloc o1).alloc o2).alloc o3).alloc o4).alloc o5).alloc o6).alloc o7) = W' ∧ Below w.heap.size w W' ∧ W'.heap.size = w.heap.size + 7 ∧ W'.heap[w.heap.size]? = some o1 ∧ W'.heap[w.heap.size + 1]? = some o2 ∧ W'.heap[w.heap.size + 1 + 1]? = some o3 ∧ W'.heap[w.heap.size + 1 + 1 + 1]? = some o4 ∧ W'.heap[w.heap.size + 1 + 1 + 1 + 1]? = some o5 ∧ W'.heap[w.heap.size + 1 + 1 + 1 + 1 + 1]? = some o6 ∧ W'.heap[w.heap.size + 1 + 1 + 1 + 1 + 1 + 1]? = some o7 := by
  have h : ∀ (W : World) (o : Obj) (n : Nat), n = W.heap.size → (W.alloc o).heap[n]? = some o := fun W o n h => by subst h; exact World.alloc_heap_new W o
  have p : ∀ (W : World) (o p : Obj) (n : Nat), W.heap[n]? = some o → (W.alloc p).heap[n]? = some o := fun W o p n h => (Below.heap_alloc _ _ _ (Array.getElem?_eq_some_iff.1 h).1).trans h
  exact ⟨_, rfl, ((((((boxed w _).alloc (by simp) _).alloc (by simp; try omega) _).alloc (by simp; try omega) _).alloc (by simp; try omega) _).alloc (by simp; try omega) _).alloc (by simp; try omega) _, by simp, p _ _ _ _ (p _ _ _ _ (p _ _ _ _ (p _ _ _ _ (p _ _ _ _ (p _ _ _ _ (h w o1 (w.heap.size) (by simp))))))), p _ _ _ _ (p _ _ _ _ (p _ _ _ _ (p _ _ _ _ (p _ _ _ _ (h (w.alloc o1) o2 (w.heap.size + 1) (by simp)))))), p _ _ _ _ (p _ _ _ _ (p _ _ _ _ (p _ _ _ _ (h ((w.alloc o1).alloc o2) o3 (w.heap.size + 1 + 1) (by simp))))), p _ _ _ _ (p _ _ _ _ (p _ _ _ _ (h (((w.alloc o1).alloc o2).alloc o3) o4 (w.heap.size + 1 + 1 + 1) (by simp)))), p _ _ _ _ (p _ _ _ _ (h ((((w.alloc o1).alloc o2).alloc o3).alloc o4) o5 (w.heap.size + 1 + 1 + 1 + 1) (by simp))), p _ _ _ _ (h (((((w.alloc o1).alloc o2).alloc o3).alloc o4).alloc o5) o6 (w.heap.size + 1 + 1 + 1 + 1 + 1) (by simp)), h ((((((w.alloc o1).alloc o2).alloc o3).alloc o4).alloc o5).alloc o6) o7 (w.heap.size + 1 + 1 + 1 + 1 + 1 + 1) (by simp)⟩

def BxdI (M n₀ B0 B1 B2 B3 B4 B5 B6 B7 : Nat) (x y a b : Int) (w : World) (pre : List Cel) (W : World) : Prop :=
  W.heap[B0]? = some (.cells #[.bool false] 4 (0, 0)) ∧ W.heap[B1]? = some (.cells #[.int .i64 x, .int .i64 y, .int .i64 a, .int .i64 b] 60 (0, 0)) ∧
  W.heap[B2]? = some (.cells #[.int .i64 pre.length] 3 (0, 0)) ∧ W.heap[B3]? = some (.cells #[.bool (pre.any fun c => c.1 == x)] 4 (0, 0)) ∧ W.heap[B4]? = some (.cells #[.bool (pre.any fun c => c.1 == x + a - 1)] 4 (0, 0)) ∧
  W.heap[B5]? = some (.cells #[.bool (pre.any fun c => c.2.1 == y)] 4 (0, 0)) ∧ W.heap[B6]? = some (.cells #[.bool (pre.any fun c => c.2.1 == y + b - 1)] 4 (0, 0)) ∧
  W.heap[B7]? = some (.cells #[.int .i64 (lastX pre), .int .i64 (lastY pre)] 46 (0, 0)) ∧ Below n₀ w W ∧ M ≤ W.heap.size
theorem bxdI_own {M n₀ B0 B1 B2 B3 B4 B5 B6 B7 B : Nat} {x y a b : Int} {w : World} (h1 : n₀ ≤ w.heap.size) (h2 : n₀ ≤ B) : OwnFrom B (BxdI M n₀ B0 B1 B2 B3 B4 B5 B6 B7 x y a b w) :=
  OwnFrom.and ((blk_own _ _ _).from _) (OwnFrom.and ((blk_own _ _ _).from _) (OwnFrom.and ((blk_own _ _ _).from _) (OwnFrom.and ((blk_own _ _ _).from _) (OwnFrom.and ((blk_own _ _ _).from _) (OwnFrom.and ((blk_own _ _ _).from _) (OwnFrom.and ((blk_own _ _ _).from _) (OwnFrom.and ((blk_own _ _ _).from _) (OwnFrom.and (ownFrom_below h1 h2) (fun s X Y row hs hg _ => Nat.le_trans hs hg.size)))))))))

/-- a place's box in a round -/
def BxdA (g B0 B1 B2 B3 B4 B5 B6 B7 Bq : Nat) (X Y A B : Int) (some : Bool) (x : Cel) (a : Act) (W : World) : Prop :=
  ∃ Bx, Bq < Bx ∧ W.heap[Bx]? = .some (.cells #[.int .i64 x.1, .int .i64 x.2.1] 46 (0, 0)) ∧
    a = { tmps := ([.pointer (.some ⟨g, 0, none⟩), undef, .pointer (.some ⟨B0, 0, none⟩), .pointer (.some ⟨B1, 0, none⟩), .bool some, .pointer (.some ⟨B2, 0, none⟩), .pointer (.some ⟨B3, 0, none⟩), .pointer (.some ⟨B4, 0, none⟩), .pointer (.some ⟨B5, 0, none⟩), .pointer (.some ⟨B6, 0, none⟩), .pointer (.some ⟨B7, 0, none⟩), .pointer (.some ⟨Bx, 0, none⟩), .int .u8 x.2.2,
      .tuple #[.agg #[.int .i64 X, .int .i64 Y, .int .i64 A, .int .i64 B], .bool some], .pointer (.some ⟨g, 0, none⟩), .tuple #[.agg #[.int .i64 X, .int .i64 Y, .int .i64 A, .int .i64 B], .bool some], .agg #[.int .i64 X, .int .i64 Y, .int .i64 A, .int .i64 B], .bool some, .agg #[.int .i64 (-1), .int .i64 (-1)],
      .pointer (.some ⟨g, 0, none⟩), .func (.func 51) #[] #[.pointer (.some ⟨Bq, 0, none⟩)], .agg #[.int .i64 x.1, .int .i64 x.2.1], .int .u8 x.2.2] ++ List.replicate 129 undef).toArray, defers := [] }
theorem bxdA_own {g B0 B1 B2 B3 B4 B5 B6 B7 Bq M : Nat} {X Y A B : Int} {some : Bool} (x : Cel) (a : Act) : OwnFrom M (fun (_ : Unit) W => BxdA g B0 B1 B2 B3 B4 B5 B6 B7 Bq X Y A B some x a W) := by
  intro s V Z row ⟨Bx, h1, h2, h3⟩ hg hr
  exact ⟨Bx, h1, (blk_own (β := Unit) Bx _ (fun _ => _)) () V Z row h2 hg (fun r e => (hr r e).2), h3⟩

/-- in the middle of a round -/
structure BxdM (n₀ B0 B1 B2 B3 B4 B5 B6 B7 Bq Bx : Nat) (X Y A B : Int) (w : World) (S : Nat → Prop) (W : World) (cx cy : Int) (n : Int) (v3 v4 v5 v6 : Bool) (lx ly : Int) (W2 : World) : Prop where
  ord : n₀ ≤ B0 ∧ B0 < B1 ∧ B1 < B2 ∧ B2 < B3 ∧ B3 < B4 ∧ B4 < B5 ∧ B5 < B6 ∧ B6 < B7 ∧ B7 < Bq ∧ Bq < Bx
  far : ∀ b, S b → B7 < b
  k0 : W2.heap[B0]? = some (.cells #[.bool false] 4 (0, 0))
  k1 : W2.heap[B1]? = some (.cells #[.int .i64 X, .int .i64 Y, .int .i64 A, .int .i64 B] 60 (0, 0))
  k2 : W2.heap[B2]? = some (.cells #[.int .i64 n] 3 (0, 0))
  k3 : W2.heap[B3]? = some (.cells #[.bool v3] 4 (0, 0))
  k4 : W2.heap[B4]? = some (.cells #[.bool v4] 4 (0, 0))
  k5 : W2.heap[B5]? = some (.cells #[.bool v5] 4 (0, 0))
  k6 : W2.heap[B6]? = some (.cells #[.bool v6] 4 (0, 0))
  k7 : W2.heap[B7]? = some (.cells #[.int .i64 lx, .int .i64 ly] 46 (0, 0))
  kx : W2.heap[Bx]? = some (.cells #[.int .i64 cx, .int .i64 cy] 46 (0, 0))
  bel : Below n₀ w W2
  oth : KeepsOthers W W2
  on : KeepsOn S W W2
  sz : W.heap.size ≤ W2.heap.size
section
variable {n₀ B0 B1 B2 B3 B4 B5 B6 B7 Bq Bx : Nat} {X Y A B : Int} {w : World} {S : Nat → Prop} {W : World} {cx cy : Int} {n : Int} {v3 v4 v5 v6 : Bool} {lx ly : Int} {W2 : World}
theorem keepsOn_set {b : Nat} {i : Nat} {v : Value} (h : KeepsOn S W W2) (hf : ¬ S b) : KeepsOn S W (W2.setCell ⟨b, i, none⟩ v) :=
  fun k hk => (Below.heap_setCell _ _ _ k (fun e => hf (by have e : k = b := e; subst e; exact hk))).trans (h k hk)
theorem BxdM.s7 (m : BxdM n₀ B0 B1 B2 B3 B4 B5 B6 B7 Bq Bx X Y A B w S W cx cy n v3 v4 v5 v6 lx ly W2) : BxdM n₀ B0 B1 B2 B3 B4 B5 B6 B7 Bq Bx X Y A B w S W cx cy n v3 v4 v5 v6 cx cy ((W2.setCell ⟨B7, 0, none⟩ (.int .i64 cx)).setCell ⟨B7, 1, none⟩ (.int .i64 cy)) := by
  have o := m.ord
  have c0 := m.k0
  have c1 := m.k1
  have c2 := m.k2
  have c3 := m.k3
  have c4 := m.k4
  have c5 := m.k5
  have c6 := m.k6
  have c7 := m.k7
  have cx := m.kx
  exact ⟨m.ord, m.far, (by repeat (with_reducible (first | exact c0 | apply bk_set | refine bk_drew ?_ | refine bk_drewN ?_ _ | refine bk_alloc ?_ _ | refine bk_far ?_ (by simp; try omega) _))), (by repeat (with_reducible (first | exact c1 | apply bk_set | refine bk_drew ?_ | refine bk_drewN ?_ _ | refine bk_alloc ?_ _ | refine bk_far ?_ (by simp; try omega) _))), (by repeat (with_reducible (first | exact c2 | apply bk_set | refine bk_drew ?_ | refine bk_drewN ?_ _ | refine bk_alloc ?_ _ | refine bk_far ?_ (by simp; try omega) _))), (by repeat (with_reducible (first | exact c3 | apply bk_set | refine bk_drew ?_ | refine bk_drewN ?_ _ | refine bk_alloc ?_ _ | refine bk_far ?_ (by simp; try omega) _))), (by repeat (with_reducible (first | exact c4 | apply bk_set | refine bk_drew ?_ | refine bk_drewN ?_ _ | refine bk_alloc ?_ _ | refine bk_far ?_ (by simp; try omega) _))), (by repeat (with_reducible (first | exact c5 | apply bk_set | refine bk_drew ?_ | refine bk_drewN ?_ _ | refine bk_alloc ?_ _ | refine bk_far ?_ (by simp; try omega) _))), (by repeat (with_reducible (first | exact c6 | apply bk_set | refine bk_drew ?_ | refine bk_drewN ?_ _ | refine bk_alloc ?_ _ | refine bk_far ?_ (by simp; try omega) _))), bk_eq (by repeat (with_reducible (first | exact c7 | apply bk_set | refine bk_drew ?_ | refine bk_drewN ?_ _ | refine bk_alloc ?_ _ | refine bk_far ?_ (by simp; try omega) _))) (by simp), (by repeat (with_reducible (first | exact cx | apply bk_set | refine bk_drew ?_ | refine bk_drewN ?_ _ | refine bk_alloc ?_ _ | refine bk_far ?_ (by simp; try omega) _))), ((m.bel.setCell (p := ⟨B7, 0, none⟩) (by simp; omega) _).setCell (p := ⟨B7, 1, none⟩) (by simp; omega) _), ((m.oth.trans (KeepsOthers.setCell _ _ _)).trans (KeepsOthers.setCell _ _ _)), (keepsOn_set (keepsOn_set m.on (fun h => by have := m.far _ h; omega)) (fun h => by have := m.far _ h; omega)), by have := m.sz; simp; omega⟩
theorem BxdM.s3 (v : Bool) (m : BxdM n₀ B0 B1 B2 B3 B4 B5 B6 B7 Bq Bx X Y A B w S W cx cy n v3 v4 v5 v6 lx ly W2) : BxdM n₀ B0 B1 B2 B3 B4 B5 B6 B7 Bq Bx X Y A B w S W cx cy n v v4 v5 v6 lx ly (W2.setCell ⟨B3, 0, none⟩ (.bool v)) := by
  have o := m.ord
  have c0 := m.k0
  have c1 := m.k1
  have c2 := m.k2
  have c3 := m.k3
  have c4 := m.k4
  have c5 := m.k5
  have c6 := m.k6
  have c7 := m.k7
  have cx := m.kx
  exact ⟨m.ord, m.far, (by repeat (with_reducible (first | exact c0 | apply bk_set | refine bk_drew ?_ | refine bk_drewN ?_ _ | refine bk_alloc ?_ _ | refine bk_far ?_ (by simp; try omega) _))), (by repeat (with_reducible (first | exact c1 | apply bk_set | refine bk_drew ?_ | refine bk_drewN ?_ _ | refine bk_alloc ?_ _ | refine bk_far ?_ (by simp; try omega) _))), (by repeat (with_reducible (first | exact c2 | apply bk_set | refine bk_drew ?_ | refine bk_drewN ?_ _ | refine bk_alloc ?_ _ | refine bk_far ?_ (by simp; try omega) _))), bk_eq (by repeat (with_reducible (first | exact c3 | apply bk_set | refine bk_drew ?_ | refine bk_drewN ?_ _ | refine bk_alloc ?_ _ | refine bk_far ?_ (by simp; try omega) _))) (by simp), (by repeat (with_reducible (first | exact c4 | apply bk_set | refine bk_drew ?_ | refine bk_drewN ?_ _ | refine bk_alloc ?_ _ | refine bk_far ?_ (by simp; try omega) _))), (by repeat (with_reducible (first | exact c5 | apply bk_set | refine bk_drew ?_ | refine bk_drewN ?_ _ | refine bk_alloc ?_ _ | refine bk_far ?_ (by simp; try omega) _))), (by repeat (with_reducible (first | exact c6 | apply bk_set | refine bk_drew ?_ | refine bk_drewN ?_ _ | refine bk_alloc ?_ _ | refine bk_far ?_ (by simp; try omega) _))), (by repeat (with_reducible (first | exact c7 | apply bk_set | refine bk_drew ?_ | refine bk_drewN ?_ _ | refine bk_alloc ?_ _ | refine bk_far ?_ (by simp; try omega) _))), (by repeat (with_reducible (first | exact cx | apply bk_set | refine bk_drew ?_ | refine bk_drewN ?_ _ | refine bk_alloc ?_ _ | refine bk_far ?_ (by simp; try omega) _))), (m.bel.setCell (p := ⟨B3, 0, none⟩) (by simp; omega) _), (m.oth.trans (KeepsOthers.setCell _ _ _)), (keepsOn_set m.on (fun h => by have := m.far _ h; omega)), by have := m.sz; simp; omega⟩
theorem BxdM.s4 (v : Bool) (m : BxdM n₀ B0 B1 B2 B3 B4 B5 B6 B7 Bq Bx X Y A B w S W cx cy n v3 v4 v5 v6 lx ly W2) : BxdM n₀ B0 B1 B2 B3 B4 B5 B6 B7 Bq Bx X Y A B w S W cx cy n v3 v v5 v6 lx ly (W2.setCell ⟨B4, 0, none⟩ (.bool v)) := by
  have o := m.ord
  have c0 := m.k0
  have c1 := m.k1
  have c2 := m.k2
  have c3 := m.k3
  have c4 := m.k4
  have c5 := m.k5
  have c6 := m.k6
  have c7 := m.k7
  have cx := m.kx
  exact ⟨m.ord, m.far, (by repeat (with_reducible (first | exact c0 | apply bk_set | refine bk_drew ?_ | refine bk_drewN ?_ _ | refine bk_alloc ?_ _ | refine bk_far ?_ (by simp; try omega) _))), (by repeat (with_reducible (first | exact c1 | apply bk_set | refine bk_drew ?_ | refine bk_drewN ?_ _ | refine bk_alloc ?_ _ | refine bk_far ?_ (by simp; try omega) _))), (by repeat (with_reducible (first | exact c2 | apply bk_set | refine bk_drew ?_ | refine bk_drewN ?_ _ | refine bk_alloc ?_ _ | refine bk_far ?_ (by simp; try omega) _))), (by repeat (with_reducible (first | exact c3 | apply bk_set | refine bk_drew ?_ | refine bk_drewN ?_ _ | refine bk_alloc ?_ _ | refine bk_far ?_ (by simp; try omega) _))), bk_eq (by repeat (with_reducible (first | exact c4 | apply bk_set | refine bk_drew ?_ | refine bk_drewN ?_ _ | refine bk_alloc ?_ _ | refine bk_far ?_ (by simp; try omega) _))) (by simp), (by repeat (with_reducible (first | exact c5 | apply bk_set | refine bk_drew ?_ | refine bk_drewN ?_ _ | refine bk_alloc ?_ _ | refine bk_far ?_ (by simp; try omega) _))), (by repeat (with_reducible (first | exact c6 | apply bk_set | refine bk_drew ?_ | refine bk_drewN ?_ _ | refine bk_alloc ?_ _ | refine bk_far ?_ (by simp; try omega) _))), (by repeat (with_reducible (first | exact c7 | apply bk_set | refine bk_drew ?_ | refine bk_drewN ?_ _ | refine bk_alloc ?_ _ | refine bk_far ?_ (by simp; try omega) _))), (by repeat (with_reducible (first | exact cx | apply bk_set | refine bk_drew ?_ | refine bk_drewN ?_ _ | refine bk_alloc ?_ _ | refine bk_far ?_ (by simp; try omega) _))), (m.bel.setCell (p := ⟨B4, 0, none⟩) (by simp; omega) _), (m.oth.trans (KeepsOthers.setCell _ _ _)), (keepsOn_set m.on (fun h => by have := m.far _ h; omega)), by have := m.sz; simp; omega⟩
theorem BxdM.s5 (v : Bool) (m : BxdM n₀ B0 B1 B2 B3 B4 B5 B6 B7 Bq Bx X Y A B w S W cx cy n v3 v4 v5 v6 lx ly W2) : BxdM n₀ B0 B1 B2 B3 B4 B5 B6 B7 Bq Bx X Y A B w S W cx cy n v3 v4 v v6 lx ly (W2.setCell ⟨B5, 0, none⟩ (.bool v)) := by
  have o := m.ord
  have c0 := m.k0
  have c1 := m.k1
  have c2 := m.k2
  have c3 := m.k3
  have c4 := m.k4
  have c5 := m.k5
  have c6 := m.k6
  have c7 := m.k7
  have cx := m.kx
  exact ⟨m.ord, m.far, (by repeat (with_reducible (first | exact c0 | apply bk_set | refine bk_drew ?_ | refine bk_drewN ?_ _ | refine bk_alloc ?_ _ | refine bk_far ?_ (by simp; try omega) _))), (by repeat (with_reducible (first | exact c1 | apply bk_set | refine bk_drew ?_ | refine bk_drewN ?_ _ | refine bk_alloc ?_ _ | refine bk_far ?_ (by simp; try omega) _))), (by repeat (with_reducible (first | exact c2 | apply bk_set | refine bk_drew ?_ | refine bk_drewN ?_ _ | refine bk_alloc ?_ _ | refine bk_far ?_ (by simp; try omega) _))), (by repeat (with_reducible (first | exact c3 | apply bk_set | refine bk_drew ?_ | refine bk_drewN ?_ _ | refine bk_alloc ?_ _ | refine bk_far ?_ (by simp; try omega) _))), (by repeat (with_reducible (first | exact c4 | apply bk_set | refine bk_drew ?_ | refine bk_drewN ?_ _ | refine bk_alloc ?_ _ | refine bk_far ?_ (by simp; try omega) _))), bk_eq (by repeat (with_reducible (first | exact c5 | apply bk_set | refine bk_drew ?_ | refine bk_drewN ?_ _ | refine bk_alloc ?_ _ | refine bk_far ?_ (by simp; try omega) _))) (by simp), (by repeat (with_reducible (first | exact c6 | apply bk_set | refine bk_drew ?_ | refine bk_drewN ?_ _ | refine bk_alloc ?_ _ | refine bk_far ?_ (by simp; try omega) _))), (by repeat (with_reducible (first | exact c7 | apply bk_set | refine bk_drew ?_ | refine bk_drewN ?_ _ | refine bk_alloc ?_ _ | refine bk_far ?_ (by simp; try omega) _))), (by repeat (with_reducible (first | exact cx | apply bk_set | refine bk_drew ?_ | refine bk_drewN ?_ _ | refine bk_alloc ?_ _ | refine bk_far ?_ (by simp; try omega) _))), (m.bel.setCell (p := ⟨B5, 0, none⟩) (by simp; omega) _), (m.oth.trans (KeepsOthers.setCell _ _ _)), (keepsOn_set m.on (fun h => by have := m.far _ h; omega)), by have := m.sz; simp; omega⟩
theorem BxdM.s6 (v : Bool) (m : BxdM n₀ B0 B1 B2 B3 B4 B5 B6 B7 Bq Bx X Y A B w S W cx cy n v3 v4 v5 v6 lx ly W2) : BxdM n₀ B0 B1 B2 B3 B4 B5 B6 B7 Bq Bx X Y A B w S W cx cy n v3 v4 v5 v lx ly (W2.setCell ⟨B6, 0, none⟩ (.bool v)) := by
  have o := m.ord
  have c0 := m.k0
  have c1 := m.k1
  have c2 := m.k2
  have c3 := m.k3
  have c4 := m.k4
  have c5 := m.k5
  have c6 := m.k6
  have c7 := m.k7
  have cx := m.kx
  exact ⟨m.ord, m.far, (by repeat (with_reducible (first | exact c0 | apply bk_set | refine bk_drew ?_ | refine bk_drewN ?_ _ | refine bk_alloc ?_ _ | refine bk_far ?_ (by simp; try omega) _))), (by repeat (with_reducible (first | exact c1 | apply bk_set | refine bk_drew ?_ | refine bk_drewN ?_ _ | refine bk_alloc ?_ _ | refine bk_far ?_ (by simp; try omega) _))), (by repeat (with_reducible (first | exact c2 | apply bk_set | refine bk_drew ?_ | refine bk_drewN ?_ _ | refine bk_alloc ?_ _ | refine bk_far ?_ (by simp; try omega) _))), (by repeat (with_reducible (first | exact c3 | apply bk_set | refine bk_drew ?_ | refine bk_drewN ?_ _ | refine bk_alloc ?_ _ | refine bk_far ?_ (by simp; try omega) _))), (by repeat (with_reducible (first | exact c4 | apply bk_set | refine bk_drew ?_ | refine bk_drewN ?_ _ | refine bk_alloc ?_ _ | refine bk_far ?_ (by simp; try omega) _))), (by repeat (with_reducible (first | exact c5 | apply bk_set | refine bk_drew ?_ | refine bk_drewN ?_ _ | refine bk_alloc ?_ _ | refine bk_far ?_ (by simp; try omega) _))), bk_eq (by repeat (with_reducible (first | exact c6 | apply bk_set | refine bk_drew ?_ | refine bk_drewN ?_ _ | refine bk_alloc ?_ _ | refine bk_far ?_ (by simp; try omega) _))) (by simp), (by repeat (with_reducible (first | exact c7 | apply bk_set | refine bk_drew ?_ | refine bk_drewN ?_ _ | refine bk_alloc ?_ _ | refine bk_far ?_ (by simp; try omega) _))), (by repeat (with_reducible (first | exact cx | apply bk_set | refine bk_drew ?_ | refine bk_drewN ?_ _ | refine bk_alloc ?_ _ | refine bk_far ?_ (by simp; try omega) _))), (m.bel.setCell (p := ⟨B6, 0, none⟩) (by simp; omega) _), (m.oth.trans (KeepsOthers.setCell _ _ _)), (keepsOn_set m.on (fun h => by have := m.far _ h; omega)), by have := m.sz; simp; omega⟩
theorem BxdM.s2 (v : Int) (m : BxdM n₀ B0 B1 B2 B3 B4 B5 B6 B7 Bq Bx X Y A B w S W cx cy n v3 v4 v5 v6 lx ly W2) : BxdM n₀ B0 B1 B2 B3 B4 B5 B6 B7 Bq Bx X Y A B w S W cx cy v v3 v4 v5 v6 lx ly (W2.setCell ⟨B2, 0, none⟩ (.int .i64 v)) := by
  have o := m.ord
  have c0 := m.k0
  have c1 := m.k1
  have c2 := m.k2
  have c3 := m.k3
  have c4 := m.k4
  have c5 := m.k5
  have c6 := m.k6
  have c7 := m.k7
  have cx := m.kx
  exact ⟨m.ord, m.far, (by repeat (with_reducible (first | exact c0 | apply bk_set | refine bk_drew ?_ | refine bk_drewN ?_ _ | refine bk_alloc ?_ _ | refine bk_far ?_ (by simp; try omega) _))), (by repeat (with_reducible (first | exact c1 | apply bk_set | refine bk_drew ?_ | refine bk_drewN ?_ _ | refine bk_alloc ?_ _ | refine bk_far ?_ (by simp; try omega) _))), bk_eq (by repeat (with_reducible (first | exact c2 | apply bk_set | refine bk_drew ?_ | refine bk_drewN ?_ _ | refine bk_alloc ?_ _ | refine bk_far ?_ (by simp; try omega) _))) (by simp), (by repeat (with_reducible (first | exact c3 | apply bk_set | refine bk_drew ?_ | refine bk_drewN ?_ _ | refine bk_alloc ?_ _ | refine bk_far ?_ (by simp; try omega) _))), (by repeat (with_reducible (first | exact c4 | apply bk_set | refine bk_drew ?_ | refine bk_drewN ?_ _ | refine bk_alloc ?_ _ | refine bk_far ?_ (by simp; try omega) _))), (by repeat (with_reducible (first | exact c5 | apply bk_set | refine bk_drew ?_ | refine bk_drewN ?_ _ | refine bk_alloc ?_ _ | refine bk_far ?_ (by simp; try omega) _))), (by repeat (with_reducible (first | exact c6 | apply bk_set | refine bk_drew ?_ | refine bk_drewN ?_ _ | refine bk_alloc ?_ _ | refine bk_far ?_ (by simp; try omega) _))), (by repeat (with_reducible (first | exact c7 | apply bk_set | refine bk_drew ?_ | refine bk_drewN ?_ _ | refine bk_alloc ?_ _ | refine bk_far ?_ (by simp; try omega) _))), (by repeat (with_reducible (first | exact cx | apply bk_set | refine bk_drew ?_ | refine bk_drewN ?_ _ | refine bk_alloc ?_ _ | refine bk_far ?_ (by simp; try omega) _))), (m.bel.setCell (p := ⟨B2, 0, none⟩) (by simp; omega) _), (m.oth.trans (KeepsOthers.setCell _ _ _)), (keepsOn_set m.on (fun h => by have := m.far _ h; omega)), by have := m.sz; simp; omega⟩
end

set_option maxRecDepth 100000 in
set_option maxHeartbeats 4000000 in
theorem boxed_calls {g : Nat} {D : FD} {S : Nat → Prop} {w : World} (h : Fld g D S w) :
    Calls Try.prog 16 #[.pointer (some ⟨g, 0, none⟩)] w (Ret (.bool true) w) := by
  obtain ⟨X, Y, A, B, hbv, hok⟩ := boxOk h.ok
  have HF := Lib.hid h
  have cB : ∀ (w' : World), Below w.heap.size w w' → Calls Try.prog 27 #[.pointer (some ⟨g, 0, none⟩)] w' fun e w1 => e = .returned (.tuple #[.agg #[.int .i64 X, .int .i64 Y, .int .i64 A, .int .i64 B], .bool (!(livL D).isEmpty)]) ∧ Below w'.heap.size w' w1 := fun w' hb => by
    have := Box_calls (HF.out.below hb); rw [hbv] at this; exact this
  have CB := Lib.hid cB; clear cB hbv h
  have HOK := Lib.hid hok
  have hll : (livL D).length ≤ 1048576 := by have := livTo_length D D.H; have := HF.out.ok.wh; unfold livL; omega
  have h0 := hok.rg; clear hok
  refine (callsIn_wide (n := 8)).1 ?_
  refine callsIn_of_wp_marks Try.func16 rfl trivial ?_ rfl
  simp only [Try.ntmps16, List.size_toArray, List.length_cons, List.length_nil, Nat.reduceAdd, Nat.reduceSub, Array.replicate_succ, Array.replicate_zero, List.push_toArray, List.append_toArray, List.nil_append, List.cons_append]
  gi_wp2_with (first | fail)
  refine ⟨trivial, (callsIn_wide.2 (CB.out _ (boxed w _))).mono ?_⟩
  rintro e w1 ⟨rfl, hb1⟩
  have K0 := bk_below (bk_new w _) hb1
  replace hb1 := (boxed w _).trans (hb1.mono (by simp))
  have hl1 := bk_lt K0
  gi_wp2_with (first | fail)
  obtain ⟨w2, e2, hb2, hz2, K1, K2, K3, K4, K5, K6, K7⟩ := alloc7 w1 (.cells #[.int .i64 X, .int .i64 Y, .int .i64 A, .int .i64 B] 60) (.cells #[.int .i64 0] 3) (.cells #[.bool false] 4) (.cells #[.bool false] 4) (.cells #[.bool false] 4) (.cells #[.bool false] 4) (.cells #[.int .i64 (-1), .int .i64 (-1)] 46)
  rw [e2]; clear e2
  replace K0 := bk_below K0 hb2
  replace hb2 := hb1.trans (hb2.mono hb1.size)
  generalize hB1 : w1.heap.size = B1 at *
  have l2 : B1 < B1 + 1 := by omega
  have l3 : B1 + 1 < B1 + 1 + 1 := by omega
  have l4 : B1 + 1 + 1 < B1 + 1 + 1 + 1 := by omega
  have l5 : B1 + 1 + 1 + 1 < B1 + 1 + 1 + 1 + 1 := by omega
  have l6 : B1 + 1 + 1 + 1 + 1 < B1 + 1 + 1 + 1 + 1 + 1 := by omega
  have l7 : B1 + 1 + 1 + 1 + 1 + 1 < B1 + 1 + 1 + 1 + 1 + 1 + 1 := by omega
  have l8 : B1 + 1 + 1 + 1 + 1 + 1 + 1 < w2.heap.size := by omega
  generalize B1 + 1 + 1 + 1 + 1 + 1 + 1 = B7 at *
  generalize B1 + 1 + 1 + 1 + 1 + 1 = B6 at *
  generalize B1 + 1 + 1 + 1 + 1 = B5 at *
  generalize B1 + 1 + 1 + 1 = B4 at *
  generalize B1 + 1 + 1 = B3 at *
  generalize B1 + 1 = B2 at *
  clear hB1 hb1 hz2
  have HF2 := Lib.hid (HF.out.below hb2)
  refine ⟨trivial, (callsIn_wide.2 (Cells_calls HF2.out)).mono ?_⟩
  rintro e w3 ⟨g', S', Bq, rfl, hF', hS', hBq, KQ, hb3⟩
  have hit := living_fld Bq KQ hF'
  replace K0 := bk_below K0 hb3
  replace K1 := bk_below K1 hb3
  replace K2 := bk_below K2 hb3
  replace K3 := bk_below K3 hb3
  replace K4 := bk_below K4 hb3
  replace K5 := bk_below K5 hb3
  replace K6 := bk_below K6 hb3
  replace K7 := bk_below K7 hb3
  replace hb2 := hb2.trans (hb3.mono hb2.size)
  have hfar : ∀ b, (S' b ∨ b = Bq) → B7 < b := fun b hb => by
    rcases hb with hb | rfl
    · have := hS' b hb; omega
    · omega
  have hq : B7 < Bq := by omega
  have hlt' := hit.1
  clear hF' hb3 hS' hBq HF2 l8 KQ
  gi_wp2_with (first | fail)
  refine wpIn_rangeFunc_ownH rfl (by omega) (gf := 51) (lb := #[.pointer (some ⟨Bq, 0, none⟩)]) rfl trivial (enters_of Try.func51 (by kernel_rfl) rfl)
    (hit.2 7 (by omega)) keepsOn_t (keepsOn_b hit.1) (Below.refl _ _) (fun _ => rfl)
    (BxdI w3.heap.size w.heap.size w.heap.size B1 B2 B3 B4 B5 B6 B7 X Y A B w) (fun c xs _ => c = .ret ∧ ¬ xs <+: livL D) (bxdI_own (Nat.le_refl _) hb2.size) (fun _ _ _ _ _ hs _ _ => hs)
    ⟨K0, K1, K2, K3, K4, K5, K6, K7, hb2, Nat.le_refl _⟩ (BxdA g w.heap.size B1 B2 B3 B4 B5 B6 B7 Bq X Y A B (!(livL D).isEmpty)) (fun x a' => bxdA_own x a') ?assign ?body ?done ?stop
  case assign =>
    intro l pre x W K hi hK
    obtain ⟨K0, K1, K2, K3, K4, K5, K6, K7, hB, hM⟩ := id hi
    simp [celV]
    gi_wp2
    have hlt0 : ∀ b, (S' b ∨ b = Bq) → b < W.heap.size := fun b hb => Nat.lt_of_lt_of_le (hlt' b hb) hM
    refine hK _ _ ((KeepsOthers.alloc _ _).from _) (fun b hb => Below.heap_alloc _ _ _ ?_) ⟨bk_alloc K0 _, bk_alloc K1 _, bk_alloc K2 _, bk_alloc K3 _, bk_alloc K4 _, bk_alloc K5 _, bk_alloc K6 _, bk_alloc K7 _, hB.alloc hB.size _, by simp; omega⟩ ⟨W.heap.size, hlt0 _ (.inr rfl), bk_new W _, rfl⟩
    exact hlt0 b hb
  case body =>
    rintro l pre ⟨cx, cy, cs⟩ a' W hl ⟨r, hr⟩ ⟨K0, K1, K2, K3, K4, K5, K6, K7, hB, hM⟩ ⟨Bx, hBx, KX, rfl⟩ hlt
    simp only [List.replicate_succ, List.replicate_zero, List.nil_append, List.cons_append]
    have hl9 : pre.length < 4294967296 := by omega
    have M : BxdM w.heap.size w.heap.size B1 B2 B3 B4 B5 B6 B7 Bq Bx X Y A B w (fun b => S' b ∨ b = Bq) W cx cy pre.length (pre.any fun c => c.1 == X) (pre.any fun c => c.1 == X + A - 1) (pre.any fun c => c.2.1 == Y) (pre.any fun c => c.2.1 == Y + B - 1) (lastX pre) (lastY pre) W :=
      ⟨by omega, hfar, K0, K1, K2, K3, K4, K5, K6, K7, KX, hB, KeepsOthers.refl _, keepsOn_refl _ _, Nat.le_refl _⟩
    clear K0 K1 K2 K3 K4 K5 K6 K7 KX hB hBx
    have hA1 : -1 ≤ X ∧ X ≤ 65537 ∧ 0 ≤ A ∧ A ≤ 65537 := by omega
    have hA2 : -1 ≤ Y ∧ Y ≤ 65537 ∧ 0 ≤ B ∧ B ≤ 65537 := by omega
    have hgood : Hid (pre ++ [(cx, cy, cs)] <+: livL D → (¬ cs = 0) ∧ (0 ≤ cx ∧ cx ≤ 65536) ∧ (0 ≤ cy ∧ cy ≤ 65536) ∧ X ≤ cx ∧ cx < X + A ∧ Y ≤ cy ∧ cy < Y + B ∧ (lastY pre < cy ∨ lastY pre = cy ∧ lastX pre < cx)) := fun hp => by
      obtain ⟨r, hr⟩ := hp
      have hcm : (cx, cy, cs) ∈ livL D := by rw [← hr]; simp
      obtain ⟨q1, q2, q4, q6, q7, q8, q9⟩ := HOK.out.cel _ hcm
      exact ⟨q1, q2, q4, q6, q7, q8, q9, last_ahead (by have := HOK.out.up; rw [← hr] at this; exact (List.pairwise_append.1 this).1) q4.1⟩
    have hlx : Hid (lastX (pre ++ [(cx, cy, cs)]) = cx ∧ lastY (pre ++ [(cx, cy, cs)]) = cy) := by show _ ∧ _; simp [lastX, lastY]
    have ha3 : Hid (((pre ++ [(cx, cy, cs)]).any fun c => c.1 == X) = ((pre.any fun c => c.1 == X) || cx == X)) := by show _ = _; simp
    have ha4 : Hid (((pre ++ [(cx, cy, cs)]).any fun c => c.1 == X + A - 1) = ((pre.any fun c => c.1 == X + A - 1) || cx == X + A - 1)) := by show _ = _; simp
    have ha5 : Hid (((pre ++ [(cx, cy, cs)]).any fun c => c.2.1 == Y) = ((pre.any fun c => c.2.1 == Y) || cy == Y)) := by show _ = _; simp
    have ha6 : Hid (((pre ++ [(cx, cy, cs)]).any fun c => c.2.1 == Y + B - 1) = ((pre.any fun c => c.2.1 == Y + B - 1) || cy == Y + B - 1)) := by show _ = _; simp
    generalize lastX pre = lx at *
    generalize lastY pre = ly at *
    generalize (pre.any fun c => c.1 == X) = v3 at *
    generalize (pre.any fun c => c.1 == X + A - 1) = v4 at *
    generalize (pre.any fun c => c.2.1 == Y) = v5 at *
    generalize (pre.any fun c => c.2.1 == Y + B - 1) = v6 at *
    have hc1 := bk_cell M.k1; have hc2 := bk_cell M.k2; have hc3 := bk_cell M.k3; have hc4 := bk_cell M.k4; have hc5 := bk_cell M.k5; have hc6 := bk_cell M.k6; have hc7 := bk_cell M.k7; have hcX := bk_cell M.kx
    have hf2 := bk_free M.k2; have hf3 := bk_free M.k3; have hf4 := bk_free M.k4; have hf5 := bk_free M.k5; have hf6 := bk_free M.k6; have hf7 := bk_free M.k7
    have nX : Bx ≠ B7 := by have := M.ord; omega
    have HM := Lib.hid M; clear M
    clear hl1 l2 l3 l4 l5 l6 l7 hq hlt' hlt hll h0 hfar hit HF CB hl
    (repeat (rename_i h; clear h))
    have hf0 := bk_free HM.out.k0; have hc0 := bk_cell HM.out.k0
    gi_step
    gi_step
    gi_step
    gi_cut [] from 23 (fun wc => Hid (BxdM w.heap.size w.heap.size B1 B2 B3 B4 B5 B6 B7 Bq Bx X Y A B w (fun b => S' b ∨ b = Bq) W cx cy pre.length v3 v4 v5 v6 lx ly wc))
    case first =>
      have h9 : cs = 0 ∨ (¬ cs = 0 ∧ cx < X) ∨ (¬ cs = 0 ∧ X ≤ cx ∧ X + A ≤ cx) ∨ (¬ cs = 0 ∧ X ≤ cx ∧ cx < X + A ∧ cy < Y) ∨ (¬ cs = 0 ∧ X ≤ cx ∧ cx < X + A ∧ Y ≤ cy ∧ Y + B ≤ cy) ∨ (¬ cs = 0 ∧ X ≤ cx ∧ cx < X + A ∧ Y ≤ cy ∧ cy < Y + B ∧ cy < ly) ∨
        (¬ cs = 0 ∧ X ≤ cx ∧ cx < X + A ∧ Y ≤ cy ∧ cy < Y + B ∧ cy = ly ∧ cx ≤ lx) ∨ (¬ cs = 0 ∧ X ≤ cx ∧ cx < X + A ∧ Y ≤ cy ∧ cy < Y + B ∧ ly < cy) ∨ (¬ cs = 0 ∧ X ≤ cx ∧ cx < X + A ∧ Y ≤ cy ∧ cy < Y + B ∧ cy = ly ∧ lx < cx) := by omega
      rcases h9 with h9 | h9 | h9 | h9 | h9 | h9 | h9 | h9 | h9
      · have hn : ¬ (pre ++ [(cx, cy, cs)] <+: livL D) := fun hp => by have := hgood.out hp; omega
        have HN := Lib.hid hn; clear hn
        have d1 : (cs == 0) = true := beq_iff_eq.2 (by omega); clear h9
        gi_wp2
        exact ⟨((KeepsOthers.setCell W _ _).from _), rfl, HN.out⟩
      · have hn : ¬ (pre ++ [(cx, cy, cs)] <+: livL D) := fun hp => by have := hgood.out hp; omega
        have HN := Lib.hid hn; clear hn
        have d1 : (cs == 0) = false := beq_eq_false_iff_ne.2 (by omega); have d2 : decide (cx < X) = true := decide_eq_true (by omega); clear h9
        gi_wp2
        exact ⟨((KeepsOthers.setCell W _ _).from _), rfl, HN.out⟩
      · have hn : ¬ (pre ++ [(cx, cy, cs)] <+: livL D) := fun hp => by have := hgood.out hp; omega
        have HN := Lib.hid hn; clear hn
        have d1 : (cs == 0) = false := beq_eq_false_iff_ne.2 (by omega); have d2 : decide (cx < X) = false := decide_eq_false (by omega); have d3 : decide (X + A ≤ cx) = true := decide_eq_true (by omega); clear h9
        gi_wp2
        exact ⟨((KeepsOthers.setCell W _ _).from _), rfl, HN.out⟩
      · have hn : ¬ (pre ++ [(cx, cy, cs)] <+: livL D) := fun hp => by have := hgood.out hp; omega
        have HN := Lib.hid hn; clear hn
        have d1 : (cs == 0) = false := beq_eq_false_iff_ne.2 (by omega); have d2 : decide (cx < X) = false := decide_eq_false (by omega); have d3 : decide (X + A ≤ cx) = false := decide_eq_false (by omega); have d4 : decide (cy < Y) = true := decide_eq_true (by omega); clear h9
        gi_wp2
        exact ⟨((KeepsOthers.setCell W _ _).from _), rfl, HN.out⟩
      · have hn : ¬ (pre ++ [(cx, cy, cs)] <+: livL D) := fun hp => by have := hgood.out hp; omega
        have HN := Lib.hid hn; clear hn
        have d1 : (cs == 0) = false := beq_eq_false_iff_ne.2 (by omega); have d2 : decide (cx < X) = false := decide_eq_false (by omega); have d3 : decide (X + A ≤ cx) = false := decide_eq_false (by omega); have d4 : decide (cy < Y) = false := decide_eq_false (by omega); have d5 : decide (Y + B ≤ cy) = true := decide_eq_true (by omega); clear h9
        gi_wp2
        exact ⟨((KeepsOthers.setCell W _ _).from _), rfl, HN.out⟩
      · have hn : ¬ (pre ++ [(cx, cy, cs)] <+: livL D) := fun hp => by have := hgood.out hp; omega
        have HN := Lib.hid hn; clear hn
        have d1 : (cs == 0) = false := beq_eq_false_iff_ne.2 (by omega); have d2 : decide (cx < X) = false := decide_eq_false (by omega); have d3 : decide (X + A ≤ cx) = false := decide_eq_false (by omega); have d4 : decide (cy < Y) = false := decide_eq_false (by omega); have d5 : decide (Y + B ≤ cy) = false := decide_eq_false (by omega); have d6 : decide (cy < ly) = true := decide_eq_true (by omega); clear h9
        gi_wp2
        exact ⟨((KeepsOthers.setCell W _ _).from _), rfl, HN.out⟩
      · have hn : ¬ (pre ++ [(cx, cy, cs)] <+: livL D) := fun hp => by have := hgood.out hp; omega
        have HN := Lib.hid hn; clear hn
        have d1 : (cs == 0) = false := beq_eq_false_iff_ne.2 (by omega); have d2 : decide (cx < X) = false := decide_eq_false (by omega); have d3 : decide (X + A ≤ cx) = false := decide_eq_false (by omega); have d4 : decide (cy < Y) = false := decide_eq_false (by omega); have d5 : decide (Y + B ≤ cy) = false := decide_eq_false (by omega); have d6 : decide (cy < ly) = false := decide_eq_false (by omega); have d7 : (cy == ly) = true := beq_iff_eq.2 (by omega); have d8 : decide (cx ≤ lx) = true := decide_eq_true (by omega); clear h9
        gi_wp2
        exact ⟨((KeepsOthers.setCell W _ _).from _), rfl, HN.out⟩
      · have d1 : (cs == 0) = false := beq_eq_false_iff_ne.2 (by omega); have d2 : decide (cx < X) = false := decide_eq_false (by omega); have d3 : decide (X + A ≤ cx) = false := decide_eq_false (by omega); have d4 : decide (cy < Y) = false := decide_eq_false (by omega); have d5 : decide (Y + B ≤ cy) = false := decide_eq_false (by omega); have d6 : decide (cy < ly) = false := decide_eq_false (by omega); have d7 : (cy == ly) = false := beq_eq_false_iff_ne.2 (by omega); clear h9
        gi_wp2
        gi_meet
        case rel => exact HM.out
      · have d1 : (cs == 0) = false := beq_eq_false_iff_ne.2 (by omega); have d2 : decide (cx < X) = false := decide_eq_false (by omega); have d3 : decide (X + A ≤ cx) = false := decide_eq_false (by omega); have d4 : decide (cy < Y) = false := decide_eq_false (by omega); have d5 : decide (Y + B ≤ cy) = false := decide_eq_false (by omega); have d6 : decide (cy < ly) = false := decide_eq_false (by omega); have d7 : (cy == ly) = true := beq_iff_eq.2 (by omega); have d8 : decide (cx ≤ lx) = false := decide_eq_false (by omega); clear h9
        gi_wp2
        gi_meet
        case rel => exact HM.out
    case rest =>
      clear hf0 hc0 hc1 hc2 hc3 hc4 hc5 hc6 hc7 hcX hf2 hf3 hf4 hf5 hf6 hf7 nX HM
      have HM := hcut; clear hcut
      have hc1 := bk_cell HM.out.k1; have hc2 := bk_cell HM.out.k2; have hc3 := bk_cell HM.out.k3; have hc4 := bk_cell HM.out.k4; have hc5 := bk_cell HM.out.k5; have hc6 := bk_cell HM.out.k6; have hc7 := bk_cell HM.out.k7; have hcX := bk_cell HM.out.kx
      have hf2 := bk_free HM.out.k2; have hf3 := bk_free HM.out.k3; have hf4 := bk_free HM.out.k4; have hf5 := bk_free HM.out.k5; have hf6 := bk_free HM.out.k6; have hf7 := bk_free HM.out.k7
      have nX : Bx ≠ B7 := by have := HM.out.ord; omega
      gi_upto_region 11 with (fail)
      replace HM := Lib.hid HM.out.s7
      clear nX hgood HOK
      clear hc1 hc2 hc3 hc4 hc5 hc6 hc7 hcX hf2 hf3 hf4 hf5 hf6 hf7
      generalize (((wc.setCell ⟨B7, 0, none⟩ (.int .i64 cx)).setCell ⟨B7, 1, none⟩ (.int .i64 cy))) = wq at *
      have hc1 := bk_cell HM.out.k1; have hc2 := bk_cell HM.out.k2; have hc3 := bk_cell HM.out.k3; have hc4 := bk_cell HM.out.k4; have hc5 := bk_cell HM.out.k5; have hc6 := bk_cell HM.out.k6; have hc7 := bk_cell HM.out.k7; have hcX := bk_cell HM.out.kx
      have hf2 := bk_free HM.out.k2; have hf3 := bk_free HM.out.k3; have hf4 := bk_free HM.out.k4; have hf5 := bk_free HM.out.k5; have hf6 := bk_free HM.out.k6; have hf7 := bk_free HM.out.k7
      gi_cut [] from 23 (fun wc => Hid (BxdM w.heap.size w.heap.size B1 B2 B3 B4 B5 B6 B7 Bq Bx X Y A B w (fun b => S' b ∨ b = Bq) W cx cy pre.length (v3 || cx == X) v4 v5 v6 cx cy wc))
      case first =>
        cases v3
        · gi_wp2
          gi_meet
          case rel => exact HM.out.s3 (cx == X)
        · gi_wp2
          gi_meet
          case rel => exact HM.out.s3 true
      clear HM
      clear hc1 hc2 hc3 hc4 hc5 hc6 hc7 hcX hf2 hf3 hf4 hf5 hf6 hf7
      have HM := hcut; clear hcut
      gi_upto_region 12 with (fail)
      obtain ⟨wq, rfl⟩ : ∃ wq, wq = wc := ⟨_, rfl⟩
      have hc1 := bk_cell HM.out.k1; have hc2 := bk_cell HM.out.k2; have hc3 := bk_cell HM.out.k3; have hc4 := bk_cell HM.out.k4; have hc5 := bk_cell HM.out.k5; have hc6 := bk_cell HM.out.k6; have hc7 := bk_cell HM.out.k7; have hcX := bk_cell HM.out.kx
      have hf2 := bk_free HM.out.k2; have hf3 := bk_free HM.out.k3; have hf4 := bk_free HM.out.k4; have hf5 := bk_free HM.out.k5; have hf6 := bk_free HM.out.k6; have hf7 := bk_free HM.out.k7
      gi_cut [] from 23 (fun wc => Hid (BxdM w.heap.size w.heap.size B1 B2 B3 B4 B5 B6 B7 Bq Bx X Y A B w (fun b => S' b ∨ b = Bq) W cx cy pre.length (v3 || cx == X) (v4 || cx == X + A - 1) v5 v6 cx cy wc))
      case first =>
        cases v4
        · gi_wp2
          gi_meet
          case rel => exact HM.out.s4 (cx == X + A - 1)
        · gi_wp2
          gi_meet
          case rel => exact HM.out.s4 true
      clear HM
      clear hc1 hc2 hc3 hc4 hc5 hc6 hc7 hcX hf2 hf3 hf4 hf5 hf6 hf7
      have HM := hcut; clear hcut
      gi_upto_region 13 with (fail)
      obtain ⟨wq, rfl⟩ : ∃ wq, wq = wc := ⟨_, rfl⟩
      have hc1 := bk_cell HM.out.k1; have hc2 := bk_cell HM.out.k2; have hc3 := bk_cell HM.out.k3; have hc4 := bk_cell HM.out.k4; have hc5 := bk_cell HM.out.k5; have hc6 := bk_cell HM.out.k6; have hc7 := bk_cell HM.out.k7; have hcX := bk_cell HM.out.kx
      have hf2 := bk_free HM.out.k2; have hf3 := bk_free HM.out.k3; have hf4 := bk_free HM.out.k4; have hf5 := bk_free HM.out.k5; have hf6 := bk_free HM.out.k6; have hf7 := bk_free HM.out.k7
      gi_cut [] from 23 (fun wc => Hid (BxdM w.heap.size w.heap.size B1 B2 B3 B4 B5 B6 B7 Bq Bx X Y A B w (fun b => S' b ∨ b = Bq) W cx cy pre.length (v3 || cx == X) (v4 || cx == X + A - 1) (v5 || cy == Y) v6 cx cy wc))
      case first =>
        cases v5
        · gi_wp2
          gi_meet
          case rel => exact HM.out.s5 (cy == Y)
        · gi_wp2
          gi_meet
          case rel => exact HM.out.s5 true
      clear HM
      clear hc1 hc2 hc3 hc4 hc5 hc6 hc7 hcX hf2 hf3 hf4 hf5 hf6 hf7
      have HM := hcut; clear hcut
      gi_upto_region 14 with (fail)
      obtain ⟨wq, rfl⟩ : ∃ wq, wq = wc := ⟨_, rfl⟩
      have hc1 := bk_cell HM.out.k1; have hc2 := bk_cell HM.out.k2; have hc3 := bk_cell HM.out.k3; have hc4 := bk_cell HM.out.k4; have hc5 := bk_cell HM.out.k5; have hc6 := bk_cell HM.out.k6; have hc7 := bk_cell HM.out.k7; have hcX := bk_cell HM.out.kx
      have hf2 := bk_free HM.out.k2; have hf3 := bk_free HM.out.k3; have hf4 := bk_free HM.out.k4; have hf5 := bk_free HM.out.k5; have hf6 := bk_free HM.out.k6; have hf7 := bk_free HM.out.k7
      gi_cut [] from 23 (fun wc => Hid (BxdM w.heap.size w.heap.size B1 B2 B3 B4 B5 B6 B7 Bq Bx X Y A B w (fun b => S' b ∨ b = Bq) W cx cy pre.length (v3 || cx == X) (v4 || cx == X + A - 1) (v5 || cy == Y) (v6 || cy == Y + B - 1) cx cy wc))
      case first =>
        cases v6
        · gi_wp2
          gi_meet
          case rel => exact HM.out.s6 (cy == Y + B - 1)
        · gi_wp2
          gi_meet
          case rel => exact HM.out.s6 true
      clear HM
      clear hc1 hc2 hc3 hc4 hc5 hc6 hc7 hcX hf2 hf3 hf4 hf5 hf6 hf7
      have HM := hcut; clear hcut
      obtain ⟨wq, rfl⟩ : ∃ wq, wq = wc := ⟨_, rfl⟩
      have hc1 := bk_cell HM.out.k1; have hc2 := bk_cell HM.out.k2; have hc3 := bk_cell HM.out.k3; have hc4 := bk_cell HM.out.k4; have hc5 := bk_cell HM.out.k5; have hc6 := bk_cell HM.out.k6; have hc7 := bk_cell HM.out.k7; have hcX := bk_cell HM.out.kx
      have hf2 := bk_free HM.out.k2; have hf3 := bk_free HM.out.k3; have hf4 := bk_free HM.out.k4; have hf5 := bk_free HM.out.k5; have hf6 := bk_free HM.out.k6; have hf7 := bk_free HM.out.k7
      gi_wp2
      have M := HM.out.s2 (pre.length + 1)
      exact ⟨M.oth.from _, M.on, M.k0, M.k1, by rw [List.length_append]; exact M.k2, by rw [ha3.out]; exact M.k3, by rw [ha4.out]; exact M.k4, by rw [ha5.out]; exact M.k5, by rw [ha6.out]; exact M.k6, by rw [hlx.out.1, hlx.out.2]; exact M.k7, M.bel, Nat.le_trans hM M.sz⟩
  case done =>
    rintro D' ys W hD rfl ⟨K0, K1, K2, K3, K4, K5, K6, K7, hB, hM⟩ hK
    have hDn : w.heap.size < D' := by have := hlt' Bq (.inr rfl); omega
    have hwD : w.heap.size ≤ D' := by omega
    replace hDn : w.heap.size ≠ D' := by omega
    have cP : Calls Try.prog 15 #[.pointer (some ⟨g, 0, none⟩)] W.drew fun e w' => e = .returned (.int .i64 (livL D).length) ∧ Below W.heap.size W w' := (Pop_calls ((HF.out.below hB).below (Below.refl _ W).drew)).mono fun e w' r => ⟨r.1, (Below.refl _ W).drew.trans r.2⟩
    have CP := Lib.hid cP; clear cP
    have HK := Lib.hid (⟨K0, K1, K2, K3, K4, K5, K6, hB, hK⟩ : _ ∧ _ ∧ _ ∧ _ ∧ _ ∧ _ ∧ _ ∧ _ ∧ _)
    have hc2 := bk_cell K2
    clear K0 K1 K2 K3 K4 K5 K6 K7 hB hK hl1 l2 l3 l4 l5 l6 l7 hq hlt' hfar hit CB HF hM hD h0
    have hall : Hid (∀ Wz, Below W.heap.size W Wz → Wz.heap[w.heap.size]? = some (.cells #[.bool false] 4 (0, 0)) ∧ Wz.heap[B1]? = some (.cells #[.int .i64 X, .int .i64 Y, .int .i64 A, .int .i64 B] 60 (0, 0)) ∧ Wz.heap[B2]? = some (.cells #[.int .i64 (livL D).length] 3 (0, 0)) ∧
        Wz.heap[B3]? = some (.cells #[.bool ((livL D).any fun c => c.1 == X)] 4 (0, 0)) ∧ Wz.heap[B4]? = some (.cells #[.bool ((livL D).any fun c => c.1 == X + A - 1)] 4 (0, 0)) ∧ Wz.heap[B5]? = some (.cells #[.bool ((livL D).any fun c => c.2.1 == Y)] 4 (0, 0)) ∧ Wz.heap[B6]? = some (.cells #[.bool ((livL D).any fun c => c.2.1 == Y + B - 1)] 4 (0, 0)) ∧
        Below w.heap.size w Wz ∧ Wz.heap[D']? = some (.deferred (some []))) := fun Wz hz => by
      obtain ⟨K0, K1, K2, K3, K4, K5, K6, hB, hK⟩ := HK.out
      exact ⟨bk_below K0 hz, bk_below K1 hz, bk_below K2 hz, bk_below K3 hz, bk_below K4 hz, bk_below K5 hz, bk_below K6 hz, hB.trans (hz.mono hB.size), (hz.block D' (Array.getElem?_eq_some_iff.1 hK).1).trans hK⟩
    have HK2 : Hid (∀ Wz, Below W.heap.size W Wz → Wz.cell? ⟨B2, 0, none⟩ = some (.int .i64 (livL D).length)) := fun Wz hz => bk_cell (hall.out Wz hz).2.2.1 0
    clear HK
    have fin : Hid (∀ (tm : Array Value) (Wz : World), tm.getD 2 undef = .pointer (some ⟨w.heap.size, 0, none⟩) → Below W.heap.size W Wz → bodyPostM Fence.wide 8 Try.prog Try.f16 (Ret (.bool true) w) .ret { tmps := tm, defers := [{ target := Target.collected D', args := #[] }] } (Wz.setCell ⟨w.heap.size, 0, none⟩ (.bool true))) := fun tm Wz ht hz => by
      obtain ⟨K0, K1, K2, K3, K4, K5, K6, hB, hK⟩ := hall.out Wz hz
      have hK' : (Wz.setCell ⟨w.heap.size, 0, none⟩ (.bool true)).heap[D']? = some (.deferred (some [])) := (KeepsOthers.setCell _ _ _).same D' _ hK rfl
      have kr : (Wz.setCell ⟨w.heap.size, 0, none⟩ (.bool true)).heap[w.heap.size]? = some (.cells #[.bool true] 4 (0, 0)) := bk_eq (by repeat (with_reducible (first | exact K0 | apply bk_set | refine bk_drew ?_ | refine bk_drewN ?_ _ | refine bk_alloc ?_ _ | refine bk_far ?_ (by simp; try omega) _))) (by simp)
      refine ⟨by simp, .inl ⟨_, _, rfl, run_takeDeferred hK', ?_⟩⟩
      refine ⟨_, res_c1 rfl _ _ w.heap.size _ ht (bk_cell (((grownBy_putObj' _ D' (.deferred none)).block w.heap.size (bk_lt kr) (by simpa using hDn)).trans kr) 0) Try.underlying4, rfl, ?_⟩
      exact (hB.setCell (p := ⟨w.heap.size, 0, none⟩) (Nat.le_refl _) _).trans (belowK_b (w := w) (Nat.le_refl _) _ D' _ _ hwD hK' rfl rfl)
    by_cases he : livL D = []
    · have e1 : (livL D).length = 0 := by rw [he]; rfl
      have e2 : (livL D).isEmpty = true := by rw [he]; rfl
      obtain ⟨rfl, rfl, rfl, rfl⟩ := HOK.out.nil he
      rw [e1] at hc2 CP HK2
      rw [e2]
      clear he e1 e2 hll
      have hbx := Below.refl W.heap.size W
      gi_wp2_with (first | fail)
      refine wpIn_mono (Q := barred _) ?_ barred_out
      gi_region_with (refine ⟨trivial, ?_⟩; gi_at_call 15; ((with_reducible refine (callsIn_wide.2 CP.out).mono ?_); rintro e wP ⟨rfl, hbP⟩; have hcP := HK2.out _ hbP))
      all_goals
        refine barred_nm ?_
        obtain ⟨k0, k1, k2, k3, k4, k5, k6, -, -⟩ := hall.out _ hbP
        have hc0 := bk_cell k0; have hf0 := bk_free k0; have hc1 := bk_cell k1
        have hcP' : wP.cell? ⟨B2, 0, none⟩ = some (.int .i64 0) := hcP
        clear k0 k1 k2 k3 k4 k5 k6 hc2 HK2 hcP
        gi_wp2
        refine fin.out _ _ ?_ hbP
        rfl
    · obtain ⟨q3, q4, q5, q6⟩ := HOK.out.edge he
      have e2 : (livL D).isEmpty = false := by simpa using he
      have e1 : 0 < (livL D).length := List.length_pos_iff.2 he
      rw [e2]
      clear he e2
      have hbx := Below.refl W.heap.size W
      have hne : (((livL D).length : Int) != ((livL D).length : Int)) = false := bne_self_eq_false _
      have hnz : (((livL D).length : Int) == 0) = false := beq_eq_false_iff_ne.2 (by omega)
      have hgt : decide ((0 : Int) < ((livL D).length : Int)) = true := decide_eq_true (by omega)
      rw [q3, q4, q5, q6] at hall
      clear q3 q4 q5 q6
      gi_wp2_with (first | fail)
      refine wpIn_mono (Q := barred _) ?_ barred_out
      gi_region_with (refine ⟨trivial, ?_⟩; gi_at_call 15; ((with_reducible refine (callsIn_wide.2 CP.out).mono ?_); rintro e wP ⟨rfl, hbP⟩; have hcP := HK2.out _ hbP))
      all_goals
        refine barred_nm ?_
        obtain ⟨k0, k1, k2, k3, k4, k5, k6, -, -⟩ := hall.out _ hbP
        have hc0 := bk_cell k0; have hf0 := bk_free k0; have hc2' := bk_cell k2; have hc3 := bk_cell k3; have hc4 := bk_cell k4; have hc5 := bk_cell k5; have hc6 := bk_cell k6
        clear k0 k1 k2 k3 k4 k5 k6 hc2 HK2 hcP
        gi_wp2
        refine fin.out _ _ ?_ hbP
        rfl
  case stop =>
    rintro D c pre W _ hp h _
    exact absurd hp h.2
end Go.Proofs.Ytjhfiibfknhniaa
