/- Whole-number arithmetic: Go's quotient and remainder against the ones that are rounded down. The plain law of the fold chapter: topologies that may be, the cell of a place, the ring. The seat's own words for contracts: what a call that only computes comes to. The ends of walks whose results lie in memory. More ends of walks whose results lie in memory. Rows of the call's own, grown by one element at a time. -/
import Derived.WalkKit
import Derived.WalkSpells
import Derived.WalkLawsBesides
import Derived.BigQuiet
import Derived.Deep.QuietTactic
import Derived.Lib.Hide
import Derived.Test.YtfdehecekghlmaaProg
import Derived.OwnWalk
import Ieee.Arith

set_option linter.unusedVariables false
set_option linter.unusedSimpArgs false
namespace Go.Viv

theorem tmod_cases (a n : Int) (hn : 0 < n) : (a.tmod n = a % n ∧ 0 ≤ a) ∨ (a.tmod n = a % n ∧ a % n = 0) ∨ (a.tmod n = a % n - n ∧ a < 0 ∧ a % n ≠ 0) := by
  rw [Int.tmod_eq_emod]
  by_cases h : 0 ≤ a ∨ n ∣ a
  · rw [if_pos h]
    rcases h with h | h
    · exact .inl ⟨by omega, h⟩
    · exact .inr (.inl ⟨by omega, Int.emod_eq_zero_of_dvd h⟩)
  · rw [if_neg h]
    have : ¬ n ∣ a := fun h' => h (.inr h')
    refine .inr (.inr ⟨by omega, by omega, fun h0 => this (Int.dvd_of_emod_eq_zero h0)⟩)

theorem mod_eq1 (a n : Int) (hn : 0 < n) : (a.tmod n + n).tmod n = a % n := by
  have h1 := Int.emod_nonneg a (by omega : n ≠ 0)
  have h2 := Int.emod_lt_of_pos a hn
  have key : a.tmod n + n = a % n + n ∨ a.tmod n + n = a % n := by
    rcases tmod_cases a n hn with ⟨h, _⟩ | ⟨h, _⟩ | ⟨h, _⟩ <;> omega
  have e1 : (a % n + n).tmod n = a % n := by
    rw [Int.tmod_eq_emod_of_nonneg (by omega), Int.add_emod_right, Int.emod_emod_of_dvd a (Int.dvd_refl n)]
  rcases key with h | h
  · rw [h, e1]
  · rw [h, Int.tmod_eq_emod_of_nonneg h1, Int.emod_emod_of_dvd a (Int.dvd_refl n)]

theorem mod_neg (a n : Int) (hn : 0 < n) (h : a.tmod n < 0) : a.tmod n + n = a % n := by
  have h1 := Int.emod_nonneg a (by omega : n ≠ 0)
  rcases tmod_cases a n hn with ⟨h, _⟩ | ⟨h, _⟩ | ⟨h, _⟩ <;> omega
theorem mod_pos (a n : Int) (hn : 0 < n) (h : ¬ a.tmod n < 0) : a.tmod n = a % n := by
  have h1 := Int.emod_nonneg a (by omega : n ≠ 0)
  have h2 := Int.emod_lt_of_pos a hn
  rcases tmod_cases a n hn with ⟨h, _⟩ | ⟨h, _⟩ | ⟨h, _⟩ <;> omega

theorem tdiv_of (a n : Int) : n * a.tdiv n = a - a.tmod n := by have := Int.mul_tdiv_add_tmod a n; omega
theorem ediv_of (a n : Int) : n * (a / n) = a - a % n := by have := Int.mul_ediv_add_emod a n; omega

theorem div_neg (a n : Int) (hn : 0 < n) (h : a.tmod n < 0) : a.tdiv n - 1 = a / n := by
  have h1 := tdiv_of a n
  have h2 := ediv_of a n
  have h3 := mod_neg a n hn h
  have : n * (a.tdiv n - 1) = n * (a / n) := by rw [Int.mul_sub]; omega
  exact Int.eq_of_mul_eq_mul_left (by omega) this
theorem div_pos (a n : Int) (hn : 0 < n) (h : ¬ a.tmod n < 0) : a.tdiv n = a / n := by
  have h1 := tdiv_of a n
  have h2 := ediv_of a n
  have h3 := mod_pos a n hn h
  have : n * a.tdiv n = n * (a / n) := by omega
  exact Int.eq_of_mul_eq_mul_left (by omega) this
theorem over_eq (a n : Int) (hn : 0 < n) : (a - a % n).tdiv n = a / n := by
  rw [← ediv_of, Int.mul_tdiv_cancel_left _ (by omega)]

/-- a quotient is no greater than what is divided -/
theorem ediv_bound (a n b : Int) (hn : 0 ≤ n) (hb : 0 ≤ b) (h1 : -b ≤ a) (h2 : a ≤ b) : -b ≤ a / n ∧ a / n ≤ b := by
  by_cases h0 : n = 0
  · subst h0; simp; omega
  have hp : 0 < n := by omega
  constructor
  · rw [Int.le_ediv_iff_mul_le hp]
    have : -b * n ≤ -b * 1 := Int.mul_le_mul_of_nonpos_left (by omega) (by omega)
    omega
  · have : a / n < b + 1 := by
      rw [Int.ediv_lt_iff_lt_mul hp]
      have : (b + 1) * 1 ≤ (b + 1) * n := Int.mul_le_mul_of_nonneg_left (by omega) (by omega)
      omega
    omega
/-- a product of what lies in bounds -/
theorem mul_bound (a b A B : Int) (ha1 : -A ≤ a) (ha2 : a ≤ A) (hb1 : -B ≤ b) (hb2 : b ≤ B) : -(A * B) ≤ a * b ∧ a * b ≤ A * B := by
  have hA : 0 ≤ A := by omega
  have hB : 0 ≤ B := by omega
  have h1 : (a * b).natAbs ≤ (A * B).natAbs := by
    rw [Int.natAbs_mul, Int.natAbs_mul]
    exact Nat.mul_le_mul (by omega) (by omega)
  have h2 := Int.mul_nonneg hA hB
  omega
end Go.Viv


set_option linter.unusedVariables false
set_option linter.unusedSimpArgs false
namespace Go.Viv

/-- topo.Check -/
def checkE (k W H t s : Int) : Int :=
  if k < 1 ∨ 5 < k then 40
  else if W < 0 ∨ 65536 < W ∨ H < 0 ∨ 65536 < H then 41
  else if k = 5 ∧ W ≠ H then 41
  else if 3 ≤ k ∧ (W = 0 ∨ H = 0) then 42
  else if 2 < t ∨ (k ≠ 2 ∧ k ≠ 3 ∧ t ≠ 0) ∨ (k = 3 ∧ t = 0) then 44
  else if t = 0 ∧ s ≠ 0 then 43
  else if t = 0 then 0
  else if t = 1 ∧ (s ≤ -W ∨ W ≤ s) ∨ t = 2 ∧ (s ≤ -H ∨ H ≤ s) ∨ k = 2 ∧ (s = 0 ∨ W = 0 ∨ H = 0) then 43
  else 0

structure TopoOk (k W H t s : Int) : Prop where
  k1 : 1 ≤ k
  k5 : k ≤ 5
  w0 : 0 ≤ W
  w1 : W ≤ 65536
  h0 : 0 ≤ H
  h1 : H ≤ 65536
  t0 : 0 ≤ t
  t2 : t ≤ 2
  sphere : k = 5 → W = H
  ends : 3 ≤ k → 0 < W ∧ 0 < H
  none : k ≠ 2 → k ≠ 3 → t = 0
  klein : k = 3 → t ≠ 0
  shift0 : t = 0 → s = 0
  shift1 : t = 1 → -W < s ∧ s < W
  shift2 : t = 2 → -H < s ∧ s < H
  torus : k = 2 → t ≠ 0 → s ≠ 0 ∧ 0 < W ∧ 0 < H

theorem topoOk_of {k W H t s : Int} (h0 : 0 ≤ t) (h : checkE k W H t s = 0) : TopoOk k W H t s := by
  unfold checkE at h
  split at h
  · omega
  split at h
  · omega
  split at h
  · omega
  split at h
  · omega
  split at h
  · omega
  split at h
  · omega
  split at h
  · constructor <;> omega
  split at h
  · omega
  · constructor <;> omega

theorem TopoOk.sh {k W H t s : Int} (h : TopoOk k W H t s) : -65536 < s ∧ s < 65536 := by
  have h1 := h.t0; have h2 := h.t2; have h3 := h.w1; have h4 := h.h1; have h5 := h.shift0; have h6 := h.shift1; have h7 := h.shift2
  have : t = 0 ∨ t = 1 ∨ t = 2 := by omega
  rcases this with rfl | rfl | rfl <;> omega

/-- home numbers of the cell of home numbers, of a glued grid (an endless side: 0) -/
def cellU (k W H t s u v : Int) : Int :=
  if (k = 2 ∧ t = 1) then (u - v / H * s) % W
  else if (k = 3 ∧ t = 1 ∧ v / H % 2 = 1) then (W - 1 - u + s) % W
  else if (k = 4 ∧ v / H % 2 = 1) then W - 1 - u % W
  else u % W
def cellV (k W H t s u v : Int) : Int :=
  if (k = 2 ∧ t = 2) then (v - u / W * s) % H
  else if (k = 3 ∧ t = 2 ∧ u / W % 2 = 1) then (H - 1 - v + s) % H
  else if (k = 4 ∧ u / W % 2 = 1) then H - 1 - v % H
  else v % H

/-- where a grid begins, of a side -/
def first (W : Int) : Int := -(W / 2)

def onI (u W : Int) : Bool := decide (W = 0 ∨ (0 ≤ u ∧ u < W))
def nearI (x : Int) : Bool := decide (-1099511627776 ≤ x ∧ x ≤ 1099511627776)
def gluedI (k : Int) : Bool := decide (2 ≤ k ∧ k ≤ 4)

/-- the error of a topology and a place -/
def cellE (k W H t s x y : Int) : Int :=
  if checkE k W H t s ≠ 0 then 9
  else if (nearI x && nearI y) = false then 5
  else if gluedI k = true then 0
  else if (onI (x - first W) W && onI (y - first H) H) = true then 0 else 60
def cellX (k W H t s x y : Int) : Int :=
  if cellE k W H t s x y ≠ 0 then 0
  else if gluedI k = true then cellU k W H t s (x - first W) (y - first H) + first W else x
def cellY (k W H t s x y : Int) : Int :=
  if cellE k W H t s x y ≠ 0 then 0
  else if gluedI k = true then cellV k W H t s (x - first W) (y - first H) + first H else y

/-- the linear part's number -/
def partN (k W H t s x y : Int) : Int :=
  if cellE k W H t s x y ≠ 0 then 0
  else
    let across : Bool := decide ((k = 3 ∧ t = 1 ∨ k = 4) ∧ (y - first H) / H % 2 = 1)
    let down : Bool := decide ((k = 3 ∧ t = 2 ∨ k = 4) ∧ (x - first W) / W % 2 = 1)
    if across && down then 2 else if across then 6 else if down then 4 else 0

end Go.Viv


set_option linter.unusedVariables false
set_option linter.unusedSimpArgs false
namespace Go.Proofs.Ytfdehecekghlmaa
open Go.RowKit

/-- the call returns v, and nothing that was there has changed -/
def Ret (v : Value) (w : World) (e : Ending) (w' : World) : Prop := e = .returned v ∧ Below w.heap.size w w'

theorem bcell {W w1 : World} {B : Nat} (hb : Below B W w1) : (∀ b o, b < B → w1.cell? ⟨b, o, none⟩ = W.cell? ⟨b, o, none⟩) ∧ (∀ b o, b < B → w1.frozen? ⟨b, o, none⟩ = W.frozen? ⟨b, o, none⟩) :=
  ⟨fun b o h => hb.cell (p := ⟨b, o, none⟩) h, fun b o h => hb.frozen (p := ⟨b, o, none⟩) h⟩

theorem Ret.one {v : Value} {w w' : World} (h : Below w.heap.size w w') : Ret v w (.returned v) w' := ⟨rfl, h⟩
theorem Ret.of {v v' : Value} {w w' : World} (hv : v' = v) (h : Below w.heap.size w w') : Ret v w (.returned v') w' := ⟨by rw [hv], h⟩

/-- a call behind another one -/
theorem next {w w1 w2 : World} (h : Below w.heap.size w w1) (h2 : Below w1.heap.size w1 w2) : Below w.heap.size w w2 := h.trans (h2.mono h.size)
/-- a block of one's own ahead of what comes -/
theorem box {w w1 : World} {o : Obj} (h : Below (w.alloc o).heap.size (w.alloc o) w1) : Below w.heap.size w w1 :=
  ((Below.refl _ _).alloc (Nat.le_refl _) _).trans (h.mono (by simp))
theorem boxed (w : World) (o : Obj) : Below w.heap.size w (w.alloc o) := (Below.refl _ _).alloc (Nat.le_refl _) _
theorem same (w : World) : Below w.heap.size w w := Below.refl _ _
/-- a cell that was there is there -/
theorem keepc {B : Nat} {w w1 : World} {a : Addr} {v : Value} (h : Below w.heap.size w w1) (ha : w.cell? a = some v) : w1.cell? a = some v := cell_later h ha


/-! blocks that are known whole -/
section
variable {w w1 : World} {g : Nat} {t : TypeId} {cs : Array Value} {o : Obj}
theorem bk_lt (h : w.heap[g]? = some o) : g < w.heap.size := (Array.getElem?_eq_some_iff.1 h).1
theorem bk_new (w : World) (o : Obj) : (w.alloc o).heap[w.heap.size]? = some o := heap_alloc_new w o
theorem bk_alloc (h : w.heap[g]? = some o) (o' : Obj) : (w.alloc o').heap[g]? = some o := (Below.heap_alloc w o' g (bk_lt h)).trans h
theorem bk_drew (h : w.heap[g]? = some o) : w.drew.heap[g]? = some o := h
theorem bk_drewN (h : w.heap[g]? = some o) (n : Nat) : (w.drewN n).heap[g]? = some o := h
theorem bk_set (h : w.heap[g]? = some (.cells cs t (0, 0))) (i : Nat) (u : Value) : (w.setCell ⟨g, i, none⟩ u).heap[g]? = some (.cells (cs.setIfInBounds i u) t (0, 0)) := by
  simp [World.setCell, Array.getElem?_modify, h]
theorem bk_far (h : w.heap[g]? = some o) {p : Addr} (hp : g ≠ p.block) (u : Value) : (w.setCell p u).heap[g]? = some o := (Below.heap_setCell w p u g hp).trans h
theorem bk_below (h : w.heap[g]? = some o) (hb : Below w.heap.size w w1) : w1.heap[g]? = some o := (hb.block g (bk_lt h)).trans h
theorem bk_eq {cs' : Array Value} (h : w.heap[g]? = some (.cells cs t (0, 0))) (e : cs = cs') : w.heap[g]? = some (.cells cs' t (0, 0)) := e ▸ h
theorem bk_cell (h : w.heap[g]? = some (.cells cs t (0, 0))) (i : Nat) : w.cell? ⟨g, i, none⟩ = cs[i]? := cell_of_row w g i cs t (0, 0) h
theorem bk_free (h : w.heap[g]? = some (.cells cs t (0, 0))) (i : Nat) : w.frozen? ⟨g, i, none⟩ = false := by simp [World.frozen?, h]
end

/-! results that lie in memory -/
section
variable {P : Program} {fn : Func} {p p2 u v : Tmp} {ty ty2 : TypeId}
theorem res_c (h : fn.results = #[.cell p ty]) (tmps : Array Value) (w : World) (g : Nat) (t : TypeId) (cs : Array Value) (fr : Nat × Nat) (d : TypeDesc)
    (hp : tmps.getD p undef = .pointer (some ⟨g, 0, none⟩)) (hg : w.heap[g]? = some (.cells cs t fr))
    (hu : P.underlying ty = some d) (hd : (match d with | .struct _ | .array _ _ => true | _ => false) = true) (hi : (P.info? ty).map (·.size) = some cs.size) :
    (results fn tmps).run P w = .ok (.agg cs) w := by
  have hp' : tmps[p]?.getD undef = .pointer (some ⟨g, 0, none⟩) := by simpa using hp
  simp [results, h, hp', asAddr, run_loadVar_row w g t ty cs fr d hg hu hd hi]
theorem res_ct (h : fn.results = #[.cell p ty, .tmp u]) (tmps : Array Value) (w : World) (g : Nat) (t : TypeId) (cs : Array Value) (fr : Nat × Nat) (d : TypeDesc)
    (hp : tmps.getD p undef = .pointer (some ⟨g, 0, none⟩)) (hg : w.heap[g]? = some (.cells cs t fr))
    (hu : P.underlying ty = some d) (hd : (match d with | .struct _ | .array _ _ => true | _ => false) = true) (hi : (P.info? ty).map (·.size) = some cs.size) :
    (results fn tmps).run P w = .ok (.tuple #[.agg cs, tmps.getD u undef]) w := by
  have hp' : tmps[p]?.getD undef = .pointer (some ⟨g, 0, none⟩) := by simpa using hp
  simp [results, h, hp', asAddr, run_loadVar_row w g t ty cs fr d hg hu hd hi]
theorem res_ctt (h : fn.results = #[.cell p ty, .tmp u, .tmp v]) (tmps : Array Value) (w : World) (g : Nat) (t : TypeId) (cs : Array Value) (fr : Nat × Nat) (d : TypeDesc)
    (hp : tmps.getD p undef = .pointer (some ⟨g, 0, none⟩)) (hg : w.heap[g]? = some (.cells cs t fr))
    (hu : P.underlying ty = some d) (hd : (match d with | .struct _ | .array _ _ => true | _ => false) = true) (hi : (P.info? ty).map (·.size) = some cs.size) :
    (results fn tmps).run P w = .ok (.tuple #[.agg cs, tmps.getD u undef, tmps.getD v undef]) w := by
  have hp' : tmps[p]?.getD undef = .pointer (some ⟨g, 0, none⟩) := by simpa using hp
  simp [results, h, hp', asAddr, run_loadVar_row w g t ty cs fr d hg hu hd hi]
end

/-- what comes behind the code, under a name: the walk then carries no frame but its own -/
theorem wp_hideQ {P : Program} {c : Code} {Q : Exit → Act → World → Prop} {a : Act} {w : World} (h : ∀ Q' : Exit → Act → World → Prop, Hid (∀ e a w, Q e a w → Q' e a w) → c.wp P Q' a w) : c.wp P Q a w := h Q (fun _ _ _ h => h)

end Go.Proofs.Ytfdehecekghlmaa


set_option linter.unusedVariables false
set_option linter.unusedSimpArgs false
namespace Go.Proofs.Ytfdehecekghlmaa
open Go.RowKit
section
variable {P : Program} {fn : Func} {R : Ending → World → Prop} {a : Act} {w : World} {p p2 u v : Tmp} {ty ty2 : TypeId} {d d2 : TypeDesc}
theorem end_c (g : Nat) (t : TypeId) (h : fn.results = #[.cell p ty]) (hd0 : a.defers = []) (hp : a.tmps.getD p undef = .pointer (some ⟨g, 0, none⟩))
    (hu : P.underlying ty = some d) (hd : (match d with | .struct _ | .array _ _ => true | _ => false) = true)
    (hR : ∃ cs, w.heap[g]? = some (.cells cs t (0, 0)) ∧ (P.info? ty).map (·.size) = some cs.size ∧ R (.returned (.agg cs)) w) : bodyPost P fn R .ret a w := by
  obtain ⟨cs, hg, hi, hR⟩ := hR
  exact bodyPost_ret (res_c h _ _ g t cs (0, 0) d hp hg hu hd hi) hd0 hR
theorem end_ct (g : Nat) (t : TypeId) (h : fn.results = #[.cell p ty, .tmp u]) (hd0 : a.defers = []) (hp : a.tmps.getD p undef = .pointer (some ⟨g, 0, none⟩))
    (hu : P.underlying ty = some d) (hd : (match d with | .struct _ | .array _ _ => true | _ => false) = true)
    (hR : ∃ cs, w.heap[g]? = some (.cells cs t (0, 0)) ∧ (P.info? ty).map (·.size) = some cs.size ∧ R (.returned (.tuple #[.agg cs, a.tmps.getD u undef])) w) : bodyPost P fn R .ret a w := by
  obtain ⟨cs, hg, hi, hR⟩ := hR
  exact bodyPost_ret (res_ct h _ _ g t cs (0, 0) d hp hg hu hd hi) hd0 hR
theorem end_ctt (g : Nat) (t : TypeId) (h : fn.results = #[.cell p ty, .tmp u, .tmp v]) (hd0 : a.defers = []) (hp : a.tmps.getD p undef = .pointer (some ⟨g, 0, none⟩))
    (hu : P.underlying ty = some d) (hd : (match d with | .struct _ | .array _ _ => true | _ => false) = true)
    (hR : ∃ cs, w.heap[g]? = some (.cells cs t (0, 0)) ∧ (P.info? ty).map (·.size) = some cs.size ∧ R (.returned (.tuple #[.agg cs, a.tmps.getD u undef, a.tmps.getD v undef])) w) : bodyPost P fn R .ret a w := by
  obtain ⟨cs, hg, hi, hR⟩ := hR
  exact bodyPost_ret (res_ctt h _ _ g t cs (0, 0) d hp hg hu hd hi) hd0 hR
end
end Go.Proofs.Ytfdehecekghlmaa


set_option linter.unusedVariables false
set_option linter.unusedSimpArgs false
namespace Go.Proofs.Ytfdehecekghlmaa
open Go.RowKit
section
variable {P : Program} {fn : Func} {R : Ending → World → Prop} {a : Act} {w : World} {p p2 u v : Tmp} {ty ty2 : TypeId} {d d2 : TypeDesc}
theorem res_cct (h : fn.results = #[.cell p ty, .cell p2 ty2, .tmp u]) (tmps : Array Value) (w : World) (g g2 : Nat) (t t2 : TypeId) (cs cs2 : Array Value) (fr fr2 : Nat × Nat) (d d2 : TypeDesc)
    (hp : tmps.getD p undef = .pointer (some ⟨g, 0, none⟩)) (hg : w.heap[g]? = some (.cells cs t fr))
    (hu : P.underlying ty = some d) (hd : (match d with | .struct _ | .array _ _ => true | _ => false) = true) (hi : (P.info? ty).map (·.size) = some cs.size)
    (hp2 : tmps.getD p2 undef = .pointer (some ⟨g2, 0, none⟩)) (hg2 : w.heap[g2]? = some (.cells cs2 t2 fr2))
    (hu2 : P.underlying ty2 = some d2) (hd2 : (match d2 with | .struct _ | .array _ _ => true | _ => false) = true) (hi2 : (P.info? ty2).map (·.size) = some cs2.size) :
    (results fn tmps).run P w = .ok (.tuple #[.agg cs, .agg cs2, tmps.getD u undef]) w := by
  have hp' : tmps[p]?.getD undef = .pointer (some ⟨g, 0, none⟩) := by simpa using hp
  have hp2' : tmps[p2]?.getD undef = .pointer (some ⟨g2, 0, none⟩) := by simpa using hp2
  simp [results, h, hp', hp2', asAddr, run_loadVar_row w g t ty cs fr d hg hu hd hi, run_loadVar_row w g2 t2 ty2 cs2 fr2 d2 hg2 hu2 hd2 hi2]
theorem end_cct (g g2 : Nat) (t t2 : TypeId) (h : fn.results = #[.cell p ty, .cell p2 ty2, .tmp u]) (hd0 : a.defers = []) (hp : a.tmps.getD p undef = .pointer (some ⟨g, 0, none⟩)) (hp2 : a.tmps.getD p2 undef = .pointer (some ⟨g2, 0, none⟩))
    (hu : P.underlying ty = some d) (hd : (match d with | .struct _ | .array _ _ => true | _ => false) = true) (hu2 : P.underlying ty2 = some d2) (hd2 : (match d2 with | .struct _ | .array _ _ => true | _ => false) = true)
    (hR : ∃ cs cs2, w.heap[g]? = some (.cells cs t (0, 0)) ∧ w.heap[g2]? = some (.cells cs2 t2 (0, 0)) ∧ (P.info? ty).map (·.size) = some cs.size ∧ (P.info? ty2).map (·.size) = some cs2.size ∧ R (.returned (.tuple #[.agg cs, .agg cs2, a.tmps.getD u undef])) w) : bodyPost P fn R .ret a w := by
  obtain ⟨cs, cs2, hg, hg2, hi, hi2, hR⟩ := hR
  exact bodyPost_ret (res_cct h _ _ g g2 t t2 cs cs2 (0, 0) (0, 0) d d2 hp hg hu hd hi hp2 hg2 hu2 hd2 hi2) hd0 hR
end
end Go.Proofs.Ytfdehecekghlmaa


set_option linter.unusedVariables false
set_option linter.unusedSimpArgs false
namespace Go.Proofs.Ytfdehecekghlmaa
open Go.RowKit

theorem own_below {w w1 : World} {base : Nat} {e : TypeId} {size n : Nat} {v : Value} {xs : List Value} (h : w.ownsRow base e size v n xs) (hb : Below w.heap.size w w1) : w1.ownsRow base e size v n xs := by
  refine ⟨h.1, ?_⟩
  rcases h.2 with h0 | ⟨g, cap, cur, hv, hbg, hg, r⟩
  · exact .inl h0
  · exact .inr ⟨g, cap, cur, hv, hbg, bk_below hg hb, r⟩
theorem bk_newn (w : World) (o : Obj) (n : Nat) (hn : n = w.heap.size) : (w.alloc o).heap[n]? = some o := by subst hn; exact bk_new w o
theorem news_at {w : World} {g : Nat} {t : TypeId} {cs : Array Value} (h : w.heap[g]? = some (.cells cs t (0, 0))) : ∀ j u, cs.toList[j]? = some u → w.cell? (Addr.add ⟨g, 0, none⟩ j) = some u := by
  intro j u hu
  have e : Addr.add ⟨g, 0, none⟩ j = ⟨g, j, none⟩ := by simp [Addr.add]; omega
  rw [e, bk_cell h j, ← hu]
  simp
theorem own_block {w : World} {base : Nat} {e : TypeId} {size n : Nat} {v : Value} {xs : List Value} (h : w.ownsRow base e size v n xs) : ∀ k, v.ownBlock = some k → base ≤ k := by
  intro k hk
  rcases h.2 with ⟨rfl, _⟩ | ⟨g, cap, cur, rfl, hb, _⟩
  · cases hk
  · simp [Value.ownBlock] at hk; omega

section
variable {P : Program} {w : World}
/-- append(s, x), s nil -/
theorem app_nil {ops : Array Oper} {rest : List Oper} {o : Oper} {a : Act} {Q : Exit → Act → World → Prop} (hgd : o.guard = none) (s x : Operand) (t : TypeId)
    (ho : o.op = .call { callee := .builtin .append, args := #[s, x], argTypes := #[t, t] })
    (base : Nat) (e : TypeId) (z : Value) (size bytes : Nat) (ht : P.underlying t = some (.slice e)) (hinfo : (P.info? e).map (fun i => (i.zero, i.size, i.bytes)) = some (some z, size, bytes))
    (hzs : z.cells.size = size) (hsz : 0 < size) (hby : bytes ≤ 1000000)
    (hs : a.eval s = .slice none 0 0) (g : Nat) (tt : TypeId) (cs : Array Value) (hx : a.eval x = .slice (some ⟨g, 0, none⟩) 1 1) (hg : w.heap[g]? = some (.cells cs tt (0, 0))) (hcs : cs.size = size) (h1 : ∀ u ∈ cs.toList, u.oneCell' = true) (hbase : base ≤ w.heap.size)
    (h : ∀ v' w', w'.ownsRow base e size v' 1 cs.toList → Below w.heap.size w w' → wpList P ops Q rest (a.put o.dst v') w') : wpList P ops Q (o :: rest) a w := by
  obtain ⟨i, hi, hz, hs1, hb1⟩ := info_parts hinfo
  refine wpList_append_own w hgd s x t ho base e i z size bytes ht hi hz hs1 hb1 hzs hsz _ 0 [] hs (World.ownsRow_nil _ _ _ _) ⟨g, 0, none⟩ 1 1 cs.toList hx (by simp [hcs]) (news_at hg) h1 (by unfold maxLen; omega) (by omega) hbase ?_
  intro v' w' hown hgr _
  refine h v' w' (by simpa using hown) ((Below.refl _ _).grown hgr (Nat.le_refl _) ?_)
  intro k hk; cases hk
/-- append(s, x), s of one's own -/
theorem app_own {ops : Array Oper} {rest : List Oper} {o : Oper} {a : Act} {Q : Exit → Act → World → Prop} (hgd : o.guard = none) (s x : Operand) (t : TypeId)
    (ho : o.op = .call { callee := .builtin .append, args := #[s, x], argTypes := #[t, t] })
    (base : Nat) (e : TypeId) (z : Value) (size bytes : Nat) (ht : P.underlying t = some (.slice e)) (hinfo : (P.info? e).map (fun i => (i.zero, i.size, i.bytes)) = some (some z, size, bytes))
    (hzs : z.cells.size = size) (hsz : 0 < size) (hby : bytes ≤ 1000)
    (v : Value) (n : Nat) (xs : List Value) (hs : a.eval s = v) (hown : w.ownsRow base e size v n xs) (hn : n ≤ 10000000)
    (g : Nat) (tt : TypeId) (cs : Array Value) (hx : a.eval x = .slice (some ⟨g, 0, none⟩) 1 1) (hg : w.heap[g]? = some (.cells cs tt (0, 0))) (hcs : cs.size = size) (h1 : ∀ u ∈ cs.toList, u.oneCell' = true) (hbase : base ≤ w.heap.size)
    (h : ∀ v' w', w'.ownsRow base e size v' (n + 1) (xs ++ cs.toList) → Below base w w' → w.grownBy w' v.ownBlock → wpList P ops Q rest (a.put o.dst v') w') : wpList P ops Q (o :: rest) a w := by
  obtain ⟨i, hi, hz, hs1, hb1⟩ := info_parts hinfo
  refine wpList_append_own w hgd s x t ho base e i z size bytes ht hi hz hs1 hb1 hzs hsz v n xs hs hown ⟨g, 0, none⟩ 1 1 cs.toList hx (by simp [hcs]) (news_at hg) h1 (by unfold maxLen; omega) (by
    have : (n + 1) * bytes ≤ 10000001 * 1000 := Nat.mul_le_mul (by omega) hby
    omega) hbase ?_
  intro v' w' hown' hgr _
  exact h v' w' hown' ((Below.refl _ _).grown hgr hbase (own_block hown)) hgr
end
end Go.Proofs.Ytfdehecekghlmaa

/- Floats that stand for whole numbers: exactness of double precision on whole numbers up to 2^53. -/
set_option linter.unusedVariables false
set_option linter.unusedSimpArgs false
namespace Go.Viv
open Ieee

theorem log2_mul_two_pow (m k : Nat) (h : m ≠ 0) : (m * 2 ^ k).log2 = m.log2 + k := by
  induction k with
  | zero => simp
  | succ k ih =>
    have e : m * 2 ^ (k + 1) = 2 * (m * 2 ^ k) := by rw [Nat.pow_succ]; ac_rfl
    have hp : m * 2 ^ k ≠ 0 := Nat.mul_ne_zero h (Nat.pos_iff_ne_zero.1 (Nat.two_pow_pos k))
    rw [e, Nat.log2_two_mul hp, ih]
    omega

/-- what is cut off evenly leaves nothing over -/
theorem cut_exact (neg : Bool) (n drop q : Nat) (h : n = q * 2 ^ drop) (hq : q ≠ 0) : Toward.even.cut neg n drop = q := by
  have hl : n.log2 = q.log2 + drop := by rw [h]; exact log2_mul_two_pow q drop hq
  have hm : min drop (n.log2 + 2) = drop := by omega
  unfold Toward.cut
  simp only [hm, Nat.shiftLeft_eq, Nat.one_mul]
  have hp : 0 < 2 ^ drop := Nat.two_pow_pos _
  have h1 : n / 2 ^ drop = q := by rw [h]; exact Nat.mul_div_cancel q hp
  have h2 : n % 2 ^ drop = 0 := by rw [h]; exact Nat.mul_mod_left q _
  have h3 : ¬ (2 ^ drop < 2 * 0) := by omega
  have h4 : ((2 ^ drop : Nat) == 2 * 0) = false := by
    simp
  rw [h1, h2, h4]
  simp [h3]

theorem cut_zero (neg : Bool) (n drop q : Nat) (h : n = q * 2 ^ drop) : Toward.zero.cut neg n drop = q := by
  unfold Toward.cut
  simp only [Bool.toNat_false, Nat.add_zero, Nat.shiftLeft_eq, Nat.one_mul]
  by_cases hq : q = 0
  · subst hq; rw [h]; simp
  · have hl : n.log2 = q.log2 + drop := by rw [h]; exact log2_mul_two_pow q drop hq
    have hm : min drop (n.log2 + 2) = drop := by omega
    rw [hm, h]; exact Nat.mul_div_cancel q (Nat.two_pow_pos _)

/-- a datum that stands for a whole number -/
def Whole (d : Datum) (n : Int) : Prop :=
  ∃ s m e, d = .number s m e ∧ m * 2 ^ e.toNat = n.natAbs * 2 ^ (-e).toNat ∧ (n < 0 → s = true) ∧ (0 < n → s = false)

/-- a word that stands for a whole number -/
def IsW (b : Nat) (n : Int) : Prop := Whole (double.read b) n

theorem double_binade : double.binade = 4503599627370496 := by decide
theorem double_inf : double.infRung = 9218868437227405312 := by decide
theorem double_sign : double.signWeight = 9223372036854775808 := by decide
theorem double_least : double.leastPlace = -1074 := by decide
theorem double_frac : double.fractionBits = 52 := rfl

theorem read_word (neg : Bool) (r : Nat) (h0 : 4503599627370496 ≤ r) (h : r < 9218868437227405312) :
    double.read (double.word neg r) = .number neg (4503599627370496 + r % 4503599627370496) (-1074 + (r / 4503599627370496 - 1 : Nat)) := by
  unfold Format.read Format.word
  rw [double_sign, double_inf, double_binade, double_least]
  cases neg with
  | false =>
    have e1 : r / 9223372036854775808 = 0 := by omega
    have e2 : r % 9223372036854775808 = r := by omega
    simp [e1, e2, h]
    omega
  | true =>
    have e1 : (9223372036854775808 + r) / 9223372036854775808 = 1 := by omega
    have e2 : (9223372036854775808 + r) % 9223372036854775808 = r := by omega
    simp [e1, e2, h]
    omega

theorem read_word_zero (neg : Bool) : double.read (double.word neg 0) = .number neg 0 (-1074) := by
  cases neg <;> decide

/-- the nearest word of a whole number (up to 2^53) stands for just that -/
theorem read_nearest (neg : Bool) (mag : Nat) (place : Int) (N : Nat) (hN : 0 < N) (hN2 : N ≤ 9007199254740992)
    (h : mag * 2 ^ place.toNat = N * 2 ^ (-place).toNat) :
    ∃ m e, double.read (double.nearest neg mag place) = .number neg m e ∧ m * 2 ^ e.toNat = N * 2 ^ (-e).toNat := by
  have hm : mag ≠ 0 := by
    rintro rfl
    have := Nat.mul_pos hN (Nat.two_pow_pos (-place).toNat)
    omega
  have hL : mag.log2 + place.toNat = N.log2 + (-place).toNat := by
    rw [← log2_mul_two_pow mag _ hm, ← log2_mul_two_pow N _ (by omega), h]
  have hL53 : N.log2 ≤ 53 := by
    have : N.log2 < 54 := (Nat.log2_lt (by omega)).2 (by omega)
    omega
  have hLl : 2 ^ N.log2 ≤ N := Nat.log2_self_le (by omega)
  have hLu : N < 2 ^ (N.log2 + 1) := (Nat.log2_lt (by omega)).1 (by omega)
  unfold Format.nearest
  rw [if_neg hm, double_frac, double_least, double_binade, double_inf]
  have elast : max (place + (mag.log2 : Int) - ((52 : Nat) : Int)) (-1074) = (N.log2 : Int) - 52 := by omega
  simp only [elast]
  -- the digits that are kept
  obtain ⟨q, hq, hq1, hq2, hqe⟩ : ∃ q, Toward.even.cut neg (mag <<< (place - ((N.log2 : Int) - 52)).toNat) (((N.log2 : Int) - 52) - place).toNat = q ∧ 4503599627370496 ≤ q ∧ q < 9007199254740992 ∧ q * 2 ^ ((N.log2 : Int) - 52).toNat = N * 2 ^ (-((N.log2 : Int) - 52)).toNat := by
    by_cases h53 : N.log2 = 53
    · -- N = 2^53
      have hNe : N = 9007199254740992 := by
        rw [h53] at hLl
        have : (2 : Nat) ^ 53 = 9007199254740992 := by decide
        omega
      refine ⟨4503599627370496, ?_, by omega, by omega, ?_⟩
      · refine cut_exact neg _ _ _ ?_ (by omega)
        rw [Nat.shiftLeft_eq, h53]
        by_cases hp : 1 ≤ place
        · have e1 : (((53 : Nat) : Int) - 52 - place).toNat = 0 := by omega
          have e2 : (place - (((53 : Nat) : Int) - 52)).toNat + 1 = place.toNat := by omega
          have e3 : (-place).toNat = 0 := by omega
          rw [e1]
          rw [e3, ← e2, Nat.pow_succ, hNe, ← Nat.mul_assoc, Nat.pow_zero] at h
          rw [Nat.pow_zero]
          omega
        · have e1 : (place - (((53 : Nat) : Int) - 52)).toNat = 0 := by omega
          have e2 : (((53 : Nat) : Int) - 52 - place).toNat = (-place).toNat + 1 := by omega
          have e3 : place.toNat = 0 := by omega
          rw [e1, e2, Nat.pow_succ, Nat.pow_zero]
          rw [e3, hNe, Nat.pow_zero] at h
          omega
      · rw [h53, hNe]; decide
    · have hle : N.log2 ≤ 52 := by omega
      refine ⟨N * 2 ^ (52 - N.log2), ?_, ?_, ?_, ?_⟩
      · refine cut_exact neg _ _ _ ?_ (Nat.mul_ne_zero (by omega) (Nat.pos_iff_ne_zero.1 (Nat.two_pow_pos _)))
        rw [Nat.shiftLeft_eq]
        by_cases hp : (N.log2 : Int) - 52 ≤ place
        · have e1 : ((N.log2 : Int) - 52 - place).toNat = 0 := by omega
          rw [e1, Nat.pow_zero, Nat.mul_one]
          by_cases h0 : 0 ≤ place
          · have e3 : (-place).toNat = 0 := by omega
            have e4 : (place - ((N.log2 : Int) - 52)).toNat = place.toNat + (52 - N.log2) := by omega
            rw [e4, Nat.pow_add, ← Nat.mul_assoc, h, e3]; simp
          · have e3 : place.toNat = 0 := by omega
            have e4 : 52 - N.log2 = (-place).toNat + (place - ((N.log2 : Int) - 52)).toNat := by omega
            rw [e3, Nat.pow_zero, Nat.mul_one] at h
            rw [h, e4, Nat.pow_add, Nat.mul_assoc]
        · have e1 : (place - ((N.log2 : Int) - 52)).toNat = 0 := by omega
          have e3 : place.toNat = 0 := by omega
          rw [e1, Nat.pow_zero, Nat.mul_one]
          rw [e3, Nat.pow_zero, Nat.mul_one] at h
          rw [h, Nat.mul_assoc, ← Nat.pow_add]
          congr 2
          omega
      · have : 2 ^ 52 = 2 ^ N.log2 * 2 ^ (52 - N.log2) := by rw [← Nat.pow_add]; congr 1; omega
        have h2 : 2 ^ N.log2 * 2 ^ (52 - N.log2) ≤ N * 2 ^ (52 - N.log2) := Nat.mul_le_mul_right _ hLl
        have h3 : (2 : Nat) ^ 52 = 4503599627370496 := by decide
        omega
      · have : 2 ^ 53 = 2 ^ (N.log2 + 1) * 2 ^ (52 - N.log2) := by rw [← Nat.pow_add]; congr 1; omega
        have h2 : N * 2 ^ (52 - N.log2) < 2 ^ (N.log2 + 1) * 2 ^ (52 - N.log2) := Nat.mul_lt_mul_of_pos_right hLu (Nat.two_pow_pos _)
        have h3 : (2 : Nat) ^ 53 = 9007199254740992 := by decide
        omega
      · have e1 : ((N.log2 : Int) - 52).toNat = 0 := by omega
        have e2 : (-((N.log2 : Int) - 52)).toNat = 52 - N.log2 := by omega
        rw [e1, e2]; simp
  rw [hq]
  have ek : ((N.log2 : Int) - 52 - -1074).toNat = N.log2 + 1022 := by omega
  rw [ek]
  have hr : (N.log2 + 1022) * 4503599627370496 + q < 9218868437227405312 := by omega
  rw [Nat.min_eq_left (Nat.le_of_lt hr), read_word neg _ (by omega) hr]
  have em : ((N.log2 + 1022) * 4503599627370496 + q) % 4503599627370496 = q - 4503599627370496 := by omega
  have ed : ((N.log2 + 1022) * 4503599627370496 + q) / 4503599627370496 = N.log2 + 1023 := by omega
  refine ⟨_, _, rfl, ?_⟩
  rw [em, ed]
  have e1 : 4503599627370496 + (q - 4503599627370496) = q := by omega
  have e2 : -1074 + ((N.log2 + 1023 - 1 : Nat) : Int) = (N.log2 : Int) - 52 := by omega
  rw [e1, e2]
  exact hqe


theorem Whole.zero_iff {s : Bool} {m : Nat} {e : Int} {n : Int} (h : Whole (.number s m e) n) : m = 0 ↔ n = 0 := by
  obtain ⟨s', m', e', he, hv, _, _⟩ := h
  obtain ⟨rfl, rfl, rfl⟩ := Datum.number.inj he
  have h1 := Nat.two_pow_pos e.toNat
  have h2 := Nat.two_pow_pos (-e).toNat
  constructor
  · rintro rfl
    rw [Nat.zero_mul] at hv
    rcases Nat.mul_eq_zero.1 hv.symm with h | h <;> omega
  · intro h0
    have hn : n.natAbs = 0 := by omega
    rw [hn, Nat.zero_mul] at hv
    rcases Nat.mul_eq_zero.1 hv with h | h <;> omega

theorem whole_zero (s : Bool) (e : Int) : Whole (.number s 0 e) 0 := ⟨s, 0, e, rfl, by rw [Nat.zero_mul]; exact (Nat.zero_mul _).symm, by omega, by omega⟩

/-- a whole datum, written and read again -/
theorem isW_write {s : Bool} {m : Nat} {e : Int} {n : Int} (h : Whole (.number s m e) n) (hn : n.natAbs ≤ 9007199254740992) : IsW (double.write (.number s m e)) n := by
  by_cases h0 : n = 0
  · have hm := h.zero_iff.2 h0
    subst hm h0
    have : double.write (.number s 0 e) = double.word s 0 := by
      show double.nearest s 0 e = _
      unfold Format.nearest; rw [if_pos rfl]
    unfold IsW
    rw [this, read_word_zero]
    exact whole_zero s _
  · obtain ⟨s', m', e', he, hv, h1, h2⟩ := h
    obtain ⟨rfl, rfl, rfl⟩ := Datum.number.inj he
    obtain ⟨m2, e2, hr, hv2⟩ := read_nearest s m e n.natAbs (by omega) hn hv
    exact ⟨s, m2, e2, hr, hv2, h1, h2⟩

/-- the word of a whole number -/
def fl (n : Int) : Nat := double.write (.number (n < 0) n.natAbs 0)

theorem isW_fl (n : Int) (hn : n.natAbs ≤ 9007199254740992) : IsW (fl n) n :=
  isW_write ⟨_, _, _, rfl, by simp, by intro h; simpa using h, by intro h; simp; omega⟩ hn

/-- a word that stands for a whole number and is no negative nought is the number's own word -/
theorem Whole.int {s : Bool} {m : Nat} {e b : Int} {n : Int} (h : Whole (.number s m e) n) (hb : b ≤ e) (hb0 : b ≤ 0) : signed s m (e - b).toNat = n * 2 ^ (-b).toNat := by
  obtain ⟨s', m', e', he, hv, h1, h2⟩ := h
  obtain ⟨rfl, rfl, rfl⟩ := Datum.number.inj he
  have key : m * 2 ^ (e - b).toNat = n.natAbs * 2 ^ (-b).toNat := by
    by_cases h0 : 0 ≤ e
    · have e1 : (e - b).toNat = e.toNat + (-b).toNat := by omega
      have e2 : (-e).toNat = 0 := by omega
      rw [e2, Nat.pow_zero, Nat.mul_one] at hv
      rw [e1, Nat.pow_add, ← Nat.mul_assoc, hv]
    · have e1 : (-b).toNat = (-e).toNat + (e - b).toNat := by omega
      have e2 : e.toNat = 0 := by omega
      rw [e2, Nat.pow_zero, Nat.mul_one] at hv
      rw [e1, Nat.pow_add, ← Nat.mul_assoc, hv]
  unfold signed
  rw [Nat.shiftLeft_eq, key]
  have hc : (((n.natAbs * 2 ^ (-b).toNat : Nat)) : Int) = (n.natAbs : Int) * 2 ^ (-b).toNat := by
    rw [Int.natCast_mul, Int.natCast_pow]; rfl
  cases hs : s with
  | true =>
    simp only [if_true, hc]
    have : n ≤ 0 := by
      by_cases hp : 0 < n
      · have := h2 hp; rw [hs] at this; cases this
      · omega
    rw [show n = -(n.natAbs : Int) by omega]
    simp [Int.neg_mul]
  | false =>
    simp only [hc]
    have : 0 ≤ n := by
      by_cases hp : n < 0
      · have := h1 hp; rw [hs] at this; cases this
      · omega
    rw [show n = (n.natAbs : Int) by omega]
    simp
theorem IsW.out {x : Nat} {n : Int} (h : IsW x n) : ∃ s m e, double.read x = .number s m e ∧ Whole (.number s m e) n := by
  obtain ⟨s, m, e, he, h'⟩ := h
  exact ⟨s, m, e, he, s, m, e, rfl, h'⟩

theorem int_two_pow_pos (k : Nat) : (0 : Int) < 2 ^ k := Int.pow_pos (by decide)

/-- a sum of two whole data -/
theorem sum_whole {s t : Bool} {m n : Nat} {i j : Int} {a b : Int} (w1 : Whole (.number s m i) a) (w2 : Whole (.number t n j) b) (h : (a + b).natAbs ≤ 9007199254740992) : ∃ r, ((Datum.number s m i).sum (.number t n j)).map double.write = some r ∧ IsW r (a + b) := by
  simp only [Datum.sum, Option.map_some]
  refine ⟨_, rfl, isW_write ?_ h⟩
  -- the base, brought to at most nought
  have hp := int_two_pow_pos
  have key : ∀ c : Int, c ≤ min i j → c ≤ 0 → signed s m (i - c).toNat + signed t n (j - c).toNat = (a + b) * 2 ^ (-c).toNat := by
    intro c hc hc0
    rw [w1.int (b := c) (by omega) hc0, w2.int (b := c) (by omega) hc0, Int.add_mul]
  generalize hT : signed s m (i - min i j).toNat + signed t n (j - min i j).toNat = T
  have hval : T.natAbs * 2 ^ (min i j).toNat = (a + b).natAbs * 2 ^ (-min i j).toNat ∧ (T < 0 ↔ a + b < 0) ∧ (T = 0 ↔ a + b = 0) := by
    by_cases h0 : min i j ≤ 0
    · have := key _ (Int.le_refl _) h0
      rw [hT] at this
      have e0 : (min i j).toNat = 0 := by omega
      rw [e0, Nat.pow_zero, Nat.mul_one, this]
      have := hp (-min i j).toNat
      refine ⟨by rw [Int.natAbs_mul, Int.natAbs_pow]; rfl, ?_, ?_⟩
      · constructor
        · intro h; exact Int.not_le.1 fun h' => Int.not_le.2 h (Int.mul_nonneg h' (Int.le_of_lt this))
        · intro h; exact Int.mul_neg_of_neg_of_pos h this
      · constructor
        · intro h; rcases Int.mul_eq_zero.1 h with h | h
          · exact h
          · omega
        · intro h; rw [h, Int.zero_mul]
    · -- both places are above nought: the sum is whole as it stands
      have hi : ∀ (s : Bool) (m : Nat) (i : Int), min i 0 = 0 → ∀ c : Nat, (c : Int) ≤ i → signed s m i.toNat = signed s m (i - c).toNat * 2 ^ c := by
        intro s m i _ c hc
        have e : i.toNat = (i - c).toNat + c := by omega
        unfold signed
        rw [e, Nat.shiftLeft_eq, Nat.shiftLeft_eq, Nat.pow_add, ← Nat.mul_assoc]
        cases s <;> simp [Int.neg_mul]
      have := key 0 (by omega) (by omega)
      simp only [Int.sub_zero, Int.neg_zero, Int.toNat_zero, Int.pow_zero, Int.mul_one] at this
      obtain ⟨c, hc⟩ : ∃ c : Nat, min i j = c := ⟨(min i j).toNat, by omega⟩
      rw [hi s m i (by omega) c (by omega), hi t n j (by omega) c (by omega), ← Int.add_mul, ← hc, hT] at this
      have e0 : (-min i j).toNat = 0 := by omega
      rw [e0, hc, Nat.pow_zero, Nat.mul_one, Int.toNat_natCast, ← this, Int.natAbs_mul, Int.natAbs_pow]
      have := hp c
      refine ⟨rfl, ?_, ?_⟩
      · constructor
        · intro h; exact Int.mul_neg_of_neg_of_pos h this
        · intro h; exact Int.not_le.1 fun h' => Int.not_le.2 h (Int.mul_nonneg h' (Int.le_of_lt this))
      · constructor
        · intro h; rw [h, Int.zero_mul]
        · intro h; rcases Int.mul_eq_zero.1 h with h | h
          · exact h
          · omega
  refine ⟨_, _, _, rfl, hval.1, ?_, ?_⟩
  · intro h; have := hval.2.1.2 h; rw [if_neg (by omega)]; simpa using this
  · intro h
    have h1 : ¬ T < 0 := fun h' => by have := hval.2.1.1 h'; omega
    have h2 : ¬ T = 0 := fun h' => by have := hval.2.2.1 h'; omega
    rw [if_neg h2]; simpa using h1

/-- a sum of two whole numbers -/
theorem isW_add {x y : Nat} {a b : Int} (hx : IsW x a) (hy : IsW y b) (h : (a + b).natAbs ≤ 9007199254740992) : ∃ r, double.add x y = some r ∧ IsW r (a + b) := by
  obtain ⟨s, m, i, e1, w1⟩ := hx.out
  obtain ⟨t, n, j, e2, w2⟩ := hy.out
  unfold Format.add
  rw [e1, e2]
  exact sum_whole w1 w2 h

theorem Whole.opp {s : Bool} {m : Nat} {e : Int} {n : Int} (h : Whole (.number s m e) n) : Whole (.number (!s) m e) (-n) := by
  obtain ⟨s', m', e', he, hv, h1, h2⟩ := h
  obtain ⟨rfl, rfl, rfl⟩ := Datum.number.inj he
  refine ⟨_, _, _, rfl, by rw [Int.natAbs_neg]; exact hv, ?_, ?_⟩
  · intro h; rw [h2 (by omega)]; rfl
  · intro h; rw [h1 (by omega)]; rfl

/-- a product with a whole number -/
theorem isW_mul {x y : Nat} {a b : Int} (hx : IsW x a) (hy : IsW y b) (h : (a * b).natAbs ≤ 9007199254740992) : ∃ r, double.mul x y = some r ∧ IsW r (a * b) := by
  obtain ⟨s, m, i, e1, s1, m1, i1, q1, v1, p1, n1⟩ := hx.out
  obtain ⟨t, n, j, e2, t1, o1, j1, q2, v2, p2, n2⟩ := hy.out
  obtain ⟨rfl, rfl, rfl⟩ := Datum.number.inj q1
  obtain ⟨rfl, rfl, rfl⟩ := Datum.number.inj q2
  unfold Format.mul
  rw [e1, e2]
  simp only [Datum.product, Option.map_some]
  refine ⟨_, rfl, isW_write ⟨_, _, _, rfl, ?_, ?_, ?_⟩ h⟩
  · rw [Int.natAbs_mul]
    -- multiply both sides by what makes the places whole
    have hpos := Nat.two_pow_pos
    refine Nat.eq_of_mul_eq_mul_right (hpos ((-i).toNat + (-j).toNat + i.toNat + j.toNat)) ?_
    have e3 : (i + j).toNat + ((-i).toNat + (-j).toNat + i.toNat + j.toNat) = (-(i + j)).toNat + (i.toNat + j.toNat) + (i.toNat + j.toNat) := by omega
    have e4 : (-(i + j)).toNat + ((-i).toNat + (-j).toNat + i.toNat + j.toNat) = (-(i + j)).toNat + (i.toNat + j.toNat) + ((-i).toNat + (-j).toNat) := by omega
    rw [Nat.mul_assoc (m * n), ← Nat.pow_add, e3, Nat.mul_assoc (a.natAbs * b.natAbs), ← Nat.pow_add, e4]
    have : m * n * 2 ^ (i.toNat + j.toNat) = a.natAbs * b.natAbs * 2 ^ ((-i).toNat + (-j).toNat) := by
      rw [Nat.pow_add, Nat.pow_add]
      calc m * n * (2 ^ i.toNat * 2 ^ j.toNat) = (m * 2 ^ i.toNat) * (n * 2 ^ j.toNat) := by ac_rfl
        _ = _ := by rw [v1, v2]; ac_rfl
    rw [Nat.pow_add _ _ (i.toNat + j.toNat), Nat.pow_add _ _ ((-i).toNat + (-j).toNat), Nat.pow_add _ (-(i + j)).toNat]
    calc m * n * (2 ^ (-(i + j)).toNat * 2 ^ (i.toNat + j.toNat) * 2 ^ (i.toNat + j.toNat)) = (m * n * 2 ^ (i.toNat + j.toNat)) * (2 ^ (-(i + j)).toNat * 2 ^ (i.toNat + j.toNat)) := by ac_rfl
      _ = _ := by rw [this]; ac_rfl
  · intro hneg
    rcases Int.lt_trichotomy a 0 with ha | ha | ha
    · have hb : 0 < b := by
        by_cases hb : 0 < b
        · exact hb
        · have := Int.mul_nonneg_of_nonpos_of_nonpos (Int.le_of_lt ha) (Int.not_lt.1 hb); omega
      rw [p1 ha, n2 hb]; rfl
    · subst ha; simp at hneg
    · have hb : b < 0 := by
        by_cases hb : b < 0
        · exact hb
        · have := Int.mul_nonneg (Int.le_of_lt ha) (Int.not_lt.1 hb); omega
      rw [n1 ha, p2 hb]; rfl
  · intro hpos
    rcases Int.lt_trichotomy a 0 with ha | ha | ha
    · have hb : b < 0 := by
        by_cases hb : b < 0
        · exact hb
        · have := Int.mul_nonpos_of_nonpos_of_nonneg (Int.le_of_lt ha) (Int.not_lt.1 hb); omega
      rw [p1 ha, p2 hb]; rfl
    · subst ha; simp at hpos
    · have hb : 0 < b := by
        by_cases hb : 0 < b
        · exact hb
        · have := Int.mul_nonpos_of_nonneg_of_nonpos (Int.le_of_lt ha) (Int.not_lt.1 hb); omega
      rw [n1 ha, n2 hb]; rfl

/-- how two words stand to each other -/
theorem isW_order {x y : Nat} {a b : Int} (hx : IsW x a) (hy : IsW y b) : double.order x y = some (compare a b) := by
  obtain ⟨s, m, i, e1, w1⟩ := hx.out
  obtain ⟨t, n, j, e2, w2⟩ := hy.out
  unfold Format.order
  rw [e1, e2]
  simp only [Datum.order, Option.some.injEq]
  have hc : ∀ (A B : Int) (k : Nat), compare (A * 2 ^ k) (B * 2 ^ k) = compare A B := by
    intro A B k
    have := int_two_pow_pos k
    rcases Int.lt_trichotomy A B with h | h | h
    · rw [Int.compare_eq_lt.2 h, Int.compare_eq_lt.2 (Int.mul_lt_mul_of_pos_right h this)]
    · subst h; simp
    · rw [Int.compare_eq_gt.2 h, Int.compare_eq_gt.2 (Int.mul_lt_mul_of_pos_right h this)]
  by_cases h0 : min i j ≤ 0
  · rw [w1.int (b := min i j) (by omega) h0, w2.int (b := min i j) (by omega) h0, hc]
  · obtain ⟨c, hcc⟩ : ∃ c : Nat, min i j = c := ⟨(min i j).toNat, by omega⟩
    have hi : ∀ (s : Bool) (m : Nat) (i : Int), ∀ c : Nat, (c : Int) ≤ i → signed s m i.toNat = signed s m (i - c).toNat * 2 ^ c := by
      intro s m i c hc
      have e : i.toNat = (i - c).toNat + c := by omega
      unfold signed
      rw [e, Nat.shiftLeft_eq, Nat.shiftLeft_eq, Nat.pow_add, ← Nat.mul_assoc]
      cases s <;> simp [Int.neg_mul]
    rw [hcc, ← hc _ _ c, ← hi s m i c (by omega), ← hi t n j c (by omega)]
    have h1 := w1.int (b := 0) (by omega) (by omega)
    have h2 := w2.int (b := 0) (by omega) (by omega)
    simp only [Int.sub_zero, Int.neg_zero, Int.toNat_zero, Int.pow_zero, Int.mul_one] at h1 h2
    rw [h1, h2]

/-- a whole datum, made an integer -/
theorem toInt_whole {d : Datum} {n : Int} (h : Whole d n) : d.toInt .zero = some n := by
  obtain ⟨s, m, e, rfl, hv, h1, h2⟩ := h
  unfold Datum.toInt Datum.integral
  simp only [Nat.shiftLeft_eq]
  rw [cut_zero s _ _ n.natAbs hv]
  simp only [signed, Nat.shiftLeft_eq, Nat.pow_zero, Nat.mul_one]
  cases s with
  | true =>
    have : ¬ 0 < n := fun h => by have := h2 h; cases this
    simp; omega
  | false =>
    have : ¬ n < 0 := fun h => by have := h1 h; cases this
    simp; omega

theorem isW_sub {x y : Nat} {a b : Int} (hx : IsW x a) (hy : IsW y b) (h : (a - b).natAbs ≤ 9007199254740992) : ∃ r, double.sub x y = some r ∧ IsW r (a - b) := by
  obtain ⟨s, m, i, e1, w1⟩ := hx.out
  obtain ⟨t, n, j, e2, w2⟩ := hy.out
  unfold Format.sub
  rw [e1, e2]
  have := sum_whole w1 w2.opp (by rw [← Int.sub_eq_add_neg]; exact h)
  rw [← Int.sub_eq_add_neg] at this
  exact this

theorem xor63_mod (b : Nat) : (b ^^^ 2 ^ 63) % 2 ^ 63 = b % 2 ^ 63 := by
  rw [Nat.xor_mod_two_pow]; simp
theorem xor63_div (b : Nat) : (b ^^^ 2 ^ 63) / 2 ^ 63 % 2 = 1 - b / 2 ^ 63 % 2 := by
  rw [Nat.xor_div_two_pow, show (2 : Nat) ^ 63 / 2 ^ 63 = 1 by decide]
  have h := Nat.xor_mod_two_pow (a := b / 2 ^ 63) (b := 1) (n := 1)
  rw [Nat.pow_one] at h
  rw [h]
  have := Nat.mod_lt (b / 2 ^ 63) (by decide : 0 < 2)
  have : b / 2 ^ 63 % 2 = 0 ∨ b / 2 ^ 63 % 2 = 1 := by omega
  rcases this with h | h <;> rw [h] <;> rfl
theorem read_neg (b : Nat) : double.read (b ^^^ 2 ^ 63) = (double.read b).opposite := by
  have h1 := xor63_mod b
  have h2 := xor63_div b
  have hs : double.signWeight = 2 ^ 63 := by decide
  unfold Format.read
  rw [hs, h1, h2]
  have h3 : ((1 - b / 2 ^ 63 % 2 == 1) : Bool) = !(b / 2 ^ 63 % 2 == 1) := by
    have := Nat.mod_lt (b / 2 ^ 63) (by decide : 0 < 2)
    have : b / 2 ^ 63 % 2 = 0 ∨ b / 2 ^ 63 % 2 = 1 := by omega
    rcases this with h | h <;> rw [h] <;> rfl
  rw [h3]
  simp only
  (repeat' split) <;> rfl
theorem isW_opp {b : Nat} {n : Int} (h : IsW b n) : IsW (b ^^^ 2 ^ 63) (-n) := by
  obtain ⟨s, m, e, he, w⟩ := h.out
  unfold IsW
  rw [read_neg, he]
  exact w.opp

end Go.Viv
