/- Runs there and back: the plain law. -/
import Derived.Test.YtdpcmpfhjhbicaaBkGrid
set_option linter.unusedVariables false
set_option linter.unusedSimpArgs false
namespace Go.Proofs.Ytdpcmpfhjhbicaa
open Go.RowKit Go.Viv

theorem ask_of {b : List Int} {k W H t s gen n : Int} {D : FD} (h : AskOk b k W H t s D gen n) : askE b k W H t s D gen n = 0 := by
  have hs : spanE gen n = 0 := by
    unfold spanE
    rw [if_neg (by have := h.n0; omega), if_neg (by have := h.n1; omega)]
  unfold askE
  rw [if_neg (by simp [h.c]), if_neg (by simp [h.g]), if_neg (by have := h.g0; omega), if_neg (by have := h.g1; omega), if_neg (by have := h.w; have := h.h; omega), if_neg (by have := h.st; omega), if_neg (by simp [hs]), if_neg (fun e => by rw [h.turns e.1] at e; exact Bool.noConfusion e.2), if_neg (by have := h.q0; have := h.q1; omega)]
/-- a grid of the law bears these runs -/
theorem gd_ask {b : List Int} {torus : Bool} {W H turn by_ gen n : Int} {D : FD} (hc : checkB b = 0) (dW : D.W = gdS W) (dH : D.H = gdS H) (dS : D.St = 2) (g0 : 0 ≤ gen) (g1 : gen ≤ 1125899906842000) (m0 : 0 ≤ gen + n) (n0 : -400 ≤ n) (n1 : n ≤ 400) (ht : n < 0 → turnsB b = true) :
    askE b (gdK torus) (gdS W) (gdS H) (gdT torus (gdS W) (gdS H) turn by_) (gdB torus (gdS W) (gdS H) turn by_) D gen n = 0 := by
  obtain ⟨w1, w2, w3⟩ := gdS_bd W
  obtain ⟨h1, h2, h3⟩ := gdS_bd H
  have hm : ((gdS W : Int) * (gdS H : Int)) ≤ 144 := by
    have := Nat.mul_le_mul w2 h2
    rw [← Int.natCast_mul]; omega
  have hp : 0 < ((gdS W : Int) * (gdS H : Int)) := Int.mul_pos (by omega) (by omega)
  have hq : 400 ≤ 67108864 / ((gdS W : Int) * (gdS H : Int)) := by
    rw [Int.le_ediv_iff_mul_le hp]; omega
  exact ask_of ⟨hc, (gd_ok torus _ _ turn by_ (by omega) (by omega)).1, g0, by omega, by rw [dW], by rw [dH], by omega, m0, by omega, ht, by omega, by omega⟩
theorem gd_t0 (torus : Bool) (W H turn by_ : Int) : 0 ≤ gdT torus (gdS W) (gdS H) turn by_ := by
  have := gdS_bd W; have := gdS_bd H
  exact (gd_ok torus _ _ turn by_ (by omega) (by omega)).2
/-- the blocks of a grid of the law -/
def gdL (torus : Bool) (W H turn by_ : Int) : Int → List Blk := blkL (gdK torus) (gdS W) (gdS H) (gdT torus (gdS W) (gdS H) turn by_) (gdB torus (gdS W) (gdS H) turn by_)
theorem gdL_good (torus : Bool) (W H turn by_ : Int) (i : Int) : GoodL (gdL torus W H turn by_ i) := by
  have w := gdS_bd W; have h := gdS_bd H
  exact good_L (wn := gdS W / 2) (hn := gdS H / 2) (by omega) (by omega) (by omega) (by omega) i
theorem runF_fwd {b : List Int} {L : Int → List Blk} {gen : Int} {n : Nat} (f : Nat → Nat → Int) : runF b L gen n f = fwd b L n gen f := by
  unfold runF; rw [if_pos (by omega)]; rfl
theorem runF_bwd {b : List Int} {L : Int → List Blk} {gen : Int} {n : Nat} (f : Nat → Nat → Int) : runF b L gen (-(n : Int)) f = bwd (backF b 16) L n gen f := by
  unfold runF
  by_cases h : n = 0
  · subst h; rfl
  · rw [if_neg (by omega), Int.neg_neg]; rfl
/-- m and then n is both -/
theorem runF_add {b : List Int} {L : Int → List Blk} {gen : Int} {m n : Nat} (f : Nat → Nat → Int) : runF b L (gen + m) n (runF b L gen m f) = runF b L gen ((m : Int) + n) f := by
  rw [runF_fwd, runF_fwd, show (m : Int) + n = ((m + n : Nat) : Int) by omega, runF_fwd, fwd_add]
theorem gen_bits_all {r : List Int} {L : List Blk} {f : Nat → Nat → Int} (hr : RuleOk r) (hL : GoodL L) (hf : ∀ p, at_ f p = 0 ∨ at_ f p = 1) : ∀ p, at_ (genM r L f) p = 0 ∨ at_ (genM r L f) p = 1 := by
  intro p
  by_cases h : ∃ B, B ∈ L ∧ p ∈ B.cells
  · obtain ⟨B, hB, hp⟩ := h
    exact gen_bits hr hL (fun _ _ p _ => hf p) B hB p hp
  · rw [gen_par r _ f f (fun _ _ _ _ => rfl) hL.apart, par_out fun B hB hp => h ⟨B, hB, hp⟩]
    exact hf p
theorem bwd_fwd {r q : List Int} {L : Int → List Blk} (hq : RuleOk q) (ht : Takes q r) (hL : ∀ i, GoodL (L i)) (n : Nat) : ∀ (g : Int) (f : Nat → Nat → Int), (∀ p, at_ f p = 0 ∨ at_ f p = 1) → fwd r L n g (bwd q L n (g + n) f) = f := by
  induction n with
  | zero => intro g f _; rfl
  | succ n ih =>
    intro g f hf
    show fwd r L (n + 1) g (bwd q L n (g + ((n + 1 : Nat) : Int) - 1) (genM q (L ((g + ((n + 1 : Nat) : Int) - 1) % 2)) f)) = f
    rw [show g + ((n + 1 : Nat) : Int) - 1 = g + n by omega, fwd_add r L n 1, ih g _ (gen_bits_all hq (hL _) hf)]
    show genM r (L ((g + n) % 2)) _ = f
    exact gen_back hq ht (hL _) (fun _ _ p _ => hf p)
theorem Perm16.rule {b : List Int} (h : Perm16 b) : RuleOk b := ruleOk h.arr h.ok
/-- the rule that takes back takes back, both ways round -/
theorem Perm16.takes {b : List Int} (h : Perm16 b) : Takes b (backF b 16) := takes_back h.rule h.inj
theorem Perm16.takes' {b : List Int} (h : Perm16 b) : Takes (backF b 16) b := by
  intro v hv
  obtain ⟨i, hi, e⟩ := takes_again h.rule h.inj v hv
  have e2 := h.takes i hi
  rw [e] at e2
  have : ((v : Int)).toNat = v := by omega
  rw [this] at e2
  rw [e2]
  have : ((i : Int)).toNat = i := by omega
  rw [this, e]
theorem kept_bits (W : Nat) (l : List Int) (p : Cl) : at_ (keptF W 2 l) p = 0 ∨ at_ (keptF W 2 l) p = 1 := by
  have := keptI_bd (l := l) (St := 2) (by omega) (p.2 * W + p.1)
  show keptI l 2 (p.2 * W + p.1) = 0 ∨ keptI l 2 (p.2 * W + p.1) = 1
  omega
theorem there_back {b : List Int} {L : Int → List Blk} (hb : Perm16 b) (hL : ∀ i, GoodL (L i)) (n : Nat) (gen : Int) (f : Nat → Nat → Int) (hf : ∀ p, at_ f p = 0 ∨ at_ f p = 1) : runF b L (gen + n) (-(n : Int)) (runF b L gen n f) = f := by
  rw [runF_fwd, runF_bwd]
  exact fwd_bwd hb.rule hb.takes hL n gen f (fun _ _ => trivial) hf
theorem back_there {b : List Int} {L : Int → List Blk} (hb : Perm16 b) (hL : ∀ i, GoodL (L i)) (n : Nat) (gen : Int) (f : Nat → Nat → Int) (hf : ∀ p, at_ f p = 0 ∨ at_ f p = 1) : runF b L gen n (runF b L (gen + n) (-(n : Int)) f) = f := by
  rw [runF_bwd, runF_fwd]
  exact bwd_fwd (back_rule hb.rule) hb.takes' hL n gen f hf
theorem Perm16.back {b : List Int} (h : Perm16 b) : Perm16 (backF b 16) := by
  have r := back_rule h.rule
  exact ⟨backF_length b 16, fun k hk => by have := r.bd k hk; omega, back_inj h.rule h.inj⟩
theorem Perm16.backL {b : List Int} (h : Perm16 b) : backL b = backF b 16 ∧ backE b = 0 := by
  refine ⟨?_, ?_⟩
  · unfold Proofs.Ytdpcmpfhjhbicaa.backL; simp [h.turns]
  · unfold backE; simp [h.turns, h.ok]
/-- a grid that bears the law's runs -/
structure GridR (k : Int) (Wn Hn : Nat) (t s : Int) : Prop where
  t0 : 0 ≤ t
  ask : ∀ (b : List Int) (D : FD) (gen n : Int), checkB b = 0 → D.W = Wn → D.H = Hn → D.St = 2 → 0 ≤ gen → gen ≤ 1125899906842000 → 0 ≤ gen + n → -400 ≤ n → n ≤ 400 → (n < 0 → turnsB b = true) → askE b k Wn Hn t s D gen n = 0
  good : ∀ i, GoodL (blkL k Wn Hn t s i)
theorem gdR (torus : Bool) (W H turn by_ : Int) : GridR (gdK torus) (gdS W) (gdS H) (gdT torus (gdS W) (gdS H) turn by_) (gdB torus (gdS W) (gdS H) turn by_) :=
  ⟨gd_t0 torus W H turn by_, fun b D gen n h1 h2 h3 h4 h5 h6 h7 h8 h9 h10 => gd_ask h1 h2 h3 h4 h5 h6 h7 h8 h9 h10, gdL_good torus W H turn by_⟩
/-- what stands while runs go by -/
structure AdSt (w : World) (bb tb g : Nat) (M : List Int) (tc : Array Value) (D : FD) (S : Nat → Prop) (w' : World) : Prop where
  b : w'.heap[bb]? = some (.cells (arr M) 23 (0, 0))
  t : w'.heap[tb]? = some (.cells tc 29 (0, 0))
  f : Fld g D S w'
  l : Below w.heap.size w w'
theorem AdSt.below {w : World} {bb tb g : Nat} {M : List Int} {tc : Array Value} {D : FD} {S : Nat → Prop} {w' w'' : World} (h : AdSt w bb tb g M tc D S w') (hb : Below w'.heap.size w' w'') : AdSt w bb tb g M tc D S w'' :=
  ⟨bk_below h.b hb, bk_below h.t hb, h.f.below hb, next' h.l hb⟩
/-- a run of a field of the grid's sides -/
theorem gd_run {k : Int} {Wn Hn g : Nat} {t s gen n : Int} {b : List Int} {pk : Bool} {f : Nat → Nat → Int} {S : Nat → Prop} {w : World} (R : GridR k Wn Hn t s) (hb : Arr16 b) (hc : checkB b = 0) (hF : Fld g ⟨Wn, Hn, 2, pk, f⟩ S w) (g0 : 0 ≤ gen) (g1 : gen ≤ 1125899906842000) (m0 : 0 ≤ gen + n) (n0 : -400 ≤ n) (n1 : n ≤ 400) (ht : n < 0 → turnsB b = true) :
    Calls Try.prog 15 #[.agg (arr b), topoV k Wn Hn t s, .pointer (some ⟨g, 0, none⟩), .int .i64 gen, .int .i64 n] w fun e w' => ∃ g' S', e = .returned (.tuple #[.pointer (some ⟨g', 0, none⟩), .int .i64 0]) ∧ Fld g' ⟨Wn, Hn, 2, pk, runF b (blkL k Wn Hn t s) gen n f⟩ S' w' ∧ (∀ b, S' b → w.heap.size < b) ∧ Below w.heap.size w w' :=
  Run_ok hb R.t0 hF (by omega) (by omega) (R.ask b ⟨Wn, Hn, 2, pk, f⟩ gen n hc rfl rfl rfl g0 g1 m0 n0 n1 ht)
end Go.Proofs.Ytdpcmpfhjhbicaa
