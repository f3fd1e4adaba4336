/- Counts: what a rule that keeps the number of the living does: the plain law. -/
import Derived.Test.YtdpcmpfhjhbicaaBkAd
import Derived.Test.YtdpcmpfhjhbicaaBkC
set_option linter.unusedVariables false
set_option linter.unusedSimpArgs false
namespace Go.Proofs.Ytdpcmpfhjhbicaa
open Go.RowKit Go.Viv

/-- the sum of the first n numbers -/
def sumR (g : Nat → Int) : Nat → Int
  | 0 => 0
  | n + 1 => sumR g n + g n
theorem sumR_congr {g h : Nat → Int} : ∀ n, (∀ x, x < n → g x = h x) → sumR g n = sumR h n
  | 0, _ => rfl
  | n + 1, e => by rw [sumR, sumR, sumR_congr n (fun x hx => e x (by omega)), e n (by omega)]
theorem sumR_set (g : Nat → Int) (p : Nat) (s : Int) : ∀ n, sumR (fun x => if x = p then s else g x) n = sumR g n + (if p < n then s - g p else 0)
  | 0 => by simp [sumR]
  | n + 1 => by
    rw [sumR, sumR, sumR_set g p s n]
    by_cases h1 : p < n
    · rw [if_pos h1, if_neg (show ¬ n = p by omega), if_pos (show p < n + 1 by omega)]; omega
    · by_cases h2 : p = n
      · subst h2; rw [if_neg h1, if_pos rfl, if_pos (show p < p + 1 by omega)]; omega
      · rw [if_neg h1, if_neg (show ¬ n = p by omega), if_neg (show ¬ p < n + 1 by omega)]; omega
/-- the sum of a grid's cells -/
def sumG (W H : Nat) (f : Nat → Nat → Int) : Int := sumR (fun y => sumR (f y) W) H
theorem sumG_put {W H : Nat} (f : Nat → Nat → Int) {p : Cl} (h1 : p.1 < W) (h2 : p.2 < H) (s : Int) : sumG W H (putC f p s) = sumG W H f + s - at_ f p := by
  have e : sumG W H (putC f p s) = sumR (fun y => if y = p.2 then sumR (f p.2) W + s - at_ f p else sumR (f y) W) H := by
    refine sumR_congr H fun y _ => ?_
    by_cases hy : y = p.2
    · rw [if_pos hy]
      rw [sumR_congr (h := fun x => if x = p.1 then s else f p.2 x) W (fun x _ => by show putC f p s y x = _; unfold putC; subst hy; by_cases hx : x = p.1 <;> simp [hx])]
      rw [sumR_set, if_pos h1]; show _ + (s - f p.2 p.1) = _ + s - f p.2 p.1; omega
    · rw [if_neg hy]
      refine sumR_congr W fun x _ => ?_
      show putC f p s y x = f y x
      unfold putC; rw [if_neg (fun h => hy h.1)]
  rw [e, sumR_set (fun y => sumR (f y) W), if_pos h2]
  show sumG W H f + _ = _
  omega
theorem sumG_wr {W H : Nat} {f : Nat → Nat → Int} {B : Blk} (hB : B.Four) (hin : ∀ p ∈ B.cells, p.1 < W ∧ p.2 < H) (n : Int) : sumG W H (wrB f B n) = sumG W H f + onesN n - (at_ f B.a + at_ f B.b + at_ f B.c + at_ f B.d) := by
  have ha := hin B.a (by simp [Blk.cells]); have hb := hin B.b (by simp [Blk.cells]); have hc := hin B.c (by simp [Blk.cells]); have hd := hin B.d (by simp [Blk.cells])
  have h4 := hB
  unfold Blk.Four Blk.cells at h4
  simp at h4
  obtain ⟨⟨n1, n2, n3⟩, ⟨n4, n5⟩, n6⟩ := h4
  unfold wrB
  rw [sumG_put _ hd.1 hd.2, sumG_put _ hc.1 hc.2, sumG_put _ hb.1 hb.2, sumG_put _ ha.1 ha.2]
  rw [at_put_ne _ _ (Ne.symm n6), at_put_ne _ _ (Ne.symm n5), at_put_ne _ _ (Ne.symm n3), at_put_ne _ _ (Ne.symm n4), at_put_ne _ _ (Ne.symm n2), at_put_ne _ _ (Ne.symm n1)]
  unfold onesN
  omega
theorem ones_frm {f : Nat → Nat → Int} {B : Blk} (h : ∀ p, p ∈ B.cells → at_ f p = 0 ∨ at_ f p = 1) : onesN (frm f B) = at_ f B.a + at_ f B.b + at_ f B.c + at_ f B.d := by
  have h1 := h B.a (by simp [Blk.cells]); have h2 := h B.b (by simp [Blk.cells]); have h3 := h B.c (by simp [Blk.cells]); have h4 := h B.d (by simp [Blk.cells])
  unfold onesN frm; omega
theorem wr_bits {f : Nat → Nat → Int} {B : Blk} {n : Int} (hf : ∀ p, at_ f p = 0 ∨ at_ f p = 1) : ∀ p, at_ (wrB f B n) p = 0 ∨ at_ (wrB f B n) p = 1 := by
  intro p
  have := hf p
  unfold wrB
  rw [at_put, at_put, at_put, at_put]
  split
  · omega
  split
  · omega
  split
  · omega
  split
  · omega
  · exact this
/-- one generation keeps how many live -/
theorem gen_sum {r : List Int} {W H : Nat} (hr : RuleOk r) (hc : ∀ k : Nat, k < 16 → onesN (nth r k) = onesN k) : ∀ (L : List Blk), (∀ B ∈ L, B.Four ∧ ∀ p ∈ B.cells, p.1 < W ∧ p.2 < H) → ∀ f, (∀ p, at_ f p = 0 ∨ at_ f p = 1) → sumG W H (genM r L f) = sumG W H f
  | [], _, f, _ => rfl
  | B :: L, hL, f, hf => by
    show sumG W H (genM r L (stepB r f B)) = _
    have hB := hL B (by simp)
    rw [gen_sum hr hc L (fun B' h' => hL B' (by simp [h'])) (stepB r f B) (wr_bits hf)]
    unfold stepB
    rw [sumG_wr hB.1 hB.2]
    have hb := frm_bd (B := B) (fun p _ => hf p)
    obtain ⟨k, hk⟩ := Int.eq_ofNat_of_zero_le hb.1
    have e := ones_frm (B := B) (fun p _ => hf p)
    rw [hk] at e ⊢
    rw [show ((k : Int)).toNat = k by omega, hc k (by omega), e]
    omega
theorem fwd_sum {r : List Int} {W H : Nat} {L : Int → List Blk} (hr : RuleOk r) (hc : ∀ k : Nat, k < 16 → onesN (nth r k) = onesN k) (hG : ∀ i, GoodL (L i)) (hL : ∀ i, (i = 0 ∨ i = 1) → ∀ B ∈ L i, ∀ p ∈ B.cells, p.1 < W ∧ p.2 < H) : ∀ (n : Nat) (g : Int) f, (∀ p, at_ f p = 0 ∨ at_ f p = 1) → sumG W H (fwd r L n g f) = sumG W H f
  | 0, _, _, _ => rfl
  | n + 1, g, f, hf => by
    show sumG W H (fwd r L n (g + 1) (genM r (L (g % 2)) f)) = _
    rw [fwd_sum hr hc hG hL n _ _ (gen_bits_all hr (hG _) hf)]
    exact gen_sum hr hc _ (fun B hB => ⟨(hG _).four B hB, hL _ (by omega) B hB⟩) f hf
theorem fwd_bits {r : List Int} {L : Int → List Blk} (hr : RuleOk r) (hG : ∀ i, GoodL (L i)) : ∀ (n : Nat) (g : Int) f, (∀ p, at_ f p = 0 ∨ at_ f p = 1) → ∀ p, at_ (fwd r L n g f) p = 0 ∨ at_ (fwd r L n g f) p = 1
  | 0, _, _, hf => hf
  | n + 1, g, f, hf => fwd_bits hr hG n _ _ (gen_bits_all hr (hG _) hf)

/-- how many live, where cells are of two states -/
theorem livRow_sum (D : FD) (hf : ∀ p : Cl, at_ D.f p = 0 ∨ at_ D.f p = 1) (y : Nat) : ∀ k, ((livRow D y k).length : Int) = sumR (D.f y) k
  | 0 => rfl
  | k + 1 => by
    have h := hf (k, y)
    change D.f y k = 0 ∨ D.f y k = 1 at h
    by_cases hz : D.f y k = 0
    · rw [livRow_zero D y k hz, livRow_sum D hf y k, sumR, hz]; omega
    · rw [livRow_some D y k hz, List.length_append, List.length_singleton, sumR]
      have := livRow_sum D hf y k
      omega
theorem livTo_sum (D : FD) (hf : ∀ p : Cl, at_ D.f p = 0 ∨ at_ D.f p = 1) : ∀ y, ((livTo D y).length : Int) = sumR (fun y => sumR (D.f y) D.W) y
  | 0 => rfl
  | y + 1 => by
    rw [livTo_succ, List.length_append, sumR]
    have h1 := livTo_sum D hf y
    have h2 := livRow_sum D hf y D.W
    omega
theorem liv_sum (D : FD) (hf : ∀ p : Cl, at_ D.f p = 0 ∨ at_ D.f p = 1) : ((livL D).length : Int) = sumG D.W D.H D.f := livTo_sum D hf D.H

/-- law29.keeping: the blocks of one number of living places -/
def kpP : List Int := [1, 2, 4, 8, 3, 5, 6, 9, 10, 12, 7, 11, 13, 14]
/-- where the k-th number's group begins, and how long it is -/
def kpS (k : Nat) : Nat := if k < 4 then 0 else if k < 10 then 4 else 10
def kpN (k : Nat) : Nat := if k < 4 then 4 else if k < 10 then 6 else 4
def kpJ (l : List Int) (k : Nat) : Nat := if k < l.length then (l.getD k 0 % (kpN k : Int)).toNat else 0
def kpV (l : List Int) (k : Nat) : Int := nth kpP (kpS k + kpJ l k)
def keepF (l : List Int) : Nat → List Int
  | 0 => [0, 0, 0, 0, 0, 0, 0, 0, 0, 0, 0, 0, 0, 0, 0, 15]
  | k + 1 => (keepF l k).set (nth kpP k).toNat (kpV l k)
theorem keepF_length (l : List Int) : ∀ k, (keepF l k).length = 16
  | 0 => rfl
  | k + 1 => by rw [keepF, List.length_set, keepF_length l k]
theorem keepF_all (l : List Int) : keepF l 14 = [0, kpV l 0, kpV l 1, kpV l 4, kpV l 2, kpV l 5, kpV l 6, kpV l 10, kpV l 3, kpV l 7, kpV l 8, kpV l 11, kpV l 9, kpV l 12, kpV l 13, 15] := rfl
theorem kpN_pos (k : Nat) : 0 < kpN k := by unfold kpN; split <;> (try split) <;> omega
theorem kpJ_lt (l : List Int) (k : Nat) : kpJ l k < kpN k := by
  have := kpN_pos k
  unfold kpJ
  split
  · have h0 := Int.emod_nonneg (l.getD k 0) (show (kpN k : Int) ≠ 0 by omega)
    have h1 := Int.emod_lt_of_pos (l.getD k 0) (show (0 : Int) < (kpN k : Int) by omega)
    omega
  · omega
theorem kp_grp : ∀ k, k < 14 → ∀ j, j < kpN k → onesN (nth kpP (kpS k + j)) = onesN (nth kpP k) ∧ 0 ≤ nth kpP (kpS k + j) ∧ nth kpP (kpS k + j) < 16 := by decide
theorem kpV_ones (l : List Int) (k : Nat) (hk : k < 14) : onesN (kpV l k) = onesN (nth kpP k) ∧ 0 ≤ kpV l k ∧ kpV l k < 16 := kp_grp k hk _ (kpJ_lt l k)
theorem keep_all (l : List Int) : ∀ v : Nat, v < 16 → onesN (nth (keepF l 14) v) = onesN v ∧ 0 ≤ nth (keepF l 14) v ∧ nth (keepF l 14) v < 16 := by
  rw [keepF_all]
  intro v hv
  rcases sixteen hv with rfl | rfl | rfl | rfl | rfl | rfl | rfl | rfl | rfl | rfl | rfl | rfl | rfl | rfl | rfl | rfl
  · exact ⟨rfl, (by show (0 : Int) ≤ 0; decide), (by show (0 : Int) < 16; decide)⟩
  · exact kpV_ones l 0 (by omega)
  · exact kpV_ones l 1 (by omega)
  · exact kpV_ones l 4 (by omega)
  · exact kpV_ones l 2 (by omega)
  · exact kpV_ones l 5 (by omega)
  · exact kpV_ones l 6 (by omega)
  · exact kpV_ones l 10 (by omega)
  · exact kpV_ones l 3 (by omega)
  · exact kpV_ones l 7 (by omega)
  · exact kpV_ones l 8 (by omega)
  · exact kpV_ones l 11 (by omega)
  · exact kpV_ones l 9 (by omega)
  · exact kpV_ones l 12 (by omega)
  · exact kpV_ones l 13 (by omega)
  · exact ⟨rfl, (by show (0 : Int) ≤ 15; decide), (by show (15 : Int) < 16; decide)⟩
theorem keep16 (l : List Int) : Arr16 (keepF l 14) := ⟨keepF_length l 14, fun k hk => by have := keep_all l k hk; omega⟩
theorem keep_check (l : List Int) : checkB (keepF l 14) = 0 := checkB_ok fun k hk => by have := keep_all l k (by rw [keepF_length] at hk; exact hk); omega
theorem keep_counts (l : List Int) : countsB (keepF l 14) = true := countsB_yes (keep_check l) fun k hk => (keep_all l k hk).1.symm
/-- so many live ahead of a run as behind it -/
theorem run_pop {b : List Int} {torus pk : Bool} {W H turn by_ : Int} {l : List Int} (hr : RuleOk b) (hc : ∀ k : Nat, k < 16 → onesN (nth b k) = onesN k) (gen : Int) (n : Nat) :
    (livL ⟨gdS W, gdS H, 2, pk, runF b (gdL torus W H turn by_) gen n (keptF (gdS W) 2 l)⟩).length = (livL (keptD (gdS W) (gdS H) 2 pk l)).length := by
  have hf := kept_bits (gdS W) l
  have hG := gdL_good torus W H turn by_
  have w := gdS_bd W; have h := gdS_bd H
  have e1 := liv_sum ⟨gdS W, gdS H, 2, pk, runF b (gdL torus W H turn by_) gen n (keptF (gdS W) 2 l)⟩ (by rw [runF_fwd]; exact fwd_bits hr hG n gen _ hf)
  have e2 := liv_sum (keptD (gdS W) (gdS H) 2 pk l) hf
  have e3 : sumG (gdS W) (gdS H) (runF b (gdL torus W H turn by_) gen n (keptF (gdS W) 2 l)) = sumG (gdS W) (gdS H) (keptF (gdS W) 2 l) := by
    rw [runF_fwd]
    refine fwd_sum hr hc hG (fun i hi B hB p hp => ?_) n gen _ hf
    have := cells_bd (wn := gdS W / 2) (hn := gdS H / 2) (by omega) (by omega) (by omega) (by omega) hB p hp
    omega
  have e4 : ((livL ⟨gdS W, gdS H, 2, pk, runF b (gdL torus W H turn by_) gen n (keptF (gdS W) 2 l)⟩).length : Int) = ((livL (keptD (gdS W) (gdS H) 2 pk l)).length : Int) := e1.trans (e3.trans e2.symm)
  omega
end Go.Proofs.Ytdpcmpfhjhbicaa
