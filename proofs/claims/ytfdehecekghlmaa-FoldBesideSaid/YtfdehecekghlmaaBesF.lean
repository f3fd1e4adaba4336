/- FoldBeside, the plain law: what fold says of the neighbours. -/
import Derived.Test.YtfdehecekghlmaaBesM
set_option linter.unusedVariables false
set_option linter.unusedSimpArgs false
namespace Go.Proofs.Ytfdehecekghlmaa
open Go.Viv

theorem cu_bd {k W H t s u v : Int} (hW : 0 < W) : 0 ≤ cellU k W H t s u v ∧ cellU k W H t s u v < W := by
  have a := fun x => Int.emod_nonneg x (show W ≠ 0 by omega)
  have b := fun x => Int.emod_lt_of_pos x hW
  unfold cellU
  split
  · exact ⟨a _, b _⟩
  split
  · exact ⟨a _, b _⟩
  split
  · have := a u; have := b u; omega
  · exact ⟨a _, b _⟩
theorem cv_bd {k W H t s u v : Int} (hH : 0 < H) : 0 ≤ cellV k W H t s u v ∧ cellV k W H t s u v < H := by
  have a := fun x => Int.emod_nonneg x (show H ≠ 0 by omega)
  have b := fun x => Int.emod_lt_of_pos x hH
  unfold cellV
  split
  · exact ⟨a _, b _⟩
  split
  · exact ⟨a _, b _⟩
  split
  · have := a v; have := b v; omega
  · exact ⟨a _, b _⟩
theorem cu_own {k W H t s u v : Int} (u0 : 0 ≤ u) (u1 : u < W) (v0 : 0 ≤ v) (v1 : v < H) : cellU k W H t s u v = u ∧ cellV k W H t s u v = v := by
  have hv : v / H = 0 := Int.ediv_eq_zero_of_lt v0 v1
  have hu : u / W = 0 := Int.ediv_eq_zero_of_lt u0 u1
  have mu : u % W = u := Int.emod_eq_of_lt u0 u1
  have mv : v % H = v := Int.emod_eq_of_lt v0 v1
  have n0 : ¬ ((0 : Int) % 2 = 1) := by decide
  unfold cellU cellV
  rw [hv, hu, mu, mv]
  simp only [n0, and_false, if_false, Int.zero_mul, Int.sub_zero, mu, mv, ite_self, and_self]

section
variable {k t s : Int} {W H : Nat}
theorem bX_sub (W i d : Nat) : bX W i d - first W = bU W i d := by unfold bX bU; omega
theorem bY_sub (W H i d : Nat) : bY W H i d - first H = bV W i d := by unfold bY bV; omega
theorem bU_bd {W i d : Nat} (hW : 0 < W) : -1 ≤ bU W i d ∧ bU W i d ≤ W := by
  have h1 := Nat.mod_lt i hW; have h2 := Nat.mod_lt d (show 0 < 3 by omega)
  unfold bU
  generalize i % W = q at *
  omega
theorem bV_bd {W H i d : Nat} (hi : i < W * H) (hd : d < 9) : -1 ≤ bV W i d ∧ bV W i d ≤ H := by
  have h1 : i / W < H := Nat.div_lt_of_lt_mul hi
  have h2 : d / 3 < 3 := Nat.div_lt_of_lt_mul (by omega)
  unfold bV
  generalize i / W = q at *
  omega
theorem ringE_ok (hk : checkE k W H t s = 0) (w1 : 1 ≤ W) (w6 : W ≤ 6) (h1 : 1 ≤ H) (h6 : H ≤ 6) {i d : Nat} (hi : i < W * H) (hd : d < 9) : ringE k W H t s (bX W i d) (bY W H i d) = 0 := by
  have a := bU_bd (i := i) (d := d) (show 0 < W by omega)
  have b := bV_bd hi hd
  have f1 : first W = -((W : Int) / 2) := rfl
  have f2 : first H = -((H : Int) / 2) := rfl
  have e1 := bX_sub W i d
  have e2 := bY_sub W H i d
  have n1 : nearI (bX W i d) = true := by unfold nearI; rw [decide_eq_true_eq]; omega
  have n2 : nearI (bY W H i d) = true := by unfold nearI; rw [decide_eq_true_eq]; omega
  unfold ringE
  rw [if_neg (by rw [hk]; simp), n1, n2, if_neg (by simp), e1, e2, if_pos]
  unfold ringI
  simp only [Bool.and_eq_true, decide_eq_true_eq]
  exact ⟨.inr a, .inr b⟩
theorem ringB_eq (hk : checkE k W H t s = 0) (w1 : 1 ≤ W) (w6 : W ≤ 6) (h1 : 1 ≤ H) (h6 : H ≤ 6) {i d : Nat} (hi : i < W * H) (hd : d < 9) : ringB k W H t s (bX W i d) (bY W H i d) = besI k W H t s i d := by
  unfold ringB besI nOn
  rw [ringE_ok hk w1 w6 h1 h6 hi hd, bX_sub, bY_sub]
  simp
theorem nOn_bd (ok : TopoOk k W H t s) (w1 : 1 ≤ W) (h1 : 1 ≤ H) {u v : Int} (hu : -1 ≤ u ∧ u ≤ W) (hv : -1 ≤ v ∧ v ≤ H) (hb : nOn k W H u v = true) : (0 ≤ nU k W H t s u v ∧ nU k W H t s u v < W) ∧ (0 ≤ nV k W H t s u v ∧ nV k W H t s u v < H) := by
  unfold nU nV
  by_cases hg : gluedI k = true
  · rw [if_pos hg, if_pos hg]
    exact ⟨cu_bd (by omega), cv_bd (by omega)⟩
  · rw [if_neg hg, if_neg hg]
    by_cases h5 : k = 5
    · rw [if_pos h5, if_pos h5]
      have e := ok.sphere h5
      have := ball_bounds (n := (W : Int)) (u := u) (v := v) (by omega) hu.1 hu.2 hv.1 (by omega)
      omega
    · rw [if_neg h5, if_neg h5]
      have k1 : k = 1 := by
        have := ok.k1; have := ok.k5
        unfold gluedI at hg
        rw [decide_eq_true_eq] at hg
        omega
      subst k1
      unfold nOn onI at hb
      simp only [ne_eq, not_true, decide_false, Bool.false_or, Bool.and_eq_true, decide_eq_true_eq] at hb
      omega
theorem besOne_of (hk : checkE k W H t s = 0) (t0 : 0 ≤ t) (w1 : 1 ≤ W) (w6 : W ≤ 6) (h1 : 1 ≤ H) (h6 : H ≤ 6) {i d : Nat} (hi : i < W * H) (hd : d < 9) : ∃ qx qy b K, BesOne k W H t s i d qx qy b K := by
  have ok := topoOk_of t0 hk
  have a := bU_bd (i := i) (d := d) (show 0 < W by omega)
  have b := bV_bd hi hd
  have e := ringE_ok hk w1 w6 h1 h6 hi hd
  have eb := ringB_eq hk w1 w6 h1 h6 hi hd
  have f1 : first W = -((W : Int) / 2) := rfl
  have f2 : first H = -((H : Int) / 2) := rfl
  have hx : besI k W H t s i d = true → ringX k W H t s (bX W i d) (bY W H i d) = nU k W H t s (bU W i d) (bV W i d) + first W := fun hb => by
    unfold ringX nU
    rw [eb, hb, if_neg (by simp), bX_sub, bY_sub]
    split
    · rfl
    split
    · rfl
    · have := bX_sub W i d; omega
  have hy : besI k W H t s i d = true → ringY k W H t s (bX W i d) (bY W H i d) = nV k W H t s (bU W i d) (bV W i d) + first H := fun hb => by
    unfold ringY nV
    rw [eb, hb, if_neg (by simp), bX_sub, bY_sub]
    split
    · rfl
    split
    · rfl
    · have := bY_sub W H i d; omega
  have hbd : besI k W H t s i d = true → _ := fun hb => nOn_bd (k := k) (t := t) (s := s) ok w1 h1 a b hb
  have hx0 : besI k W H t s i d = false → ringX k W H t s (bX W i d) (bY W H i d) = 0 ∧ ringY k W H t s (bX W i d) (bY W H i d) = 0 := fun hb => by
    unfold ringX ringY
    rw [eb, hb]
    exact ⟨rfl, rfl⟩
  have hon : gluedI k = true → besI k W H t s i d = true := fun hg => by
    unfold gluedI at hg
    rw [decide_eq_true_eq] at hg
    unfold besI nOn
    rw [decide_eq_true (show k ≠ 1 by omega)]
    rfl
  have hq : -10 ≤ ringX k W H t s (bX W i d) (bY W H i d) ∧ ringX k W H t s (bX W i d) (bY W H i d) ≤ 10 ∧ -10 ≤ ringY k W H t s (bX W i d) (bY W H i d) ∧ ringY k W H t s (bX W i d) (bY W H i d) ≤ 10 := by
    cases hb : besI k W H t s i d
    · rw [(hx0 hb).1, (hx0 hb).2]; omega
    · rw [hx hb, hy hb]; have := hbd hb; omega
  have hK : besI k W H t s i d = true → 0 ≤ besK k W H t s i d ∧ besK k W H t s i d < ((W * H : Nat) : Int) := fun hb => by
    obtain ⟨⟨b1, b2⟩, b3, b4⟩ := hbd hb
    unfold besK
    generalize nU k W H t s (bU W i d) (bV W i d) = U at *
    generalize nV k W H t s (bU W i d) (bV W i d) = V at *
    rw [Int.natCast_mul]
    have m1 : (0 : Int) ≤ (W : Int) * V := Int.mul_nonneg (by omega) b3
    have m2 : (W : Int) * V ≤ (W : Int) * ((H : Int) - 1) := Int.mul_le_mul_of_nonneg_left (by omega) (by omega)
    rw [Int.mul_sub, Int.mul_one] at m2
    omega
  refine ⟨_, _, _, (besK k W H t s i d).toNat, rfl, rfl, rfl, e, hq.1, hq.2.1, hq.2.2.1, hq.2.2.2, fun hb => ?_, fun hg => ?_, fun hb => ?_, ?_⟩
  · rw [eb] at hb
    unfold besI nOn at hb
    simp only [Bool.or_eq_false_iff, decide_eq_false_iff_not, ne_eq, Decidable.not_not] at hb
    exact hb.1
  · have n1 : nearI (bX W i d) = true := by have := bX_sub W i d; unfold nearI; rw [decide_eq_true_eq]; omega
    have n2 : nearI (bY W H i d) = true := by have := bY_sub W H i d; unfold nearI; rw [decide_eq_true_eq]; omega
    have hc : cellE k W H t s (bX W i d) (bY W H i d) = 0 := by
      unfold cellE
      rw [if_neg (by rw [hk]; simp), n1, n2, if_neg (by simp), if_pos hg]
    refine ⟨hc, ?_, ?_⟩
    · rw [hx (hon hg)]
      unfold cellX nU
      rw [if_neg (by rw [hc]; simp), if_pos hg, if_pos hg, bX_sub, bY_sub]
    · rw [hy (hon hg)]
      unfold cellY nV
      rw [if_neg (by rw [hc]; simp), if_pos hg, if_pos hg, bX_sub, bY_sub]
  · rw [eb] at hb
    have hk2 := hK hb
    have hb2 := hbd hb
    rw [hx hb, hy hb]
    refine ⟨by omega, by omega, ?_, by omega⟩
    rw [Int.toNat_of_nonneg hk2.1]
    unfold besK
    rw [Int.add_sub_cancel, Int.add_sub_cancel]
  · rw [eb]
    funext x y
    by_cases hc : besI k W H t s i d = true ∧ d ≠ 4
    · rw [if_pos hc]
      have hl : besNp k W H t s i (d + 1) = besNp k W H t s i d ++ [(besK k W H t s i d).toNat] := by rw [besNp_succ, if_pos ⟨hc.2, hc.1⟩]
      show besT k W H t s i (d + 1) x y = if x = i ∧ y = (besK k W H t s i d).toNat then besT k W H t s i d x y + 1 else besT k W H t s i d x y
      unfold besT
      rw [hl]
      generalize (besK k W H t s i d).toNat = K
      by_cases q1 : x < i
      · have q2 : ¬ x = i := by omega
        simp only [q1, q2, if_true, false_and, if_false]
      · by_cases q2 : x = i
        · subst q2
          simp only [Nat.lt_irrefl, if_false, if_true, true_and, List.count_append]
          by_cases q3 : y = K
          · subst q3; simp
          · simp [q3, Ne.symm q3, List.count_cons]
        · simp only [q1, q2, if_false, false_and]
    · rw [if_neg hc]
      have hl : besNp k W H t s i (d + 1) = besNp k W H t s i d := by rw [besNp_succ, if_neg (fun h => hc ⟨h.2, h.1⟩), List.append_nil]
      unfold besT
      rw [hl]
theorem besOwn_of (hk : checkE k W H t s = 0) (t0 : 0 ≤ t) (w1 : 1 ≤ W) (w6 : W ≤ 6) (h1 : 1 ≤ H) (h6 : H ≤ 6) {i : Nat} (hi : i < W * H) : ringB k W H t s (bX W i 4) (bY W H i 4) = true ∧ ringX k W H t s (bX W i 4) (bY W H i 4) = bX W i 4 ∧ ringY k W H t s (bX W i 4) (bY W H i 4) = bY W H i 4 ∧ ringE k W H t s (bX W i 4) (bY W H i 4) = 0 := by
  have ok := topoOk_of t0 hk
  have e := ringE_ok hk w1 w6 h1 h6 hi (show 4 < 9 by omega)
  have eb := ringB_eq hk w1 w6 h1 h6 hi (show 4 < 9 by omega)
  have hm : i % W < W := Nat.mod_lt i (by omega)
  have hv : i / W < H := Nat.div_lt_of_lt_mul hi
  have u0 : 0 ≤ bU W i 4 ∧ bU W i 4 < W := by unfold bU; generalize i % W = q at *; omega
  have v0 : 0 ≤ bV W i 4 ∧ bV W i 4 < H := by unfold bV; generalize i / W = q at *; omega
  have hon : onI (bU W i 4) W = true ∧ onI (bV W i 4) H = true := by unfold onI; simp only [decide_eq_true_eq]; omega
  have hb : besI k W H t s i 4 = true := by unfold besI nOn; rw [hon.1, hon.2]; simp
  rw [hb] at eb
  have q1 := bX_sub W i 4; have q2 := bY_sub W H i 4
  refine ⟨eb, ?_, ?_, e⟩
  · unfold ringX
    rw [eb, if_neg (by simp), q1, q2]
    split
    · rw [(cu_own u0.1 u0.2 v0.1 v0.2).1]; omega
    split
    · rename_i h5
      have := ok.sphere h5
      unfold ballU
      rw [if_pos (by rw [hon.1]; rw [this]; simpa using hon.2)]
      omega
    · rfl
  · unfold ringY
    rw [eb, if_neg (by simp), q1, q2]
    split
    · rw [(cu_own u0.1 u0.2 v0.1 v0.2).2]; omega
    split
    · rename_i h5
      have := ok.sphere h5
      unfold ballV
      rw [if_pos (by rw [hon.1]; rw [this]; simpa using hon.2)]
      omega
    · rfl

theorem mem_besN (hk : checkE k W H t s = 0) (t0 : 0 ≤ t) (w1 : 1 ≤ W) (w6 : W ≤ 6) (h1 : 1 ≤ H) (h6 : H ≤ 6) {i j : Nat} (hi : i < W * H) (hj : j ∈ besN k W H t s i) : j < W * H := by
  unfold besN at hj
  obtain ⟨d, hd, he⟩ := List.mem_filterMap.1 hj
  rw [List.mem_range] at hd
  by_cases hc : d ≠ 4 ∧ besI k W H t s i d = true
  · rw [if_pos hc] at he
    obtain rfl := Option.some.inj he
    obtain ⟨qx, qy, b, K, ho⟩ := besOne_of (k := k) (t := t) (s := s) hk t0 w1 w6 h1 h6 hi hd
    have ok := topoOk_of t0 hk
    have eb := ringB_eq hk w1 w6 h1 h6 hi hd
    have hb := nOn_bd (k := k) (t := t) (s := s) ok w1 h1 (bU_bd (i := i) (d := d) (show 0 < W by omega)) (bV_bd hi hd) hc.2
    obtain ⟨⟨b1, b2⟩, b3, b4⟩ := hb
    unfold besK
    generalize nU k W H t s (bU W i d) (bV W i d) = U at *
    generalize nV k W H t s (bU W i d) (bV W i d) = V at *
    have m1 : (0 : Int) ≤ (W : Int) * V := Int.mul_nonneg (by omega) b3
    have m2 : (W : Int) * V ≤ (W : Int) * ((H : Int) - 1) := Int.mul_le_mul_of_nonneg_left (by omega) (by omega)
    rw [Int.mul_sub, Int.mul_one, ← Int.natCast_mul] at m2
    omega
  · rw [if_neg hc] at he; exact absurd he (by simp)
end
theorem count_pairs (N : Nat → List Nat) (x y : Nat) : ∀ m, ((List.range m).flatMap fun i => (N i).map fun j => (i, j)).count (x, y) = if x < m then (N x).count y else 0
  | 0 => by simp
  | m + 1 => by
    rw [List.range_succ, List.flatMap_append, List.count_append, count_pairs N x y m]
    have e : ([m].flatMap fun i => (N i).map fun j => (i, j)) = (N m).map fun j => (m, j) := by simp
    rw [e]
    have key : ∀ l : List Nat, (l.map fun j => (m, j)).count (x, y) = if x = m then l.count y else 0 := fun l => by
      induction l with
      | nil => simp
      | cons a l ih =>
        rw [List.map_cons, List.count_cons, ih, List.count_cons]
        by_cases hx : x = m
        · subst hx
          by_cases hy : a = y
          · subst hy; simp
          · simp [hy]
        · rw [if_neg hx, if_neg hx]
          simp [Ne.symm hx]
    rw [key]
    by_cases h1 : x < m
    · rw [if_pos h1, if_neg (by omega), if_pos (by omega)]; omega
    · rw [if_neg h1]
      by_cases h2 : x = m
      · subst h2; rw [if_pos rfl, if_pos (by omega)]; omega
      · rw [if_neg h2, if_neg (by omega)]
theorem count_inj {α : Type} [BEq α] [LawfulBEq α] (a : α → Nat) (q : α) : ∀ (l : List α), (∀ p ∈ l, a p = a q → p = q) → (l.map a).count (a q) = l.count q
  | [], _ => rfl
  | p :: l, h => by
    rw [List.map_cons, List.count_cons, List.count_cons, count_inj a q l fun r hr => h r (List.mem_cons_of_mem _ hr)]
    congr 1
    by_cases hp : p = q
    · subst hp; simp
    · have : ¬ a p = a q := fun e => hp (h p List.mem_cons_self e)
      simp [hp, this]
theorem besC_comm {k t s : Int} {W H : Nat} (hk : checkE k W H t s = 0) (t0 : 0 ≤ t) (w1 : 1 ≤ W) (w6 : W ≤ 6) (h1 : 1 ≤ H) (h6 : H ≤ 6) {i j : Nat} (hi : i < W * H) (hj : j < W * H) : besC k W H t s i j = besC k W H t s j i := by
  have ha := bes_all hk t0 w1 w6 h1 h6
  unfold besOk at ha
  have hm : ∀ p ∈ besP k W H t s, p.1 < W * H ∧ p.2 < W * H := fun p hp => by
    unfold besP at hp
    obtain ⟨x, hx, hp⟩ := List.mem_flatMap.1 hp
    obtain ⟨y, hy, rfl⟩ := List.mem_map.1 hp
    rw [List.mem_range] at hx
    exact ⟨hx, mem_besN hk t0 w1 w6 h1 h6 hx hy⟩
  have hC : ∀ x y, x < W * H → (besP k W H t s).count (x, y) = besC k W H t s x y := fun x y hx => by
    unfold besP
    rw [count_pairs, if_pos hx]; rfl
  generalize hn : W * H = n at *
  have lt : ∀ {a b : Nat}, a < n → b < n → n * a + b < n * n := fun {a b} h1 h2 => Nat.lt_of_lt_of_le (Nat.add_lt_add_left h2 _) (by rw [← Nat.mul_succ]; exact Nat.mul_le_mul_left n h1)
  have inj : ∀ {a b c d : Nat}, b < n → d < n → n * a + b = n * c + d → a = c ∧ b = d := fun {a b c d} hb hd h => by
    have e1 : (n * a + b) / n = a := by rw [Nat.mul_add_div (by omega), Nat.div_eq_of_lt hb]; omega
    have e2 : (n * c + d) / n = c := by rw [Nat.mul_add_div (by omega), Nat.div_eq_of_lt hd]; omega
    have : a = c := by rw [← e1, ← e2, h]
    subst this
    exact ⟨rfl, by omega⟩
  have hA : ∀ x y, x < n → y < n → ((besP k W H t s).map fun p => n * p.1 + p.2).count (n * x + y) = besC k W H t s x y := fun x y hx hy => by
    rw [← hC x y hx]
    exact count_inj (fun p : Nat × Nat => n * p.1 + p.2) (x, y) _ fun p hp e => by
      have := inj (hm p hp).2 hy e
      exact Prod.ext this.1 this.2
  have hB : ∀ x y, x < n → y < n → ((besP k W H t s).map fun p => n * p.2 + p.1).count (n * x + y) = besC k W H t s y x := fun x y hx hy => by
    rw [← hC y x hy]
    exact count_inj (fun p : Nat × Nat => n * p.2 + p.1) (y, x) _ fun p hp e => by
      have := inj (hm p hp).1 hy e
      exact Prod.ext this.2 this.1
  have e1 := pw_val (fun p : Nat × Nat => n * p.1 + p.2) (n * n) (besP k W H t s) 0 fun p hp => lt (hm p hp).1 (hm p hp).2
  have e2 := pw_val (fun p : Nat × Nat => n * p.2 + p.1) (n * n) (besP k W H t s) 0 fun p hp => lt (hm p hp).2 (hm p hp).1
  have h9 : ∀ x y, besC k W H t s x y ≤ 9 := fun x y => Nat.le_trans List.count_le_length (Nat.le_trans (List.length_filterMap_le _ _) (by simp))
  have ev : val (fun e => ((besP k W H t s).map fun p => n * p.1 + p.2).count e) (n * n) = val (fun e => ((besP k W H t s).map fun p => n * p.2 + p.1).count e) (n * n) := by
    have := Nat.eq_of_beq_eq_true ha
    unfold pwA pwB at this
    omega
  have split_ : ∀ e, e < n * n → e = n * (e / n) + e % n ∧ e / n < n ∧ e % n < n := fun e he => by
    have h0 : 0 < n := by omega
    exact ⟨(Nat.div_add_mod e n).symm, Nat.div_lt_of_lt_mul he, Nat.mod_lt e h0⟩
  have key := val_inj (m := n * n) (fun e he => by
    obtain ⟨h1, h2, h3⟩ := split_ e he
    rw [h1, hA _ _ h2 h3]
    have := h9 (e / n) (e % n); omega) (fun e he => by
    obtain ⟨h1, h2, h3⟩ := split_ e he
    rw [h1, hB _ _ h2 h3]
    have := h9 (e % n) (e / n); omega) ev (n * i + j) (lt hi hj)
  rw [hA i j hi hj, hB i j hi hj] at key
  exact key
end Go.Proofs.Ytfdehecekghlmaa
