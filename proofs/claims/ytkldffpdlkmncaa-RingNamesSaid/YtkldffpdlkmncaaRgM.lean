/- ring, the plain law: what stands at each place of a grid and of its ring. -/
import Derived.Test.YtkldffpdlkmncaaRgB
import Derived.Test.YtkldffpdlkmncaaMc
set_option linter.unusedVariables false
set_option linter.unusedSimpArgs false
namespace Go.Proofs.Ytkldffpdlkmncaa
open Go.RowKit Go.Viv

theorem cu_bd {k W H t s u v : Int} (hW : 0 < W) : 0 ≤ cellU k W H t s u v ∧ cellU k W H t s u v < W := by
  have a := fun x => Int.emod_nonneg x (show W ≠ 0 by omega)
  have b := fun x => Int.emod_lt_of_pos x hW
  unfold cellU
  split
  · exact ⟨a _, b _⟩
  split
  · exact ⟨a _, b _⟩
  split
  · have := a u; have := b u; omega
  · exact ⟨a _, b _⟩
theorem cv_bd {k W H t s u v : Int} (hH : 0 < H) : 0 ≤ cellV k W H t s u v ∧ cellV k W H t s u v < H := by
  have a := fun x => Int.emod_nonneg x (show H ≠ 0 by omega)
  have b := fun x => Int.emod_lt_of_pos x hH
  unfold cellV
  split
  · exact ⟨a _, b _⟩
  split
  · exact ⟨a _, b _⟩
  split
  · have := a v; have := b v; omega
  · exact ⟨a _, b _⟩
theorem cu_own {k W H t s u v : Int} (u0 : 0 ≤ u) (u1 : u < W) (v0 : 0 ≤ v) (v1 : v < H) : cellU k W H t s u v = u ∧ cellV k W H t s u v = v := by
  have hv : v / H = 0 := Int.ediv_eq_zero_of_lt v0 v1
  have hu : u / W = 0 := Int.ediv_eq_zero_of_lt u0 u1
  have mu : u % W = u := Int.emod_eq_of_lt u0 u1
  have mv : v % H = v := Int.emod_eq_of_lt v0 v1
  have n0 : ¬ ((0 : Int) % 2 = 1) := by decide
  unfold cellU cellV
  rw [hv, hu, mu, mv]
  simp only [n0, and_false, if_false, Int.zero_mul, Int.sub_zero, mu, mv, ite_self, and_self]

/-- home numbers of the cell that a place of the grid or its ring is -/
def rgU (k W H t s u v : Int) : Int := if gluedI k = true then cellU k W H t s u v else if k = 5 then ballU W u v else u
def rgV (k W H t s u v : Int) : Int := if gluedI k = true then cellV k W H t s u v else if k = 5 then ballV W u v else v
def rgOn (k W H u v : Int) : Bool := decide (k ≠ 1) || (onI u W && onI v H)
/-- the state that stands there -/
def rgS (k W H t s : Int) (f : Nat → Nat → Int) (u v : Int) : Int := if rgOn k W H u v then f (rgV k W H t s u v).toNat (rgU k W H t s u v).toNat else 0

section
variable {k W H t s u v : Int}
theorem rgOn_bd (ok : TopoOk k W H t s) (w1 : 1 ≤ W) (h1 : 1 ≤ H) (hu : -1 ≤ u ∧ u ≤ W) (hv : -1 ≤ v ∧ v ≤ H) (hb : rgOn k W H u v = true) : (0 ≤ rgU k W H t s u v ∧ rgU k W H t s u v < W) ∧ (0 ≤ rgV k W H t s u v ∧ rgV k W H t s u v < H) := by
  unfold rgU rgV
  by_cases hg : gluedI k = true
  · rw [if_pos hg, if_pos hg]
    exact ⟨cu_bd (by omega), cv_bd (by omega)⟩
  · rw [if_neg hg, if_neg hg]
    by_cases h5 : k = 5
    · rw [if_pos h5, if_pos h5]
      have e := ok.sphere h5
      have := ball_bounds (n := W) (u := u) (v := v) (by omega) hu.1 hu.2 hv.1 (by omega)
      omega
    · rw [if_neg h5, if_neg h5]
      have k1 : k = 1 := by
        have := ok.k1; have := ok.k5
        unfold gluedI at hg
        rw [decide_eq_true_eq] at hg
        omega
      subst k1
      unfold rgOn onI at hb
      simp only [ne_eq, not_true, decide_false, Bool.false_or, Bool.and_eq_true, decide_eq_true_eq] at hb
      omega
theorem rgS_in (ok : TopoOk k W H t s) (f : Nat → Nat → Int) (u0 : 0 ≤ u) (u1 : u < W) (v0 : 0 ≤ v) (v1 : v < H) : rgS k W H t s f u v = f v.toNat u.toNat := by
  have hon : onI u W = true ∧ onI v H = true := by unfold onI; simp only [decide_eq_true_eq]; omega
  have hb : rgOn k W H u v = true := by unfold rgOn; rw [hon.1, hon.2]; simp
  unfold rgS
  rw [if_pos hb]
  have e1 : rgU k W H t s u v = u := by
    unfold rgU
    rw [(cu_own u0 u1 v0 v1).1]
    split
    · rfl
    split
    · rename_i h5
      have := ok.sphere h5
      unfold ballU
      rw [if_pos (by rw [hon.1]; rw [this]; simpa using hon.2)]
    · rfl
  have e2 : rgV k W H t s u v = v := by
    unfold rgV
    rw [(cu_own u0 u1 v0 v1).2]
    split
    · rfl
    split
    · rename_i h5
      have := ok.sphere h5
      unfold ballV
      rw [if_pos (by rw [hon.1]; rw [this]; simpa using hon.2)]
    · rfl
  rw [e1, e2]
/-- what Ring says of a place, in home numbers -/
theorem rgRing (hk : checkE k W H t s = 0) (t0 : 0 ≤ t) (w1 : 1 ≤ W) (w2 : W ≤ 65536) (h1 : 1 ≤ H) (h2 : H ≤ 65536) (hu : -1 ≤ u ∧ u ≤ W) (hv : -1 ≤ v ∧ v ≤ H) {x y : Int} (hx : x = u - W / 2) (hy : y = v - H / 2) :
    ringE k W H t s x y = 0 ∧ ringB k W H t s x y = rgOn k W H u v ∧
      (rgOn k W H u v = true → (ringX k W H t s x y = rgU k W H t s u v - W / 2 ∧ ringY k W H t s x y = rgV k W H t s u v - H / 2) ∧ (0 ≤ rgU k W H t s u v ∧ rgU k W H t s u v < W) ∧ (0 ≤ rgV k W H t s u v ∧ rgV k W H t s u v < H)) ∧
      (rgOn k W H u v = false → ringX k W H t s x y = 0 ∧ ringY k W H t s x y = 0) := by
  have ok := topoOk_of t0 hk
  have f1 : first W = -(W / 2) := rfl
  have f2 : first H = -(H / 2) := rfl
  have e1 : x - first W = u := by omega
  have e2 : y - first H = v := by omega
  have n1 : nearI x = true := by unfold nearI; rw [decide_eq_true_eq]; omega
  have n2 : nearI y = true := by unfold nearI; rw [decide_eq_true_eq]; omega
  have hE : ringE k W H t s x y = 0 := by
    unfold ringE
    rw [if_neg (by rw [hk]; simp), n1, n2, if_neg (by simp), e1, e2, if_pos]
    unfold ringI
    simp only [Bool.and_eq_true, decide_eq_true_eq]
    exact ⟨.inr hu, .inr hv⟩
  have hB : ringB k W H t s x y = rgOn k W H u v := by
    unfold ringB rgOn
    rw [hE, e1, e2]
    simp
  refine ⟨hE, hB, fun hb => ⟨⟨?_, ?_⟩, rgOn_bd ok w1 h1 hu hv hb⟩, fun hb => ?_⟩
  · unfold ringX rgU
    rw [hB, hb, if_neg (by simp), e1, e2]
    split
    · omega
    split
    · omega
    · omega
  · unfold ringY rgV
    rw [hB, hb, if_neg (by simp), e1, e2]
    split
    · omega
    split
    · omega
    · omega
  · unfold ringX ringY
    rw [hB, hb]
    exact ⟨rfl, rfl⟩
end
end Go.Proofs.Ytkldffpdlkmncaa
