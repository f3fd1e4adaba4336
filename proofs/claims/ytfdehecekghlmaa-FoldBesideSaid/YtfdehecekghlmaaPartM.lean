/- The plain law of the linear part by which a grid lies at a place; iso.Then of linear parts. -/
import Derived.Test.YtfdehecekghlmaaIsoE
import Derived.Test.YtfdehecekghlmaaGlueM
set_option linter.unusedVariables false
set_option linter.unusedSimpArgs false
namespace Go.Proofs.Ytfdehecekghlmaa
open Go.RowKit Go.Viv

/-- the Turn of a gluing map: its real part -/
def mvR (k : Int) : Nat := if k = 0 then 4607182418800017408 else 13830554455654793216
def mvCells (m : Mv) : List Value := [.complex .f64 (mvR m.k) 0, .bool m.f, .complex .f64 (fl m.x) (fl m.y)]
theorem mvR_isIso {k : Int} (h : k = 0 ∨ k = 2) {a b : Nat} {X Y : Int} (ha : IsW a X) (hb : IsW b Y) : IsIso (mvR k) 0 a b k X Y := by
  rcases h with rfl | rfl
  · exact ⟨by decide, by decide, isW_one, isW_zero, ha, hb⟩
  · exact ⟨by decide, by decide, isW_neg, isW_zero, ha, hb⟩

theorem lin0 (k : Int) (f : Bool) : linX k f 0 0 + 0 = 0 ∧ linY k f 0 0 + 0 = 0 := by
  unfold linX linY; cases f <;> simp
theorem near0 : nearI 0 = true := by decide

theorem Then0_calls (tr ti mr mi ur ui nr ni : Nat) (fa fb : Bool) (ka kb : Int) (w : World) (ha : IsIso tr ti mr mi ka 0 0) (hb : IsIso ur ui nr ni kb 0 0) :
    Calls Try.prog 44 #[isoV tr ti fa mr mi, isoV ur ui fb nr ni] w (fun e w' => ∃ xr xi yr yi : Nat, e = .returned (.tuple #[isoV xr xi (fa != fb) yr yi, .int .i64 0]) ∧ IsIso xr xi yr yi (thenK ka kb fb) 0 0 ∧ Below w.heap.size w w') := by
  cases fb
  · have := Then_false tr ti mr mi ur ui nr ni fa ka 0 0 kb 0 0 w ha hb near0 near0 near0 near0 (by rw [(lin0 _ _).1]; exact near0) (by rw [(lin0 _ _).2]; exact near0)
    rw [(lin0 _ _).1, (lin0 _ _).2] at this
    simpa using this
  · have := Then_true tr ti mr mi ur ui nr ni fa ka 0 0 kb 0 0 w ha hb near0 near0 near0 near0 (by rw [(lin0 _ _).1]; exact near0) (by rw [(lin0 _ _).2]; exact near0)
    rw [(lin0 _ _).1, (lin0 _ _).2] at this
    simpa using this

def partStep (st : Int × Bool) (m : Mv) (o : Bool) : Int × Bool := if o = true then (thenK st.1 m.k m.f, st.2 != m.f) else st
def tilesL (W H u v : Int) : List Int := (if 0 < W then [u / W] else []) ++ (if 0 < H then [v / H] else [])
def partS (ms : List Mv) (ts : List Int) : Nat → Int × Bool
  | 0 => (0, false)
  | j + 1 => match ms[j]?, ts[j]? with
    | some m, some i => partStep (partS ms ts j) m (i % 2 == 1)
    | _, _ => partS ms ts j

theorem thenK_torus : thenK 0 0 false = 0 := by decide
theorem part_eq {k W H t s x y : Int} (h : TopoOk k W H t s) (hk : checkE k W H t s = 0) (he : cellE k W H t s x y = 0) :
    (let st := partS (glueL k W H t s) (tilesL W H (x - first W) (y - first H)) (glueL k W H t s).length; if st.2 = true then st.1 + 4 else st.1) = partN k W H t s x y := by
  conv => rhs; unfold partN; rw [if_neg (by simp [he])]
  obtain ⟨u, hu⟩ : ∃ u, x - first W = u := ⟨_, rfl⟩
  obtain ⟨v, hv⟩ : ∃ v, y - first H = v := ⟨_, rfl⟩
  rw [hu, hv]
  have k1 := h.k1; have k5 := h.k5; have w0 := h.w0; have h0 := h.h0
  by_cases hg : gluedI k = true
  · have e1 : glueL k W H t s = (if 0 < W then [glueX k W H t s] else []) ++ (if 0 < H then [glueY k W H t s] else []) := by
      unfold glueL; rw [if_neg (by simp [hk, hg])]
    rw [e1]
    have hk3 : k = 2 ∨ k = 3 ∨ k = 4 := by unfold gluedI at hg; simp at hg; omega
    rcases hk3 with rfl | rfl | rfl
    · by_cases hW : 0 < W <;> by_cases hH : 0 < H <;> simp [hW, hH, tilesL, glueX, glueY, partS, partStep] <;> (repeat' split) <;> simp_all [thenK]
    · have hh := h.ends (by decide)
      have t0 := h.t0; have t2 := h.t2; have tk := h.klein rfl
      have : t = 1 ∨ t = 2 := by omega
      rcases this with rfl | rfl
      · simp [hh.1, hh.2, tilesL, glueX, glueY, partS, partStep, thenK]
        (repeat' split) <;> simp_all
      · simp [hh.1, hh.2, tilesL, glueX, glueY, partS, partStep, thenK]
        (repeat' split) <;> simp_all
    · have hh := h.ends (by decide)
      have ht : t = 0 := h.none (by decide) (by decide)
      subst ht
      simp [hh.1, hh.2, tilesL, glueX, glueY, partS, partStep, thenK]
      (repeat' split) <;> simp_all
  · have e1 : glueL k W H t s = [] := by unfold glueL; rw [if_pos (Or.inr (by simpa using hg))]
    have : k = 1 ∨ k = 5 := by unfold gluedI at hg; simp at hg; omega
    rw [e1]
    rcases this with rfl | rfl <;> simp [partS]

end Go.Proofs.Ytfdehecekghlmaa
