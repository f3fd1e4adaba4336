/- Set, done or not done: it may be done twice. -/
import Derived.Test.YtjhfiibfknhniaaFSet
set_option linter.unusedVariables false
set_option linter.unusedSimpArgs false
namespace Go.Proofs.Ytjhfiibfknhniaa
open Go.RowKit

theorem FD.put_like (D : FD) (x y s : Int) : (D.put x y s).W = D.W ∧ (D.put x y s).H = D.H ∧ (D.put x y s).St = D.St ∧ (D.put x y s).pk = D.pk := by
  unfold FD.put
  split
  · split <;> exact ⟨rfl, rfl, rfl, rfl⟩
  · exact ⟨rfl, rfl, rfl, rfl⟩
theorem setF_setF (f : Nat → Nat → Int) (y x : Nat) (s : Int) : setF (setF f y x s) y x s = setF f y x s := by
  funext y' x'; unfold setF; split <;> rfl
theorem FD.put_put (D : FD) (x y s : Int) : (D.put x y s).put x y s = D.put x y s := by
  cases hb : hasB D.W D.H x y
  · have e : D.put x y s = D := by simp [FD.put, hb]
    rw [e, e]
  · by_cases hk : s < D.St
    · have e : D.put x y s = { D with f := setF D.f y.toNat x.toNat s } := by simp [FD.put, hb, hk]
      rw [e]
      simp [FD.put, hb, hk, setF_setF]
    · have e : D.put x y s = D := by simp [FD.put, hb, hk]
      rw [e, e]
theorem setE_put (D : FD) (x y s : Int) : setE (D.put x y s) x y s = setE D x y s := by
  obtain ⟨a1, a2, a3, a4⟩ := D.put_like x y s
  unfold setE
  rw [a1, a2, a3]

/-- the two fields, on the way: each as it was, or done -/
structure Mid (f g : Nat) (D D' E E' : FD) (S T : Nat → Prop) (w0 w : World) : Prop where
  d : Fld f D S w ∨ Fld f D' S w
  e : Fld g E T w ∨ Fld g E' T w
  wr : Wrote (fun b => S b ∨ T b) w0 w
  far : ∀ b, S b → ¬ T b
section
variable {f g : Nat} {D D' E E' : FD} {S T : Nat → Prop} {w0 w w1 : World}
theorem Mid.below (h : Mid f g D D' E E' S T w0 w) (hb : Below w.heap.size w w1) : Mid f g D D' E E' S T w0 w1 :=
  ⟨h.d.imp (·.below hb) (·.below hb), h.e.imp (·.below hb) (·.below hb), h.wr.trans (Wrote.of_below hb), h.far⟩
theorem Mid.fst (hw : Wrote S w w1) (h : Mid f g D D' E E' S T w0 w) (hd : Fld f D' S w1) : Mid f g D D' E E' S T w0 w1 :=
  ⟨.inr hd, h.e.imp (·.wrote hw fun b hb hs => h.far b hs hb) (·.wrote hw fun b hb hs => h.far b hs hb), h.wr.trans (hw.more fun k _ hs => .inl hs), h.far⟩
theorem Mid.snd (hw : Wrote T w w1) (h : Mid f g D D' E E' S T w0 w) (he : Fld g E' T w1) : Mid f g D D' E E' S T w0 w1 :=
  ⟨h.d.imp (·.wrote hw h.far) (·.wrote hw h.far), .inr he, h.wr.trans (hw.more fun k _ hs => .inr hs), h.far⟩
theorem Mid.block (h : Mid f g D D' E E' S T w0 w) {k : Nat} {o : Obj} (hk : w0.heap[k]? = some o) (hS : ¬ S k) (hT : ¬ T k) : w.heap[k]? = some o :=
  (h.wr.block k (bk_lt hk) (fun hh => by rcases hh with hh | hh; exact hS hh; exact hT hh)).trans hk
end
theorem set_mid {g : Nat} {D : FD} {S : Nat → Prop} {w : World} (x y s v : Int) (hv : setE D x y s = v) (h : Fld g D S w ∨ Fld g (D.put x y s) S w) (hs : 0 ≤ s ∧ s ≤ 255) :
    Calls Try.prog 25 #[.pointer (some ⟨g, 0, none⟩), .int .i64 x, .int .i64 y, .int .u8 s] w fun e w' => e = .returned (.int .i64 v) ∧ Fld g (D.put x y s) S w' ∧ Wrote S w w' := by
  subst hv
  rcases h with h | h
  · exact Set_calls x y s h hs.1 hs.2
  · have := Set_calls x y s h hs.1 hs.2
    rw [FD.put_put, setE_put] at this
    exact this

end Go.Proofs.Ytjhfiibfknhniaa
