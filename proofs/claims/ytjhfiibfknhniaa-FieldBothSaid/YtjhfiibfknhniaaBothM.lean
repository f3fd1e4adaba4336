/- FieldBoth: any act; what stands while a script goes by. -/
import Derived.Test.YtjhfiibfknhniaaFTwoR
import Derived.Test.YtjhfiibfknhniaaOpM
set_option linter.unusedVariables false
set_option linter.unusedSimpArgs false
namespace Go.Proofs.Ytjhfiibfknhniaa
open Go.RowKit

theorem two_all {f g : Nat} {D E : FD} {S T : Nat → Prop} {w w0 : World} {b off i : Nat} {o : OpR} {A : Option Addr} {c : Nat} (h : TwoSt f g D E S T w) (hO : OpAt w b off i o A c) :
    Calls Try.prog 18 #[.pointer (some ⟨f, 0, none⟩), .pointer (some ⟨g, 0, none⟩), .agg #[.int .i64 o.kind, .int .i64 o.which, .int .i64 o.x, .int .i64 o.y, .int .u8 o.st, .int .i64 o.sts, .slice A o.l.length c, .bool o.on]] w (TwoP f g S T w) := by
  have hr := hO.r; have hn := hO.n; have hbl := hO.bl; have hs := hO.bs
  obtain ⟨kd, wh, x, y, s, ss, l, on⟩ := o
  simp only at hr hn hbl hs ⊢
  by_cases k0 : kd = 0
  · subst k0; exact two_get wh x y s ss A l.length c on h
  by_cases k1 : kd = 1
  · subst k1; exact two_set wh x y s ss A l.length c on h hs
  by_cases k3 : kd = 3
  · subst k3; exact two_lay wh x y s ss A c l on h hn hr hbl
  by_cases k4 : kd = 4
  · subst k4; exact two_clear wh x y s ss A l.length c on h
  by_cases k8 : kd = 8
  · subst k8; exact two_pack wh x y s ss A l.length c on h
  exact two_rest kd wh x y s ss A l.length c on h k0 k1 k3 k4 k8

/-- what stands while a script goes by: the answer's cell, the first field's cell, the fields, the script -/
structure BoSt (BR BF f g : Nat) (D E : FD) (S T : Nat → Prop) (A : Option Addr) (os : List OpR) (w wr : World) : Prop where
  kr : wr.heap[BR]? = some (.cells #[.bool false] 4 (0, 0))
  kf : wr.heap[BF]? = some (.cells #[.pointer (some ⟨f, 0, none⟩)] 22 (0, 0))
  two : TwoSt f g D E S T wr
  far : ∀ b, S b ∨ T b → BR < b ∧ b ≠ BF
  l : Below BR w wr
  os : OpsAt wr A os
  ord : BR < BF
  at_ : BR = w.heap.size
def BoX (BR BF f g : Nat) (A : Option Addr) (os : List OpR) (w wr : World) : Prop := ∃ D E S T, BoSt BR BF f g D E S T A os w wr
section
variable {BR BF f g : Nat} {D E : FD} {S T : Nat → Prop} {A : Option Addr} {os : List OpR} {w wr w1 : World}
theorem BoSt.below (h : BoSt BR BF f g D E S T A os w wr) (hb : Below wr.heap.size wr w1) : BoSt BR BF f g D E S T A os w w1 :=
  ⟨bk_below h.kr hb, bk_below h.kf hb, h.two.below hb, h.far, h.l.trans (hb.mono (Nat.le_of_lt (bk_lt h.kr))), h.os.below hb, h.ord, h.at_⟩
theorem BoX.below (h : BoX BR BF f g A os w wr) (hb : Below wr.heap.size wr w1) : BoX BR BF f g A os w w1 := let ⟨D, E, S, T, h⟩ := h; ⟨D, E, S, T, h.below hb⟩
theorem BoSt.step (h : BoSt BR BF f g D E S T A os w wr) (h0 : OpsAt w A os) {e : Ending} (hp : TwoP f g S T wr e w1) : e = .returned (.bool true) ∧ BoX BR BF f g A os w w1 := by
  obtain ⟨he, D', E', S', T', h2, hn, hw⟩ := hp
  have h1 := bk_lt h.kr; have h3 := bk_lt h.kf; have ho := h.ord
  have hl : Below BR w w1 := h.l.trans (hw.below (Nat.le_of_lt h1) fun k hk => by have := h.far k hk; omega)
  refine ⟨he, D', E', S', T', (hw.block _ h1 fun hs => Nat.lt_irrefl _ (h.far _ hs).1).trans h.kr, (hw.block _ h3 fun hs => (h.far _ hs).2 rfl).trans h.kf, h2, fun b hb => ?_, hl, h0.below (by rw [← h.at_]; exact hl), ho, h.at_⟩
  rcases hn b hb with hs | ht | hh
  · exact h.far b (.inl hs)
  · exact h.far b (.inr ht)
  · omega
/-- the cells of an act, and all that stands -/
def BoCells (BR BF f g : Nat) (A : Option Addr) (os : List OpR) (w : World) (b off i : Nat) (o : OpR) (A' : Option Addr) (c : Nat) (wr : World) : Prop :=
  wr.cell? ⟨BF, 0, none⟩ = some (.pointer (some ⟨f, 0, none⟩)) ∧ wr.cell? ⟨b, off + i * 8, none⟩ = some (.int .i64 o.kind) ∧ wr.cell? ⟨b, off + i * 8 + 1, none⟩ = some (.int .i64 o.which) ∧ wr.cell? ⟨b, off + i * 8 + 2, none⟩ = some (.int .i64 o.x) ∧ wr.cell? ⟨b, off + i * 8 + 3, none⟩ = some (.int .i64 o.y) ∧ wr.cell? ⟨b, off + i * 8 + 4, none⟩ = some (.int .u8 o.st) ∧ wr.cell? ⟨b, off + i * 8 + 5, none⟩ = some (.int .i64 o.sts) ∧ wr.cell? ⟨b, off + i * 8 + 6, none⟩ = some (.slice A' o.l.length c) ∧ wr.cell? ⟨b, off + i * 8 + 7, none⟩ = some (.bool o.on) ∧ BoX BR BF f g A os w wr
theorem BoX.cells {b off i c : Nat} {o : OpR} {A' : Option Addr} (h : BoX BR BF f g A os w wr) (h0 : OpAt w b off i o A' c) : BoCells BR BF f g A os w b off i o A' c wr := by
  obtain ⟨D, E, S, T, h⟩ := h
  have hO : OpAt wr b off i o A' c := h0.below (by rw [← h.at_]; exact h.l)
  exact ⟨bk_cell h.kf 0, hO.c0, hO.c1, hO.c2, hO.c3, hO.c4, hO.c5, hO.c6, hO.c7, D, E, S, T, h⟩
theorem heldBo {p0 p1 p2 p3 p4 p5 p6 p7 p8 : Prop} (h : p0 ∧ p1 ∧ p2 ∧ p3 ∧ p4 ∧ p5 ∧ p6 ∧ p7 ∧ p8 ∧ BoX BR BF f g A os w wr) : BoX BR BF f g A os w wr := h.2.2.2.2.2.2.2.2.2
theorem BoX.two {b off i c : Nat} {o : OpR} {A' : Option Addr} (h : BoX BR BF f g A os w wr) (hO : OpsAt w A os) (h0 : OpAt w b off i o A' c) :
    Calls Try.prog 18 #[.pointer (some ⟨f, 0, none⟩), .pointer (some ⟨g, 0, none⟩), .agg #[.int .i64 o.kind, .int .i64 o.which, .int .i64 o.x, .int .i64 o.y, .int .u8 o.st, .int .i64 o.sts, .slice A' o.l.length c, .bool o.on]] wr fun e w1 => e = .returned (.bool true) ∧ BoX BR BF f g A os w w1 := by
  obtain ⟨D, E, S, T, h⟩ := h
  exact (two_all (w0 := w) h.two (h0.below (by rw [← h.at_]; exact h.l))).mono fun e w1 hp => h.step hO hp
end
end Go.Proofs.Ytjhfiibfknhniaa
