/- Scripts of acts on two fields, as they lie in memory. -/
import Derived.Test.YtjhfiibfknhniaaRd
set_option linter.unusedVariables false
set_option linter.unusedSimpArgs false
namespace Go.Proofs.Ytjhfiibfknhniaa
open Go.RowKit

/-- an act -/
structure OpR where
  kind : Int
  which : Int
  x : Int
  y : Int
  st : Int
  sts : Int
  l : List Int
  on : Bool
deriving Inhabited
def opV (o : OpR) (A : Option Addr) (c : Nat) : List Value := [.int .i64 o.kind, .int .i64 o.which, .int .i64 o.x, .int .i64 o.y, .int .u8 o.st, .int .i64 o.sts, .slice A o.l.length c, .bool o.on]
structure OpAt (w : World) (b off i : Nat) (o : OpR) (A : Option Addr) (c : Nat) : Prop where
  c0 : w.cell? ⟨b, off + i * 8, none⟩ = some (.int .i64 o.kind)
  c1 : w.cell? ⟨b, off + i * 8 + 1, none⟩ = some (.int .i64 o.which)
  c2 : w.cell? ⟨b, off + i * 8 + 2, none⟩ = some (.int .i64 o.x)
  c3 : w.cell? ⟨b, off + i * 8 + 3, none⟩ = some (.int .i64 o.y)
  c4 : w.cell? ⟨b, off + i * 8 + 4, none⟩ = some (.int .u8 o.st)
  c5 : w.cell? ⟨b, off + i * 8 + 5, none⟩ = some (.int .i64 o.sts)
  c6 : w.cell? ⟨b, off + i * 8 + 6, none⟩ = some (.slice A o.l.length c)
  c7 : w.cell? ⟨b, off + i * 8 + 7, none⟩ = some (.bool o.on)
  r : Rd w A (o.l.map (.int .u8))
  a : 0 < o.l.length → ∃ b off, A = some ⟨b, off, none⟩
  n : o.l.length ≤ 140737488351232
  bl : ∀ z ∈ o.l, 0 ≤ z ∧ z ≤ 255
  bx : -9223372036854775808 ≤ o.x ∧ o.x ≤ 9223372036854775807
  bY : -9223372036854775808 ≤ o.y ∧ o.y ≤ 9223372036854775807
  bs : 0 ≤ o.st ∧ o.st ≤ 255
theorem OpAt.below {w w' : World} {b off i c : Nat} {o : OpR} {A : Option Addr} (h : OpAt w b off i o A c) (hb : Below w.heap.size w w') : OpAt w' b off i o A c :=
  ⟨cell_later hb h.c0, cell_later hb h.c1, cell_later hb h.c2, cell_later hb h.c3, cell_later hb h.c4, cell_later hb h.c5, cell_later hb h.c6, cell_later hb h.c7, h.r.below hb, h.a, h.n, h.bl, h.bx, h.bY, h.bs⟩
/-- at A lies a script -/
def OpsAt (w : World) (A : Option Addr) (os : List OpR) : Prop := 0 < os.length → ∃ b off, A = some ⟨b, off, none⟩ ∧ ∀ (i : Nat) o, os[i]? = some o → ∃ A' c, OpAt w b off i o A' c
theorem OpsAt.below {w w' : World} {A : Option Addr} {os : List OpR} (h : OpsAt w A os) (hb : Below w.heap.size w w') : OpsAt w' A os := fun hp => by
  obtain ⟨b, off, e, h⟩ := h hp
  exact ⟨b, off, e, fun i o ho => by obtain ⟨A', c, h⟩ := h i o ho; exact ⟨A', c, h.below hb⟩⟩
end Go.Proofs.Ytjhfiibfknhniaa
