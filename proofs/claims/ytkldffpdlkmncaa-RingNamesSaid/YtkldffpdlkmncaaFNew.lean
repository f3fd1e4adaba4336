/- Lay of any row; New; Clone. -/
import Derived.Test.YtkldffpdlkmncaaFLay
set_option linter.unusedVariables false
set_option linter.unusedSimpArgs false
namespace Go.Proofs.Ytkldffpdlkmncaa
open Go.RowKit

/-- what Lay comes to -/
def LayP (g : Nat) (D : FD) (S : Nat → Prop) (y : Int) (l : List Int) (w : World) (e : Ending) (w' : World) : Prop :=
  e = .returned (.int .i64 (layE D y l)) ∧ Fld g (D.lay y l) S w' ∧ Wrote S w w'
theorem Lay_calls {g : Nat} {D : FD} {S : Nat → Prop} {w : World} (y : Int) (A : Option Addr) (n c : Nat) (l : List Int) (h : Fld g D S w) (hn : l.length = n) (hnb : n ≤ 9223372036854775807) (hr : Rd w A (l.map (.int .u8))) (hbl : ∀ z ∈ l, 0 ≤ z ∧ z ≤ 255)
    (hA : 0 < n → ∃ b off, A = some ⟨b, off, none⟩ ∧ ¬ S b ∧ b < w.heap.size) :
    Calls Try.prog 38 #[.pointer (some ⟨g, 0, none⟩), .int .i64 y, .slice A n c] w (LayP g D S y l w) := by
  cases hy : hasB D.W D.H 0 y
  · refine (Lay_no y A n c h hy).mono fun e w' ⟨he, hb⟩ => ?_
    have e1 : layE D y l = 130 := by simp [layE, hy]
    exact ⟨by rw [e1]; exact he, by simp only [FD.lay, e1]; exact h.below hb, Wrote.of_below hb⟩
  · by_cases hl : n = D.W
    · obtain ⟨h1, h2, h3, h4⟩ := hasB_of hy
      obtain ⟨y, rfl⟩ := Int.eq_ofNat_of_zero_le h3
      obtain ⟨b, off, rfl, hb1, hb2⟩ := hA (by have := h.ok.w0; omega)
      subst hl
      refine (Lay_in y b off c l h (by omega) hn hr hbl hb1 hb2).mono fun e w' ⟨he, hf, hw⟩ => ?_
      have e1 : layE D y l = if allB D.St l then 0 else 7 := by simp [layE, hy, hn]
      refine ⟨by rw [e1]; exact he, ?_, hw⟩
      unfold FD.lay
      rw [e1]
      cases hb : allB D.St l
      · rw [hb] at hf; simpa using hf
      · rw [hb] at hf; simpa using hf
    · refine (Lay_len y A n c h hy hl hnb).mono fun e w' ⟨he, hb⟩ => ?_
      have e1 : layE D y l = 131 := by simp [layE, hy]; omega
      exact ⟨by rw [e1]; exact he, by simp only [FD.lay, e1]; exact h.below hb, Wrote.of_below hb⟩

theorem StoreAt.drew {pk : Bool} {gr W H : Nat} {f : Nat → Nat → Int} {G : Nat → Nat} {w : World} (h : StoreAt pk gr W H f G w) : StoreAt pk gr W H f G w.drew := h.keep fun _ _ => rfl
/-- a field just made -/
theorem Fld.made {D : FD} {gr c n₀ : Nat} {G : Nat → Nat} {w0 w1 : World} (hok : D.Ok) (hst : StoreAt D.pk gr D.W D.H D.f G w1) (hge : ∀ b, bytesS gr D.H G b → n₀ ≤ b) (hb : Below n₀ w0 w1) (hn : n₀ ≤ w1.heap.size) :
    ∃ S', Fld w1.heap.size D S' (w1.alloc (.cells #[.int .i64 D.W, .int .i64 D.H, .int .i64 D.St, .bool D.pk, .iface (stT D.pk) (.agg #[.slice (some ⟨gr, 0, none⟩) D.H c])] 31)) ∧ (∀ b, S' b → n₀ ≤ b) ∧
      Below n₀ w0 (w1.alloc (.cells #[.int .i64 D.W, .int .i64 D.H, .int .i64 D.St, .bool D.pk, .iface (stT D.pk) (.agg #[.slice (some ⟨gr, 0, none⟩) D.H c])] 31)) := by
  refine ⟨fun b => b = w1.heap.size ∨ bytesS gr D.H G b, ⟨gr, G, ⟨⟨c, bk_new w1 _⟩, hst.keep fun b hb => (boxed w1 _).block b (hst.lt b hb), hok⟩, fun b => Iff.rfl⟩, ?_, hb.alloc hn _⟩
  rintro b (rfl | hb)
  · exact hn
  · exact hge b hb
/-- what Clone comes to -/
def CloneP (D : FD) (w : World) (e : Ending) (w' : World) : Prop := ∃ g' S', e = .returned (.pointer (some ⟨g', 0, none⟩)) ∧ Fld g' D S' w' ∧ (∀ b, S' b → w.heap.size ≤ b) ∧ Below w.heap.size w w'

/-- what is wrong with a field's numbers -/
def newE (W H St : Int) (pk : Bool) : Int :=
  if W < 1 ∨ 65536 < W ∨ H < 1 ∨ 65536 < H ∨ St < 2 ∨ 256 < St then 2 else if pk = true ∧ 2 < St then 132 else if 1048576 < W * H then 4 else 0

set_option maxHeartbeats 1000000 in
theorem New_arg (W H St : Int) (pk : Bool) (w : World) (h : W < 1 ∨ 65536 < W ∨ H < 1 ∨ 65536 < H ∨ St < 2 ∨ 256 < St) :
    Calls Try.prog 26 #[.int .i64 W, .int .i64 H, .int .i64 St, .bool pk] w fun e w' => e = .returned (.tuple #[.pointer none, .int .i64 2]) ∧ w = w' := by
  by_cases h1 : W < 1
  · go_enter Try.func26, Try.ntmps26
    go_wp2
    go_ret2
    exact ⟨rfl, rfl⟩
  by_cases h2 : 65536 < W
  · go_enter Try.func26, Try.ntmps26
    go_wp2
    go_ret2
    exact ⟨rfl, rfl⟩
  by_cases h3 : H < 1
  · go_enter Try.func26, Try.ntmps26
    go_wp2
    go_ret2
    exact ⟨rfl, rfl⟩
  by_cases h4 : 65536 < H
  · go_enter Try.func26, Try.ntmps26
    go_wp2
    go_ret2
    exact ⟨rfl, rfl⟩
  by_cases h5 : St < 2
  · go_enter Try.func26, Try.ntmps26
    go_wp2
    go_ret2
    exact ⟨rfl, rfl⟩
  · have h6 : 256 < St := by omega
    clear h
    go_enter Try.func26, Try.ntmps26
    go_wp2
    go_ret2
    exact ⟨rfl, rfl⟩
set_option maxHeartbeats 1000000 in
theorem New_pack (W H St : Int) (w : World) (h1 : 1 ≤ W) (h2 : W ≤ 65536) (h3 : 1 ≤ H) (h4 : H ≤ 65536) (h5 : 2 < St) (h6 : St ≤ 256) :
    Calls Try.prog 26 #[.int .i64 W, .int .i64 H, .int .i64 St, .bool true] w fun e w' => e = .returned (.tuple #[.pointer none, .int .i64 132]) ∧ w = w' := by
  go_enter Try.func26, Try.ntmps26
  go_wp2
  go_ret2
  exact ⟨rfl, rfl⟩
theorem mul_le_big {W H : Int} (h1 : 1 ≤ W) (h2 : W ≤ 65536) (h3 : 1 ≤ H) (h4 : H ≤ 65536) : 0 ≤ W * H ∧ W * H ≤ 4294967296 := by
  have a := Int.mul_nonneg (show 0 ≤ W by omega) (show 0 ≤ H by omega)
  have b : W * H ≤ 65536 * 65536 := Int.mul_le_mul h2 h4 (by omega) (by omega)
  omega
set_option maxHeartbeats 1000000 in
theorem New_budget (W H St : Int) (pk : Bool) (w : World) (h1 : 1 ≤ W) (h2 : W ≤ 65536) (h3 : 1 ≤ H) (h4 : H ≤ 65536) (h5 : 2 ≤ St) (h6 : St ≤ 256) (hp : pk = true → St ≤ 2) (hb : 1048576 < W * H) :
    Calls Try.prog 26 #[.int .i64 W, .int .i64 H, .int .i64 St, .bool pk] w fun e w' => e = .returned (.tuple #[.pointer none, .int .i64 4]) ∧ w = w' := by
  obtain ⟨m1, m2⟩ := mul_le_big h1 h2 h3 h4
  cases pk
  · clear hp
    go_enter Try.func26, Try.ntmps26
    go_wp2
    go_ret2
    exact ⟨rfl, rfl⟩
  · have := hp rfl
    clear hp
    go_enter Try.func26, Try.ntmps26
    go_wp2
    go_ret2
    exact ⟨rfl, rfl⟩

def zeroD (W H : Nat) (St : Int) (pk : Bool) : FD := ⟨W, H, St, pk, fun _ _ => 0⟩
/-- what New comes to, if it makes a field -/
def NewP (W H : Nat) (St : Int) (pk : Bool) (w : World) (e : Ending) (w' : World) : Prop := ∃ g' S', e = .returned (.tuple #[.pointer (some ⟨g', 0, none⟩), .int .i64 0]) ∧ Fld g' (zeroD W H St pk) S' w' ∧ (∀ b, S' b → w.heap.size ≤ b) ∧ Below w.heap.size w w'

set_option maxRecDepth 20000 in
set_option maxHeartbeats 3000000 in
theorem New_yes (W H : Nat) (St : Int) (pk : Bool) (w : World) (h1 : 1 ≤ W) (h2 : W ≤ 65536) (h3 : 1 ≤ H) (h4 : H ≤ 65536) (h5 : 2 ≤ St) (h6 : St ≤ 256) (hp : pk = true → St ≤ 2) (hb : W * H ≤ 1048576) :
    Calls Try.prog 26 #[.int .i64 W, .int .i64 H, .int .i64 St, .bool pk] w (NewP W H St pk w) := by
  have m0 : ((W * H : Nat) : Int) ≤ 1048576 := by omega
  rw [Int.natCast_mul] at m0
  have m1 := mul_le_big (W := W) (H := H) (by omega) (by omega) (by omega) (by omega)
  have hok : (zeroD W H St pk).Ok := ⟨by show 0 < W; omega, h2, by show 0 < H; omega, h4, hb, h5, h6, hp, fun _ _ _ _ => ⟨by show (0 : Int) ≤ 0; omega, by show (0 : Int) < St; omega⟩⟩
  have HK := Lib.hid hok; clear hok
  have KS := bk_new w (.cells #[.int .i64 W, .int .i64 H, .int .i64 St] 27)
  have hcS := bk_cell KS
  have hbS := boxed w (.cells #[.int .i64 W, .int .i64 H, .int .i64 St] 27)
  have HP := Lib.hid hp; clear hp
  cases pk
  all_goals
    try (have hp2 := HP.out rfl)
    go_enter Try.func26, Try.ntmps26
    go_wp2_with (first | fail)
    go_region_held3 (fun w' => w'.cell? ⟨w.heap.size, 0, none⟩ = some (.int .i64 W) ∧ w'.cell? ⟨w.heap.size, 1, none⟩ = some (.int .i64 H) ∧ w'.cell? ⟨w.heap.size, 2, none⟩ = some (.int .i64 St))
      (first | go_keep)
      (first | (go_at_call 56; refine (store_fresh _ W H St _ h1 h2 h3 h4).mono ?_; rintro e w1 ⟨gr', c', G', rfl, hst, hge, hb1⟩; have hc1 := bk_cell (bk_below (bk_drew KS) hb1)))
    have hB := hbS.drew.trans (hb1.mono (by simp))
    obtain ⟨S', r1, r2, r3⟩ := Fld.made (c := c') (n₀ := w.heap.size) HK.out hst (fun b hb => by have := hge b hb; simp at this; omega) hB hB.size
    have r1 := Lib.hid r1
    clear hst hge hc1
    go_wp2
    go_ret2
    exact ⟨_, S', rfl, r1.out, r2, r3⟩
end Go.Proofs.Ytkldffpdlkmncaa
