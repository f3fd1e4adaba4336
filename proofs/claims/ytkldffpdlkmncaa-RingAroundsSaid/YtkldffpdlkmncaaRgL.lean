/- ring: full, long, only. -/
import Derived.Test.YtkldffpdlkmncaaRgJ
set_option linter.unusedVariables false
set_option linter.unusedSimpArgs false
namespace Go.Proofs.Ytkldffpdlkmncaa
open Go.RowKit Go.Viv

/-- cells of a block, all of one kind from off on -/
def FullP (B off n : Nat) (cur : Array Value) (m : Int) (w : World) (e : Ending) (w' : World) : Prop :=
  e = .returned (.tuple #[]) ∧ (∃ cur', w'.heap[B]? = some (.cells cur' 5 (0, 0)) ∧ cur'.size = cur.size ∧ ∀ i, i < cur.size → cur'[i]? = if off ≤ i ∧ i < off + n then some (.int .u8 m) else cur[i]?) ∧ Wrote (fun b => b = B) w w'
set_option maxHeartbeats 2000000 in
theorem lfull_calls {B off n c : Nat} {cur : Array Value} {m : Int} {w : World} (hK : w.heap[B]? = some (.cells cur 5 (0, 0))) (hn : off + n ≤ cur.size) (hnb : n ≤ 4611686018427387904) :
    Calls Try.prog 18 #[.slice (some ⟨B, off, none⟩) n c, .int .u8 m] w (FullP B off n cur m w) := by
  go_enter Try.func18, Try.ntmps18
  go_wp2_with (first | fail)
  go_loopw [4] (fun vi wr => ∃ i : Nat, vi = .int .i64 (i : Int) ∧ i ≤ n ∧ Hid (∃ cur', wr.heap[B]? = some (.cells cur' 5 (0, 0)) ∧ cur'.size = cur.size ∧ ∀ k, k < cur.size → cur'[k]? = if off ≤ k ∧ k < off + i then some (.int .u8 m) else cur[k]?) ∧ Hid (Wrote (fun b => b = B) w wr)) (fun vi _ => n - (intOf vi).toNat)
  case atStart => exact ⟨0, rfl, by omega, ⟨cur, hK, rfl, fun k _ => by rw [if_neg (by omega)]⟩, Wrote.refl _ _⟩
  obtain ⟨i, rfl, hi, HK, HW⟩ := hrel
  by_cases hlt : i < n
  · have hii : (i : Int) < (n : Int) := by omega
    obtain ⟨cur', hc, hs, hq⟩ := HK.out
    have hlt2 : off + i < cur'.size := by omega
    have kc := bk_cell hc (off + i)
    rw [Array.getElem?_eq_getElem hlt2] at kc
    have kf := bk_free hc (off + i)
    have HK2 : Hid (∃ cur', (wr.setCell ⟨B, off + i, none⟩ (.int .u8 m)).heap[B]? = some (.cells cur' 5 (0, 0)) ∧ cur'.size = cur.size ∧ ∀ k, k < cur.size → cur'[k]? = if off ≤ k ∧ k < off + (i + 1) then some (.int .u8 m) else cur[k]?) := by
      refine ⟨_, bk_set hc _ _, by simpa using hs, fun k hk => ?_⟩
      by_cases e : k = off + i
      · subst e
        rw [if_pos (by omega)]
        exact Array.getElem?_setIfInBounds_self_of_lt hlt2
      · rw [Array.getElem?_setIfInBounds_ne (by omega), hq k hk]
        by_cases h1 : off ≤ k ∧ k < off + i
        · rw [if_pos h1, if_pos (by omega)]
        · rw [if_neg h1, if_neg (by omega)]
    have HW2 := Lib.hid (HW.out.setCell (p := ⟨B, off + i, none⟩) (.inl rfl) (.int .u8 m))
    clear hc hs hq HK hK
    go_wp2
    go_roundw
    case rel => exact ⟨i + 1, by first | rfl | go_num, by omega, HK2, HW2⟩
    case measure => simp [intOf]; omega
  · obtain rfl : i = n := by omega
    clear hK
    go_wp2
    go_end0
    exact ⟨rfl, HK.out, HW.out⟩
theorem lfull_nil (c : Nat) (A : Option Addr) (m : Int) (w : World) : Calls Try.prog 18 #[.slice A 0 c, .int .u8 m] w (fun e w' => e = .returned (.tuple #[]) ∧ w = w') := by
  go_enter Try.func18, Try.ntmps18
  go_wp2_with (first | fail)
  go_loopw [4] (fun vi wr => vi = .int .i64 0 ∧ wr = w) (fun vi _ => 0)
  case atStart => exact ⟨rfl, rfl⟩
  obtain ⟨rfl, rfl⟩ := hrel
  go_wp2
  go_end0
  exact ⟨rfl, rfl⟩

set_option maxHeartbeats 2000000 in
theorem lonly_calls {A : Option Addr} {n c : Nat} {m : Int} {w : World} (hR : Rd w A (List.replicate n (.int .u8 m))) (hnb : n ≤ 4611686018427387904) :
    Calls Try.prog 20 #[.slice A n c, .int .u8 m] w (Ret (.bool true) w) := by
  have HR := Lib.hid hR
  clear hR
  go_enter Try.func20, Try.ntmps20
  go_wp2_with (first | fail)
  go_loopw [5] (fun vi wr => ∃ i : Nat, vi = .int .i64 (i : Int) ∧ i ≤ n ∧ wr = w) (fun vi _ => n - (intOf vi).toNat)
  case atStart => exact ⟨0, rfl, by omega, rfl⟩
  obtain ⟨i, rfl, hi, rfl⟩ := hrel
  by_cases hlt : i < n
  · have hii : (i : Int) < (n : Int) := by omega
    obtain ⟨b, off, rfl⟩ := ar_some HR.out (by simp; omega)
    have kc := HR.out.at_ i (.int .u8 m) (by simp [hlt])
    go_wp2
    go_roundw
    case rel => exact ⟨i + 1, by first | rfl | go_num, by omega, trivial⟩
    case measure => simp [intOf]; omega
  · obtain rfl : i = n := by omega
    go_wp2
    go_ret
    exact Ret.of rfl (Below.refl _ _)

/-- what long comes to -/
def LongP (base n : Nat) (v : Value) (xs : List Value) (m : Int) (w : World) (e : Ending) (w' : World) : Prop :=
  ∃ v', e = .returned v' ∧ w'.ownsRow base 5 1 v' (n + 40) (xs ++ List.replicate 40 (.int .u8 m)) ∧ Below base w w' ∧ (∀ b, b < w.heap.size → some b ≠ v.ownBlock → w'.heap[b]? = w.heap[b]?) ∧ w.heap.size ≤ w'.heap.size
set_option maxRecDepth 20000 in
set_option maxHeartbeats 4000000 in
theorem llong_calls {base n : Nat} {v : Value} {xs : List Value} {m : Int} {w : World} (hO : w.ownsRow base 5 1 v n xs) (hb : base ≤ w.heap.size) (hn : n ≤ 1000) :
    Calls Try.prog 19 #[v, .int .u8 m] w (LongP base n v xs m w) := by
  have HO := Lib.hid hO
  clear hO
  go_enter Try.func19, Try.ntmps19
  go_wp2_with (first | fail)
  go_loopw [0, 5] (fun l vi wr => ∃ i : Nat, vi = .int .i64 (i : Int) ∧ i ≤ 40 ∧ Hid (wr.ownsRow base 5 1 l (n + i) (xs ++ List.replicate i (.int .u8 m))) ∧ Hid (Below base w wr) ∧ Hid (∀ b, b < w.heap.size → some b ≠ v.ownBlock → wr.heap[b]? = w.heap[b]? ∧ some b ≠ l.ownBlock) ∧ Hid (w.heap.size ≤ wr.heap.size)) (fun _ vi _ => 40 - (intOf vi).toNat)
  case atStart => exact ⟨0, rfl, by omega, by show World.ownsRow _ _ _ _ _ _ _; simpa using HO.out, Below.refl _ _, fun b _ h => ⟨rfl, h⟩, Nat.le_refl _⟩
  clear HO
  obtain ⟨i, rfl, hi, HO, HB, HF, HS⟩ := hrel
  by_cases hlt : i < 40
  · have hii : (i : Int) < 40 := by omega
    have HO2 := Lib.hid (own_below HO.out (boxed wr (.cells #[.int .u8 m] 5)))
    have KN := Lib.hid (bk_new wr (.cells #[.int .u8 m] 5))
    have hbs : base ≤ (wr.alloc (.cells #[.int .u8 m] 5)).heap.size := by have := HS.out; simp; omega
    obtain ⟨inf, hinf, hz, hs1, hb1⟩ := info_parts u8info
    go_wp2_with (first | (at_builtin; (refine wpList_append_lies _ rfl (.tmp 10) (.tmp 12) 32 rfl base 5 inf _ 1 1 Try.underlying32 hinf hz hs1 hb1 rfl (by decide) _ (n + i) _ (by rfl) HO2.out ⟨wr.heap.size, 0, none⟩ 1 1 [.int .u8 m] (by rfl) rfl (news_at KN.out) (by intro z hz; simp at hz; subst hz; rfl) (by decide) (by unfold maxLen; omega) (by omega) hbs _ rfl ?_); intro g cap w3 hown3 hgr3 hat3 hlt3))
    have HO4 : Hid (w3.ownsRow base 5 1 (.slice (some ⟨g, 0, none⟩) (n + i + 1) cap) (n + (i + 1)) (xs ++ List.replicate (i + 1) (.int .u8 m))) := by
      show World.ownsRow _ _ _ _ _ _ _
      rw [List.replicate_succ', ← List.append_assoc]
      exact hown3
    have HB4 := Lib.hid ((HB.out.trans ((boxed wr (.cells #[.int .u8 m] 5)).mono (Nat.le_trans hb HS.out))).grown hgr3 hbs (own_block HO2.out))
    have HF4 : Hid (∀ b, b < w.heap.size → some b ≠ v.ownBlock → w3.heap[b]? = w.heap[b]? ∧ some b ≠ (Value.slice (some ⟨g, 0, none⟩) (n + i + 1) cap).ownBlock) := fun b h1 h2 => by
      obtain ⟨f1, f2⟩ := HF.out b h1 h2
      have hs := HS.out
      refine ⟨?_, ?_⟩
      · rw [hgr3.block b (by simp; omega) f2, ← f1]
        exact (boxed wr (.cells #[.int .u8 m] 5)).block b (by omega)
      · intro he
        have he : b = g := by simpa [Value.ownBlock] using he
        rcases hat3 with h | h
        · exact f2 (by rw [h, he])
        · simp at h; omega
    have HS4 : Hid (w.heap.size ≤ w3.heap.size) := by have := HS.out; have := hgr3.size; simp at this; show _ ≤ _; omega
    clear hown3 hgr3 hat3 hlt3 HF HB HO HO2 KN
    go_wp2_with (first | fail)
    go_roundw
    case rel => exact ⟨i + 1, by first | rfl | go_num, by omega, HO4, HB4, HF4, HS4⟩
    case measure => simp [intOf]; omega
  · obtain rfl : i = 40 := by omega
    go_wp2
    go_ret
    exact ⟨_, rfl, HO.out, HB.out, fun b h1 h2 => (HF.out b h1 h2).1, HS.out⟩
end Go.Proofs.Ytkldffpdlkmncaa
