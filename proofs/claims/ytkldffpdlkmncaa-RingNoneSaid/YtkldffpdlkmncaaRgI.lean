/- RingNone: the walk. -/
import Derived.Test.YtkldffpdlkmncaaRgH
set_option linter.unusedVariables false
set_option linter.unusedSimpArgs false
namespace Go.Proofs.Ytkldffpdlkmncaa
open Go.RowKit Go.Viv

set_option maxRecDepth 20000 in
set_option maxHeartbeats 4000000 in
theorem RingNone_walk (w : World) {k W H t s : Int} (t0 : 0 ≤ t) : Calls Try.prog 3 #[topoV k W H t s] w (Ret (.bool true) w) := by
  have CB : Hid (∀ (q : Option Addr) w, NoneAt q w → Calls Try.prog 11 #[topoV k W H t s, .pointer q] w (Ret (.tuple #[.agg #[.int .i64 0, .int .i64 0, .slice none 0 0], .int .i64 1]) w)) := fun q w hq => rgBytes_err (fun w' hb => rgAsked_none (hq.below hb)) (by decide)
  have CR : Hid (∀ (q : Option Addr) w, NoneAt q w → Calls Try.prog 12 #[topoV k W H t s, .pointer q] w (Ret (.tuple #[.slice none 0 0, .int .i64 1]) w)) := fun q w hq => rgRows_err (fun w' hb => rgAsked_none (hq.below hb)) (by decide)
  have CS : Hid (∀ w, Calls Try.prog 13 #[.agg #[.int .i64 0, .int .i64 0, .slice none 0 0], .agg #[.int .i64 0, .int .i64 0, .slice none 0 0]] w (Ret (.bool true) w)) := fun w => by
    have := rgSame_calls (W := 0) (H := 0) (W' := 0) (H' := 0) (A := none) (A' := none) (n := 0) (c := 0) (n' := 0) (c' := 0) (la := []) (lb := []) (w := w) (Rd.nil _) rfl (Rd.nil _) rfl (by simp) (by simp)
    simpa using this
  have KT := Lib.hid (bk_new w (.cells #[.int .u8 k, .int .i64 W, .int .i64 H, .int .u8 t, .int .i64 s] 23))
  have HB := Lib.hid (boxed w (.cells #[.int .u8 k, .int .i64 W, .int .i64 H, .int .u8 t, .int .i64 s] 23))
  go_enter Try.func3, Try.ntmps3
  go_wp2_with (first | (go_at_call 10; ((with_reducible refine (alive14 _).mono ?_); rintro e w1 ⟨rfl, hb1⟩; have KT1 := Lib.hid (bk_alloc (bk_below KT.out hb1) (.cells #[.int .i64 0, .int .i64 0, .int .i64 0, .bool false, .nilIface] 31)); have HB1 := Lib.hid ((next HB.out hb1).alloc (next HB.out hb1).size (.cells #[.int .i64 0, .int .i64 0, .int .i64 0, .bool false, .nilIface] 31)); have KZ1 := Lib.hid (bk_new w1 (.cells #[.int .i64 0, .int .i64 0, .int .i64 0, .bool false, .nilIface] 31)); have kt1 := bk_cell KT1.out)))
  refine (CB.out none _ (.inl rfl)).mono ?_
  rintro e w2 ⟨rfl, hb⟩
  have KT2 := Lib.hid (bk_alloc (bk_below KT1.out hb) (.cells #[.int .i64 0, .int .i64 0, .slice none 0 0] 34))
  have KZ2 := Lib.hid (bk_alloc (bk_below KZ1.out hb) (.cells #[.int .i64 0, .int .i64 0, .slice none 0 0] 34))
  have HB2 := Lib.hid ((next HB1.out hb).alloc (next HB1.out hb).size (.cells #[.int .i64 0, .int .i64 0, .slice none 0 0] 34))
  have KA2 := Lib.hid (bk_new w2 (.cells #[.int .i64 0, .int .i64 0, .slice none 0 0] 34))
  have kt2 := bk_cell KT2.out
  clear hb KT1 KZ1 HB1 kt1
  go_wp2_with (first | fail)
  refine (CR.out none _ (.inl rfl)).mono ?_
  rintro e w3 ⟨rfl, hb⟩
  have KT3 := Lib.hid (bk_below KT2.out hb)
  have KZ3 := Lib.hid (bk_below KZ2.out hb)
  have KA3 := Lib.hid (bk_below KA2.out hb)
  have HB3 := Lib.hid (next HB2.out hb)
  have kt3 := bk_cell KT3.out
  clear hb KT2 KZ2 HB2 KA2 kt2
  go_wp2_with (first | fail)
  refine (CB.out _ _ (.inr ⟨_, rfl, KZ3.out⟩)).mono ?_
  rintro e w4 ⟨rfl, hb⟩
  have KT4 := Lib.hid (bk_alloc (bk_below KT3.out hb) (.cells #[.int .i64 0, .int .i64 0, .slice none 0 0] 34))
  have KZ4 := Lib.hid (bk_alloc (bk_below KZ3.out hb) (.cells #[.int .i64 0, .int .i64 0, .slice none 0 0] 34))
  have KA4 := Lib.hid (bk_alloc (bk_below KA3.out hb) (.cells #[.int .i64 0, .int .i64 0, .slice none 0 0] 34))
  have HB4 := Lib.hid ((next HB3.out hb).alloc (next HB3.out hb).size (.cells #[.int .i64 0, .int .i64 0, .slice none 0 0] 34))
  have KC4 := Lib.hid (bk_new w4 (.cells #[.int .i64 0, .int .i64 0, .slice none 0 0] 34))
  have kt4 := bk_cell KT4.out
  clear hb KT3 KZ3 HB3 KA3 kt3
  go_wp2_with (first | fail)
  refine (CR.out _ _ (.inr ⟨_, rfl, KZ4.out⟩)).mono ?_
  rintro e w5 ⟨rfl, hb⟩
  have KA5 := Lib.hid (bk_below KA4.out hb)
  have KC5 := Lib.hid (bk_below KC4.out hb)
  have HB5 := Lib.hid (next HB4.out hb)
  have ka5 := bk_cell KA5.out
  clear hb KT4 KZ4 HB4 KA4 KC4 kt4
  go_wp2_with (first | fail)
  refine (CS.out _).mono ?_
  rintro e w6 ⟨rfl, hb⟩
  have KC6 := Lib.hid (bk_below KC5.out hb)
  have HB6 := Lib.hid (next HB5.out hb)
  have kc6 := bk_cell KC6.out
  clear hb KA5 KC5 HB5 ka5
  go_wp2_with (first | fail)
  refine (CS.out _).mono ?_
  rintro e w7 ⟨rfl, hb⟩
  go_wp2
  go_ret
  exact Ret.of rfl (next HB6.out hb)
theorem RingNone_law (w : World) {k W H t s : Int} (bk : 0 ≤ k ∧ k ≤ 255) (bW : -9223372036854775808 ≤ W ∧ W ≤ 9223372036854775807) (bH : -9223372036854775808 ≤ H ∧ H ≤ 9223372036854775807) (bt : 0 ≤ t ∧ t ≤ 255) (bs : -9223372036854775808 ≤ s ∧ s ≤ 9223372036854775807) : Calls Try.prog 3 #[topoV k W H t s] w (Ret (.bool true) w) := RingNone_walk w bt.1
end Go.Proofs.Ytkldffpdlkmncaa
