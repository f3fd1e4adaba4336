/- The walk of the law CensusTurns. -/
import Derived.Test.YtbhacanijenbeaaCTurnsB
import Derived.Deep.QuietTactic
import Derived.BigQuiet
import Derived.Deep.RegionWith
set_option linter.unusedVariables false
set_option linter.unusedSimpArgs false
namespace Go.Proofs.Ytbhacanijenbeaa
open Go.RowKit Go.Viv
attribute [local go_sem] run_store_complex run_store_float

abbrev F64 : Ieee.Format := FloatKind.f64.format
theorem ord {x y : Nat} {a b : Int} (hx : IsW x a) (hy : IsW y b) : F64.order x y = some (compare a b) := isW_order hx hy
theorem inf_ord : F64.order 9218868437227405312 9218868437227405312 = some .eq := by decide
theorem one_quo : floatBits .quo .f64 4607182418800017408 0 = some 9218868437227405312 := by decide

theorem dN (w : World) (n : Nat) : Below w.heap.size w (w.drewN n) := ⟨rfl, rfl, rfl, Nat.le_refl _, fun _ _ => rfl⟩

set_option maxHeartbeats 1000000 in
theorem float_calls (n : Int) (w : World) (hn : n.natAbs ≤ 9007199254740992) : Calls Try.prog 10 #[.float .f64 (fl n), .float .f64 (fl n)] w (fun e w' => e = .returned (.bool true) ∧ w' = w) := by
  have h1 : F64.order (fl n) (fl n) = some .eq := by rw [show (some Ordering.eq) = some (compare n n) by simp]; exact ord (isW_fl n hn) (isW_fl n hn)
  by_cases h0 : n = 0
  · subst h0
    rw [fl_zero] at h1 ⊢
    have h2 := inf_ord
    have hq : ∀ w, (binOp .quo 32 (.float .f64 4607182418800017408) (.float .f64 0)).run Try.prog w = .ok (.float .f64 9218868437227405312) w := fun w => run_float_arith w .quo _ _ _ _ _ one_quo
    clear hn
    go_enter Try.func10, Try.ntmps10
    go_wp2
    go_ret
    exact ⟨rfl, rfl⟩
  · have h2 : F64.order (fl n) 0 = some (compare n 0) := ord (isW_fl n hn) (fl_zero ▸ isW_fl 0 (by decide))
    have hc : compare n 0 = .lt ∨ compare n 0 = .gt := by rw [Int.compare_eq_lt, Int.compare_eq_gt]; omega
    obtain ⟨y, hy⟩ : ∃ y, fl n = y := ⟨_, rfl⟩
    rw [hy] at h1 h2 ⊢
    clear hy hn h0
    rcases hc with hc | hc <;> rw [hc] at h2 <;> clear hc
    all_goals
      go_enter Try.func10, Try.ntmps10
      go_wp2
      go_ret
      exact ⟨rfl, rfl⟩

theorem ints_of {w : World} {base e g n cap : Nat} {l : List Int} (h : w.ownsRow base e 1 (.slice (some ⟨g, 0, none⟩) n cap) n (l.map (Value.int .i64))) : IntsAt w g 0 l := by
  intro j x hx
  have hl := h.1
  rw [List.length_map] at hl
  have hj : j < l.length := (List.getElem?_eq_some_iff.1 hx).1
  rw [Nat.zero_add, h.cellAt j (by omega), List.getElem?_map, hx]; rfl
theorem own_form {w : World} {base e size n : Nat} {v : Value} {xs : List Value} (h : w.ownsRow base e size v n xs) (hn : 0 < n) : ∃ g cap, v = .slice (some ⟨g, 0, none⟩) n cap := by
  rcases h.2 with ⟨_, h0⟩ | ⟨g, cap, _, hv, _⟩
  · omega
  · exact ⟨g, cap, hv⟩
theorem int_info : (Try.prog.info? 3).map (fun i => (i.zero, i.size, i.bytes)) = some (some (.int .i64 0), 1, 8) := by kernel_rfl
theorem app_ints {P : Program} {w : World} {ops : Array Oper} {rest : List Oper} {o : Oper} {a : Act} {Q : Exit → Act → World → Prop} (hgd : o.guard = none) (s x : Operand) (t : TypeId)
    (ho : o.op = .call { callee := .builtin .append, args := #[s, x], argTypes := #[t, t] })
    (e : TypeId) (ht : P.underlying t = some (.slice e)) (hinfo : (P.info? e).map (fun i => (i.zero, i.size, i.bytes)) = some (some (.int .i64 0), 1, 8))
    (hs : a.eval s = .slice none 0 0) (b off n c : Nat) (l : List Int) (hx : a.eval x = .slice (some ⟨b, off, none⟩) n c) (hn : l.length = n) (hpos : 0 < n) (hl : IntsAt w b off l) (hsz : n * 8 ≤ 140737488351232)
    (h : ∀ g cap w', IntsAt w' g 0 l → Below w.heap.size w w' → wpList P ops Q rest (a.put o.dst (.slice (some ⟨g, 0, none⟩) n cap)) w') : wpList P ops Q (o :: rest) a w := by
  obtain ⟨i, hi, hz, hs1, hb1⟩ := info_parts hinfo
  refine wpList_append_own w hgd s x t ho w.heap.size e i _ 1 8 ht hi hz hs1 hb1 rfl (by decide) _ 0 [] hs (World.ownsRow_nil _ _ _ _) ⟨b, off, none⟩ n c (l.map (Value.int .i64)) hx (by simp [hn]) ?_ ?_ (by unfold maxLen; omega) (by omega) (Nat.le_refl _) ?_
  · intro j u hu
    rw [List.getElem?_map] at hu
    cases hj : l[j]? with
    | none => rw [hj] at hu; cases hu
    | some y =>
      rw [hj] at hu
      obtain rfl : Value.int .i64 y = u := by simpa using hu
      have e : Addr.add ⟨b, off, none⟩ j = ⟨b, off + j, none⟩ := by simp [Addr.add]
      rw [e]
      exact hl j y hj
  · intro u hu
    obtain ⟨y, _, rfl⟩ := List.mem_map.1 hu
    rfl
  · intro v' w' hown hgr _
    rw [Nat.zero_add] at hown
    obtain ⟨g, cap, rfl⟩ := own_form hown hpos
    exact h g cap w' (ints_of hown) ((Below.refl _ _).grown hgr (Nat.le_refl _) (by intro k hk; cases hk))
theorem cTurns_calls (b off n c : Nat) (l : List Int) (w : World) (hn : l.length = n) (hl : IntsAt w b off l) :
    Calls Try.prog 9 #[.slice (some ⟨b, off, none⟩) n c] w (Ret (.tuple #[turnsV l, .int .i64 (turnsE l)]) w) := by
  by_cases h : n ≤ 4096
  · exact cTurns_few b off n c l w hn h hl
  · exact cTurns_many _ n c l w hn (by omega)
theorem rTurns_calls (b off n c : Nat) (l : List Int) (w : World) (hn : l.length = n) (hl : IntsAt w b off l) :
    Calls Try.prog 8 #[.slice (some ⟨b, off, none⟩) n c] w (Ret (.tuple #[reV l, imV l, .int .i64 (turnsE l)]) w) := by
  by_cases h : n ≤ 4096
  · exact rTurns_few b off n c l w hn h hl
  · exact rTurns_many _ n c l w hn (by omega)

set_option maxRecDepth 20000 in
set_option maxHeartbeats 2000000 in
theorem CensusTurns_some (b off n c : Nat) (l : List Int) (w : World) (hn : l.length = n) (hpos : 0 < n) (hsz : n * 8 ≤ 140737488351232) (hl : IntsAt w b off l) :
    Calls Try.prog 3 #[.slice (some ⟨b, off, none⟩) n c] w (Ret (.bool true) w) := by
  have t0 := turns_b l 0; have t1 := turns_b l 1; have t2 := turns_b l 2; have t3 := turns_b l 3
  have c1 := fun w hl => rTurns_calls b off n c l w hn hl
  have c2 := fun b c w hl => cTurns_calls b 0 n c l w hn hl
  unfold reV imV at c1
  unfold turnsV at c2
  obtain ⟨R0, hR0⟩ : ∃ R0, turnsR l 0 = R0 := ⟨_, rfl⟩
  obtain ⟨I0, hI0⟩ : ∃ I0, turnsI l 0 = I0 := ⟨_, rfl⟩
  rw [hR0, hI0] at t0
  obtain ⟨R1, hR1⟩ : ∃ R1, turnsR l 1 = R1 := ⟨_, rfl⟩
  obtain ⟨I1, hI1⟩ : ∃ I1, turnsI l 1 = I1 := ⟨_, rfl⟩
  rw [hR1, hI1] at t1
  obtain ⟨R2, hR2⟩ : ∃ R2, turnsR l 2 = R2 := ⟨_, rfl⟩
  obtain ⟨I2, hI2⟩ : ∃ I2, turnsI l 2 = I2 := ⟨_, rfl⟩
  rw [hR2, hI2] at t2
  obtain ⟨R3, hR3⟩ : ∃ R3, turnsR l 3 = R3 := ⟨_, rfl⟩
  obtain ⟨I3, hI3⟩ : ∃ I3, turnsI l 3 = I3 := ⟨_, rfl⟩
  rw [hR3, hI3] at t3
  obtain ⟨E, hE⟩ : ∃ E, turnsE l = E := ⟨_, rfl⟩
  rw [hR0, hR1, hR2, hR3, hI0, hI1, hI2, hI3, hE] at c1 c2
  have C1 := Lib.hid c1; have C2 := Lib.hid c2
  clear c1 c2 hR0 hR1 hR2 hR3 hI0 hI1 hI2 hI3 hE
  have f0 := fun w => float_calls R0 w t0.1; have f1 := fun w => float_calls R1 w t1.1; have f2 := fun w => float_calls R2 w t2.1; have f3 := fun w => float_calls R3 w t3.1
  have g0 := fun w => float_calls I0 w t0.2; have g1 := fun w => float_calls I1 w t1.2; have g2 := fun w => float_calls I2 w t2.2; have g3 := fun w => float_calls I3 w t3.2
  have F0 := Lib.hid f0; have F1 := Lib.hid f1; have F2 := Lib.hid f2; have F3 := Lib.hid f3; have G0 := Lib.hid g0; have G1 := Lib.hid g1; have G2 := Lib.hid g2; have G3 := Lib.hid g3
  clear f0 f1 f2 f3 g0 g1 g2 g3 t0 t1 t2 t3
  have HN := Lib.hid hn; clear hn
  have HL := Lib.hid hl; clear hl
  have hcv := conv_fl
  have hB := same w
  go_enter Try.func3, Try.ntmps3
  go_wp2_with (first | fail)
  refine (C1.out _ HL.out).mono ?_
  rintro e w1 ⟨rfl, hb1⟩
  replace hB := next hB hb1
  have hr0 : ((w1.alloc (.cells #[.int .i64 R0, .int .i64 R1, .int .i64 R2, .int .i64 R3] 23)).alloc (.cells #[.int .i64 I0, .int .i64 I1, .int .i64 I2, .int .i64 I3] 23)).heap[w1.heap.size]? = some (.cells #[.int .i64 R0, .int .i64 R1, .int .i64 R2, .int .i64 R3] 23 (0, 0)) := bk_alloc (bk_new _ _) _
  have hr1 : ((w1.alloc (.cells #[.int .i64 R0, .int .i64 R1, .int .i64 R2, .int .i64 R3] 23)).alloc (.cells #[.int .i64 I0, .int .i64 I1, .int .i64 I2, .int .i64 I3] 23)).heap[w1.heap.size + 1]? = some (.cells #[.int .i64 I0, .int .i64 I1, .int .i64 I2, .int .i64 I3] 23 (0, 0)) := bk_newn _ _ _ (by simp)
  have hb2 : Below w1.heap.size w1 ((w1.alloc (.cells #[.int .i64 R0, .int .i64 R1, .int .i64 R2, .int .i64 R3] 23)).alloc (.cells #[.int .i64 I0, .int .i64 I1, .int .i64 I2, .int .i64 I3] 23)) := (boxed _ _).alloc (by simp) _
  go_wp2_with (first | (at_builtin; (refine app_ints rfl (.tmp 17) (.tmp 18) 22 rfl 3 Try.underlying22 int_info (by rfl) b off n c l (by rfl) HN.out hpos (HL.out.below (hB.trans (hb2.mono hB.size))) hsz ?_); intro g cap w2 hg hb3) | fail)
  refine (C2.out _ _ _ hg).mono ?_
  rintro e w3 ⟨rfl, hb1⟩
  replace hb3 := next hb3 hb1
  replace hr0 := bk_below hr0 hb3; replace hr1 := bk_below hr1 hb3
  have HG := Lib.hid (hg.below hb1); clear hg
  have HL2 := Lib.hid (HL.out.below (hB.trans ((hb2.trans (hb3.mono hb2.size)).mono hB.size))); clear HL
  replace hB := hB.trans ((hb2.trans (hb3.mono hb2.size)).mono hB.size)
  clear hb1 hb2 hb3
  go_wp2_with (first | fail)
  have KV := bk_new w3 (.cells #[.complex .f64 (fl R0) (fl I0), .complex .f64 (fl R1) (fl I1), .complex .f64 (fl R2) (fl I2), .complex .f64 (fl R3) (fl I3)] 28)
  replace hr0 := bk_alloc hr0 (.cells #[.complex .f64 (fl R0) (fl I0), .complex .f64 (fl R1) (fl I1), .complex .f64 (fl R2) (fl I2), .complex .f64 (fl R3) (fl I3)] 28); replace hr1 := bk_alloc hr1 (.cells #[.complex .f64 (fl R0) (fl I0), .complex .f64 (fl R1) (fl I1), .complex .f64 (fl R2) (fl I2), .complex .f64 (fl R3) (fl I3)] 28)
  have HG3 := Lib.hid (HG.out.below (boxed w3 (.cells #[.complex .f64 (fl R0) (fl I0), .complex .f64 (fl R1) (fl I1), .complex .f64 (fl R2) (fl I2), .complex .f64 (fl R3) (fl I3)] 28))); have HL3 := Lib.hid (HL2.out.below (boxed w3 (.cells #[.complex .f64 (fl R0) (fl I0), .complex .f64 (fl R1) (fl I1), .complex .f64 (fl R2) (fl I2), .complex .f64 (fl R3) (fl I3)] 28)))
  replace hB := next hB (boxed w3 (.cells #[.complex .f64 (fl R0) (fl I0), .complex .f64 (fl R1) (fl I1), .complex .f64 (fl R2) (fl I2), .complex .f64 (fl R3) (fl I3)] 28))
  clear HG HL2
  generalize hWL : w3.alloc (.cells #[.complex .f64 (fl R0) (fl I0), .complex .f64 (fl R1) (fl I1), .complex .f64 (fl R2) (fl I2), .complex .f64 (fl R3) (fl I3)] 28) = WL at *
  clear hWL
  generalize w3.heap.size = gv at *
  generalize w1.heap.size = gr at *
  go_loopw [9] (fun i wr => ∃ j : Nat, i = .int .i64 j ∧ j ≤ n ∧ Below WL.heap.size WL wr) (fun i _ => n - (intOf i).toNat)
  case atStart => exact ⟨0, rfl, Nat.zero_le _, same _⟩
  obtain ⟨j, rfl, hj, hR⟩ := hrel
  by_cases hlt : j < n
  · obtain ⟨x, hx⟩ : ∃ x, l[j]? = some x := ⟨_, List.getElem?_eq_getElem (by rw [HN.out]; exact hlt)⟩
    have h1 : wr.cell? ⟨b, off + j, none⟩ = some (.int .i64 x) := cell_later hR (HL3.out j x hx)
    have h2 : wr.cell? ⟨g, j, none⟩ = some (.int .i64 x) := by have h_ := cell_later hR (HG3.out j x hx); rwa [Nat.zero_add] at h_
    clear hx
    go_wp2_with (first | fail)
    go_quiet (fail)
    go_wp2
    go_roundw
    case rel => exact ⟨j + 1, by go_num, by omega, by repeat (with_reducible (first | exact hR | refine Below.drew ?_ | refine below_drewN ?_ _))⟩
    case measure => simp [intOf]; omega
  · replace hr0 := bk_below hr0 hR; replace hr1 := bk_below hr1 hR; replace KV := bk_below KV hR
    replace hB := next hB hR
    have hc0 := bk_cell hr0; have hc1 := bk_cell hr1; have hcV := bk_cell KV
    go_wp2_with (first | fail)
    generalize hw0 : wr = W0 at *
    clear hw0
    refine wp_loop_rounds 5 ?_
    rw [rounds_succ]; go_wp2_with (first | fail)
    go_quiet (first | (go_at_call_of 10 (fl R0); (refine Calls.quiet_of_same (F0.out _))) | (go_at_call_of 10 (fl I0); (refine Calls.quiet_of_same (G0.out _))))
    go_wp2_with (first | fail)
    replace hB := next hB (dN W0 nq)
    replace hr0 := bk_drewN hr0 nq; replace hr1 := bk_drewN hr1 nq; replace KV := bk_drewN KV nq
    generalize hwk0 : World.drewN W0 nq = W1 at *
    clear hwk0 nq
    have hc0 := bk_cell hr0; have hc1 := bk_cell hr1; have hcV := bk_cell KV
    rw [rounds_succ]; go_wp2_with (first | fail)
    go_quiet (first | (go_at_call_of 10 (fl R1); (refine Calls.quiet_of_same (F1.out _))) | (go_at_call_of 10 (fl I1); (refine Calls.quiet_of_same (G1.out _))))
    go_wp2_with (first | fail)
    replace hB := next hB (dN W1 nq)
    replace hr0 := bk_drewN hr0 nq; replace hr1 := bk_drewN hr1 nq; replace KV := bk_drewN KV nq
    generalize hwk1 : World.drewN W1 nq = W2 at *
    clear hwk1 nq
    have hc0 := bk_cell hr0; have hc1 := bk_cell hr1; have hcV := bk_cell KV
    rw [rounds_succ]; go_wp2_with (first | fail)
    go_quiet (first | (go_at_call_of 10 (fl R2); (refine Calls.quiet_of_same (F2.out _))) | (go_at_call_of 10 (fl I2); (refine Calls.quiet_of_same (G2.out _))))
    go_wp2_with (first | fail)
    replace hB := next hB (dN W2 nq)
    replace hr0 := bk_drewN hr0 nq; replace hr1 := bk_drewN hr1 nq; replace KV := bk_drewN KV nq
    generalize hwk2 : World.drewN W2 nq = W3 at *
    clear hwk2 nq
    have hc0 := bk_cell hr0; have hc1 := bk_cell hr1; have hcV := bk_cell KV
    rw [rounds_succ]; go_wp2_with (first | fail)
    go_quiet (first | (go_at_call_of 10 (fl R3); (refine Calls.quiet_of_same (F3.out _))) | (go_at_call_of 10 (fl I3); (refine Calls.quiet_of_same (G3.out _))))
    go_wp2_with (first | fail)
    replace hB := next hB (dN W3 nq)
    replace hr0 := bk_drewN hr0 nq; replace hr1 := bk_drewN hr1 nq; replace KV := bk_drewN KV nq
    generalize hwk3 : World.drewN W3 nq = W4 at *
    clear hwk3 nq
    have hc0 := bk_cell hr0; have hc1 := bk_cell hr1; have hcV := bk_cell KV
    rw [rounds_succ]; go_wp2
    go_ret
    exact Ret.of (by simp) (by repeat (with_reducible (first | exact hB | refine Below.drew ?_ | refine below_drewN ?_ _)))

end Go.Proofs.Ytbhacanijenbeaa
