/- RingArounds: the walk. -/
import Derived.Test.YtkldffpdlkmncaaRgN
set_option linter.unusedVariables false
set_option linter.unusedSimpArgs false
namespace Go.Proofs.Ytkldffpdlkmncaa
open Go.RowKit Go.Viv

theorem own_posB {w : World} {base n : Nat} {e : TypeId} {v : Value} {xs : List Value} (h : w.ownsRow base e 1 v n xs) (hp : 0 < n) : ∃ g cap, v = .slice (some ⟨g, 0, none⟩) n cap ∧ base ≤ g ∧ n ≤ cap ∧ ∃ cur : Array Value, w.heap[g]? = some (.cells cur e (0, 0)) ∧ n ≤ cur.size ∧ ∀ i, i < n → cur[i]? = xs[i]? := by
  rcases h.2 with ⟨_, h0⟩ | ⟨g, cap, cur, rfl, hb, hg, hnc, hcm, hsz, ht⟩
  · omega
  · refine ⟨g, cap, rfl, hb, hnc, cur, hg, by omega, fun i hi => ?_⟩
    rw [← ht, List.getElem?_take_of_lt (by omega)]
    simp
set_option maxRecDepth 20000 in
set_option maxHeartbeats 8000000 in
theorem RingArounds_walk (w : World) {W H : Int} {A : Option Addr} {n c : Nat} {cells : List Int} {k X Y : Int} (hl : cells.length = n) (hnb : n ≤ 140737488351232) (hr : Rd w A (cells.map (.int .u8))) (hz : ∀ z ∈ cells, 0 ≤ z ∧ z ≤ 255) :
    Calls Try.prog 4 #[.agg #[.int .i64 W, .int .i64 H, .slice A n c], .int .u8 k, .int .i64 X, .int .i64 Y] w (Ret (.bool true) w) := by
  have KX := Lib.hid (bk_new w (.cells #[.int .i64 W, .int .i64 H, .slice A n c] 34))
  have HB0 := Lib.hid (boxed w (.cells #[.int .i64 W, .int .i64 H, .slice A n c] 34))
  have HR0 := Lib.hid (hr.below HB0.out)
  have HRw := Lib.hid hr
  have HZ := Lib.hid hz; have HL := Lib.hid hl
  have HA1 : Hid (∀ u ∈ cells.map (Value.int .u8), u.oneCell' = true) := fun u hu => by obtain ⟨z, _, rfl⟩ := List.mem_map.1 hu; rfl
  have hml : (cells.map (Value.int .u8)).length = n * 1 := by simp [hl]
  have HML := Lib.hid hml
  clear hr hz hl hml
  go_enter Try.func4, Try.ntmps4
  go_wp2_with (first
    | (go_at_call 10; ((with_reducible refine (alive14 _).mono ?_); rintro e w1 ⟨rfl, hb1⟩; have KX1 := Lib.hid (bk_below KX.out hb1); have HB1 := Lib.hid (next HB0.out hb1); have HR1 := Lib.hid (HR0.out.below hb1); have kx1 := bk_cell KX1.out))
    | (at_builtin; (refine app_rd rfl (.tmp 22) (.tmp 24) 32 rfl w.heap.size 5 _ 1 1 Try.underlying32 u8info rfl (by decide) _ 0 [] (by rfl) (World.ownsRow_nil _ _ _ _) A n c (cells.map (.int .u8)) (by rfl) HR1.out HML.out HA1.out (by unfold maxLen; omega) (by omega) HB1.out.size ?_); intro v1 w2 hown1 hbb1 hgr1; simp only [Nat.zero_add, List.nil_append] at hown1; have KX2 := Lib.hid ((hgr1.block _ (bk_lt KX1.out) (by simp [Value.ownBlock])).trans KX1.out); have HB2 := Lib.hid (HB1.out.trans hbb1); have HR2 := Lib.hid (HR1.out.below (below_of_nil hgr1)); have HO1 := Lib.hid hown1; have HO1b := Lib.hid (own_below hown1 (boxed w2 (.cells #[.int .u8 201, .int .u8 202] 5))); have HRb := Lib.hid (Rd.of_block (xs := [.int .u8 201, .int .u8 202]) (bk_new w2 (.cells #[.int .u8 201, .int .u8 202] 5)) (fun j u hu => by simpa using hu)); have KX3 := Lib.hid (bk_alloc KX2.out (.cells #[.int .u8 201, .int .u8 202] 5)); have HB3 := Lib.hid (HB2.out.alloc HB2.out.size (.cells #[.int .u8 201, .int .u8 202] 5)); have HR3 := Lib.hid (HR2.out.below (boxed w2 (.cells #[.int .u8 201, .int .u8 202] 5))))
    | (at_builtin; (refine app_rd rfl (.tmp 26) (.tmp 27) 32 rfl w.heap.size 5 _ 1 1 Try.underlying32 u8info rfl (by decide) _ n _ (by rfl) HO1b.out (some ⟨w2.heap.size, 0, none⟩) 2 2 _ (by rfl) HRb.out rfl (by intro z hz; simp at hz; rcases hz with rfl | rfl <;> rfl) (by unfold maxLen; omega) (by omega) HB3.out.size ?_); intro v2 w3 hown2 hbb2 hgr2; obtain ⟨g2, cap2, rfl, hg2, hcap2, hrow2⟩ := own_posB hown2 (by omega))
    | fail)
  have HB4 := Lib.hid (HB3.out.trans hbb2)
  have KX4 := Lib.hid ((hgr2.block _ (bk_lt KX3.out) (own_ne HO1b.out KX3.out (by decide))).trans KX3.out)
  have kx4 := bk_cell KX4.out
  have kx4z := bk_cell (bk_alloc KX4.out (.cells #[.int .i64 0, .int .i64 0, .slice none 0 0] 34))
  have hcz : (n : Int) ≤ (cap2 : Int) := by omega
  obtain ⟨cur2, hk2, hs2, hq2⟩ := hrow2
  have hsz4 := HB4.out.size
  have KG5 := Lib.hid (bk_drew (bk_alloc hk2 (.cells #[.int .i64 W, .int .i64 H, .slice (some ⟨g2, 0, none⟩) n cap2] 34)))
  have KX5 := Lib.hid (bk_drew (bk_alloc KX4.out (.cells #[.int .i64 W, .int .i64 H, .slice (some ⟨g2, 0, none⟩) n cap2] 34)))
  have HB5 := Lib.hid ((HB4.out.alloc HB4.out.size (.cells #[.int .i64 W, .int .i64 H, .slice (some ⟨g2, 0, none⟩) n cap2] 34)).drew)
  have KO5 := Lib.hid (bk_drew (bk_new w3 (.cells #[.int .i64 W, .int .i64 H, .slice (some ⟨g2, 0, none⟩) n cap2] 34)))
  have HS2 := Lib.hid hs2
  have HQ2 : Hid ((∀ i, i < n → cur2[i]? = (cells.map (Value.int .u8))[i]?) ∧ cur2[n]? = some (.int .u8 201) ∧ cur2[n + 1]? = some (.int .u8 202)) := by
    have hl := HL.out
    refine ⟨fun i hi => ?_, ?_, ?_⟩
    · rw [hq2 i (by omega), List.getElem?_append_left (by simp; omega)]
    · rw [hq2 n (by omega), List.getElem?_append_right (by simp; omega)]; simp [hl]
    · rw [hq2 (n + 1) (by omega), List.getElem?_append_right (by simp; omega)]; simp [hl]
  have HG2 := Lib.hid hg2
  clear KX HB0 HR0 KX1 HB1 HR1 hb1 hown1 hbb1 hgr1 KX2 HB2 HR2 kx1 HO1b HRb KX3 HB3 HR3 hown2 hbb2 hgr2 hs2 hq2 hk2 hg2
  go_region
  clear kx4 kx4z
  generalize (w3.alloc (.cells #[.int .i64 W, .int .i64 H, .slice (some ⟨g2, 0, none⟩) n cap2] 34)).drew = W5 at *
  obtain ⟨BO, hBO⟩ : ∃ BO, w3.heap.size = BO := ⟨_, rfl⟩
  rw [hBO] at KO5
  try rw [hBO]
  clear hBO KX4 HB4 hsz4
  have kx5 := bk_cell KX5.out
  have HRg : Hid (Rd W5 (some ⟨g2, 0, none⟩) (cells.map (.int .u8))) := Rd.of_block KG5.out fun j u hu => by
    have hj : j < n := by have := (List.getElem?_eq_some_iff.1 hu).1; simpa [HL.out] using this
    rw [HQ2.out.1 j hj]; exact hu
  obtain ⟨E, hE⟩ : ∃ E, arE W H n k X Y = E := ⟨_, rfl⟩
  obtain ⟨L, hL⟩ : ∃ L, arA cells W H n k X Y = L := ⟨_, rfl⟩
  obtain ⟨D, hD⟩ : ∃ D, rgChE W H n = D := ⟨_, rfl⟩
  have hL8 : L.length ≤ 8 := by rw [← hL]; exact arA_len _ _ _ _ _ _ _
  have HLB : Hid (∀ z ∈ L, 0 ≤ z ∧ z ≤ 255) := by show ∀ z ∈ L, _; rw [← hL]; exact arA_bd HZ.out
  have CW : Hid (∀ w', Rd w' A (cells.map (.int .u8)) → Calls Try.prog 14 #[.agg #[.int .i64 W, .int .i64 H, .slice A n c], .int .u8 k, .int .i64 X, .int .i64 Y] w' (AnsP L E w')) := fun w' h => by have := rRAround_any (W := W) (H := H) (k := k) (x := X) (y := Y) (c := c) h HL.out; rwa [hE, hL] at this
  have CG : Hid (∀ (w' : World) (a : Option Addr) (c' : Nat), Rd w' a (cells.map (.int .u8)) → Calls Try.prog 16 #[.agg #[.int .i64 W, .int .i64 H, .slice a n c'], .int .u8 k, .int .i64 X, .int .i64 Y] w' (AnsP L E w')) := fun w' a c' h => by have := rgAround_any (W := W) (H := H) (k := k) (x := X) (y := Y) (c := c') h HL.out; rwa [hE, hL] at this
  have CC : Hid (∀ (w' : World) (a : Option Addr) (c' : Nat), Calls Try.prog 15 #[.agg #[.int .i64 W, .int .i64 H, .slice a n c']] w' (Ret (.int .i64 D) w')) := fun w' a c' => by have := rgCheck_calls W H a n c' w'; rwa [hD] at this
  have CR : Hid (∀ (w' : World) (a : Option Addr) (c' : Nat), Calls Try.prog 17 #[.agg #[.int .i64 W, .int .i64 H, .slice a n c']] w' (Ret (.int .i64 D) w')) := fun w' a c' => by have := rgRCheck_calls W H a n c' w'; rwa [hD] at this
  have CS : Hid (∀ (w' : World) (a a' : Option Addr) (c' c'' : Nat), Rd w' a (cells.map (.int .u8)) → Rd w' a' (cells.map (.int .u8)) → Calls Try.prog 13 #[.agg #[.int .i64 W, .int .i64 H, .slice a n c'], .agg #[.int .i64 W, .int .i64 H, .slice a' n c'']] w' (Ret (.bool true) w')) := fun w' a a' c' c'' h h' => by
    have := rgSame_calls (W := W) (H := H) (W' := W) (H' := H) (c := c') (c' := c'') h HL.out h' HL.out HZ.out HZ.out
    simpa using this
  have HRG : Hid (∀ w', w'.heap[g2]? = some (.cells cur2 5 (0, 0)) → Rd w' (some ⟨g2, 0, none⟩) (cells.map (.int .u8))) := fun w' h => Rd.of_block h fun j u hu => by
    have hj : j < n := by have := (List.getElem?_eq_some_iff.1 hu).1; simpa [HL.out] using this
    rw [HQ2.out.1 j hj]; exact hu
  clear hE hL hD HRg
  go_wp2_with (first | fail)
  refine (CW.out _ (HRw.out.below HB5.out)).mono ?_
  rintro e w6 ⟨vw, rfl, hOw, hb⟩
  have HOw6 := Lib.hid hOw
  have NW : Hid (∀ k, vw.ownBlock = some k → W5.heap.size ≤ k ∧ k < w6.heap.size) := fun k h => ⟨own_block hOw k h, own_lt hOw k h⟩
  have lg5 := bk_lt KG5.out
  have hw5 : w.heap.size ≤ W5.heap.size := HB5.out.size
  have KX6 := Lib.hid (bk_below KX5.out hb); have KO6 := Lib.hid (bk_below KO5.out hb); have KG6 := Lib.hid (bk_below KG5.out hb); have HB6 := Lib.hid (next HB5.out hb); have hS6 := hb.size
  clear KX5 KO5 KG5 HB5 hb 
  have kx6 := bk_cell KX6.out; have ko6 := bk_cell KO6.out
  clear hOw
  go_wp2_with (first | fail)
  refine (CC.out _ _ _).mono ?_
  rintro e w7 ⟨rfl, hb⟩
  have KX7 := Lib.hid (bk_below KX6.out hb); have KO7 := Lib.hid (bk_below KO6.out hb); have KG7 := Lib.hid (bk_below KG6.out hb); have HB7 := Lib.hid (next HB6.out hb); have hS7 := hb.size
  have HOw7 := Lib.hid (own_below HOw6.out hb)
  clear KX6 KO6 KG6 HB6 hb HOw6
  have kx7 := bk_cell KX7.out; have ko7 := bk_cell KO7.out
  go_wp2_with (first | fail)
  refine (CG.out _ _ _ (HRG.out _ KG7.out)).mono ?_
  rintro e w8 ⟨va, rfl, hOa, hb⟩
  have HOa8 := Lib.hid hOa
  have NA : Hid (∀ k, va.ownBlock = some k → w7.heap.size ≤ k ∧ k < w8.heap.size) := fun k h => ⟨own_block hOa k h, own_lt hOa k h⟩
  have lx7 := bk_lt KX7.out; have lo7 := bk_lt KO7.out; have lg7 := bk_lt KG7.out
  have KX8 := Lib.hid (bk_below KX7.out hb); have KO8 := Lib.hid (bk_below KO7.out hb); have KG8 := Lib.hid (bk_below KG7.out hb); have HB8 := Lib.hid (next HB7.out hb); have hS8 := hb.size
  have HOw8 := Lib.hid (own_below HOw7.out hb)
  clear KX7 KO7 KG7 HB7 hb HOw7
  have kx8 := bk_cell KX8.out; have ko8 := bk_cell KO8.out
  clear hOa
  go_wp2_with (first | fail)
  refine (CG.out _ _ _ (HRG.out _ KG8.out)).mono ?_
  rintro e w9 ⟨vb, rfl, hOb, hb⟩
  have HOb9 := Lib.hid hOb
  have NB : Hid (∀ k, vb.ownBlock = some k → w8.heap.size ≤ k ∧ k < w9.heap.size) := fun k h => ⟨own_block hOb k h, own_lt hOb k h⟩
  have KX9 := Lib.hid (bk_below KX8.out hb); have KO9 := Lib.hid (bk_below KO8.out hb); have KG9 := Lib.hid (bk_below KG8.out hb); have HB9 := Lib.hid (next HB8.out hb); have hS9 := hb.size
  have HOw9 := Lib.hid (own_below HOw8.out hb)
  have HOa9 := Lib.hid (own_below HOa8.out hb)
  clear KX8 KO8 KG8 HB8 hb HOw8 HOa8
  have kx9 := bk_cell KX9.out; have ko9 := bk_cell KO9.out
  clear hOb
  go_wp2_with (first | fail)
  refine (CS.out _ _ _ _ _ (HRG.out _ KG9.out) (HRw.out.below HB9.out)).mono ?_
  rintro e w10 ⟨rfl, hb⟩
  have KX10 := Lib.hid (bk_below KX9.out hb); have KO10 := Lib.hid (bk_below KO9.out hb); have KG10 := Lib.hid (bk_below KG9.out hb); have HB10 := Lib.hid (next HB9.out hb); have hS10 := hb.size
  have HOw10 := Lib.hid (own_below HOw9.out hb)
  have HOa10 := Lib.hid (own_below HOa9.out hb)
  have HOb10 := Lib.hid (own_below HOb9.out hb)
  clear KX9 KO9 KG9 HB9 hb HOw9 HOa9 HOb9
  have kx10 := bk_cell KX10.out; have ko10 := bk_cell KO10.out
  have kg10 := (bk_cell KG10.out n).trans HQ2.out.2.1
  have kg10b := (bk_cell KG10.out (n + 1)).trans HQ2.out.2.2
  have hwn := ar_wrap (a := (n : Int) + 1) (b := ((n + 1 : Nat) : Int)) (by omega) (by omega) (by omega)
  have hDD : (D != D) = false := by simp
  have hEE : (E != E) = false := by simp
  go_wp2_with (first | fail)
  refine (CR.out _ _ _).mono ?_
  rintro e w11 ⟨rfl, hb⟩
  have KX11 := Lib.hid (bk_below KX10.out hb); have KO11 := Lib.hid (bk_below KO10.out hb); have KG11 := Lib.hid (bk_below KG10.out hb); have HB11 := Lib.hid (next HB10.out hb); have hS11 := hb.size
  have HOw11 := Lib.hid (own_below HOw10.out hb)
  have HOa11 := Lib.hid (own_below HOa10.out hb)
  have HOb11 := Lib.hid (own_below HOb10.out hb)
  clear KX10 KO10 KG10 HB10 hb HOw10 HOa10 HOb10
  have kx11 := bk_cell KX11.out; have ko11 := bk_cell KO11.out
  obtain ⟨Aw, cw, rfl⟩ := own_slice HOw11.out
  obtain ⟨Aa, ca, rfl⟩ := own_slice HOa11.out
  obtain ⟨Ab, cb, rfl⟩ := own_slice HOb11.out
  have hsw := run_string_rd (P := Try.prog) (src := 32) (dst := 9) Try.underlying32 Try.underlying5 Try.underlying9 (c := cw) (Rd.of_own HOw11.out) (n := L.length) rfl
  have hsa := run_string_rd (P := Try.prog) (src := 32) (dst := 9) Try.underlying32 Try.underlying5 Try.underlying9 (c := ca) (Rd.of_own HOa11.out) (n := L.length) rfl
  have hsb := run_string_rd (P := Try.prog) (src := 32) (dst := 9) Try.underlying32 Try.underlying5 Try.underlying9 (c := cb) (Rd.of_own HOb11.out) (n := L.length) rfl
  obtain ⟨Z, hZ⟩ : ∃ Z, strOfNums L = Z := ⟨_, rfl⟩
  rw [hZ] at hsw hsa hsb
  have HZZ := Lib.hid hZ
  have hzn : (Z.toList != Z.toList) = false := by simp
  have hze : (Z.toList == Z.toList) = true := by simp
  clear hZ kg10 kg10b hDD CW CG CC CR CS
  go_wp2_with (first | fail)
  refine (lfull_own HOa11.out (by omega) (by omega)).mono ?_
  rintro e w12 ⟨rfl, hOa, hBa, hF, hS12⟩
  have KO12 := Lib.hid ((hF _ (bk_lt KO11.out) (fun h => by have := NA.out _ h.symm; omega)).trans KO11.out)
  have KG12 := Lib.hid ((hF _ (bk_lt KG11.out) (fun h => by have := NA.out _ h.symm; omega)).trans KG11.out)
  have HB12 := Lib.hid (HB11.out.trans (hBa.mono (show w.heap.size ≤ w7.heap.size by omega)))
  have HOw12 := Lib.hid (own_keep HOw11.out (fun k hk => hF k (own_lt HOw11.out k hk) (fun h => by have := NA.out _ h.symm; have := NW.out _ hk; omega)))
  have HOb12 := Lib.hid (own_keep HOb11.out (fun k hk => hF k (own_lt HOb11.out k hk) (fun h => by have := NA.out _ h.symm; have := NB.out _ hk; omega)))
  have HOa12 := Lib.hid hOa
  clear hOa hBa hF KO11 KG11 KX11 HB11 HOw11 HOa11 HOb11 hsw hsa hsb kx11 ko11 kx10 ko10 hzn
  go_wp2_with (first | fail)
  refine (llong_calls HOa12.out (by omega) (by omega)).mono ?_
  rintro e w13 ⟨vc, rfl, hOc, hBc, hF, hS13⟩
  have KO13 := Lib.hid ((hF _ (bk_lt KO12.out) (fun h => by have := NA.out _ h.symm; omega)).trans KO12.out)
  have KG13 := Lib.hid ((hF _ (bk_lt KG12.out) (fun h => by have := NA.out _ h.symm; omega)).trans KG12.out)
  have HB13 := Lib.hid (HB12.out.trans (hBc.mono (show w.heap.size ≤ w7.heap.size by omega)))
  have HOw13 := Lib.hid (own_keep HOw12.out (fun k hk => hF k (own_lt HOw12.out k hk) (fun h => by have := NA.out _ h.symm; have := NW.out _ hk; omega)))
  have HOb13 := Lib.hid (own_keep HOb12.out (fun k hk => hF k (own_lt HOb12.out k hk) (fun h => by have := NA.out _ h.symm; have := NB.out _ hk; omega)))
  have HOc13 := Lib.hid hOc
  have NC : Hid (∀ k, vc.ownBlock = some k → w7.heap.size ≤ k) := fun k h => own_block hOc k h
  have ko13 := bk_cell KO13.out
  clear hOc hBc hF KO12 KG12 HB12 HOw12 HOa12 HOb12
  go_wp2_with (first | fail)
  refine (lfull_calls KG13.out (by have := HS2.out; omega) (by omega)).mono ?_
  rintro e w14 ⟨rfl, _, hW⟩
  have HB14 := Lib.hid (HB13.out.trans (hW.below HB13.out.size (fun k hk => by rw [hk]; exact HG2.out)))
  have HOw14 := Lib.hid (own_keep HOw13.out (fun k hk => hW.block k (own_lt HOw13.out k hk) (fun h => by have := NW.out _ hk; omega)))
  have HOb14 := Lib.hid (own_keep HOb13.out (fun k hk => hW.block k (own_lt HOb13.out k hk) (fun h => by have := NB.out _ hk; omega)))
  have HOc14 := Lib.hid (own_keep HOc13.out (fun k hk => hW.block k (own_lt HOc13.out k hk) (fun h => by have := NC.out _ hk; omega)))
  have hsw := run_string_rd (P := Try.prog) (src := 32) (dst := 9) Try.underlying32 Try.underlying5 Try.underlying9 (c := cw) (Rd.of_own HOw14.out) (n := L.length) rfl
  have hsb := run_string_rd (P := Try.prog) (src := 32) (dst := 9) Try.underlying32 Try.underlying5 Try.underlying9 (c := cb) (Rd.of_own HOb14.out) (n := L.length) rfl
  rw [HZZ.out] at hsw hsb
  obtain ⟨Ac, cc, rfl⟩ := own_slice HOc14.out
  have hrc := Rd.of_own HOc14.out
  have erep : List.replicate L.length (Value.int .u8 251) ++ List.replicate 40 (.int .u8 251) = List.replicate (L.length + 40) (.int .u8 251) := by rw [List.replicate_append_replicate]
  rw [erep] at hrc
  have HRC := Lib.hid hrc
  clear hW KO13 KG13 HB13 HOw13 HOb13 HOc13 ko13 erep hrc
  go_wp2_with (first | fail)
  refine (lonly_calls HRC.out (by omega)).mono ?_
  rintro e w15 ⟨rfl, hb⟩
  go_wp2
  go_ret
  exact Ret.of rfl (next HB14.out hb)
theorem RingArounds_law (w : World) {W H : Int} {A : Option Addr} {n c : Nat} {cells : List Int} {k X Y : Int} (hl : cells.length = n) (hnb : n ≤ 140737488351232) (hr : Rd w A (cells.map (.int .u8))) (hz : ∀ z ∈ cells, 0 ≤ z ∧ z ≤ 255) (bk : 0 ≤ k ∧ k ≤ 255) (bX : -9223372036854775808 ≤ X ∧ X ≤ 9223372036854775807) (bY : -9223372036854775808 ≤ Y ∧ Y ≤ 9223372036854775807) :
    Calls Try.prog 4 #[.agg #[.int .i64 W, .int .i64 H, .slice A n c], .int .u8 k, .int .i64 X, .int .i64 Y] w (Ret (.bool true) w) := RingArounds_walk w hl hnb hr hz
end Go.Proofs.Ytkldffpdlkmncaa
