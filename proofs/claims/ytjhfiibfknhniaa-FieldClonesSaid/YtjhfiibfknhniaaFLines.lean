/- The walk of the law FieldLines. -/
import Derived.Test.YtjhfiibfknhniaaFLnM
import Derived.Test.YtjhfiibfknhniaaFBoxed
set_option linter.unusedVariables false
set_option linter.unusedSimpArgs false
namespace Go.Proofs.Ytjhfiibfknhniaa
open Go.RowKit

theorem lines_up {w : World} {wr : World} {ls : List (List Int)} {Ao : Option Addr} (H : LnsAt w Ao ls) (hb : Below w.heap.size w wr) : LnsAt wr Ao ls := H.below hb

theorem Rd.some_at {w : World} {A : Option Addr} {xs : List Value} (h : Rd w A xs) (hp : 0 < xs.length) : ∃ b off, A = some ⟨b, off, none⟩ := by
  cases A with
  | none => have := h.1 rfl; subst this; simp at hp
  | some ad =>
    obtain ⟨b, off, spot⟩ := ad
    have h0 := h.2 _ rfl 0 (xs[0]) (List.getElem?_eq_getElem hp)
    have hs : spot = none := by simpa [Addr.add] using World.cell?_spot h0
    subst hs
    exact ⟨b, off, rfl⟩

set_option maxRecDepth 20000 in
set_option maxHeartbeats 4000000 in
theorem FieldLines_walk (x : Int) (Ao : Option Addr) (n c : Nat) (ls : List (List Int)) (w : World) (hx : -9223372036854775808 ≤ x ∧ x ≤ 9223372036854775807) (hn : ls.length = n) (hnb : n ≤ 140737488351232) (hl : LnsAt w Ao ls) :
    Calls Try.prog 4 #[.int .i64 x, .slice Ao n c] w (Ret (.bool true) w) := by
  have HL := Lib.hid hl; clear hl
  have HLN := Lib.hid hn; clear hn
  go_enter Try.func4, Try.ntmps4
  go_wp2_with (first | fail)
  refine (alive13 _).mono ?_
  rintro e w1 ⟨rfl, hb1⟩
  go_wp2_with (first | fail)
  refine (New_any _ _ _).mono ?_
  rintro e w2 (⟨g, S, rfl, x1, x2, n1, n2, hF, hS, hb⟩ | ⟨m, rfl, hm, rfl⟩)
  rotate_left
  · have hm0 : (m == 0) = false := beq_eq_false_iff_ne.2 (by omega)
    have hm1 : (m != 0) = true := bne_iff_ne.2 (by omega)
    go_wp2
    go_ret
    exact Ret.of rfl hb1
  obtain ⟨W, rfl⟩ := Int.eq_ofNat_of_zero_le (show 0 ≤ x by omega)
  simp only [Int.toNat_natCast] at hF
  have hLF := Lib.hid (lf_zero (ls := ls) hF)
  have hS' := Lib.hid (fun b hb => Nat.le_trans hb1.size (hS b hb))
  replace hb1 := hb1.trans (hb.mono hb1.size)
  clear hF hS hb hx
  go_wp2_with (first | fail)
  go_loopw [8, 9] (fun a i wr => ∃ k : Nat, i = .int .i64 k ∧ k ≤ n ∧ a = .bool (allLn W ls k) ∧ Hid (LF g S W n ls k wr) ∧ Below w.heap.size w wr) (fun _ i _ => n - (intOf i).toNat)
  case atStart => exact ⟨0, rfl, Nat.zero_le _, by simp [allLn], hLF.out, hb1⟩
  clear hLF hb1
  obtain ⟨k, rfl, hk, rfl, hLF, hB⟩ := hrel
  by_cases hlt : k < n
  · obtain ⟨b, off, A', c', rfl, hcell, hrow, hrb, hrz⟩ := (HL.out.below hB).row (r := k) (by rw [HLN.out]; exact hlt)
    have HRZ := Lib.hid hrz
    have HSC := Lib.hid (allLn_succ W ls (k := k) (by rw [HLN.out]; exact hlt))
    have hlay : Hid (∀ (A : Option Addr) (c : Nat) (w' : World), LF g S W n ls k w' → Rd w' A ((ls.getD k []).map (.int .u8)) → (0 < (ls.getD k []).length → ∃ b off, A = some ⟨b, off, none⟩ ∧ ¬ S b ∧ b < w'.heap.size) →
        Calls Try.prog 11 #[.pointer (some ⟨g, 0, none⟩), .int .i64 k, .slice A (ls.getD k []).length c] w' fun e w2 => e = .returned (.int .i64 (lnE W (ls.getD k []))) ∧ LF g S W n ls (k + 1) w2 ∧ Wrote S w' w2) :=
      fun A c w' h1 h2 h3 => lay_ln h1 HLN.out.symm hlt (by omega) h2 hrb HRZ.out h3
    clear hrz
    generalize hq : ls.getD k [] = l at *
    have HRW := Lib.hid hrow; clear hrow hq
    go_wp2_with (first
      | (at_builtin; refine app_rd rfl _ _ 28 (by rfl) wr.heap.size 5 (.int .u8 0) 1 1 Try.underlying28 (by kernel_rfl) rfl (by decide) (.slice none 0 0) 0 [] (by rfl) (World.ownsRow_nil _ _ _ _) A' l.length c' (l.map (.int .u8)) (by rfl) HRW.out (by simp) (by simp [Value.oneCell']) (by unfold maxLen; omega) (by omega) (Nat.le_refl _) ?_; intro v1 w2 hown hb2 hg2))
    rw [Nat.zero_add, List.nil_append] at hown
    obtain ⟨A1, c1, rfl⟩ := own_slice hown
    have hb2' := below_of_nil hg2
    have hR1 := Lib.hid (Rd.of_own hown)
    have hA1 : Hid (0 < l.length → ∃ b off, A1 = some ⟨b, off, none⟩ ∧ ¬ S b ∧ b < w2.heap.size) := fun h => by
      obtain ⟨g1, e1, e2, e3⟩ := own_at hown h
      exact ⟨g1, 0, e1, fun hs => (by have := (hLF.out.choose_spec.1).lt g1 hs; omega), e3⟩
    have hLF2 := Lib.hid (hLF.out.below hb2')
    have hB2 := hB.trans (hb2'.mono hB.size)
    clear hown hb2 hg2 hLF hB hb2' hcell
    go_wp2_with (first | fail)
    refine (hlay.out _ _ _ hLF2.out hR1.out hA1.out).mono ?_
    rintro e w3 ⟨rfl, hLF3, hw3⟩
    have hLF3 := Lib.hid hLF3
    have hB3 := hB2.trans (hw3.below hB2.size hS'.out)
    clear hLF2 hB2 hw3 hR1 hA1 hlay
    by_cases hw : l.length = W
    · rw [show lnE W l = 0 from if_pos hw]
      have heq : ((l.length : Int) == (W : Int)) = true := beq_iff_eq.2 (by omega)
      have hal : Hid (allLn W ls (k + 1) = allLn W ls k) := by show _ = _; rw [HSC.out, show (l.length == W) = true from beq_iff_eq.2 hw, Bool.and_true]
      clear hw
      cases hak : allLn W ls k
      all_goals
        rw [hak] at hal
        go_wp2_with (first | fail)
        go_roundw
        case rel => exact ⟨k + 1, by go_num, by omega, by rw [hal.out], hLF3, hB3⟩
        case measure => simp [intOf]; omega
    · rw [show lnE W l = 131 from if_neg hw]
      have heq : ((l.length : Int) == (W : Int)) = false := beq_eq_false_iff_ne.2 (by omega)
      have hal : Hid (allLn W ls (k + 1) = false) := by show _ = _; rw [HSC.out, show (l.length == W) = false from beq_eq_false_iff_ne.2 hw, Bool.and_false]
      clear hw
      cases hak : allLn W ls k
      all_goals
        go_wp2_with (first | fail)
        go_roundw
        case rel => exact ⟨k + 1, by go_num, by omega, by rw [hal.out], hLF3, hB3⟩
        case measure => simp [intOf]; omega
  · obtain rfl : k = n := by omega
    clear hlt hk
    obtain ⟨D, hF, eW, eH, eS, ep, hf⟩ := hLF.out
    have HF := Lib.hid hF
    clear hLF hF eS ep
    cases hak : allLn W ls k
    · clear hf hak
      go_wp2_with (first | fail)
      go_loopw [13] (fun i wx => i = .int .i64 0 ∧ wx = wr) (fun _ _ => 0)
      case atStart => exact ⟨rfl, rfl⟩
      obtain ⟨rfl, rfl⟩ := hrel
      go_wp2_with (first | fail)
      refine (boxed_calls HF.out).mono ?_
      rintro e w4 ⟨rfl, hb4⟩
      go_wp2
      go_ret
      exact Ret.of rfl (hB.trans (hb4.mono hB.size))
    · have hrl : Hid (∀ y, y < k → (ls.getD y []).length = W) := fun y hy => allLn_all (by rw [HLN.out]; exact hak) (by rw [HLN.out]; exact hy)
      have hfv : Hid (∀ y x, y < k → x < W → D.f y x = (ls.getD y []).getD x 0) := fun y x hy hx => by
        rw [hf y x hy hx]; unfold lnF; rw [if_pos ⟨hy, hrl.out y hy⟩]
      have hri : Hid (∀ y, y < k → rowI D y = ls.getD y []) := fun y hy => by
        refine List.ext_getElem (by rw [rowI_length, eW, hrl.out y hy]) fun j h1 h2 => ?_
        have hj : j < W := by rw [rowI_length, eW] at h1; exact h1
        have e := hfv.out y j hy hj
        clear hfv hrl
        generalize ls.getD y [] = l at *
        simp only [rowI, List.getElem_map, List.getElem_range]
        rw [e]
        simp [List.getD, List.getElem?_eq_getElem h2]
      clear hf hak
      go_wp2_with (first | fail)
      obtain ⟨wo, rfl⟩ : ∃ wo : World, wo = wr := ⟨_, rfl⟩
      go_loopw [12, 13] (fun a i wr => ∃ y : Nat, i = .int .i64 y ∧ y ≤ k ∧ a = .int .i64 (livTo D y).length ∧ Hid (Fld g D S wr) ∧ Below w.heap.size w wr) (fun _ i _ => k - (intOf i).toNat)
      case atStart => exact ⟨0, rfl, Nat.zero_le _, rfl, HF.out, hB⟩
      clear HF hB
      obtain ⟨y, rfl, hy, rfl, HF, hB⟩ := hrel
      by_cases hlt : y < k
      · obtain ⟨b, off, A', c', rfl, hcell, hrow, hrb, hrz⟩ := (HL.out.below hB).row (r := y) (by rw [HLN.out]; exact hlt)
        have HRZ := Lib.hid hrz
        have hlen : (ls.getD y []).length = W := hrl.out y hlt
        have hlv : Hid (∀ j, j < W → D.f y j = (ls.getD y []).getD j 0) := fun j hj => hfv.out y j hlt hj
        have hline : Hid (∀ w', Fld g D S w' → Calls Try.prog 12 #[.pointer (some ⟨g, 0, none⟩), .int .i64 y] w' fun e w'' => ∃ go cs, e = .returned (.tuple #[.slice (some ⟨go, 0, none⟩) W W, .int .i64 0]) ∧ w'.heap.size ≤ go ∧ w''.heap[go]? = some (.cells cs 5 (0, 0)) ∧ cs.toList = (ls.getD y []).map (.int .u8) ∧ Below w'.heap.size w' w'') := fun w' h => by
          have := Line_yes y h (by omega)
          rw [hri.out y hlt, eW] at this; exact this
        have hget : Hid (∀ j w', j < W → Fld g D S w' → Calls Try.prog 14 #[.pointer (some ⟨g, 0, none⟩), .int .i64 j, .int .i64 y] w' fun e w'' => e = .returned (.tuple #[.int .u8 (D.f y j), .int .i64 0]) ∧ Below w'.heap.size w' w'') := fun j w' hj h => by
          have := Get_calls j y h
          unfold getV at this
          rw [if_pos (hasB_yes (by omega) (by omega) (by omega) (by omega))] at this
          simpa using this
        clear hrz
        generalize ls.getD y [] = l at *
        have HRW := Lib.hid hrow; clear hrow
        go_wp2_with (first | fail)
        refine (hline.out _ HF.out).mono ?_
        rintro e w4 ⟨go, cs, rfl, hgo, KO, hcs, hb4⟩
        have HR := Lib.hid (Rd.of_list KO hcs); clear hcs KO hgo hline
        have HRW2 := Lib.hid (HRW.out.below hb4)
        replace hcell := cell_later hb4 hcell
        replace hB := hB.trans (hb4.mono hB.size)
        replace HF := Lib.hid (HF.out.below hb4)
        clear hb4 HRW
        go_wp2_with (first | fail)
        refine (same13_eq (la := l) _ HR.out HRW2.out hlen hlen HRZ.out).mono ?_
        rintro e w5 ⟨rfl, rfl⟩
        go_wp2_with (first | fail)
        obtain ⟨wo, rfl⟩ : ∃ wo : World, wo = w4 := ⟨_, rfl⟩
        go_loopw [12, 16] (fun a i wr => ∃ j : Nat, i = .int .i64 j ∧ j ≤ W ∧ a = .int .i64 ((livTo D y ++ livRow D y j).length : Nat) ∧ Hid (Fld g D S wr) ∧ Below wo.heap.size wo wr) (fun _ i _ => W - (intOf i).toNat)
        case atStart => exact ⟨0, rfl, Nat.zero_le _, by simp [livRow], HF.out, rfl, rfl, rfl, Nat.le_refl _, fun _ _ => rfl⟩
        clear HF HR
        obtain ⟨j, rfl, hj, rfl, HF, hB4⟩ := hrel
        by_cases hjl : j < W
        · have hgj := Lib.hid (hget.out j)
          have hlj : l[j]? = some (D.f y j) := by rw [hlv.out j hjl, List.getElem?_eq_getElem (by omega)]; simp [List.getD, List.getElem?_eq_getElem (show j < l.length by omega)]
          obtain ⟨b3, o3, rfl⟩ := HRW2.out.some_at (by rw [List.length_map]; omega)
          have hcl : wr.cell? ⟨b3, o3 + j, none⟩ = some (.int .u8 (D.f y j)) := (HRW2.out.below hB4).at_ j _ (by rw [List.getElem?_map, hlj]; rfl)
          have hcell2 := cell_later hB4 hcell
          have HL2 := Lib.hid hlen; have HCL := Lib.hid hcl; have HC2 := Lib.hid hcell2
          rw [hlen] at HC2
          have hr0 := Lib.hid (livRow_zero D y j)
          have hr1 := Lib.hid (livRow_some D y j)
          clear hlj hlen hcl hcell2 hcell HRW2 hlv hget
          go_wp2_with (first | fail)
          refine (hgj.out _ hjl HF.out).mono ?_
          rintro e w6 ⟨rfl, hb6⟩
          replace HF := Lib.hid (HF.out.below hb6)
          have hcl := cell_later hb6 HCL.out
          have hcell := cell_later hb6 HC2.out
          replace hB4 := hB4.trans (hb6.mono hB4.size)
          clear hb6 HCL HC2 hgj
          by_cases hz : D.f y j = 0
          · have e := Lib.hid (hr0.out hz)
            rw [hz] at hcl ⊢
            clear hr0 hr1 hz
            go_wp2_with (first | fail)
            go_roundw
            case rel => exact ⟨j + 1, by go_num, by omega, by rw [e.out, List.length_append]; simp, HF.out, hB4⟩
            case measure => simp [intOf]; omega
          · have e := Lib.hid (hr1.out hz)
            have hzz : (D.f y j != 0) = true := bne_iff_ne.2 hz
            have hcb : (livTo D y ++ livRow D y j).length ≤ 1048576 := by
              have h1 := livTo_length D y; have h2 := livRow_length D y j; have h3 := HF.out.ok.wh
              have h4 : D.W * y + D.W ≤ D.W * D.H := by rw [← Nat.mul_succ]; exact Nat.mul_le_mul_left _ (by omega)
              rw [List.length_append]; omega
            generalize hcn : (livTo D y ++ livRow D y j).length = cn at *
            have HCN := Lib.hid hcn
            clear hr0 hr1 hz hcn
            go_wp2_with (first | fail)
            go_roundw
            case rel => exact ⟨j + 1, by go_num, by omega, by rw [e.out, ← List.append_assoc, List.length_append, HCN.out]; simp, HF.out, hB4⟩
            case measure => simp [intOf]; omega
        · obtain rfl : j = W := by omega
          have hlt2 : Hid ((livTo D y ++ livRow D y j).length = (livTo D (y + 1)).length) := by show _ = _; rw [livTo_succ, eW]
          rw [hlt2.out]
          have hB5 := hB.trans (hB4.mono hB.size)
          clear hB4 hlt2
          go_wp2_with (first | fail)
          go_roundw
          case rel => exact ⟨y + 1, by go_num, by omega, rfl, HF.out, hB5⟩
          case measure => simp [intOf]; omega
      · obtain rfl : y = k := by omega
        have hpop : Hid (∀ w', Fld g D S w' → Calls Try.prog 15 #[.pointer (some ⟨g, 0, none⟩)] w' fun e w'' => e = .returned (.int .i64 (livTo D y).length) ∧ Below w'.heap.size w' w'') := fun w' h => by
          have := Pop_calls h
          unfold livL at this; rw [eH] at this; exact this
        go_wp2_with (first | fail)
        refine (hpop.out _ HF.out).mono ?_
        rintro e w4 ⟨rfl, hb4⟩
        replace hB := hB.trans (hb4.mono hB.size)
        replace HF := Lib.hid (HF.out.below hb4)
        clear hb4
        go_wp2_with (first | fail)
        refine (boxed_calls HF.out).mono ?_
        rintro e w5 ⟨rfl, hb5⟩
        go_wp2
        go_ret
        exact Ret.of rfl (hB.trans (hb5.mono hB.size))
theorem FieldLines_wk {x : Int} {Ao : Option Addr} {n c : Nat} {ls : List (List Int)} (w : World) (hx : -9223372036854775808 ≤ x ∧ x ≤ 9223372036854775807) (hn : ls.length = n) (hnb : n ≤ 140737488351232) (hl : LnsAt w Ao ls) :
    Calls Try.prog 4 #[.int .i64 x, .slice Ao n c] w (Ret (.bool true) w) := FieldLines_walk x Ao n c ls w hx hn hnb hl
end Go.Proofs.Ytjhfiibfknhniaa
