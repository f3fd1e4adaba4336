/- Pop, Box, Cells; Same. -/
import Derived.Test.YtjhfiibfknhniaaFLiv
set_option linter.unusedVariables false
set_option linter.unusedSimpArgs false
namespace Go.Proofs.Ytjhfiibfknhniaa
open Go.RowKit

theorem lives_fld {g : Nat} {D : FD} {S : Nat → Prop} {w : World} (h : Fld g D S w) : Lives (some ⟨g, 0, none⟩) S (livL D) w :=
  ⟨h.lt, fun W B hW hBl hB => living_fld B hB (h.below hW)⟩

theorem livRow_length (D : FD) (y k : Nat) : (livRow D y k).length ≤ k := by
  have := List.length_filterMap_le (celAt D y) (List.range k)
  simpa [livRow] using this
theorem livTo_length (D : FD) (y : Nat) : (livTo D y).length ≤ D.W * y := by
  induction y with
  | zero => simp [livTo]
  | succ y ih =>
    rw [livTo_succ, List.length_append, Nat.mul_succ]
    have := livRow_length D y D.W
    omega
theorem liv_mem {D : FD} {c : Cel} (h : c ∈ livL D) : ∃ y x : Nat, y < D.H ∧ x < D.W ∧ ¬ D.f y x = 0 ∧ c = ((x : Int), (y : Int), D.f y x) := by
  obtain ⟨y, hy, h⟩ := List.mem_flatMap.1 h
  obtain ⟨x, hx, h⟩ := List.mem_filterMap.1 h
  rw [List.mem_range] at hx hy
  unfold celAt at h
  split at h
  · cases h
  · exact ⟨y, x, hy, hx, by assumption, (Option.some.inj h).symm⟩

theorem Pop_calls {g : Nat} {D : FD} {S : Nat → Prop} {w : World} (h : Fld g D S w) : Calls Try.prog 15 #[.pointer (some ⟨g, 0, none⟩)] w fun e w' => e = .returned (.int .i64 (livL D).length) ∧ Below w.heap.size w w' :=
  Pop_lives (lives_fld h) (by have := livTo_length D D.H; have := h.ok.wh; unfold livL; omega)
theorem Box_calls {g : Nat} {D : FD} {S : Nat → Prop} {w : World} (h : Fld g D S w) : Calls Try.prog 27 #[.pointer (some ⟨g, 0, none⟩)] w fun e w' => e = .returned (boxV (livL D)) ∧ Below w.heap.size w w' :=
  Box_lives (lives_fld h) (by
    intro c hc
    obtain ⟨y, x, hy, hx, _, rfl⟩ := liv_mem hc
    have := h.ok.w1; have := h.ok.h1
    exact ⟨⟨by simp, by simp; omega⟩, by simp, by simp; omega⟩)
/-- what Cells comes to: what goes through a clone's cells -/
def CellsP (D : FD) (w : World) (e : Ending) (w' : World) : Prop := ∃ g' S' B, e = .returned (.func (.func 51) #[] #[.pointer (some ⟨B, 0, none⟩)]) ∧ Fld g' D S' w' ∧ (∀ b, S' b → w.heap.size ≤ b) ∧ w.heap.size ≤ B ∧ w'.heap[B]? = some (.cells #[.pointer (some ⟨g', 0, none⟩)] 22 (0, 0)) ∧ Below w.heap.size w w'
theorem Cells_calls {g : Nat} {D : FD} {S : Nat → Prop} {w : World} (h : Fld g D S w) : Calls Try.prog 20 #[.pointer (some ⟨g, 0, none⟩)] w (CellsP D w) := by
  go_enter Try.func20, Try.ntmps20
  go_wp2_with (first | fail)
  refine (Clone_calls h).mono ?_
  rintro e w1 ⟨g', S', rfl, hF, hge, hb⟩
  have HF := Lib.hid hF; have HG := Lib.hid hge; clear hF hge
  go_wp2_with (first | (go_at_call 37; ((with_reducible refine (living_calls _ _).mono ?_); rintro e w' ⟨rfl, rfl⟩)))
  go_ret
  exact ⟨g', S', w1.heap.size, rfl, HF.out.below (boxed _ _), HG.out, hb.size, bk_new w1 _, hb.alloc hb.size _⟩

/-- are two fields the same? -/
def sameC (D E : FD) : Prop := D.W = E.W ∧ D.H = E.H ∧ D.St = E.St ∧ ∀ y x, y < D.H → x < D.W → D.f y x = E.f y x
def SameP (D E : FD) (w : World) (e : Ending) (w' : World) : Prop := ∃ b : Bool, e = .returned (.bool b) ∧ (b = true ↔ sameC D E) ∧ Below w.heap.size w w'

theorem none_quietF {g : Nat} {D : FD} {S : Nat → Prop} {w : World} (h : Fld g D S w) : Calls Try.prog 34 #[.pointer (some ⟨g, 0, none⟩)] w fun e w' => e = .returned (.bool false) ∧ w' = w := (none_no h).mono fun _ _ ⟨a, b⟩ => ⟨a, b.symm⟩

set_option maxRecDepth 20000 in
set_option maxHeartbeats 4000000 in
theorem Same_off {g h : Nat} {D E : FD} {S T : Nat → Prop} {w : World} (hf : Fld g D S w) (hg : Fld h E T w) (hsh : ¬ (D.W = E.W ∧ D.H = E.H ∧ D.St = E.St)) :
    Calls Try.prog 19 #[.pointer (some ⟨g, 0, none⟩), .pointer (some ⟨h, 0, none⟩)] w (SameP D E w) := by
  obtain ⟨gr, G, a, hS⟩ := hf.ex
  obtain ⟨c, hc⟩ := a.fld
  obtain ⟨gr2, G2, a2, hS2⟩ := hg.ex
  obtain ⟨c2, hc2⟩ := a2.fld
  have hcc := bk_cell hc
  have hcc2 := bk_cell hc2
  have HF := Lib.hid hf; have HG := Lib.hid hg
  have HN : Hid (¬ sameC D E) := fun hs => hsh ⟨hs.1, hs.2.1, hs.2.2.1⟩
  have h3 : ((D.W : Int) == (E.W : Int)) = false ∨ (((D.W : Int) == (E.W : Int)) = true ∧ ((D.H : Int) == (E.H : Int)) = false) ∨ (((D.W : Int) == (E.W : Int)) = true ∧ ((D.H : Int) == (E.H : Int)) = true ∧ (D.St == E.St) = false) := by
    by_cases e1 : D.W = E.W
    · by_cases e2 : D.H = E.H
      · refine .inr (.inr ⟨by simp [e1], by simp [e2], ?_⟩)
        rw [beq_eq_false_iff_ne]; exact fun e3 => hsh ⟨e1, e2, e3⟩
      · refine .inr (.inl ⟨by simp [e1], ?_⟩)
        rw [beq_eq_false_iff_ne]; omega
    · refine .inl ?_
      rw [beq_eq_false_iff_ne]; omega
  clear hf hg a a2 hS hS2 hsh hc hc2
  rcases h3 with e1 | ⟨e1, e2⟩ | ⟨e1, e2, e3⟩
  all_goals
    go_enter Try.func19, Try.ntmps19
    go_wp2_with (first | fail)
    go_quiet ((first | (go_at_call_of 34 (Value.pointer (some ⟨g, 0, none⟩)); exact Calls.quiet_of_same (none_quietF (HF.out.drewN _))) | (go_at_call_of 34 (Value.pointer (some ⟨h, 0, none⟩)); exact Calls.quiet_of_same (none_quietF (HG.out.drewN _)))))
    go_wp2
    go_ret
    exact ⟨false, rfl, ⟨fun h => (by cases h), fun h => absurd h HN.out⟩, rfl, rfl, rfl, Nat.le_refl _, fun _ _ => rfl⟩

theorem stLater {pk : Bool} {gr W H : Nat} {f : Nat → Nat → Int} {G : Nat → Nat} {w w' : World} {p q : Prop} (h : StoreAt pk gr W H f G w) (hb : p ∧ q ∧ Below w.heap.size w w') : StoreAt pk gr W H f G w' :=
  h.keep fun b hS => hb.2.2.block b (h.lt b hS)
theorem keepS {g h : Nat} {cs cs2 : Array Value} {t t2 : TypeId} {w w1 w2 : World} {p q : Prop} (h1 : w.heap[g]? = some (.cells cs t (0, 0))) (h2 : w.heap[h]? = some (.cells cs2 t2 (0, 0))) (hb : p ∧ q ∧ Below w.heap.size w w1) (hb1 : Below w1.heap.size w1 w2) :
    w2.cell? ⟨g, 4, none⟩ = cs[4]? ∧ w2.cell? ⟨h, 4, none⟩ = cs2[4]? ∧ Below w.heap.size w w2 := by
  have hb' := hb.2.2.trans (hb1.mono hb.2.2.size)
  exact ⟨bk_cell (bk_below h1 hb') 4, bk_cell (bk_below h2 hb') 4, hb'⟩

set_option maxRecDepth 20000 in
set_option maxHeartbeats 4000000 in
theorem Same_on {g h W H : Nat} {St : Int} {pk pk2 : Bool} {f f2 : Nat → Nat → Int} {S T : Nat → Prop} {w : World} (hf : Fld g ⟨W, H, St, pk, f⟩ S w) (hg : Fld h ⟨W, H, St, pk2, f2⟩ T w) :
    Calls Try.prog 19 #[.pointer (some ⟨g, 0, none⟩), .pointer (some ⟨h, 0, none⟩)] w (SameP ⟨W, H, St, pk, f⟩ ⟨W, H, St, pk2, f2⟩ w) := by
  obtain ⟨gr, G, a, hS⟩ := hf.ex
  obtain ⟨c, hc⟩ := a.fld
  obtain ⟨gr2, G2, a2, hS2⟩ := hg.ex
  obtain ⟨c2, hc2⟩ := a2.fld
  have hcc := bk_cell hc
  have hcc2 := bk_cell hc2
  have HF := Lib.hid hf; have HG := Lib.hid hg
  have b1 := a.ok.h1; have b2 := a.ok.w1
  simp only at b1 b2 hcc hcc2
  have hm := meth_get pk (.slice (some ⟨gr, 0, none⟩) H c)
  have he := ent_get pk
  have hm2 := meth_get pk2 (.slice (some ⟨gr2, 0, none⟩) H c2)
  have he2 := ent_get pk2
  have HA := Lib.hid a; have HA2 := Lib.hid a2; have HC := Lib.hid hc; have HC2 := Lib.hid hc2
  clear hf hg a a2 hS hS2 hc hc2
  go_enter Try.func19, Try.ntmps19
  go_wp2_with (first | fail)
  go_quiet ((first | (go_at_call_of 34 (Value.pointer (some ⟨g, 0, none⟩)); exact Calls.quiet_of_same (none_quietF (HF.out.drewN _))) | (go_at_call_of 34 (Value.pointer (some ⟨h, 0, none⟩)); exact Calls.quiet_of_same (none_quietF (HG.out.drewN _)))))
  go_wp2_with (first | fail)
  go_loopw [29] (fun i wr => ∃ k : Nat, i = .int .i64 k ∧ k ≤ H ∧ Hid (∀ y x, y < k → x < W → f y x = f2 y x) ∧ Below w.heap.size w wr) (fun i _ => H - (intOf i).toNat)
  case atStart => exact ⟨0, rfl, Nat.zero_le _, (fun _ _ h => absurd h (by omega)), rfl, rfl, rfl, Nat.le_refl _, fun _ _ => rfl⟩
  obtain ⟨k, rfl, hk, HE, hB⟩ := hrel
  clear hcc hcc2
  by_cases hlt : k < H
  · have hcc := bk_cell (bk_below HC.out hB)
    have hcc2 := bk_cell (bk_below HC2.out hB)
    go_wp2_with (first | fail)
    obtain ⟨wo, rfl⟩ : ∃ wo : World, wo = wr := ⟨_, rfl⟩
    go_loopw [37] (fun i wr => ∃ x : Nat, i = .int .i64 x ∧ x ≤ W ∧ Hid (∀ x', x' < x → f k x' = f2 k x') ∧ Below w.heap.size w wr) (fun i _ => W - (intOf i).toNat)
    case atStart => exact ⟨0, rfl, Nat.zero_le _, (fun _ h => absurd h (by omega)), hB⟩
    clear hcc hcc2 hB
    obtain ⟨x, rfl, hx, HX, hB⟩ := hrel
    by_cases hxl : x < W
    · have K1 := bk_below HC.out hB
      have K2 := bk_below HC2.out hB
      have hcc := bk_cell K1
      have hcc2 := bk_cell K2
      have S1 := Lib.hid (HA.out.later hB).st
      have S2 := Lib.hid (HA2.out.later hB).st
      have HK1 := Lib.hid K1; have HK2 := Lib.hid K2; clear K1 K2
      by_cases hq : f k x = f2 k x
      · have hne : (f k x != f2 k x) = false := by simp [hq]
        have HX2 : Hid (∀ x', x' < x + 1 → f k x' = f2 k x') := fun x' hx' => by
          by_cases e : x' = x
          · subst e; exact hq
          · exact HX.out x' (by omega)
        clear hq
        go_wp2_with (first | fail)
        go_region_held3 (fun w' => w'.cell? ⟨g, 4, none⟩ = some (.iface (stT pk) (.agg #[.slice (some ⟨gr, 0, none⟩) H c])) ∧ w'.cell? ⟨h, 4, none⟩ = some (.iface (stT pk2) (.agg #[.slice (some ⟨gr2, 0, none⟩) H c2])) ∧ Below wr.heap.size wr w')
          (first | exact ⟨hcc 4, hcc2 4, (same wr).drew⟩ | exact keepS HK1.out HK2.out (by assumption) hb1)
          (first
            | ((with_reducible refine (store_get (pk := pk) (gr := gr) (stLater S1.out (by assumption)) x k hxl hlt b1 b2).mono ?_); rintro e w1 ⟨rfl, hb1⟩)
            | ((with_reducible refine (store_get (pk := pk2) (gr := gr2) (stLater S2.out (by assumption)) x k hxl hlt b1 b2).mono ?_); rintro e w1 ⟨rfl, hb1⟩))
        rename_i hH
        have hB2 := hB.trans (hH.2.2.mono hB.size)
        clear hH
        go_wp2
        go_roundw
        case rel => exact ⟨x + 1, by go_num, by omega, HX2, hB2⟩
        case measure => simp [intOf]; omega
      · have hne : (f k x != f2 k x) = true := bne_iff_ne.2 hq
        have HN : Hid (¬ sameC ⟨W, H, St, pk, f⟩ ⟨W, H, St, pk2, f2⟩) := fun hs => hq (hs.2.2.2 k x hlt hxl)
        clear hq
        go_wp2_with (first | fail)
        go_region_held3 (fun w' => w'.cell? ⟨g, 4, none⟩ = some (.iface (stT pk) (.agg #[.slice (some ⟨gr, 0, none⟩) H c])) ∧ w'.cell? ⟨h, 4, none⟩ = some (.iface (stT pk2) (.agg #[.slice (some ⟨gr2, 0, none⟩) H c2])) ∧ Below wr.heap.size wr w')
          (first | exact ⟨hcc 4, hcc2 4, (same wr).drew⟩ | exact keepS HK1.out HK2.out (by assumption) hb1)
          (first
            | ((with_reducible refine (store_get (pk := pk) (gr := gr) (stLater S1.out (by assumption)) x k hxl hlt b1 b2).mono ?_); rintro e w1 ⟨rfl, hb1⟩)
            | ((with_reducible refine (store_get (pk := pk2) (gr := gr2) (stLater S2.out (by assumption)) x k hxl hlt b1 b2).mono ?_); rintro e w1 ⟨rfl, hb1⟩))
        rename_i hH
        have hB2 := hB.trans (hH.2.2.mono hB.size)
        clear hH
        go_wp2
        go_ret
        exact ⟨false, rfl, ⟨fun h => (by cases h), fun h => absurd h HN.out⟩, hB2⟩
    · obtain rfl : x = W := by omega
      have HE2 : Hid (∀ y x', y < k + 1 → x' < x → f y x' = f2 y x') := fun y x' hy hx' => by
        by_cases e : y = k
        · subst e; exact HX.out x' hx'
        · exact HE.out y x' (by omega) hx'
      go_wp2_with (first | fail)
      go_roundw
      case rel => exact ⟨k + 1, by go_num, by omega, HE2, hB⟩
      case measure => simp [intOf]; omega
  · obtain rfl : k = H := by omega
    go_wp2
    go_ret
    exact ⟨true, rfl, ⟨fun _ => ⟨rfl, rfl, rfl, HE.out⟩, fun _ => rfl⟩, hB⟩

theorem Same_calls {g h : Nat} {D E : FD} {S T : Nat → Prop} {w : World} (hf : Fld g D S w) (hg : Fld h E T w) :
    Calls Try.prog 19 #[.pointer (some ⟨g, 0, none⟩), .pointer (some ⟨h, 0, none⟩)] w (SameP D E w) := by
  obtain ⟨W, H, St, pk, f⟩ := D
  obtain ⟨W2, H2, St2, pk2, f2⟩ := E
  by_cases hsh : W = W2 ∧ H = H2 ∧ St = St2
  · obtain ⟨rfl, rfl, rfl⟩ := hsh
    exact Same_on hf hg
  · exact Same_off hf hg hsh
end Go.Proofs.Ytjhfiibfknhniaa
