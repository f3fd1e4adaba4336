/- What goes through a field's living cells. -/
import Derived.Test.YtjhfiibfknhniaaFNew
set_option linter.unusedVariables false
set_option linter.unusedSimpArgs false
namespace Go.Proofs.Ytjhfiibfknhniaa
open Go.RowKit Go.Shelf
attribute [local go_sem] Oper.semAt_some

def celAt (D : FD) (y x : Nat) : Option Cel := if D.f y x = 0 then none else some ((x : Int), (y : Int), D.f y x)
def livRow (D : FD) (y k : Nat) : List Cel := (List.range k).filterMap (celAt D y)
def livTo (D : FD) (y : Nat) : List Cel := (List.range y).flatMap fun y' => livRow D y' D.W
/-- the cells that live, row by row -/
def livL (D : FD) : List Cel := livTo D D.H
theorem livRow_zero (D : FD) (y k : Nat) (h : D.f y k = 0) : livRow D y (k + 1) = livRow D y k := by
  simp [livRow, List.range_succ, celAt, h]
theorem livRow_some (D : FD) (y k : Nat) (h : ¬ D.f y k = 0) : livRow D y (k + 1) = livRow D y k ++ [((k : Int), (y : Int), D.f y k)] := by
  simp [livRow, List.range_succ, celAt, h]
theorem livTo_succ (D : FD) (y : Nat) : livTo D (y + 1) = livTo D y ++ livRow D y D.W := by
  simp [livTo, List.range_succ]
theorem livTo_prefix (D : FD) {y n : Nat} (h : y ≤ n) : livTo D y <+: livTo D n := by
  induction n with
  | zero => obtain rfl : y = 0 := by omega
            exact List.prefix_refl _
  | succ n ih =>
    by_cases e : y = n + 1
    · subst e; exact List.prefix_refl _
    · exact (ih (by omega)).trans (by rw [livTo_succ]; exact List.prefix_append _ _)
theorem livRow_prefix (D : FD) (y : Nat) {k n : Nat} (h : k ≤ n) : livRow D y k <+: livRow D y n := by
  induction n with
  | zero => obtain rfl : k = 0 := by omega
            exact List.prefix_refl _
  | succ n ih =>
    by_cases e : k = n + 1
    · subst e; exact List.prefix_refl _
    · refine (ih (by omega)).trans ?_
      by_cases hz : D.f y n = 0
      · rw [livRow_zero D y n hz]; exact List.prefix_refl _
      · rw [livRow_some D y n hz]; exact List.prefix_append _ _
theorem liv_prefix (D : FD) {y k : Nat} (hy : y < D.H) (hk : k ≤ D.W) : livTo D y ++ livRow D y k <+: livL D := by
  refine List.IsPrefix.trans ?_ (livTo_prefix D (show y + 1 ≤ D.H from hy))
  rw [livTo_succ]
  exact (List.prefix_append_right_inj _).2 (livRow_prefix D y hk)
theorem liv_length (D : FD) {y k : Nat} (hy : y < D.H) (hk : k < D.W) (hz : ¬ D.f y k = 0) : (livTo D y ++ livRow D y k).length < (livL D).length := by
  have := (liv_prefix D hy (show k + 1 ≤ D.W from hk)).length_le
  rw [livRow_some D y k hz, ← List.append_assoc, List.length_append, List.length_singleton] at this
  omega

theorem grown_none {w w' : World} (h : Below w.heap.size w w') : w.grownBy w' none := ⟨h.os, h.tape, h.output, h.size, fun k hk _ => h.block k hk⟩

set_option maxRecDepth 20000 in
set_option maxHeartbeats 4000000 in
theorem living_fld (B : Nat) {g : Nat} {D : FD} {S : Nat → Prop} {w : World} (hB : w.heap[B]? = some (.cells #[.pointer (some ⟨g, 0, none⟩)] 22 (0, 0))) (h : Fld g D S w) :
    Iter 51 #[.pointer (some ⟨B, 0, none⟩)] (fun b => S b ∨ b = B) (livL D) w := by
  refine ⟨fun b hb => by rcases hb with hb | rfl; exact h.lt b hb; exact bk_lt hB, fun n hn l J Jx W hW hJ hJx hY h0 => ?_⟩
  have hb := bk_below hB hW
  have hF := h.below hW
  have hc := bk_cell hb
  obtain ⟨gr, G, a, hS⟩ := hF.ex
  obtain ⟨c, hcf⟩ := a.fld
  have hcc := bk_cell hcf
  have H0 := none_no hF
  have b1 := a.ok.h1; have b2 := a.ok.w1
  have hm := meth_get D.pk (.slice (some ⟨gr, 0, none⟩) D.H c)
  have he := ent_get D.pk
  have HA := Lib.hid a; have HC := Lib.hid hcf; have HS := Lib.hid hS; have HB := Lib.hid hb
  have HY := Lib.hid hY; have HJ := Lib.hid hJ; have HJx := Lib.hid hJx; have HF := Lib.hid hF; have H00 := Lib.hid h0
  clear a hS hcf h hB hb hY hJ hJx hF h0
  refine callsIn_of_wp Try.func51 rfl trivial ?_ rfl
  simp only [Try.ntmps51, List.size_toArray, List.length_cons, List.length_nil, Nat.reduceAdd, Nat.reduceSub, Array.replicate_succ, Array.replicate_zero, List.push_toArray, List.append_toArray, List.nil_append, List.cons_append]
  gi_wp2_with (refine ⟨trivial, (fun _ => by omega), ?_⟩; gi_at_call 34; refine (callsIn_wide.2 H0).mono ?_; rintro e w' ⟨rfl, rfl⟩)
  gi_loopw [13] (fun i wr => ∃ (k : Nat), i = .int .i64 k ∧ k ≤ D.H ∧ Hid (J (livTo D k) wr) ∧ KeepsOn (fun b => S b ∨ b = B) W wr) (fun i _ => D.H - (intOf i).toNat)
  case atStart => exact ⟨0, rfl, Nat.zero_le _, H00.out, keepsOn_refl _ _⟩
  obtain ⟨k, rfl, hk, HJk, hK⟩ := hrel
  have hfl := Lib.hid (HF.out.keep fun b hb => hK b (.inl hb))
  have hcg := bk_cell ((hK g (.inl ((HS.out g).2 (.inl rfl)))).trans HC.out)
  have hcb := bk_cell ((hK B (.inr rfl)).trans HB.out)
  by_cases hlt : k < D.H
  · gi_wp2
    obtain ⟨wo, rfl⟩ : ∃ wo : World, wo = wr := ⟨_, rfl⟩
    gi_loopw [21] (fun i wr => ∃ (x : Nat), i = .int .i64 x ∧ x ≤ D.W ∧ Hid (J (livTo D k ++ livRow D k x) wr) ∧ KeepsOn (fun b => S b ∨ b = B) W wr) (fun i _ => D.W - (intOf i).toNat)
    case atStart => exact ⟨0, rfl, Nat.zero_le _, (by show J (livTo D k ++ []) wo; rw [List.append_nil]; exact HJk.out), hK⟩
    clear hfl hcg hcb HJk hK
    obtain ⟨x, rfl, hx, HJk, hK⟩ := hrel
    have hfl := Lib.hid (HF.out.keep fun b hb => hK b (.inl hb))
    have hcg := bk_cell ((hK g (.inl ((HS.out g).2 (.inl rfl)))).trans HC.out)
    have hcb := bk_cell ((hK B (.inr rfl)).trans HB.out)
    have hst := Lib.hid (HA.out.st.keep (w' := wr) fun b hb => hK b (.inl ((HS.out b).2 (.inr hb))))
    by_cases hxl : x < D.W
    · have hltS : ∀ b, (S b ∨ b = B) → b < wr.heap.size := fun b hb => by
        rcases hb with hb | rfl
        · exact hfl.out.lt b hb
        · exact bk_lt ((hK b (.inr rfl)).trans HB.out)
      have HLS := Lib.hid hltS; clear hltS
      gi_wp2_with (fail)
      refine ⟨trivial, fun _ => by omega, (callsIn_wide.2 (store_get hst.out x k hxl hlt b1 b2)).mono ?_⟩
      rintro e w2 ⟨rfl, hb2⟩
      have hJ2 := Lib.hid (HJ.out _ wr w2 none HJk.out (grown_none hb2) (fun r e => by cases e))
      have hK2 : KeepsOn (fun b => S b ∨ b = B) W w2 := keepsOn_t hK fun b hb => hb2.block b (HLS.out b hb)
      clear hfl hcg hcb hst HLS hK HJk
      by_cases hv : D.f k x = 0
      · have e := Lib.hid (livRow_zero D k x hv)
        rw [hv]
        clear hv
        gi_wp2
        refine ⟨fun _ h => (by cases h), ?_⟩
        gi_wp2
        go_roundw
        case rel => exact ⟨x + 1, by go_num, by omega, (by rw [e.out]; exact hJ2), hK2⟩
        case measure => simp [intOf]; omega
      · have e := Lib.hid (livRow_some D k x hv)
        have hlen := liv_length D hlt hxl hv
        have hpf := Lib.hid (liv_prefix D hlt (show x + 1 ≤ D.W from hxl))
        have hne : (D.f k x != 0) = true := bne_iff_ne.2 hv
        obtain ⟨fn, tmps, assign, body, hy, hR⟩ := HY.out (livTo D k ++ livRow D k x) ((x : Int), (k : Int), D.f k x) w2 hJ2.out hlen
        simp only [celV] at hy
        clear hlen hv
        gi_wp2
        refine ⟨fun _ => by omega, hR.mono ?_⟩
        rintro e3 W3 (⟨rfl, hJ3, hk3⟩ | ⟨rfl, hJx3⟩)
        · have hJ4 : Hid (J (livTo D k ++ livRow D k (x + 1)) W3) := by
            show J (livTo D k ++ livRow D k (x + 1)) W3
            rw [e.out, ← List.append_assoc]; exact hJ3
          have hK3 := keepsOn_t hK2 hk3
          clear hJ3 hk3 hR hy
          gi_wp2
          go_roundw
          case rel => exact ⟨x + 1, by go_num, by omega, hJ4, hK3⟩
          case measure => simp [intOf]; omega
        · have hp : livTo D k ++ livRow D k x ++ [((x : Int), (k : Int), D.f k x)] <+: livL D := by
            have := hpf.out
            rw [e.out, ← List.append_assoc] at this
            exact this
          have hp := Lib.hid hp; have hJx3 := Lib.hid hJx3
          clear hR hy
          gi_wp2
          refine bodyPost_ret (results_none rfl _ _ _) rfl ?_
          exact ⟨⟨_, rfl⟩, .inr ⟨_, hp.out, hJx3.out⟩⟩
    · obtain rfl : x = D.W := by omega
      have hJ4 : Hid (J (livTo D (k + 1)) wr) := by
        show J (livTo D (k + 1)) wr
        rw [livTo_succ]; exact HJk.out
      clear HJk hfl hcg hcb hst
      gi_wp2
      go_roundw
      case rel => exact ⟨k + 1, by go_num, by omega, hJ4, hK⟩
      case measure => simp [intOf]; omega
  · obtain rfl : k = D.H := by omega
    clear hfl hcg hcb
    gi_wp2
    go_end0
    exact ⟨⟨_, rfl⟩, .inl ⟨_, rfl, HJk.out⟩⟩
end Go.Proofs.Ytjhfiibfknhniaa
