/- What goes through a field's living cells, where the yielded cell is known to be the next one, or one of them. -/
import Derived.Test.YtjhfiibfknhniaaFLiv
set_option linter.unusedVariables false
set_option linter.unusedSimpArgs false
namespace Go.Proofs.Ytjhfiibfknhniaa
open Go.RowKit Go.Shelf
attribute [local go_sem] Oper.semAt_some

/-- a function value goes through just these cells, and each time it yields the next one -/
def IterG (g : Nat) (lb : Array Value) (S : Nat → Prop) (L : List Cel) (w : World) : Prop :=
  (∀ b, S b → b < w.heap.size) ∧ ∀ n, 4 ≤ n → ∀ (l : Nat) (J Jx : List Cel → World → Prop) (W : World), Below w.heap.size w W → AbidesFrom W.heap.size J → AbidesFrom W.heap.size Jx →
    (∀ pre x W1, J pre W1 → pre ++ [x] <+: L → YieldAt Fence.wide (n - 1) Try.prog l (celV x) W1 fun e W' =>
      (e = .returned (.bool true) ∧ J (pre ++ [x]) W' ∧ KeepsOn S W1 W') ∨ (e = .returned (.bool false) ∧ Jx (pre ++ [x]) W')) →
    J [] W →
    CallsIn Fence.wide n Try.prog g (#[.func (.yield l) #[] #[]] ++ lb) W fun e W' => (∃ v, e = .returned v) ∧ ((∃ xs, xs = L ∧ J xs W') ∨ (∃ pre, pre <+: L ∧ Jx pre W'))

/-- one of these cells -/
abbrev Sub (L : List Cel) := { c : Cel // c ∈ L }
theorem IterG.sub {g : Nat} {lb : Array Value} {S : Nat → Prop} {L : List Cel} {w : World} (h : IterG g lb S L w) {n : Nat} (hn : 4 ≤ n) :
    SeqStopsK Fence.wide n Try.prog g lb (fun c : Sub L => celV c.1) (KeepsOn S) (fun xs => xs.map (·.1) = L) (fun p => p.map (·.1) <+: L) L.length w := by
  intro l J Jx W hW hJ hJx hY h0
  refine (h.2 n hn l (fun pre W => ∃ p : List (Sub L), p.map (·.1) = pre ∧ J p W) (fun pre W => ∃ p : List (Sub L), p.map (·.1) = pre ∧ Jx p W) W hW ?_ ?_ ?_ ⟨[], rfl, h0⟩).mono ?_
  · rintro s A B row ⟨p, hp, hj⟩ hg hr
    exact ⟨p, hp, hJ p A B row hj hg hr⟩
  · rintro s A B row ⟨p, hp, hj⟩ hg hr
    exact ⟨p, hp, hJx p A B row hj hg hr⟩
  · rintro pre x W1 ⟨p, rfl, hj⟩ hpx
    have hx : x ∈ L := hpx.subset (by simp)
    have hl : p.length < L.length := by have := hpx.length_le; simp at this; omega
    refine (hY p ⟨x, hx⟩ W1 hj hl).mono fun e W' r => ?_
    rcases r with ⟨a, b, c⟩ | ⟨a, b⟩
    · exact .inl ⟨a, ⟨p ++ [⟨x, hx⟩], by simp, b⟩, c⟩
    · exact .inr ⟨a, ⟨p ++ [⟨x, hx⟩], by simp, b⟩⟩
  · rintro e W' ⟨hv, ⟨xs, rfl, p, hp, hj⟩ | ⟨pre, hpre, p, rfl, hj⟩⟩
    · exact ⟨hv, .inl ⟨p, hp, hj⟩⟩
    · exact ⟨hv, .inr ⟨p, hpre, hj⟩⟩

set_option maxRecDepth 20000 in
set_option maxHeartbeats 4000000 in
theorem living_fldG (B : Nat) {g : Nat} {D : FD} {S : Nat → Prop} {w : World} (hB : w.heap[B]? = some (.cells #[.pointer (some ⟨g, 0, none⟩)] 22 (0, 0))) (h : Fld g D S w) :
    IterG 51 #[.pointer (some ⟨B, 0, none⟩)] (fun b => S b ∨ b = B) (livL D) w := by
  refine ⟨fun b hb => by rcases hb with hb | rfl; exact h.lt b hb; exact bk_lt hB, fun n hn l J Jx W hW hJ hJx hY h0 => ?_⟩
  have hb := bk_below hB hW
  have hF := h.below hW
  have hc := bk_cell hb
  obtain ⟨gr, G, a, hS⟩ := hF.ex
  obtain ⟨c, hcf⟩ := a.fld
  have hcc := bk_cell hcf
  have H0 := none_no hF
  have b1 := a.ok.h1; have b2 := a.ok.w1
  have hm := meth_get D.pk (.slice (some ⟨gr, 0, none⟩) D.H c)
  have he := ent_get D.pk
  have HA := Lib.hid a; have HC := Lib.hid hcf; have HS := Lib.hid hS; have HB := Lib.hid hb
  have HY := Lib.hid hY; have HJ := Lib.hid hJ; have HJx := Lib.hid hJx; have HF := Lib.hid hF; have H00 := Lib.hid h0
  clear a hS hcf h hB hb hY hJ hJx hF h0
  refine callsIn_of_wp Try.func51 rfl trivial ?_ rfl
  simp only [Try.ntmps51, List.size_toArray, List.length_cons, List.length_nil, Nat.reduceAdd, Nat.reduceSub, Array.replicate_succ, Array.replicate_zero, List.push_toArray, List.append_toArray, List.nil_append, List.cons_append]
  gi_wp2_with (refine ⟨trivial, (fun _ => by omega), ?_⟩; gi_at_call 34; refine (callsIn_wide.2 H0).mono ?_; rintro e w' ⟨rfl, rfl⟩)
  gi_loopw [13] (fun i wr => ∃ (k : Nat), i = .int .i64 k ∧ k ≤ D.H ∧ Hid (J (livTo D k) wr) ∧ KeepsOn (fun b => S b ∨ b = B) W wr) (fun i _ => D.H - (intOf i).toNat)
  case atStart => exact ⟨0, rfl, Nat.zero_le _, H00.out, keepsOn_refl _ _⟩
  obtain ⟨k, rfl, hk, HJk, hK⟩ := hrel
  have hfl := Lib.hid (HF.out.keep fun b hb => hK b (.inl hb))
  have hcg := bk_cell ((hK g (.inl ((HS.out g).2 (.inl rfl)))).trans HC.out)
  have hcb := bk_cell ((hK B (.inr rfl)).trans HB.out)
  by_cases hlt : k < D.H
  · gi_wp2
    obtain ⟨wo, rfl⟩ : ∃ wo : World, wo = wr := ⟨_, rfl⟩
    gi_loopw [21] (fun i wr => ∃ (x : Nat), i = .int .i64 x ∧ x ≤ D.W ∧ Hid (J (livTo D k ++ livRow D k x) wr) ∧ KeepsOn (fun b => S b ∨ b = B) W wr) (fun i _ => D.W - (intOf i).toNat)
    case atStart => exact ⟨0, rfl, Nat.zero_le _, (by show J (livTo D k ++ []) wo; rw [List.append_nil]; exact HJk.out), hK⟩
    clear hfl hcg hcb HJk hK
    obtain ⟨x, rfl, hx, HJk, hK⟩ := hrel
    have hfl := Lib.hid (HF.out.keep fun b hb => hK b (.inl hb))
    have hcg := bk_cell ((hK g (.inl ((HS.out g).2 (.inl rfl)))).trans HC.out)
    have hcb := bk_cell ((hK B (.inr rfl)).trans HB.out)
    have hst := Lib.hid (HA.out.st.keep (w' := wr) fun b hb => hK b (.inl ((HS.out b).2 (.inr hb))))
    by_cases hxl : x < D.W
    · have hltS : ∀ b, (S b ∨ b = B) → b < wr.heap.size := fun b hb => by
        rcases hb with hb | rfl
        · exact hfl.out.lt b hb
        · exact bk_lt ((hK b (.inr rfl)).trans HB.out)
      have HLS := Lib.hid hltS; clear hltS
      gi_wp2_with (fail)
      refine ⟨trivial, fun _ => by omega, (callsIn_wide.2 (store_get hst.out x k hxl hlt b1 b2)).mono ?_⟩
      rintro e w2 ⟨rfl, hb2⟩
      have hJ2 := Lib.hid (HJ.out _ wr w2 none HJk.out (grown_none hb2) (fun r e => by cases e))
      have hK2 : KeepsOn (fun b => S b ∨ b = B) W w2 := keepsOn_t hK fun b hb => hb2.block b (HLS.out b hb)
      clear hfl hcg hcb hst HLS hK HJk
      by_cases hv : D.f k x = 0
      · have e := Lib.hid (livRow_zero D k x hv)
        rw [hv]
        clear hv
        gi_wp2
        refine ⟨fun _ h => (by cases h), ?_⟩
        gi_wp2
        go_roundw
        case rel => exact ⟨x + 1, by go_num, by omega, (by rw [e.out]; exact hJ2), hK2⟩
        case measure => simp [intOf]; omega
      · have e := Lib.hid (livRow_some D k x hv)
        have hlen := liv_length D hlt hxl hv
        have hpf := Lib.hid (liv_prefix D hlt (show x + 1 ≤ D.W from hxl))
        have hne : (D.f k x != 0) = true := bne_iff_ne.2 hv
        have hpp : livTo D k ++ livRow D k x ++ [((x : Int), (k : Int), D.f k x)] <+: livL D := by
          have := hpf.out
          rw [e.out, ← List.append_assoc] at this
          exact this
        obtain ⟨fn, tmps, assign, body, hy, hR⟩ := HY.out (livTo D k ++ livRow D k x) ((x : Int), (k : Int), D.f k x) w2 hJ2.out hpp
        clear hpp
        simp only [celV] at hy
        clear hlen hv
        gi_wp2
        refine ⟨fun _ => by omega, hR.mono ?_⟩
        rintro e3 W3 (⟨rfl, hJ3, hk3⟩ | ⟨rfl, hJx3⟩)
        · have hJ4 : Hid (J (livTo D k ++ livRow D k (x + 1)) W3) := by
            show J (livTo D k ++ livRow D k (x + 1)) W3
            rw [e.out, ← List.append_assoc]; exact hJ3
          have hK3 := keepsOn_t hK2 hk3
          clear hJ3 hk3 hR hy
          gi_wp2
          go_roundw
          case rel => exact ⟨x + 1, by go_num, by omega, hJ4, hK3⟩
          case measure => simp [intOf]; omega
        · have hp : livTo D k ++ livRow D k x ++ [((x : Int), (k : Int), D.f k x)] <+: livL D := by
            have := hpf.out
            rw [e.out, ← List.append_assoc] at this
            exact this
          have hp := Lib.hid hp; have hJx3 := Lib.hid hJx3
          clear hR hy
          gi_wp2
          refine bodyPost_ret (results_none rfl _ _ _) rfl ?_
          exact ⟨⟨_, rfl⟩, .inr ⟨_, hp.out, hJx3.out⟩⟩
    · obtain rfl : x = D.W := by omega
      have hJ4 : Hid (J (livTo D (k + 1)) wr) := by
        show J (livTo D (k + 1)) wr
        rw [livTo_succ]; exact HJk.out
      clear HJk hfl hcg hcb hst
      gi_wp2
      go_roundw
      case rel => exact ⟨k + 1, by go_num, by omega, hJ4, hK⟩
      case measure => simp [intOf]; omega
  · obtain rfl : k = D.H := by omega
    clear hfl hcg hcb
    gi_wp2
    go_end0
    exact ⟨⟨_, rfl⟩, .inl ⟨_, rfl, HJk.out⟩⟩
end Go.Proofs.Ytjhfiibfknhniaa
