/- Pack. -/
import Derived.Test.YtjhfiibfknhniaaFLivG
import Derived.Test.YtjhfiibfknhniaaFSm
import Derived.Sort.CutIn
set_option linter.unusedVariables false
set_option linter.unusedSimpArgs false
namespace Go.Proofs.Ytjhfiibfknhniaa
open Go.RowKit Go.Shelf
attribute [local go_sem] Oper.semAt_some

/-- what Pack answers, and what the field is then -/
def packE (D : FD) (on : Bool) : Int := if on = true ∧ 2 < D.St then 132 else 0
def FD.packed (D : FD) (on : Bool) : FD := if on = true ∧ 2 < D.St then D else { D with pk := on }
def PackP (g : Nat) (D : FD) (S : Nat → Prop) (on : Bool) (w : World) (e : Ending) (w' : World) : Prop :=
  e = .returned (.int .i64 (packE D on)) ∧ ∃ S', Fld g (D.packed on) S' w' ∧ (∀ b, S' b → S b ∨ w.heap.size ≤ b) ∧ Wrote S w w'

set_option maxRecDepth 100000 in
set_option maxHeartbeats 2000000 in
theorem Pack_err {g : Nat} {D : FD} {S : Nat → Prop} {w : World} (h : Fld g D S w) (hs : 2 < D.St) : Calls Try.prog 28 #[.pointer (some ⟨g, 0, none⟩), .bool true] w (PackP g D S true w) := by
  have H0 := Lib.hid (none_no h)
  obtain ⟨gr, G, a, hS⟩ := h.ex
  obtain ⟨c, hc⟩ := a.fld
  have hcc := bk_cell hc
  have hd : decide (2 < D.St) = true := decide_eq_true hs
  have HE : Hid (PackP g D S true w (.returned (.int .i64 132)) w) := ⟨by simp [packE, hs], S, by simpa [FD.packed, hs] using h, fun b hb => .inl hb, Wrote.refl _ _⟩
  clear a hS hc h hs
  refine (callsIn_wide (n := 8)).1 ?_
  refine callsIn_of_wp_marks Try.func28 rfl trivial ?_ rfl
  simp only [Try.ntmps28, List.size_toArray, List.length_cons, List.length_nil, Nat.reduceAdd, Nat.reduceSub, Array.replicate_succ, Array.replicate_zero, List.push_toArray, List.append_toArray, List.nil_append, List.cons_append]
  gi_wp2_with (refine ⟨trivial, ?_⟩; gi_at_call 34; refine (callsIn_wide.2 H0.out).mono ?_; rintro e w' ⟨rfl, rfl⟩)
  exact ⟨_, results_tmp (show Try.f28.results = #[.tmp 4] from rfl) _ _ _, HE.out⟩

set_option maxRecDepth 100000 in
set_option maxHeartbeats 2000000 in
theorem Pack_same {g : Nat} {D : FD} {S : Nat → Prop} {w : World} (h : Fld g D S w) (hs : D.pk = true → D.St ≤ 2) : Calls Try.prog 28 #[.pointer (some ⟨g, 0, none⟩), .bool D.pk] w (PackP g D S D.pk w) := by
  have H0 := Lib.hid (none_no h)
  have hn : ¬ (D.pk = true ∧ 2 < D.St) := fun ⟨a, b⟩ => by have := hs a; omega
  have HE : Hid (PackP g D S D.pk w (.returned (.int .i64 0)) w) := ⟨by unfold packE; rw [if_neg hn], S, by unfold FD.packed; rw [if_neg hn]; exact h, fun b hb => .inl hb, Wrote.refl _ _⟩
  obtain ⟨gr, G, a, hS⟩ := h.ex
  obtain ⟨c, hc⟩ := a.fld
  have hcc := bk_cell hc
  clear a hS hc h hn
  obtain ⟨W, H, St, pk, f⟩ := D
  simp only at hs hcc
  cases pk
  · refine (callsIn_wide (n := 8)).1 ?_
    refine callsIn_of_wp_marks Try.func28 rfl trivial ?_ rfl
    simp only [Try.ntmps28, List.size_toArray, List.length_cons, List.length_nil, Nat.reduceAdd, Nat.reduceSub, Array.replicate_succ, Array.replicate_zero, List.push_toArray, List.append_toArray, List.nil_append, List.cons_append]
    gi_wp2_with (refine ⟨trivial, ?_⟩; gi_at_call 34; refine (callsIn_wide.2 H0.out).mono ?_; rintro e w' ⟨rfl, rfl⟩)
    exact ⟨_, results_tmp (show Try.f28.results = #[.tmp 4] from rfl) _ _ _, HE.out⟩
  · have hd : decide (2 < St) = false := decide_eq_false (by have := hs rfl; omega)
    clear hs
    refine (callsIn_wide (n := 8)).1 ?_
    refine callsIn_of_wp_marks Try.func28 rfl trivial ?_ rfl
    simp only [Try.ntmps28, List.size_toArray, List.length_cons, List.length_nil, Nat.reduceAdd, Nat.reduceSub, Array.replicate_succ, Array.replicate_zero, List.push_toArray, List.append_toArray, List.nil_append, List.cons_append]
    gi_wp2_with (refine ⟨trivial, ?_⟩; gi_at_call 34; refine (callsIn_wide.2 H0.out).mono ?_; rintro e w' ⟨rfl, rfl⟩)
    exact ⟨_, results_tmp (show Try.f28.results = #[.tmp 4] from rfl) _ _ _, HE.out⟩

/-- a store, some cells of a field written into it -/
def PkF (D : FD) (xs : List Cel) : Nat → Nat → Int := fun y x => if ((x : Int), (y : Int), D.f y x) ∈ xs then D.f y x else 0
theorem pkF_nil (D : FD) : PkF D [] = fun _ _ => 0 := by funext y x; simp [PkF]
theorem pkF_all {D : FD} {xs : List Cel} (h : xs = livL D) {y x : Nat} (hy : y < D.H) (hx : x < D.W) : PkF D xs y x = D.f y x := by
  unfold PkF
  by_cases hz : D.f y x = 0
  · rw [hz]; split <;> rfl
  · rw [if_pos]
    subst h
    refine List.mem_flatMap.2 ⟨y, List.mem_range.2 hy, List.mem_filterMap.2 ⟨x, List.mem_range.2 hx, ?_⟩⟩
    unfold celAt
    rw [if_neg hz]
theorem pkF_snoc {D : FD} {xs : List Cel} {y x : Nat} : setF (PkF D xs) y x (D.f y x) = PkF D (xs ++ [((x : Int), (y : Int), D.f y x)]) := by
  funext y' x'
  unfold setF PkF
  by_cases e : y' = y ∧ x' = x
  · obtain ⟨rfl, rfl⟩ := e
    simp
  · rw [if_neg e]
    have : ¬ ((x' : Int), (y' : Int), D.f y' x') = ((x : Int), (y : Int), D.f y x) := fun h => by
      simp only [Prod.mk.injEq] at h
      exact e ⟨by omega, by omega⟩
    simp [this]

def barredP (Q : Exit → Act → World → Prop) : Exit → Act → World → Prop
  | .panic _, _, _ => False
  | e, a, w => Q e a w
theorem barredP_out {Q : Exit → Act → World → Prop} : ∀ e a w, barredP Q e a w → Q e a w
  | .panic _, _, _, h => h.elim
  | .normal, _, _, h => h
  | .ret, _, _, h => h
  | .exit _, _, _, h => h
  | .goto _, _, _, h => h
  | .outgrown, _, _, h => h
theorem barredP_nm {Q : Exit → Act → World → Prop} {a : Act} {w : World} (h : Q .normal a w) : barredP Q .normal a w := h

/-- in the middle of Pack -/
def PkI (M BN g gn cn : Nat) (old : Array Value) (on : Bool) (D : FD) (Gn : Nat → Nat) (w : World) (pre : List (Sub (livL D))) (W : World) : Prop :=
  W.heap[BN]? = some (.cells #[.iface (stT on) (.agg #[.slice (some ⟨gn, 0, none⟩) D.H cn])] 55 (0, 0)) ∧ W.heap[g]? = some (.cells old 57 (0, 0)) ∧
  StoreAt on gn D.W D.H (PkF D (pre.map (·.1))) Gn W ∧ Below w.heap.size w W ∧ M ≤ W.heap.size
theorem pkI_own {M BN g gn cn B : Nat} {old : Array Value} {on : Bool} {D : FD} {Gn : Nat → Nat} {w : World} (h1 : w.heap.size ≤ B) (hG : ∀ b, bytesS gn D.H Gn b → b < B) : OwnFrom B (PkI M BN g gn cn old on D Gn w) :=
  OwnFrom.and ((blk_own _ _ _).from _) (OwnFrom.and ((blk_own _ _ _).from _) (OwnFrom.and (fun s X Y row hs hg hr => hs.keep fun b hb => hg.block b (hs.lt b hb) (fun e => by have := (hr b e.symm).1; have := hG b hb; omega)) (OwnFrom.and (ownFrom_below (Nat.le_refl _) h1) (fun s X Y row hs hg _ => Nat.le_trans hs hg.size))))

theorem put_far {W : World} {Dd g : Nat} {o : Obj} (hne : g ≠ Dd) (kr : W.heap[g]? = some o) : (W.putObj Dd (.deferred none)).heap[g]? = some o :=
  ((grownBy_putObj' W Dd (.deferred none)).block g (Array.getElem?_eq_some_iff.1 kr).1 (by simpa using hne)).trans kr
theorem pk_end {g gn c Dd : Nat} {D : FD} {S : Nat → Prop} {Gn : Nat → Nat} {w Wz W5 : World} {xs : List Cel} (on : Bool) (h : Fld g D S w) (hs : on = true → D.St ≤ 2) (hge : ∀ b, bytesS gn D.H Gn b → w.heap.size ≤ b) (hxs : xs = livL D)
    (hst : StoreAt on gn D.W D.H (PkF D xs) Gn Wz) (hbel : Below w.heap.size w Wz) (hgw : g < w.heap.size) (hDd : w.heap.size ≤ Dd ∧ ∀ b, bytesS gn D.H Gn b → b < Dd)
    (hw : Wrote (fun b => b = g ∨ b = Dd) Wz W5) (hg : W5.heap[g]? = some (.cells #[.int .i64 D.W, .int .i64 D.H, .int .i64 D.St, .bool on, .iface (stT on) (.agg #[.slice (some ⟨gn, 0, none⟩) D.H c])] 57 (0, 0))) :
    PackP g D S on w (.returned (.int .i64 0)) W5 := by
  have hn : ¬ (on = true ∧ 2 < D.St) := fun ⟨a, b⟩ => by have := hs a; omega
  have hok := h.ok
  have hgS : S g := by obtain ⟨gr, G, a, hS⟩ := h.ex; exact (hS g).2 (.inl rfl)
  refine ⟨by unfold packE; rw [if_neg hn], fun b => b = g ∨ bytesS gn D.H Gn b, ?_, ?_, ?_⟩
  · unfold FD.packed
    rw [if_neg hn]
    refine ⟨gn, Gn, ⟨⟨c, hg⟩, ?_, ⟨hok.w0, hok.w1, hok.h0, hok.h1, hok.wh, hok.s0, hok.s1, hs, hok.bd⟩⟩, fun b => Iff.rfl⟩
    refine (hst.keep (w' := W5) fun b hb => hw.block b (hst.lt b hb) ?_).cong fun y x hy hx => pkF_all hxs hy hx
    rintro (e | e)
    · have := hge b hb; omega
    · have := hDd.2 b hb; omega
  · rintro b (rfl | hb)
    · exact .inl hgS
    · exact .inr (hge b hb)
  · refine ⟨hw.os.trans hbel.os, hw.tape.trans hbel.tape, hw.output.trans hbel.output, Nat.le_trans hbel.size hw.size, fun k hk hnk => (hw.block k (Nat.lt_of_lt_of_le hk hbel.size) ?_).trans (hbel.block k hk)⟩
    rintro (e | e)
    · subst e; exact hnk hgS
    · omega

set_option maxRecDepth 100000 in
set_option maxHeartbeats 4000000 in
theorem Pack_turn {g : Nat} {D : FD} {S : Nat → Prop} {w : World} (on : Bool) (h : Fld g D S w) (hs : on = true → D.St ≤ 2) (hne : ¬ on = D.pk) : Calls Try.prog 28 #[.pointer (some ⟨g, 0, none⟩), .bool on] w (PackP g D S on w) := by
  have H0 := Lib.hid (none_no h)
  have HF := Lib.hid h
  obtain ⟨gr, G, a, hS⟩ := h.ex
  obtain ⟨c, hc⟩ := a.fld
  have hcc := bk_cell hc
  have hok := a.ok
  have HC := Lib.hid hc
  have b1 := hok.w0; have b2 := hok.w1; have b3 := hok.h0; have b4 := hok.h1
  have hbn : (on == D.pk) = false := beq_eq_false_iff_ne.2 hne
  have HON : on = false ∨ (on = true ∧ decide (2 < D.St) = false) := by
    cases on
    · exact .inl rfl
    · exact .inr ⟨rfl, decide_eq_false (by have := hs rfl; omega)⟩
  have HSB := Lib.hid hs
  clear a hS hc h hok hs
  rcases HON with hon | ⟨hon, hd⟩
  · subst hon
    refine (callsIn_wide (n := 8)).1 ?_
    refine callsIn_of_wp_marks Try.func28 rfl trivial ?_ rfl
    simp only [Try.ntmps28, List.size_toArray, List.length_cons, List.length_nil, Nat.reduceAdd, Nat.reduceSub, Array.replicate_succ, Array.replicate_zero, List.push_toArray, List.append_toArray, List.nil_append, List.cons_append]
    gi_wp2_with (refine ⟨trivial, ?_⟩; gi_at_call 34; refine (callsIn_wide.2 H0.out).mono ?_; rintro e w' ⟨rfl, rfl⟩)
    refine ⟨trivial, (callsIn_wide.2 (store_fresh _ D.W D.H D.St w b1 b2 b3 b4)).mono ?_⟩
    rintro e w1 ⟨gn, cn, Gn, rfl, hst, hge, hb1⟩
    have hst := Lib.hid hst
    gi_upto_region 8 with (fail)
    have KN := bk_new w1 (.cells #[.iface (stT false) (.agg #[.slice (some ⟨gn, 0, none⟩) D.H cn])] 55)
    have hbA := boxed w1 (.cells #[.iface (stT false) (.agg #[.slice (some ⟨gn, 0, none⟩) D.H cn])] 55)
    have hst2 := Lib.hid (hst.out.keep (w' := w1.alloc (.cells #[.iface (stT false) (.agg #[.slice (some ⟨gn, 0, none⟩) D.H cn])] 55)) fun b hb => hbA.block b (hst.out.lt b hb))
    have hB1 := hb1.trans (hbA.mono hb1.size)
    have hGl := Lib.hid hst.out.lt
    generalize hBN : w1.heap.size = BN at *
    generalize w1.alloc (.cells #[.iface (stT false) (.agg #[.slice (some ⟨gn, 0, none⟩) D.H cn])] 55) = w2 at *
    gi_cut [35] from 8 (fun u wc => ∃ BQ g2 S2, u = .func (.func 51) #[] #[.pointer (some ⟨BQ, 0, none⟩)] ∧ Fld g2 D S2 wc ∧ wc.heap[BQ]? = some (.cells #[.pointer (some ⟨g2, 0, none⟩)] 22 (0, 0)) ∧ (∀ b, (S2 b ∨ b = BQ) → BN < b) ∧ Below w2.heap.size w2 wc)
    case first =>
      gi_wp2_with (first | fail)
      refine ⟨trivial, (callsIn_wide.2 (Cells_calls (HF.out.below hB1))).mono ?_⟩
      rintro e w3 ⟨g2, S2, BQ, rfl, hF2, hS2, hBQ, KQ, hb⟩
      gi_wp2
      gi_meet
      case rel =>
        have := bk_lt KN
        exact ⟨BQ, g2, S2, rfl, hF2, KQ, fun b hb => by rcases hb with hb | rfl; (have := hS2 b hb; omega); omega, hb⟩
    case rest =>
      obtain ⟨BQ, g2, S2, rfl, hF2, KQ, hfar, hb⟩ := hcut
      have hit := living_fldG BQ KQ hF2
      have hlt' := hit.1
      have hstc := Lib.hid (hst2.out.keep (w' := wc) fun b hb' => hb.block b (hst2.out.lt b hb'))
      replace KN := bk_below KN hb
      have KG := bk_below HC.out (hB1.trans (hb.mono hB1.size))
      have hBc := hB1.trans (hb.mono hB1.size)
      have hpn : StoreAt false gn D.W D.H (PkF D (([] : List (Sub (livL D))).map (·.1))) Gn wc := by
        show StoreAt false gn D.W D.H (PkF D []) Gn wc
        rw [pkF_nil]; exact hstc.out
      have hGc : ∀ b, bytesS gn D.H Gn b → b < BN := fun b hb => by have := hGl.out b hb; omega
      have hNl := bk_lt KN
      have hm : ∀ (u : Value) (W : World), (method 225 (stT false) (.agg #[u]) "vivarium/field.set").run Try.prog W = .ok (fSet false, .agg #[u]) W := fun u W => meth_set false u W
      have he := ent_set false
      have hle : w.heap.size ≤ wc.heap.size := hBc.size
      have hok := Lib.hid HF.out.ok
      have hgl : g < w.heap.size := bk_lt HC.out
      gi_wp2_with (first | fail)
      refine wpIn_rangeFunc_ownH rfl (by omega) (gf := 51) (lb := #[.pointer (some ⟨BQ, 0, none⟩)]) rfl trivial (enters_of Try.func51 (by kernel_rfl) rfl)
        (hit.sub (n := 7) (by omega)) keepsOn_t (keepsOn_b hit.1) (Below.refl _ _) (fun _ => rfl)
        (PkI wc.heap.size BN g gn cn _ false D Gn w) (fun _ _ _ => False) (pkI_own hle (fun b hb => by have := hGc b hb; omega)) (fun _ _ _ _ _ hs _ _ => hs)
        ⟨KN, KG, hpn, hBc, Nat.le_refl _⟩ (fun x a' Wx => ∃ BX, BQ < BX ∧ Wx.heap[BX]? = some (.cells #[.int .i64 x.1.1, .int .i64 x.1.2.1] 46 (0, 0)) ∧ a' = { tmps := #[.pointer (some ⟨g, 0, none⟩), .bool false, undef, undef, .int .i64 0, .pointer (some ⟨BN, 0, none⟩), .pointer (some ⟨BX, 0, none⟩), .int .u8 x.1.2.2, u8, u9, u10, u11, u12, u13, u14, u15, u16, u17, u18, u19, u20, u21, u22, u23, u24, u25, u26, u27, u28, u29, u30, u31, u32, u33, u34, .func (.func 51) #[] #[.pointer (some ⟨BQ, 0, none⟩)], .agg #[.int .i64 x.1.1, .int .i64 x.1.2.1], .int .u8 x.1.2.2, u38, u39, u40, u41, u42, u43, u44, u45, u46, u47, u48, u49, u50, u51, u52], defers := [] })
        (fun x a' s X Y row ⟨Bx, h1, h2, h3⟩ hg hr => ⟨Bx, h1, (blk_own (β := Unit) Bx _ (fun _ => _)) () X Y row h2 hg (fun r e => (hr r e).2), h3⟩) ?assign ?body ?done ?stop
      case assign =>
        intro l pre x Wa K hi hK
        obtain ⟨KN, KG, hst, hbel, hM⟩ := id hi
        simp [celV]
        gi_wp2
        refine hK _ _ ((KeepsOthers.alloc _ _).from _) (fun b hb => Below.heap_alloc _ _ _ (by have := hlt' b hb; omega)) ⟨bk_alloc KN _, bk_alloc KG _, hst.keep (fun b hb => Below.heap_alloc _ _ _ (hst.lt b hb)), hbel.alloc (by have := hbel.size; omega) _, by simp; omega⟩ ⟨Wa.heap.size, by have := hlt' BQ (.inr rfl); omega, bk_new Wa _, rfl⟩
      case body =>
        rintro l pre ⟨⟨cx, cy, cv⟩, hmem⟩ a' Wa hl ⟨r, hr⟩ ⟨KN, KG, hst, hbel, hM⟩ ⟨BX, hBX, KX, rfl⟩ hlt
        obtain ⟨y, x, hy, hx, hz, hcc⟩ := liv_mem hmem
        obtain ⟨rfl, rfl, rfl⟩ : cx = (x : Int) ∧ cy = (y : Int) ∧ cv = D.f y x := by simpa using hcc
        have hcN := bk_cell KN; have hcX := bk_cell KX
        have hbd := hok.out.bd y x hy hx
        have hlq : ∀ b, (S2 b ∨ b = BQ) → b < Wa.heap.size ∧ ¬ bytesS gn D.H Gn b := fun b hb => ⟨by have := hlt' b hb; omega, fun h => by have := hGc b h; have := hfar b hb; omega⟩
        have hS := store_set (c := cn) hst x y (D.f y x) hx hy hbd.1 (fun hp => by first | (cases hp; done) | (have := of_decide_eq_false hd; omega)) b4 b2
        have HS := Lib.hid hS; clear hS
        gi_wp2_with (first | fail)
        refine ⟨trivial, (CallsIn.inRound l (callsIn_wide.2 HS.out)).mono ?_⟩
        rintro e wP ⟨rfl, hst', hw⟩
        have hst' := Lib.hid hst'
        gi_wp2
        refine ⟨⟨hw.size, fun k o hB hk ho => (hw.block k (Array.getElem?_eq_some_iff.1 hk).1 (fun h => by have := hGc k h; omega)).trans hk⟩, fun b hb => hw.block b (hlq b hb).1 (hlq b hb).2,
          (hw.block BN (bk_lt KN) (fun h => by have := hGc BN h; omega)).trans KN, (hw.block g (bk_lt KG) (fun h => by have := hge g h; omega)).trans KG, ?_, hbel.trans (hw.below hbel.size hge), Nat.le_trans hM hw.size⟩
        rw [List.map_append]
        show StoreAt false gn D.W D.H (PkF D (pre.map (·.1) ++ [((x : Int), (y : Int), D.f y x)])) Gn wP
        rw [← pkF_snoc]
        exact hst'.out
      case done =>
        rintro Dd ys Wz hD hys ⟨KN, KG, hst, hbel, hM⟩ hK
        have hcN := bk_cell KN; have hcG := bk_cell KG; have hfG := bk_free KG
        have hst := Lib.hid hst
        have hgD : g ≠ Dd := by omega
        gi_wp2_with (first | fail)
        refine wpIn_mono (Q := barredP _) ?_ barredP_out
        gi_region_with (fail)
        all_goals
          refine barredP_nm ?_
          gi_wp2
          refine ⟨by simp, .inl ⟨_, _, rfl, run_takeDeferred ?hk, ?hr⟩⟩
          case hk => exact (KeepsOthers.trans (KeepsOthers.trans (KeepsOthers.drew Wz) (KeepsOthers.setCell _ _ _)) (KeepsOthers.setCell _ _ _)).same Dd _ hK rfl
          case hr =>
            refine ⟨_, results_tmp (show Try.f28.results = #[.tmp 4] from rfl) _ _ _, ?_⟩
            refine pk_end false (c := cn) (Dd := Dd) HF.out HSB.out hge hys hst.out hbel (by omega) ⟨by omega, fun b hb => by have := hGc b hb; omega⟩ ?_ ?_
            · refine Wrote.trans (((Wrote.refl _ Wz).drew.setCell (p := ⟨g, _, none⟩) (.inl (.inl rfl)) _).setCell (p := ⟨g, _, none⟩) (.inl (.inl rfl)) _) ⟨rfl, rfl, rfl, (grownBy_putObj' _ Dd (.deferred none)).size, fun k hk hn => (grownBy_putObj' _ Dd (.deferred none)).block k hk (fun e => hn (.inr (by simpa using e)))⟩
            · refine put_far hgD ?_
              exact bk_eq (by repeat (with_reducible (first | exact KG | apply bk_set | refine bk_drew ?_ | refine bk_drewN ?_ _ | refine bk_alloc ?_ _ | refine bk_far ?_ (by simp; try omega) _))) (by simp)
      case stop =>
        rintro D2 c pre Wz _ hp h _
        exact h.elim
  · subst hon
    refine (callsIn_wide (n := 8)).1 ?_
    refine callsIn_of_wp_marks Try.func28 rfl trivial ?_ rfl
    simp only [Try.ntmps28, List.size_toArray, List.length_cons, List.length_nil, Nat.reduceAdd, Nat.reduceSub, Array.replicate_succ, Array.replicate_zero, List.push_toArray, List.append_toArray, List.nil_append, List.cons_append]
    gi_wp2_with (refine ⟨trivial, ?_⟩; gi_at_call 34; refine (callsIn_wide.2 H0.out).mono ?_; rintro e w' ⟨rfl, rfl⟩)
    refine ⟨trivial, (callsIn_wide.2 (store_fresh _ D.W D.H D.St w b1 b2 b3 b4)).mono ?_⟩
    rintro e w1 ⟨gn, cn, Gn, rfl, hst, hge, hb1⟩
    have hst := Lib.hid hst
    gi_upto_region 8 with (fail)
    have KN := bk_new w1 (.cells #[.iface (stT true) (.agg #[.slice (some ⟨gn, 0, none⟩) D.H cn])] 55)
    have hbA := boxed w1 (.cells #[.iface (stT true) (.agg #[.slice (some ⟨gn, 0, none⟩) D.H cn])] 55)
    have hst2 := Lib.hid (hst.out.keep (w' := w1.alloc (.cells #[.iface (stT true) (.agg #[.slice (some ⟨gn, 0, none⟩) D.H cn])] 55)) fun b hb => hbA.block b (hst.out.lt b hb))
    have hB1 := hb1.trans (hbA.mono hb1.size)
    have hGl := Lib.hid hst.out.lt
    generalize hBN : w1.heap.size = BN at *
    generalize w1.alloc (.cells #[.iface (stT true) (.agg #[.slice (some ⟨gn, 0, none⟩) D.H cn])] 55) = w2 at *
    gi_cut [35] from 8 (fun u wc => ∃ BQ g2 S2, u = .func (.func 51) #[] #[.pointer (some ⟨BQ, 0, none⟩)] ∧ Fld g2 D S2 wc ∧ wc.heap[BQ]? = some (.cells #[.pointer (some ⟨g2, 0, none⟩)] 22 (0, 0)) ∧ (∀ b, (S2 b ∨ b = BQ) → BN < b) ∧ Below w2.heap.size w2 wc)
    case first =>
      gi_wp2_with (first | fail)
      refine ⟨trivial, (callsIn_wide.2 (Cells_calls (HF.out.below hB1))).mono ?_⟩
      rintro e w3 ⟨g2, S2, BQ, rfl, hF2, hS2, hBQ, KQ, hb⟩
      gi_wp2
      gi_meet
      case rel =>
        have := bk_lt KN
        exact ⟨BQ, g2, S2, rfl, hF2, KQ, fun b hb => by rcases hb with hb | rfl; (have := hS2 b hb; omega); omega, hb⟩
    case rest =>
      obtain ⟨BQ, g2, S2, rfl, hF2, KQ, hfar, hb⟩ := hcut
      have hit := living_fldG BQ KQ hF2
      have hlt' := hit.1
      have hstc := Lib.hid (hst2.out.keep (w' := wc) fun b hb' => hb.block b (hst2.out.lt b hb'))
      replace KN := bk_below KN hb
      have KG := bk_below HC.out (hB1.trans (hb.mono hB1.size))
      have hBc := hB1.trans (hb.mono hB1.size)
      have hpn : StoreAt true gn D.W D.H (PkF D (([] : List (Sub (livL D))).map (·.1))) Gn wc := by
        show StoreAt true gn D.W D.H (PkF D []) Gn wc
        rw [pkF_nil]; exact hstc.out
      have hGc : ∀ b, bytesS gn D.H Gn b → b < BN := fun b hb => by have := hGl.out b hb; omega
      have hNl := bk_lt KN
      have hm : ∀ (u : Value) (W : World), (method 225 (stT true) (.agg #[u]) "vivarium/field.set").run Try.prog W = .ok (fSet true, .agg #[u]) W := fun u W => meth_set true u W
      have he := ent_set true
      have hle : w.heap.size ≤ wc.heap.size := hBc.size
      have hok := Lib.hid HF.out.ok
      have hgl : g < w.heap.size := bk_lt HC.out
      gi_wp2_with (first | fail)
      refine wpIn_rangeFunc_ownH rfl (by omega) (gf := 51) (lb := #[.pointer (some ⟨BQ, 0, none⟩)]) rfl trivial (enters_of Try.func51 (by kernel_rfl) rfl)
        (hit.sub (n := 7) (by omega)) keepsOn_t (keepsOn_b hit.1) (Below.refl _ _) (fun _ => rfl)
        (PkI wc.heap.size BN g gn cn _ true D Gn w) (fun _ _ _ => False) (pkI_own hle (fun b hb => by have := hGc b hb; omega)) (fun _ _ _ _ _ hs _ _ => hs)
        ⟨KN, KG, hpn, hBc, Nat.le_refl _⟩ (fun x a' Wx => ∃ BX, BQ < BX ∧ Wx.heap[BX]? = some (.cells #[.int .i64 x.1.1, .int .i64 x.1.2.1] 46 (0, 0)) ∧ a' = { tmps := #[.pointer (some ⟨g, 0, none⟩), .bool true, undef, undef, .int .i64 0, .pointer (some ⟨BN, 0, none⟩), .pointer (some ⟨BX, 0, none⟩), .int .u8 x.1.2.2, u8, u9, u10, u11, u12, u13, u14, u15, u16, u17, u18, u19, u20, u21, u22, u23, u24, u25, u26, u27, u28, u29, u30, u31, u32, u33, u34, .func (.func 51) #[] #[.pointer (some ⟨BQ, 0, none⟩)], .agg #[.int .i64 x.1.1, .int .i64 x.1.2.1], .int .u8 x.1.2.2, u38, u39, u40, u41, u42, u43, u44, u45, u46, u47, u48, u49, u50, u51, u52], defers := [] })
        (fun x a' s X Y row ⟨Bx, h1, h2, h3⟩ hg hr => ⟨Bx, h1, (blk_own (β := Unit) Bx _ (fun _ => _)) () X Y row h2 hg (fun r e => (hr r e).2), h3⟩) ?assign ?body ?done ?stop
      case assign =>
        intro l pre x Wa K hi hK
        obtain ⟨KN, KG, hst, hbel, hM⟩ := id hi
        simp [celV]
        gi_wp2
        refine hK _ _ ((KeepsOthers.alloc _ _).from _) (fun b hb => Below.heap_alloc _ _ _ (by have := hlt' b hb; omega)) ⟨bk_alloc KN _, bk_alloc KG _, hst.keep (fun b hb => Below.heap_alloc _ _ _ (hst.lt b hb)), hbel.alloc (by have := hbel.size; omega) _, by simp; omega⟩ ⟨Wa.heap.size, by have := hlt' BQ (.inr rfl); omega, bk_new Wa _, rfl⟩
      case body =>
        rintro l pre ⟨⟨cx, cy, cv⟩, hmem⟩ a' Wa hl ⟨r, hr⟩ ⟨KN, KG, hst, hbel, hM⟩ ⟨BX, hBX, KX, rfl⟩ hlt
        obtain ⟨y, x, hy, hx, hz, hcc⟩ := liv_mem hmem
        obtain ⟨rfl, rfl, rfl⟩ : cx = (x : Int) ∧ cy = (y : Int) ∧ cv = D.f y x := by simpa using hcc
        have hcN := bk_cell KN; have hcX := bk_cell KX
        have hbd := hok.out.bd y x hy hx
        have hlq : ∀ b, (S2 b ∨ b = BQ) → b < Wa.heap.size ∧ ¬ bytesS gn D.H Gn b := fun b hb => ⟨by have := hlt' b hb; omega, fun h => by have := hGc b h; have := hfar b hb; omega⟩
        have hS := store_set (c := cn) hst x y (D.f y x) hx hy hbd.1 (fun hp => by first | (cases hp; done) | (have := of_decide_eq_false hd; omega)) b4 b2
        have HS := Lib.hid hS; clear hS
        gi_wp2_with (first | fail)
        refine ⟨trivial, (CallsIn.inRound l (callsIn_wide.2 HS.out)).mono ?_⟩
        rintro e wP ⟨rfl, hst', hw⟩
        have hst' := Lib.hid hst'
        gi_wp2
        refine ⟨⟨hw.size, fun k o hB hk ho => (hw.block k (Array.getElem?_eq_some_iff.1 hk).1 (fun h => by have := hGc k h; omega)).trans hk⟩, fun b hb => hw.block b (hlq b hb).1 (hlq b hb).2,
          (hw.block BN (bk_lt KN) (fun h => by have := hGc BN h; omega)).trans KN, (hw.block g (bk_lt KG) (fun h => by have := hge g h; omega)).trans KG, ?_, hbel.trans (hw.below hbel.size hge), Nat.le_trans hM hw.size⟩
        rw [List.map_append]
        show StoreAt true gn D.W D.H (PkF D (pre.map (·.1) ++ [((x : Int), (y : Int), D.f y x)])) Gn wP
        rw [← pkF_snoc]
        exact hst'.out
      case done =>
        rintro Dd ys Wz hD hys ⟨KN, KG, hst, hbel, hM⟩ hK
        have hcN := bk_cell KN; have hcG := bk_cell KG; have hfG := bk_free KG
        have hst := Lib.hid hst
        have hgD : g ≠ Dd := by omega
        gi_wp2_with (first | fail)
        refine wpIn_mono (Q := barredP _) ?_ barredP_out
        gi_region_with (fail)
        all_goals
          refine barredP_nm ?_
          gi_wp2
          refine ⟨by simp, .inl ⟨_, _, rfl, run_takeDeferred ?hk, ?hr⟩⟩
          case hk => exact (KeepsOthers.trans (KeepsOthers.trans (KeepsOthers.drew Wz) (KeepsOthers.setCell _ _ _)) (KeepsOthers.setCell _ _ _)).same Dd _ hK rfl
          case hr =>
            refine ⟨_, results_tmp (show Try.f28.results = #[.tmp 4] from rfl) _ _ _, ?_⟩
            refine pk_end true (c := cn) (Dd := Dd) HF.out (fun _ => HSB.out trivial) hge hys hst.out hbel (by omega) ⟨by omega, fun b hb => by have := hGc b hb; omega⟩ ?_ ?_
            · refine Wrote.trans (((Wrote.refl _ Wz).drew.setCell (p := ⟨g, _, none⟩) (.inl (.inl rfl)) _).setCell (p := ⟨g, _, none⟩) (.inl (.inl rfl)) _) ⟨rfl, rfl, rfl, (grownBy_putObj' _ Dd (.deferred none)).size, fun k hk hn => (grownBy_putObj' _ Dd (.deferred none)).block k hk (fun e => hn (.inr (by simpa using e)))⟩
            · refine put_far hgD ?_
              exact bk_eq (by repeat (with_reducible (first | exact KG | apply bk_set | refine bk_drew ?_ | refine bk_drewN ?_ _ | refine bk_alloc ?_ _ | refine bk_far ?_ (by simp; try omega) _))) (by simp)
      case stop =>
        rintro D2 c pre Wz _ hp h _
        exact h.elim

theorem Pack_calls {g : Nat} {D : FD} {S : Nat → Prop} {w : World} (on : Bool) (h : Fld g D S w) : Calls Try.prog 28 #[.pointer (some ⟨g, 0, none⟩), .bool on] w (PackP g D S on w) := by
  by_cases he : on = true ∧ 2 < D.St
  · obtain ⟨rfl, he⟩ := he
    exact Pack_err h he
  · have hs : on = true → D.St ≤ 2 := fun e => by
      by_cases h2 : 2 < D.St
      · exact absurd ⟨e, h2⟩ he
      · omega
    by_cases hp : on = D.pk
    · subst hp
      exact Pack_same h hs
    · exact Pack_turn on h hs hp
end Go.Proofs.Ytjhfiibfknhniaa
