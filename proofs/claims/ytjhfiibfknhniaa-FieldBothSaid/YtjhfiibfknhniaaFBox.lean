/- Box, by the contract of what goes through the living cells. -/
import Derived.Test.YtjhfiibfknhniaaFPop
import Derived.Test.YtjhfiibfknhniaaFBoxM
set_option linter.unusedVariables false
set_option linter.unusedSimpArgs false
namespace Go.Proofs.Ytjhfiibfknhniaa
open Go.RowKit Go.Shelf Go.Viv
attribute [local go_sem] Oper.semAt_some

theorem blk_own {β : Type} (B : Nat) (t : TypeId) (f : β → Array Value) : Own (fun s W => W.heap[B]? = some (.cells (f s) t (0, 0))) := fun s X Y row hs hg hrow =>
  (hg.block B (bk_lt hs) (fun e' => by obtain ⟨o, ho, hc⟩ := hrow B e'.symm; rw [hs] at ho; cases ho; cases hc)).trans hs

/-- what Box answers, of the cells that live -/
def boxV (L : List Cel) : Value := .tuple #[.agg #[.int .i64 (low (L.map (·.1))), .int .i64 (low (L.map (·.2.1))), .int .i64 (if L.isEmpty then 0 else high (L.map (·.1)) - low (L.map (·.1)) + 1), .int .i64 (if L.isEmpty then 0 else high (L.map (·.2.1)) - low (L.map (·.2.1)) + 1)], .bool (!L.isEmpty)]

def BoxI (q : Option Addr) (n₀ B0 B1 B2 B3 B4 : Nat) (w : World) (pre : List Cel) (W : World) : Prop :=
  W.heap[B0]? = some (.cells #[.int .i64 0, .int .i64 0, .int .i64 0, .int .i64 0] 60 (0, 0)) ∧ W.heap[B1]? = some (.cells #[.int .i64 (low (pre.map (·.1))), .int .i64 (low (pre.map (·.2.1)))] 46 (0, 0)) ∧
  W.heap[B2]? = some (.cells #[.int .i64 (high (pre.map (·.1))), .int .i64 (high (pre.map (·.2.1)))] 46 (0, 0)) ∧ W.heap[B3]? = some (.cells #[.bool (!pre.isEmpty)] 4 (0, 0)) ∧ W.heap[B4]? = some (.cells #[.pointer q] 22 (0, 0)) ∧ Below n₀ w W
theorem boxI_own {q : Option Addr} {n₀ B0 B1 B2 B3 B4 B : Nat} {w : World} (h1 : n₀ ≤ w.heap.size) (h2 : n₀ ≤ B) : OwnFrom B (BoxI q n₀ B0 B1 B2 B3 B4 w) :=
  OwnFrom.and ((blk_own _ _ _).from _) (OwnFrom.and ((blk_own _ _ _).from _) (OwnFrom.and ((blk_own _ _ _).from _) (OwnFrom.and ((blk_own _ _ _).from _) (OwnFrom.and ((blk_own _ _ _).from _) (ownFrom_below h1 h2)))))

/-- a place's box in a round -/
def BoxA (q : Option Addr) (g B0 B1 B2 B3 B4 : Nat) (x : Cel) (a : Act) (W : World) : Prop :=
  ∃ Bx, B4 < Bx ∧ W.heap[Bx]? = some (.cells #[.int .i64 x.1, .int .i64 x.2.1] 46 (0, 0)) ∧
    a = { tmps := ([.pointer q, undef, .pointer (some ⟨B0, 0, none⟩), .bool false, .pointer (some ⟨B1, 0, none⟩), .pointer (some ⟨B2, 0, none⟩), .pointer (some ⟨B3, 0, none⟩), .pointer (some ⟨Bx, 0, none⟩), .pointer q, .func (.func g) #[] #[.pointer (some ⟨B4, 0, none⟩)], .agg #[.int .i64 x.1, .int .i64 x.2.1], .int .u8 x.2.2] ++ List.replicate 46 undef).toArray, defers := [] }
theorem boxA_own {q : Option Addr} {g B0 B1 B2 B3 B4 B : Nat} (x : Cel) (a : Act) : OwnFrom B (fun (_ : Unit) W => BoxA q g B0 B1 B2 B3 B4 x a W) := by
  intro s X Y row ⟨Bx, h1, h2, h3⟩ hg hr
  exact ⟨Bx, h1, (blk_own (β := Unit) Bx _ (fun _ => _)) () X Y row h2 hg (fun r e => (hr r e).2), h3⟩

/-- a round's end -/
theorem box_step {q : Option Addr} {S : Nat → Prop} {B0 B1 B2 B3 B4 : Nat} {w W0 W W2 : World} {pre : List Cel} {x : Cel} {a a1 a2 b1 b2 : Int} {act : Act} {o1 o2 o3 : Array Value}
    (hS : ∀ b, S b → b < B0) (hlt1 : B0 < B1) (hlt2 : B1 < B2) (hlt3 : B2 < B3) (hlt4 : B3 < B4) (hk : KeepsOthers W W2) (hs : KeepsOn (fun b => S b ∨ b = B4) W W2)
    (K0 : W2.heap[B0]? = some (.cells #[.int .i64 0, .int .i64 0, .int .i64 0, .int .i64 0] 60 (0, 0))) (K1 : W2.heap[B1]? = some (.cells o1 46 (0, 0))) (h1s : o1.size = 2)
    (K2 : W2.heap[B2]? = some (.cells o2 46 (0, 0))) (h2s : o2.size = 2) (K3 : W2.heap[B3]? = some (.cells o3 4 (0, 0))) (h3s : o3.size = 1) (K4 : W2.heap[B4]? = some (.cells #[.pointer q] 22 (0, 0))) (hB : Below B0 w W2) (hw : B0 ≤ w.heap.size)
    (e1 : a1 = low ((pre ++ [x]).map (·.1))) (e2 : a2 = low ((pre ++ [x]).map (·.2.1))) (e3 : b1 = high ((pre ++ [x]).map (·.1))) (e4 : b2 = high ((pre ++ [x]).map (·.2.1))) :
    ownPostG W0.heap.size (KeepsOn fun b => S b ∨ b = B4) (BoxI q B0 B0 B1 B2 B3 B4 w) (fun _ _ _ => False) (pre ++ [x]) W Exit.normal act
      (((((W2.setCell ⟨B3, 0, none⟩ (.bool true)).setCell ⟨B1, 0, none⟩ (.int .i64 a1)).setCell ⟨B1, 1, none⟩ (.int .i64 a2)).setCell ⟨B2, 0, none⟩ (.int .i64 b1)).setCell ⟨B2, 1, none⟩ (.int .i64 b2)) := by
  subst e1 e2 e3 e4
  have hsz := hB.size
  obtain ⟨l1⟩ := o1; obtain ⟨l2⟩ := o2; obtain ⟨l3⟩ := o3
  match l1, h1s, l2, h2s, l3, h3s with
  | [u1, u2], _, [u3, u4], _, [u5], _ =>
    refine ⟨((((((hk.trans (KeepsOthers.setCell _ _ _)).trans (KeepsOthers.setCell _ _ _)).trans (KeepsOthers.setCell _ _ _)).trans (KeepsOthers.setCell _ _ _)).trans (KeepsOthers.setCell _ _ _)).from _), ?_, ?_⟩
    · intro b hb
      have hne : b ≠ B1 ∧ b ≠ B2 ∧ b ≠ B3 := by
        rcases hb with hb | rfl
        · have := hS b hb; omega
        · omega
      rw [Below.heap_setCell _ _ _ b (by simpa using hne.2.1), Below.heap_setCell _ _ _ b (by simpa using hne.2.1), Below.heap_setCell _ _ _ b (by simpa using hne.1), Below.heap_setCell _ _ _ b (by simpa using hne.1), Below.heap_setCell _ _ _ b (by simpa using hne.2.2)]
      exact hs b hb
    · refine ⟨(by repeat (with_reducible (first | exact K0 | apply bk_set | refine bk_drew ?_ | refine bk_drewN ?_ _ | refine bk_alloc ?_ _ | refine bk_far ?_ (by simp; try omega) _))), bk_eq (by repeat (with_reducible (first | exact K1 | apply bk_set | refine bk_drew ?_ | refine bk_drewN ?_ _ | refine bk_alloc ?_ _ | refine bk_far ?_ (by simp; try omega) _))) (by simp), bk_eq (by repeat (with_reducible (first | exact K2 | apply bk_set | refine bk_drew ?_ | refine bk_drewN ?_ _ | refine bk_alloc ?_ _ | refine bk_far ?_ (by simp; try omega) _))) (by simp), bk_eq (by repeat (with_reducible (first | exact K3 | apply bk_set | refine bk_drew ?_ | refine bk_drewN ?_ _ | refine bk_alloc ?_ _ | refine bk_far ?_ (by simp; try omega) _))) (by simp), (by repeat (with_reducible (first | exact K4 | apply bk_set | refine bk_drew ?_ | refine bk_drewN ?_ _ | refine bk_alloc ?_ _ | refine bk_far ?_ (by simp; try omega) _))), ?_⟩
      exact (((((hB.setCell (p := ⟨B3, 0, none⟩) (by simp; omega) _).setCell (p := ⟨B1, 0, none⟩) (by simp; omega) _).setCell (p := ⟨B1, 1, none⟩) (by simp; omega) _).setCell (p := ⟨B2, 0, none⟩) (by simp; omega) _).setCell (p := ⟨B2, 1, none⟩) (by simp; omega) _)

set_option maxRecDepth 100000 in
set_option maxHeartbeats 4000000 in
theorem Box_lives {q : Option Addr} {S : Nat → Prop} {L : List Cel} {w : World} (h : Lives q S L w) (hL : ∀ c ∈ L, (0 ≤ c.1 ∧ c.1 ≤ 65536) ∧ (0 ≤ c.2.1 ∧ c.2.1 ≤ 65536)) : Calls Try.prog 27 #[.pointer q] w fun e w' => e = .returned (boxV L) ∧ Below w.heap.size w w' := by
  obtain ⟨hS, hlv⟩ := h
  have hbd := low_range (l := L.map (·.1)) (a := 0) (b := 65536) (by intro x hx; obtain ⟨c, hc, rfl⟩ := List.mem_map.1 hx; exact (hL c hc).1) (by omega) (by omega)
  have hbe := low_range (l := L.map (·.2.1)) (a := 0) (b := 65536) (by intro x hx; obtain ⟨c, hc, rfl⟩ := List.mem_map.1 hx; exact (hL c hc).2) (by omega) (by omega)
  have hbf := high_range (l := L.map (·.1)) (a := 0) (b := 65536) (by intro x hx; obtain ⟨c, hc, rfl⟩ := List.mem_map.1 hx; exact (hL c hc).1) (by omega) (by omega)
  have hbg := high_range (l := L.map (·.2.1)) (a := 0) (b := 65536) (by intro x hx; obtain ⟨c, hc, rfl⟩ := List.mem_map.1 hx; exact (hL c hc).2) (by omega) (by omega)
  clear hL
  refine (callsIn_wide (n := 8)).1 ?_
  refine callsIn_of_wp_marks Try.func27 rfl trivial ?_ rfl
  simp only [Try.ntmps27, List.size_toArray, List.length_cons, List.length_nil, Nat.reduceAdd, Nat.reduceSub, Array.replicate_succ, Array.replicate_zero, List.push_toArray, List.append_toArray, List.nil_append, List.cons_append]
  gi_wp2_with (refine ⟨trivial, ?_⟩; gi_at_call 37; refine (callsIn_wide.2 (living_calls _ _)).mono ?_; rintro e w' ⟨rfl, rfl⟩)
  have K4 := bk_newn ((((w.alloc (.cells #[.int .i64 0, .int .i64 0, .int .i64 0, .int .i64 0] 60)).alloc (.cells #[.int .i64 0, .int .i64 0] 46)).alloc (.cells #[.int .i64 0, .int .i64 0] 46)).alloc (.cells #[.bool false] 4)) (.cells #[.pointer q] 22) (w.heap.size + 1 + 1 + 1 + 1) (by simp)
  have K3 := bk_alloc (bk_newn (((w.alloc (.cells #[.int .i64 0, .int .i64 0, .int .i64 0, .int .i64 0] 60)).alloc (.cells #[.int .i64 0, .int .i64 0] 46)).alloc (.cells #[.int .i64 0, .int .i64 0] 46)) (.cells #[.bool false] 4) (w.heap.size + 1 + 1 + 1) (by simp)) (.cells #[.pointer q] 22)
  have K2 := bk_alloc (bk_alloc (bk_newn ((w.alloc (.cells #[.int .i64 0, .int .i64 0, .int .i64 0, .int .i64 0] 60)).alloc (.cells #[.int .i64 0, .int .i64 0] 46)) (.cells #[.int .i64 0, .int .i64 0] 46) (w.heap.size + 1 + 1) (by simp)) (.cells #[.bool false] 4)) (.cells #[.pointer q] 22)
  have K1 := bk_alloc (bk_alloc (bk_alloc (bk_newn (w.alloc (.cells #[.int .i64 0, .int .i64 0, .int .i64 0, .int .i64 0] 60)) (.cells #[.int .i64 0, .int .i64 0] 46) (w.heap.size + 1) (by simp)) (.cells #[.int .i64 0, .int .i64 0] 46)) (.cells #[.bool false] 4)) (.cells #[.pointer q] 22)
  have K0 := bk_alloc (bk_alloc (bk_alloc (bk_alloc (bk_newn w (.cells #[.int .i64 0, .int .i64 0, .int .i64 0, .int .i64 0] 60) w.heap.size rfl) (.cells #[.int .i64 0, .int .i64 0] 46)) (.cells #[.int .i64 0, .int .i64 0] 46)) (.cells #[.bool false] 4)) (.cells #[.pointer q] 22)
  have hBw : Below w.heap.size w (((((w.alloc (.cells #[.int .i64 0, .int .i64 0, .int .i64 0, .int .i64 0] 60)).alloc (.cells #[.int .i64 0, .int .i64 0] 46)).alloc (.cells #[.int .i64 0, .int .i64 0] 46)).alloc (.cells #[.bool false] 4)).alloc (.cells #[.pointer q] 22)) := (((((boxed w _).alloc (by simp) _).alloc (by simp; omega) _).alloc (by simp; omega) _).alloc (by simp; omega) _)
  have hsz : w.heap.size + 1 + 1 + 1 + 1 < (((((w.alloc (.cells #[.int .i64 0, .int .i64 0, .int .i64 0, .int .i64 0] 60)).alloc (.cells #[.int .i64 0, .int .i64 0] 46)).alloc (.cells #[.int .i64 0, .int .i64 0] 46)).alloc (.cells #[.bool false] 4)).alloc (.cells #[.pointer q] 22)).heap.size := by simp
  generalize (((((w.alloc (.cells #[.int .i64 0, .int .i64 0, .int .i64 0, .int .i64 0] 60)).alloc (.cells #[.int .i64 0, .int .i64 0] 46)).alloc (.cells #[.int .i64 0, .int .i64 0] 46)).alloc (.cells #[.bool false] 4)).alloc (.cells #[.pointer q] 22)) = W0 at *
  have hit := hlv W0 (w.heap.size + 1 + 1 + 1 + 1) hBw (by omega) K4
  have hlt4 : w.heap.size + 1 + 1 + 1 < w.heap.size + 1 + 1 + 1 + 1 := by omega
  have hlt3 : w.heap.size + 1 + 1 < w.heap.size + 1 + 1 + 1 := by omega
  have hlt2 : w.heap.size + 1 < w.heap.size + 1 + 1 := by omega
  have hlt1 : w.heap.size < w.heap.size + 1 := by omega
  generalize w.heap.size + 1 + 1 + 1 + 1 = B4 at *
  generalize w.heap.size + 1 + 1 + 1 = B3 at *
  generalize w.heap.size + 1 + 1 = B2 at *
  generalize w.heap.size + 1 = B1 at *
  generalize hB0 : w.heap.size = B0 at *
  have HB0 := Lib.hid hB0; clear hB0
  have hB0w : B0 ≤ w.heap.size := by rw [HB0.out]; exact Nat.le_refl _
  refine wpIn_rangeFunc_ownH rfl (by omega) (gf := 51) (lb := #[.pointer (some ⟨B4, 0, none⟩)]) rfl trivial (enters_of Try.func51 (by kernel_rfl) rfl)
    (hit.2 7 (by omega)) keepsOn_t (keepsOn_b hit.1) (Below.refl _ _) (fun _ => rfl)
    (BoxI q B0 B0 B1 B2 B3 B4 w) (fun _ _ _ => False) (boxI_own hB0w (by omega)) (fun _ _ _ _ _ hs _ _ => hs)
    ⟨K0, K1, K2, K3, K4, hBw⟩ (BoxA q 51 B0 B1 B2 B3 B4) (fun x a' => boxA_own x a') ?assign ?body ?done ?stop
  case assign =>
    intro l pre x W K hi hK
    obtain ⟨K0, K1, K2, K3, K4, hB⟩ := id hi
    have hlt0 := bk_lt K4
    simp [celV]
    gi_wp2
    refine hK _ _ ((KeepsOthers.alloc _ _).from _) (fun b hb => Below.heap_alloc _ _ _ ?_) ⟨bk_alloc K0 _, bk_alloc K1 _, bk_alloc K2 _, bk_alloc K3 _, bk_alloc K4 _, hB.alloc (Nat.le_trans hB0w hB.size) _⟩ ⟨W.heap.size, hlt0, bk_new W _, rfl⟩
    rcases hb with hb | rfl
    · have := hS b hb; omega
    · exact hlt0
  case body =>
    rintro l pre x a' W hl ⟨r, hr⟩ ⟨K0, K1, K2, K3, K4, hB⟩ ⟨Bx, hBx, KX, rfl⟩ hlt
    simp only [List.replicate_succ, List.replicate_zero, List.nil_append, List.cons_append]
    have hc1 := bk_cell K1; have hc2 := bk_cell K2; have hc3 := bk_cell K3; have hcX := bk_cell KX
    have hf1 := bk_free K1; have hf2 := bk_free K2; have hf3 := bk_free K3
    by_cases hp : pre = []
    · subst hp
      gi_wp2
      gi_region
      all_goals
        have hk2 : KeepsOthers W ((((W.setCell ⟨B1, 0, none⟩ (.int .i64 x.1)).setCell ⟨B1, 1, none⟩ (.int .i64 x.2.1)).setCell ⟨B2, 0, none⟩ (.int .i64 x.1)).setCell ⟨B2, 1, none⟩ (.int .i64 x.2.1)).drew := (((((KeepsOthers.setCell W _ _).trans (KeepsOthers.setCell _ _ _)).trans (KeepsOthers.setCell _ _ _)).trans (KeepsOthers.setCell _ _ _)).trans (KeepsOthers.drew _))
        have hs2 : KeepsOn (fun b => S b ∨ b = B4) W ((((W.setCell ⟨B1, 0, none⟩ (.int .i64 x.1)).setCell ⟨B1, 1, none⟩ (.int .i64 x.2.1)).setCell ⟨B2, 0, none⟩ (.int .i64 x.1)).setCell ⟨B2, 1, none⟩ (.int .i64 x.2.1)).drew := by
          intro b hb
          have hne : b ≠ B1 ∧ b ≠ B2 := by
            rcases hb with hb | rfl
            · have := hS b hb; omega
            · omega
          show (World.setCell _ _ _).heap[b]? = _
          rw [Below.heap_setCell _ _ _ b (by simpa using hne.2), Below.heap_setCell _ _ _ b (by simpa using hne.2), Below.heap_setCell _ _ _ b (by simpa using hne.1), Below.heap_setCell _ _ _ b (by simpa using hne.1)]
        have k0 : ((((W.setCell ⟨B1, 0, none⟩ (.int .i64 x.1)).setCell ⟨B1, 1, none⟩ (.int .i64 x.2.1)).setCell ⟨B2, 0, none⟩ (.int .i64 x.1)).setCell ⟨B2, 1, none⟩ (.int .i64 x.2.1)).drew.heap[B0]? = some (.cells #[.int .i64 0, .int .i64 0, .int .i64 0, .int .i64 0] 60 (0, 0)) := (by repeat (with_reducible (first | exact K0 | apply bk_set | refine bk_drew ?_ | refine bk_drewN ?_ _ | refine bk_alloc ?_ _ | refine bk_far ?_ (by simp; try omega) _)))
        have k1 : ((((W.setCell ⟨B1, 0, none⟩ (.int .i64 x.1)).setCell ⟨B1, 1, none⟩ (.int .i64 x.2.1)).setCell ⟨B2, 0, none⟩ (.int .i64 x.1)).setCell ⟨B2, 1, none⟩ (.int .i64 x.2.1)).drew.heap[B1]? = some (.cells #[.int .i64 x.1, .int .i64 x.2.1] 46 (0, 0)) := bk_eq (by repeat (with_reducible (first | exact K1 | apply bk_set | refine bk_drew ?_ | refine bk_drewN ?_ _ | refine bk_alloc ?_ _ | refine bk_far ?_ (by simp; try omega) _))) (by simp)
        have k2 : ((((W.setCell ⟨B1, 0, none⟩ (.int .i64 x.1)).setCell ⟨B1, 1, none⟩ (.int .i64 x.2.1)).setCell ⟨B2, 0, none⟩ (.int .i64 x.1)).setCell ⟨B2, 1, none⟩ (.int .i64 x.2.1)).drew.heap[B2]? = some (.cells #[.int .i64 x.1, .int .i64 x.2.1] 46 (0, 0)) := bk_eq (by repeat (with_reducible (first | exact K2 | apply bk_set | refine bk_drew ?_ | refine bk_drewN ?_ _ | refine bk_alloc ?_ _ | refine bk_far ?_ (by simp; try omega) _))) (by simp)
        have k3 : ((((W.setCell ⟨B1, 0, none⟩ (.int .i64 x.1)).setCell ⟨B1, 1, none⟩ (.int .i64 x.2.1)).setCell ⟨B2, 0, none⟩ (.int .i64 x.1)).setCell ⟨B2, 1, none⟩ (.int .i64 x.2.1)).drew.heap[B3]? = some (.cells #[.bool false] 4 (0, 0)) := bk_eq (by repeat (with_reducible (first | exact K3 | apply bk_set | refine bk_drew ?_ | refine bk_drewN ?_ _ | refine bk_alloc ?_ _ | refine bk_far ?_ (by simp; try omega) _))) (by simp)
        have k4 : ((((W.setCell ⟨B1, 0, none⟩ (.int .i64 x.1)).setCell ⟨B1, 1, none⟩ (.int .i64 x.2.1)).setCell ⟨B2, 0, none⟩ (.int .i64 x.1)).setCell ⟨B2, 1, none⟩ (.int .i64 x.2.1)).drew.heap[B4]? = some (.cells #[.pointer q] 22 (0, 0)) := (by repeat (with_reducible (first | exact K4 | apply bk_set | refine bk_drew ?_ | refine bk_drewN ?_ _ | refine bk_alloc ?_ _ | refine bk_far ?_ (by simp; try omega) _)))
        have kX : ((((W.setCell ⟨B1, 0, none⟩ (.int .i64 x.1)).setCell ⟨B1, 1, none⟩ (.int .i64 x.2.1)).setCell ⟨B2, 0, none⟩ (.int .i64 x.1)).setCell ⟨B2, 1, none⟩ (.int .i64 x.2.1)).drew.heap[Bx]? = some (.cells #[.int .i64 x.1, .int .i64 x.2.1] 46 (0, 0)) := (by repeat (with_reducible (first | exact KX | apply bk_set | refine bk_drew ?_ | refine bk_drewN ?_ _ | refine bk_alloc ?_ _ | refine bk_far ?_ (by simp; try omega) _)))
        have hB2 : Below B0 w ((((W.setCell ⟨B1, 0, none⟩ (.int .i64 x.1)).setCell ⟨B1, 1, none⟩ (.int .i64 x.2.1)).setCell ⟨B2, 0, none⟩ (.int .i64 x.1)).setCell ⟨B2, 1, none⟩ (.int .i64 x.2.1)).drew := ((((hB.setCell (p := ⟨B1, 0, none⟩) (by simp; omega) _).setCell (p := ⟨B1, 1, none⟩) (by simp; omega) _).setCell (p := ⟨B2, 0, none⟩) (by simp; omega) _).setCell (p := ⟨B2, 1, none⟩) (by simp; omega) _).drew
        clear hc1 hc2 hc3 hcX hf1 hf2 hf3
        generalize ((((W.setCell ⟨B1, 0, none⟩ (.int .i64 x.1)).setCell ⟨B1, 1, none⟩ (.int .i64 x.2.1)).setCell ⟨B2, 0, none⟩ (.int .i64 x.1)).setCell ⟨B2, 1, none⟩ (.int .i64 x.2.1)).drew = W2 at *
        have hc1 := bk_cell k1; have hc2 := bk_cell k2; have hc3 := bk_cell k3; have hcX := bk_cell kX
        have hf1 := bk_free k1; have hf2 := bk_free k2; have hf3 := bk_free k3
        gi_wp2
        all_goals exact box_step (a := 0) hS hlt1 hlt2 hlt3 hlt4 hk2 hs2 k0 k1 rfl k2 rfl k3 rfl k4 hB2 hB0w (by simp [low]) (by simp [low]) (by simp [high]) (by simp [high])
    · have hp' : pre.isEmpty = false := by cases pre; exact absurd rfl hp; rfl
      have l1 := low_snoc (pre.map (·.1)) x.1
      have l2 := low_snoc (pre.map (·.2.1)) x.2.1
      have l3 := high_snoc (pre.map (·.1)) x.1
      have l4 := high_snoc (pre.map (·.2.1)) x.2.1
      have L1 : Hid (low ((pre ++ [x]).map (·.1)) = min (low (pre.map (·.1))) x.1) := by rw [List.map_append]; rw [if_neg (by simpa using hp)] at l1; exact l1
      have L2 : Hid (low ((pre ++ [x]).map (·.2.1)) = min (low (pre.map (·.2.1))) x.2.1) := by rw [List.map_append]; rw [if_neg (by simpa using hp)] at l2; exact l2
      have L3 : Hid (high ((pre ++ [x]).map (·.1)) = max (high (pre.map (·.1))) x.1) := by rw [List.map_append]; rw [if_neg (by simpa using hp)] at l3; exact l3
      have L4 : Hid (high ((pre ++ [x]).map (·.2.1)) = max (high (pre.map (·.2.1))) x.2.1) := by rw [List.map_append]; rw [if_neg (by simpa using hp)] at l4; exact l4
      clear l1 l2 l3 l4
      rw [hp'] at hc3
      clear hp hp'
      gi_wp2
      all_goals exact box_step (a := 0) hS hlt1 hlt2 hlt3 hlt4 (KeepsOthers.refl _) (keepsOn_refl _ _) K0 K1 rfl K2 rfl K3 rfl K4 hB hB0w (by rw [L1.out]; omega) (by rw [L2.out]; omega) (by rw [L3.out]; omega) (by rw [L4.out]; omega)
  case done =>
    rintro D ys W hD rfl ⟨K0, K1, K2, K3, K4, hB⟩ hK
    have hc0 := bk_cell K0; have hf0 := bk_free K0
    have hc1 := bk_cell K1; have hc2 := bk_cell K2; have hc3 := bk_cell K3
    have hn0 : B0 ≠ D := by omega
    rcases Bool.eq_false_or_eq_true ys.isEmpty with hye | hye
    · have hy : ys = [] := by simpa using hye
      subst hy
      rw [show (!([] : List Cel).isEmpty) = false from rfl] at hc3
      clear hye
      gi_wp2
      have hK' : ((((W.setCell ⟨B0, 0, none⟩ (.int .i64 0)).setCell ⟨B0, 1, none⟩ (.int .i64 0)).setCell ⟨B0, 2, none⟩ (.int .i64 0)).setCell ⟨B0, 3, none⟩ (.int .i64 0)).heap[D]? = some (.deferred (some [])) :=
        ((((KeepsOthers.setCell W _ _).trans (KeepsOthers.setCell _ _ _)).trans (KeepsOthers.setCell _ _ _)).trans (KeepsOthers.setCell _ _ _)).same D _ hK rfl
      have kr : ((((W.setCell ⟨B0, 0, none⟩ (.int .i64 0)).setCell ⟨B0, 1, none⟩ (.int .i64 0)).setCell ⟨B0, 2, none⟩ (.int .i64 0)).setCell ⟨B0, 3, none⟩ (.int .i64 0)).heap[B0]? = some (.cells #[.int .i64 0, .int .i64 0, .int .i64 0, .int .i64 0] 60 (0, 0)) := bk_eq (by repeat (with_reducible (first | exact K0 | apply bk_set | refine bk_drew ?_ | refine bk_drewN ?_ _ | refine bk_alloc ?_ _ | refine bk_far ?_ (by simp; try omega) _))) (by simp)
      have hb' : Below B0 w ((((W.setCell ⟨B0, 0, none⟩ (.int .i64 0)).setCell ⟨B0, 1, none⟩ (.int .i64 0)).setCell ⟨B0, 2, none⟩ (.int .i64 0)).setCell ⟨B0, 3, none⟩ (.int .i64 0)) :=
        (((hB.setCell (p := ⟨B0, 0, none⟩) (by simp) _).setCell (p := ⟨B0, 1, none⟩) (by simp) _).setCell (p := ⟨B0, 2, none⟩) (by simp) _).setCell (p := ⟨B0, 3, none⟩) (by simp) _
      refine ⟨by simp, .inl ⟨_, _, rfl, run_takeDeferred hK', ?_⟩⟩
      refine ⟨_, res_ct rfl _ _ B0 60 _ (0, 0) _ rfl (((grownBy_putObj' _ D (.deferred none)).block B0 (bk_lt kr) (by simpa using hn0)).trans kr) Try.underlying60 rfl (by kernel_rfl), rfl, ?_⟩
      rw [HB0.out]
      exact hb'.trans (belowK_b (w := w) hB0w _ D _ _ (by have := hBw.size; omega) hK' rfl rfl)
    · have hyn : ys.isEmpty = false := hye
      rw [hyn] at hc3
      have HV : Hid (boxV ys = .tuple #[.agg #[.int .i64 (low (ys.map (·.1))), .int .i64 (low (ys.map (·.2.1))), .int .i64 (high (ys.map (·.1)) - low (ys.map (·.1)) + 1), .int .i64 (high (ys.map (·.2.1)) - low (ys.map (·.2.1)) + 1)], .bool true]) := by show boxV ys = _; unfold boxV; rw [hyn]; rfl
      clear hye hyn
      gi_wp2
      have hK' : ((((W.setCell ⟨B0, 0, none⟩ (.int .i64 (low (ys.map (·.1))))).setCell ⟨B0, 1, none⟩ (.int .i64 (low (ys.map (·.2.1))))).setCell ⟨B0, 2, none⟩ (.int .i64 (high (ys.map (·.1)) - low (ys.map (·.1)) + 1))).setCell ⟨B0, 3, none⟩ (.int .i64 (high (ys.map (·.2.1)) - low (ys.map (·.2.1)) + 1))).heap[D]? = some (.deferred (some [])) :=
        ((((KeepsOthers.setCell W _ _).trans (KeepsOthers.setCell _ _ _)).trans (KeepsOthers.setCell _ _ _)).trans (KeepsOthers.setCell _ _ _)).same D _ hK rfl
      have kr : ((((W.setCell ⟨B0, 0, none⟩ (.int .i64 (low (ys.map (·.1))))).setCell ⟨B0, 1, none⟩ (.int .i64 (low (ys.map (·.2.1))))).setCell ⟨B0, 2, none⟩ (.int .i64 (high (ys.map (·.1)) - low (ys.map (·.1)) + 1))).setCell ⟨B0, 3, none⟩ (.int .i64 (high (ys.map (·.2.1)) - low (ys.map (·.2.1)) + 1))).heap[B0]? = some (.cells #[.int .i64 (low (ys.map (·.1))), .int .i64 (low (ys.map (·.2.1))), .int .i64 (high (ys.map (·.1)) - low (ys.map (·.1)) + 1), .int .i64 (high (ys.map (·.2.1)) - low (ys.map (·.2.1)) + 1)] 60 (0, 0)) := bk_eq (by repeat (with_reducible (first | exact K0 | apply bk_set | refine bk_drew ?_ | refine bk_drewN ?_ _ | refine bk_alloc ?_ _ | refine bk_far ?_ (by simp; try omega) _))) (by simp)
      have hb' : Below B0 w ((((W.setCell ⟨B0, 0, none⟩ (.int .i64 (low (ys.map (·.1))))).setCell ⟨B0, 1, none⟩ (.int .i64 (low (ys.map (·.2.1))))).setCell ⟨B0, 2, none⟩ (.int .i64 (high (ys.map (·.1)) - low (ys.map (·.1)) + 1))).setCell ⟨B0, 3, none⟩ (.int .i64 (high (ys.map (·.2.1)) - low (ys.map (·.2.1)) + 1))) :=
        (((hB.setCell (p := ⟨B0, 0, none⟩) (by simp) _).setCell (p := ⟨B0, 1, none⟩) (by simp) _).setCell (p := ⟨B0, 2, none⟩) (by simp) _).setCell (p := ⟨B0, 3, none⟩) (by simp) _
      refine ⟨by simp, .inl ⟨_, _, rfl, run_takeDeferred hK', ?_⟩⟩
      refine ⟨_, res_ct rfl _ _ B0 60 _ (0, 0) _ rfl (((grownBy_putObj' _ D (.deferred none)).block B0 (bk_lt kr) (by simpa using hn0)).trans kr) Try.underlying60 rfl (by kernel_rfl), by rw [HV.out]; rfl, ?_⟩
      rw [HB0.out]
      exact hb'.trans (belowK_b (w := w) hB0w _ D _ _ (by have := hBw.size; omega) hK' rfl rfl)
  case stop =>
    rintro D c pre W _ _ h _
    exact h.elim
end Go.Proofs.Ytjhfiibfknhniaa
