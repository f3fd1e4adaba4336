/- Pop, by the contract of what goes through the living cells. -/
import Derived.Test.YtjhfiibfknhniaaFSeq
set_option linter.unusedVariables false
set_option linter.unusedSimpArgs false
namespace Go.Proofs.Ytjhfiibfknhniaa
open Go.RowKit Go.Shelf
attribute [local go_sem] Oper.semAt_some

/-- living gives what goes through just these cells, as long as what lies in S stays -/
def Lives (q : Option Addr) (S : Nat → Prop) (L : List Cel) (w : World) : Prop :=
  (∀ b, S b → b < w.heap.size) ∧ ∀ W B, Below w.heap.size w W → w.heap.size ≤ B → W.heap[B]? = some (.cells #[.pointer q] 22 (0, 0)) → Iter 51 #[.pointer (some ⟨B, 0, none⟩)] (fun b => S b ∨ b = B) L W

theorem Iter.more {g : Nat} {lb : Array Value} {S S' : Nat → Prop} {L : List Cel} {w : World} (h : Iter g lb S L w) (hS : ∀ b, S b → S' b) (hb : ∀ b, S' b → b < w.heap.size) : Iter g lb S' L w :=
  ⟨hb, fun n hn l J Jx W hW hJ hJx hY h0 => h.2 n hn l J Jx W hW hJ hJx (fun pre x W1 hj hl => (hY pre x W1 hj hl).mono fun e W' r => r.imp (fun ⟨a, b, c⟩ => ⟨a, b, fun k hk => c k (hS k hk)⟩) id) h0⟩

theorem lives_none {q : Option Addr} {w : World} (h : NoneAt q w) : Lives q (fun _ => False) [] w :=
  ⟨fun _ h => h.elim, fun W B hW hBl hB => (living_none B hB (h.below hW)).more (fun _ h => h.elim) (fun b hb => by rcases hb with hb | rfl; exact hb.elim; exact bk_lt hB)⟩

set_option maxRecDepth 100000 in
set_option maxHeartbeats 2000000 in
theorem Pop_lives {q : Option Addr} {S : Nat → Prop} {L : List Cel} {w : World} (h : Lives q S L w) (hL : L.length ≤ 4294967296) : Calls Try.prog 15 #[.pointer q] w fun e w' => e = .returned (.int .i64 L.length) ∧ Below w.heap.size w w' := by
  refine (callsIn_wide (n := 8)).1 ?_
  refine callsIn_of_wp_marks Try.func15 rfl trivial ?_ rfl
  simp only [Try.ntmps15, List.size_toArray, List.length_cons, List.length_nil, Nat.reduceAdd, Nat.reduceSub, Array.replicate_succ, Array.replicate_zero, List.push_toArray, List.append_toArray, List.nil_append, List.cons_append]
  gi_wp2_with (refine ⟨trivial, ?_⟩; gi_at_call 37; refine (callsIn_wide.2 (living_calls _ _)).mono ?_; rintro e w' ⟨rfl, rfl⟩)
  obtain ⟨hS, hlv⟩ := h
  have hB0 : Below w.heap.size w ((w.alloc (.cells #[.int .i64 0] 3)).alloc (.cells #[.pointer q] 22)) := ((Below.refl _ w).alloc (Nat.le_refl _) _).alloc (by simp) _
  have hb := bk_newn (w.alloc (.cells #[.int .i64 0] 3)) (.cells #[.pointer q] 22) (w.heap.size + 1) (by simp)
  have hs : Boxed ((w.alloc (.cells #[.int .i64 0] 3)).alloc (.cells #[.pointer q] 22)) w.heap.size 3 (.int .i64 0) := (Boxed.new w _ _).alloc _
  have hit := hlv _ (w.heap.size + 1) hB0 (by omega) hb
  refine wpIn_rangeFunc_ownF rfl (by omega) (gf := 51) (lb := #[.pointer (some ⟨w.heap.size + 1, 0, none⟩)]) rfl trivial (enters_of Try.func51 (by kernel_rfl) rfl)
    (hit.2 7 (by omega)) keepsOn_t (keepsOn_b hit.1) (Below.refl _ _) (fun _ => rfl)
    (fun pre W => Boxed W w.heap.size 3 (.int .i64 pre.length) ∧ Below w.heap.size w W)
    (fun _ _ _ => False)
    (OwnFrom.and (Own.from (boxed_own _ _ _) _) (ownFrom_below (Nat.le_refl _) (by simp; omega)))
    (fun _ _ _ _ _ hs _ _ => hs)
    ⟨hs, hB0⟩
    (fun x => { tmps := #[.pointer q, undef, .int .i64 0, .pointer (some ⟨w.heap.size, 0, none⟩), .pointer q, .func (.func 51) #[] #[.pointer (some ⟨w.heap.size + 1, 0, none⟩)], .agg #[.int .i64 x.1, .int .i64 x.2.1], .int .u8 x.2.2, undef, undef, undef], defers := [] }) ?assign ?body ?done ?stop
  case assign =>
    intro l x W K hK
    simp [celV]
    gi_wp2
    exact hK
  case body =>
    rintro l pre x W ⟨hbx, hB⟩ hlt
    have hc := hbx.cell
    have hf := hbx.frozen
    have hpl : pre.length < 4294967296 := by omega
    gi_wp2
    refine ⟨KeepsOthers.setCell _ _ _, fun b hb => Below.heap_setCell _ _ _ b ?_, ?_, hB.setCell (p := ⟨w.heap.size, 0, none⟩) (Nat.le_refl _) _⟩
    · rcases hb with hb | rfl
      · have := hS b hb; simp; omega
      · simp
    · have := hbx.set (.int .i64 (pre.length + 1))
      simpa using this
  case done =>
    rintro D ys W hD rfl ⟨hbx, hB⟩ hK
    have hc := hbx.cell
    gi_wp2
    refine ⟨by simp, .inl ⟨_, _, rfl, run_takeDeferred hK, ?_⟩⟩
    exact ⟨_, results_tmp rfl _ _ _, rfl, hB.trans (belowK_b (w := w) (Nat.le_refl _) W D _ _ (by simp at hD; omega) hK rfl rfl)⟩
  case stop =>
    rintro D c pre W _ _ h _
    exact h.elim
end Go.Proofs.Ytjhfiibfknhniaa
