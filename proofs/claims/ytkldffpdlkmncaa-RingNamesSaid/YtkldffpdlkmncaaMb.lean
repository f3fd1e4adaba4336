/- The walks of fold's calls, on: the cell of a place, of a plane or a sphere. The walks of fold's calls, on: the grid of a topology, if the places may be. The walks of fold's calls, on: Cell. -/
import Derived.Test.YtkldffpdlkmncaaMa
import Derived.Laws.EntriesVeiled
/- The walks of fold's calls, on: the grid of a topology, a kind's way, a place's cell. -/
set_option linter.unusedVariables false
set_option linter.unusedSimpArgs false
namespace Go.Proofs.Ytkldffpdlkmncaa
open Go.RowKit Go.Viv

def wayF (k : Int) : Value := .func (.func (if k = 1 then 75 else if k = 2 then 76 else if k = 3 then 77 else if k = 4 then 78 else 79)) #[] #[]

set_option maxHeartbeats 1000000 in
theorem way_calls (k : Int) (w : World) (h1 : 1 ≤ k) (h5 : k ≤ 5) : Calls Try.prog 52 #[.int .u8 k] w (Ret (wayF k) w) := by
  have : k = 1 ∨ k = 2 ∨ k = 3 ∨ k = 4 ∨ k = 5 := by omega
  rcases this with rfl | rfl | rfl | rfl | rfl
  all_goals
    clear h1 h5
    go_enter Try.func52, Try.ntmps52
    go_wp2
    go_ret
    exact Ret.of rfl (by repeat (first | exact Below.refl _ _ | exact boxed _ _ | refine Below.drew ?_ | refine Below.setCell ?_ (by simp) _ | refine Below.alloc ?_ (by simp) _))


theorem first_bounds (W : Int) (h0 : 0 ≤ W) (h1 : W ≤ 65536) : -65536 ≤ first W ∧ first W ≤ 65536 := by unfold first; omega
theorem first_zero (W : Int) (h : ¬ 0 < W) (h0 : 0 ≤ W) : first W = 0 := by have : W = 0 := by omega
                                                                            subst this; rfl

/-- the ways, of a topology that may be and is glued -/
theorem glued_way (k W H t s l p u v : Int) (w : World) (h : TopoOk k W H t s) (hg : gluedI k = true) (u1 : -2199023255552 ≤ u) (u2 : u ≤ 2199023255552) (v1 : -2199023255552 ≤ v) (v2 : v ≤ 2199023255552) :
    ∃ f, wayF k = .func (.func f) #[] #[] ∧ Calls Try.prog f #[grid k W H t s l p, .int .i64 u, .int .i64 v] w (Ret (.tuple #[.int .i64 (cellU k W H t s u v), .int .i64 (cellV k W H t s u v), .bool true]) w) := by
  have : k = 2 ∨ k = 3 ∨ k = 4 := by unfold gluedI at hg; simp at hg; omega
  rcases this with rfl | rfl | rfl
  · exact ⟨_, rfl, torus_calls W H t s l p u v w h u1 u2 v1 v2⟩
  · exact ⟨_, rfl, klein_calls W H t s l p u v w h u1 u2 v1 v2⟩
  · exact ⟨_, rfl, cross_calls W H t s l p u v w h u1 u2 v1 v2⟩

/-- what the grid's own box holds, and that nothing else has changed -/
def Held7 (W0 : World) (b : Nat) (v0 v1 v2 v3 v4 v5 v6 : Value) (w' : World) : Prop :=
    w'.cell? ⟨b, 0, none⟩ = some v0 ∧ w'.cell? ⟨b, 1, none⟩ = some v1 ∧ w'.cell? ⟨b, 2, none⟩ = some v2 ∧ w'.cell? ⟨b, 3, none⟩ = some v3 ∧ w'.cell? ⟨b, 4, none⟩ = some v4 ∧ w'.cell? ⟨b, 5, none⟩ = some v5 ∧ w'.cell? ⟨b, 6, none⟩ = some v6 ∧ Below W0.heap.size W0 w'
theorem keep7 {W0 w' : World} {b t : Nat} {v0 v1 v2 v3 v4 v5 v6 : Value} (hk : W0.heap[b]? = some (.cells #[v0, v1, v2, v3, v4, v5, v6] t (0, 0))) (hB : Below W0.heap.size W0 w') : Held7 W0 b v0 v1 v2 v3 v4 v5 v6 w' := by
  have h := bk_below hk hB
  exact ⟨(bk_cell h 0).trans rfl, (bk_cell h 1).trans rfl, (bk_cell h 2).trans rfl, (bk_cell h 3).trans rfl, (bk_cell h 4).trans rfl, (bk_cell h 5).trans rfl, (bk_cell h 6).trans rfl, hB⟩
theorem keep7n {W0 w' w2 : World} {b t : Nat} {v0 v1 v2 v3 v4 v5 v6 : Value} (hk : W0.heap[b]? = some (.cells #[v0, v1, v2, v3, v4, v5, v6] t (0, 0))) (h : Held7 W0 b v0 v1 v2 v3 v4 v5 v6 w') (h2 : Below w'.heap.size w' w2) : Held7 W0 b v0 v1 v2 v3 v4 v5 v6 w2 :=
  keep7 hk (next h.2.2.2.2.2.2.2 h2)

theorem gluedU {W x : Int} (w0 : 0 ≤ W) : (if 0 < W then x - first W else x) = x - first W := by
  split
  · rfl
  · rw [first_zero W (by assumption) w0]; omega
theorem placeU {W x : Int} (w0 : 0 ≤ W) : (if 0 < W then x + first W else x) = x + first W := by
  split
  · rfl
  · rw [first_zero W (by assumption) w0]; omega

theorem cellU_bounds {k W H t s u v : Int} (h : TopoOk k W H t s) (u1 : -2199023255552 ≤ u) (u2 : u ≤ 2199023255552) : -2199023255552 ≤ cellU k W H t s u v ∧ cellU k W H t s u v ≤ 2199023255552 := by
  have w0 := h.w0; have w1 := h.w1
  by_cases hW : W = 0
  · subst hW
    have hk : ¬ 3 ≤ k := fun hk => by have := (h.ends hk).1; omega
    have ht : ¬ (k = 2 ∧ t = 1) := fun ⟨hk, ht⟩ => by have := (h.torus hk (by omega)).2.1; omega
    unfold cellU
    rw [if_neg ht, if_neg (by omega), if_neg (by omega)]
    simp; omega
  · have e : ∀ a : Int, 0 ≤ a % W ∧ a % W < W := fun a => ⟨Int.emod_nonneg a hW, Int.emod_lt_of_pos a (by omega)⟩
    have e1 := e (u - v / H * s)
    have e2 := e (W - 1 - u + s)
    have e3 := e u
    unfold cellU
    (repeat' split) <;> omega
theorem cellV_bounds {k W H t s u v : Int} (h : TopoOk k W H t s) (u1 : -2199023255552 ≤ v) (u2 : v ≤ 2199023255552) : -2199023255552 ≤ cellV k W H t s u v ∧ cellV k W H t s u v ≤ 2199023255552 := by
  have w0 := h.h0; have w1 := h.h1
  by_cases hW : H = 0
  · subst hW
    have hk : ¬ 3 ≤ k := fun hk => by have := (h.ends hk).2; omega
    have ht : ¬ (k = 2 ∧ t = 2) := fun ⟨hk, ht⟩ => by have := (h.torus hk (by omega)).2.2; omega
    unfold cellV
    rw [if_neg ht, if_neg (by omega), if_neg (by omega)]
    simp; omega
  · have e : ∀ a : Int, 0 ≤ a % H ∧ a % H < H := fun a => ⟨Int.emod_nonneg a hW, Int.emod_lt_of_pos a (by omega)⟩
    have e1 := e (v - u / W * s)
    have e2 := e (H - 1 - v + s)
    have e3 := e v
    unfold cellV
    (repeat' split) <;> omega

end Go.Proofs.Ytkldffpdlkmncaa


set_option linter.unusedVariables false
set_option linter.unusedSimpArgs false
namespace Go.Proofs.Ytkldffpdlkmncaa
open Go.RowKit Go.Viv

end Go.Proofs.Ytkldffpdlkmncaa


set_option linter.unusedVariables false
set_option linter.unusedSimpArgs false
namespace Go.Proofs.Ytkldffpdlkmncaa
open Go.RowKit Go.Viv

def nearP (p : Int × Int) : Bool := nearI p.1 && nearI p.2

/-- places lie in memory from an address on -/
def PtsAt (w : World) (b o : Nat) (ps : List (Int × Int)) : Prop :=
  ∀ (j : Nat) (p : Int × Int), ps[j]? = some p → w.cell? ⟨b, o + j * 2, none⟩ = some (.int .i64 p.1) ∧ w.cell? ⟨b, o + j * 2 + 1, none⟩ = some (.int .i64 p.2)

theorem PtsAt.below {w w1 : World} {b o : Nat} {ps : List (Int × Int)} (h : PtsAt w b o ps) (hb : Below w.heap.size w w1) : PtsAt w1 b o ps :=
  fun j p hp => ⟨cell_later hb (h j p hp).1, cell_later hb (h j p hp).2⟩

theorem all_false {ps : List (Int × Int)} {j : Nat} {x y : Int} (h : ps[j]? = some (x, y)) (hn : (nearI x && nearI y) = false) : ps.all nearP = false := by
  rw [← Bool.not_eq_true]
  intro ha
  have := List.all_eq_true.1 ha _ (List.mem_of_getElem? h)
  exact absurd this (by unfold nearP; rw [hn]; simp)
theorem all_snoc {ps : List (Int × Int)} {j : Nat} {x y : Int} (ha : (ps.take j).all nearP = true) (h : ps[j]? = some (x, y)) (hn : (nearI x && nearI y) = true) : (ps.take (j + 1)).all nearP = true := by
  rw [List.take_add_one, h]
  simp only [Option.toList_some, List.all_append, ha, Bool.true_and, List.all_cons, List.all_nil, Bool.and_true]
  exact hn

abbrev ofW (k W H t s : Int) (w : World) : World := (w.alloc (.cells #[.int .u8 k, .int .i64 W, .int .i64 H, .int .u8 t, .int .i64 s] 23)).alloc (.cells #[.int .u8 0, .int .i64 0, .int .i64 0, .int .u8 0, .int .i64 0, .int .i64 0, .int .i64 0] 99)

theorem ofW_K1 (k W H t s : Int) (w : World) : (ofW k W H t s w).heap[w.heap.size]? = some (.cells #[.int .u8 k, .int .i64 W, .int .i64 H, .int .u8 t, .int .i64 s] 23 (0, 0)) := bk_alloc (bk_new _ _) _
theorem ofW_K2 (k W H t s : Int) (w : World) : (ofW k W H t s w).heap[w.heap.size + 1]? = some (.cells #[.int .u8 0, .int .i64 0, .int .i64 0, .int .u8 0, .int .i64 0, .int .i64 0, .int .i64 0] 99 (0, 0)) := by
  have := bk_new (w.alloc (.cells #[.int .u8 k, .int .i64 W, .int .i64 H, .int .u8 t, .int .i64 s] 23)) (.cells #[.int .u8 0, .int .i64 0, .int .i64 0, .int .u8 0, .int .i64 0, .int .i64 0, .int .i64 0] 99)
  simpa only [World.size_alloc] using this
theorem ofW_B (k W H t s : Int) (w : World) : Below w.heap.size w (ofW k W H t s w) := (boxed _ _).alloc (by simp) _

set_option maxHeartbeats 4000000 in
theorem of_bad (k W H t s : Int) (v : Value) (w : World) (t0 : 0 ≤ t) (h : checkE k W H t s ≠ 0) :
    Calls Try.prog 50 #[topoV k W H t s, v] w (Ret (.tuple #[grid 0 0 0 0 0 0 0, .int .i64 9]) w) := by
  have K1 := ofW_K1 k W H t s w; have K2 := ofW_K2 k W H t s w; have hBw := ofW_B k W H t s w
  unfold ofW at K1 K2 hBw
  have hne : (checkE k W H t s != 0) = true := by simpa using h
  clear h
  go_enter Try.func50, Try.ntmps50
  go_wp2_with (first | fail)
  generalize hW0 : (w.alloc (.cells #[.int .u8 k, .int .i64 W, .int .i64 H, .int .u8 t, .int .i64 s] 23)).alloc (.cells #[.int .u8 0, .int .i64 0, .int .i64 0, .int .u8 0, .int .i64 0, .int .i64 0, .int .i64 0] 99) = W0 at *
  clear hW0
  have hB := same W0
  have KR := K2
  go_wp2_with (first | (go_at_call 69; ((with_reducible refine (Check_calls _ _ _ _ _ _ t0).mono ?_); rintro e w1 ⟨rfl, hb1⟩; replace hB := next hB hb1; replace K2 := bk_below K2 hb1; have hc2 := bk_cell K2; have hf2 := bk_free K2)))
  refine end_ct (w.heap.size + 1) 99 rfl rfl rfl Try.underlying99 rfl ?_
  apply Exists.intro
  refine ⟨(by repeat (with_reducible (first | exact K2 | apply bk_set | refine bk_drew ?_ | refine bk_drewN ?_ _ | refine bk_alloc ?_ _ | refine bk_far ?_ (by simp; try omega) _))), by kernel_rfl, ?_⟩
  exact Ret.of rfl (by repeat (with_reducible (first | exact hBw.trans (hB.mono hBw.size) | refine Below.setCell ?_ (by have h1_ := hBw.size; have h2_ := hB.size; (try simp) <;> omega) _ | refine Below.drew ?_ | refine Below.alloc ?_ (by have h1_ := hBw.size; have h2_ := hB.size; (try simp) <;> omega) _)))

set_option maxHeartbeats 4000000 in
theorem of_pts (k W H t s : Int) (b o n c : Nat) (ps : List (Int × Int)) (w : World) (t0 : 0 ≤ t) (h : checkE k W H t s = 0) (hn : ps.length = n) (hn2 : n < 1000) (hps : PtsAt w b o ps) :
    Calls Try.prog 50 #[topoV k W H t s, .slice (some ⟨b, o, none⟩) n c] w
      (Ret (if ps.all nearP then .tuple #[grid k W H t s (first W) (first H), .int .i64 0] else .tuple #[grid 0 0 0 0 0 0 0, .int .i64 5]) w) := by
  have K1 := ofW_K1 k W H t s w; have K2 := ofW_K2 k W H t s w; have hBw := ofW_B k W H t s w
  unfold ofW at K1 K2 hBw
  obtain ⟨X, hX⟩ : ∃ X, (if ps.all nearP then Value.tuple #[grid k W H t s (first W) (first H), .int .i64 0] else Value.tuple #[grid 0 0 0 0 0 0 0, .int .i64 5]) = X := ⟨_, rfl⟩
  rw [hX]
  have HX := Lib.hid hX; clear hX
  have hh := Lib.hid h; clear h
  have HN := Lib.hid hn; clear hn
  replace hps := hps.below hBw
  have Hps := Lib.hid hps; clear hps
  go_enter Try.func50, Try.ntmps50
  go_wp2_with (first | fail)
  generalize hW0 : (w.alloc (.cells #[.int .u8 k, .int .i64 W, .int .i64 H, .int .u8 t, .int .i64 s] 23)).alloc (.cells #[.int .u8 0, .int .i64 0, .int .i64 0, .int .u8 0, .int .i64 0, .int .i64 0, .int .i64 0] 99) = W0 at *
  clear hW0
  have hB := same W0
  have KS := K1; have KR := K2
  go_wp2_with (first | (go_at_call 69; ((with_reducible refine (Check_calls _ _ _ _ _ _ t0).mono ?_); rintro e w1 ⟨rfl, hb1⟩; replace hB := next hB hb1; replace K2 := bk_below K2 hb1; have hc2 := bk_cell K2; have hf2 := bk_free K2; rw [hh.out])))
  have hB1 := hB
  go_loopw [16] (fun i wr => ∃ j : Nat, i = .int .i64 j ∧ j ≤ n ∧ Hid ((ps.take j).all nearP = true) ∧ Below W0.heap.size W0 wr) (fun i _ => n - (intOf i).toNat)
  case atStart => exact ⟨0, rfl, Nat.zero_le _, by show _ = _; simp, hB⟩
  case round =>
    obtain ⟨j, rfl, hj, HA, hB⟩ := hrel
    have K1 := bk_below KS hB; have K2 := bk_below KR hB; have hc1 := bk_cell K1; have hc2 := bk_cell K2; have hf2 := bk_free K2
    by_cases hlt : j < n
    · obtain ⟨p, hp⟩ : ∃ p, ps[j]? = some p := ⟨_, List.getElem?_eq_getElem (by rw [HN.out]; exact hlt)⟩
      obtain ⟨px, py⟩ := p
      have hcx : wr.cell? ⟨b, o + j * 2, none⟩ = some (.int .i64 px) := cell_later hB (Hps.out j _ hp).1
      have hcy : wr.cell? ⟨b, o + j * 2 + 1, none⟩ = some (.int .i64 py) := cell_later hB (Hps.out j _ hp).2
      have Hp := Lib.hid hp; clear hp
      cases hnr : (nearI px && nearI py)
      · have hall : ps.all nearP = false := all_false Hp.out hnr
        have HE := Lib.hid (HX.out.symm.trans (by rw [hall]; rfl) : X = .tuple #[grid 0 0 0 0 0 0 0, .int .i64 5])
        clear hall
        have HN2 := Lib.hid hnr; clear hnr
        go_wp2_with (first | (go_at_call 73; ((with_reducible refine (near_calls _ _ _).mono ?_); rintro e w1 ⟨rfl, hb1⟩; replace hB := next hB (box hb1); replace K2 := bk_below K2 (box hb1); have hc2 := bk_cell K2; have hf2 := bk_free K2; rw [HN2.out])))
        refine end_ct (w.heap.size + 1) 99 rfl rfl rfl Try.underlying99 rfl ?_
        apply Exists.intro
        refine ⟨(by repeat (with_reducible (first | exact K2 | apply bk_set | refine bk_drew ?_ | refine bk_drewN ?_ _ | refine bk_alloc ?_ _ | refine bk_far ?_ (by simp; try omega) _))), by kernel_rfl, ?_⟩
        exact Ret.of (HE.out ▸ rfl) (by repeat (with_reducible (first | exact hBw.trans (hB.mono hBw.size) | refine Below.setCell ?_ (by have h1_ := hBw.size; have h2_ := hB.size; (try simp) <;> omega) _ | refine Below.drew ?_ | refine Below.alloc ?_ (by have h1_ := hBw.size; have h2_ := hB.size; (try simp) <;> omega) _)))
      · have hall : Hid ((ps.take (j + 1)).all nearP = true) := all_snoc HA.out Hp.out hnr
        have HN2 := Lib.hid hnr; clear hnr
        go_wp2_with (first | (go_at_call 73; ((with_reducible refine (near_calls _ _ _).mono ?_); rintro e w1 ⟨rfl, hb1⟩; replace hB := next hB (box hb1); replace K2 := bk_below K2 (box hb1); have hc2 := bk_cell K2; have hf2 := bk_free K2; rw [HN2.out])))
        go_roundw
        case rel => exact ⟨j + 1, by go_num, by omega, hall, hB⟩
        case measure => simp [intOf]; omega
    · obtain rfl : j = n := by omega
      have hall : ps.all nearP = true := by have := HA.out; rw [List.take_of_length_le (by rw [HN.out]; exact Nat.le_refl _)] at this; exact this
      have HE := Lib.hid (HX.out.symm.trans (by rw [hall]; rfl) : X = .tuple #[grid k W H t s (first W) (first H), .int .i64 0])
      clear hall
      go_wp2_with (first | (go_at_call 74; ((with_reducible refine (Home_ok _ _ _ _ _ _ t0 hh.out).mono ?_); rintro e w1 ⟨rfl, hb1⟩; replace hB := next hB hb1; replace K1 := bk_below K1 hb1; replace K2 := bk_below K2 hb1; have hc1 := bk_cell K1; have hc2 := bk_cell K2; have hf2 := bk_free K2; have hl1 := bk_lt K1; have hl2 := bk_lt K2)))
      refine end_ct (w.heap.size + 1) 99 rfl rfl rfl Try.underlying99 rfl ?_
      apply Exists.intro
      refine ⟨(by repeat (with_reducible (first | exact K2 | apply bk_set | refine bk_drew ?_ | refine bk_drewN ?_ _ | refine bk_alloc ?_ _ | refine bk_far ?_ (by simp; try omega) _))), by kernel_rfl, ?_⟩
      exact Ret.of (HE.out ▸ rfl) (by repeat (with_reducible (first | exact hBw.trans (hB.mono hBw.size) | refine Below.setCell ?_ (by have h1_ := hBw.size; have h2_ := hB.size; (try simp) <;> omega) _ | refine Below.drew ?_ | refine Below.alloc ?_ (by have h1_ := hBw.size; have h2_ := hB.size; (try simp) <;> omega) _)))

end Go.Proofs.Ytkldffpdlkmncaa


set_option linter.unusedVariables false
set_option linter.unusedSimpArgs false
namespace Go.Proofs.Ytkldffpdlkmncaa
open Go.RowKit Go.Viv

theorem nearI_iff {x : Int} : nearI x = true ↔ -1099511627776 ≤ x ∧ x ≤ 1099511627776 := by unfold nearI; simp

theorem pts_one {w : World} {b : Nat} {x y : Int} {T : Nat} (h : w.heap[b]? = some (.cells #[.int .i64 x, .int .i64 y] T (0, 0))) : PtsAt w b 0 [(x, y)] := by
  intro j p hp
  match j with
  | 0 => simp at hp; subst hp; exact ⟨(bk_cell h 0).trans rfl, (bk_cell h 1).trans rfl⟩
  | j + 1 => simp at hp


end Go.Proofs.Ytkldffpdlkmncaa
