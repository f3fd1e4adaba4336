/- The law's field, made of any numbers: the program's and the document's (Kept.field). -/
import Derived.Test.YtkldffpdlkmncaaRfNew
import Derived.RegionTactic
import Derived.ChangeAlike
import Derived.BigRegion
set_option linter.unusedVariables false
set_option linter.unusedSimpArgs false
namespace Go.Proofs.Ytkldffpdlkmncaa
open Go.RowKit

def keptI (l : List Int) (St : Int) (i : Nat) : Int := l.getD i 0 % St
def keptF (W : Nat) (St : Int) (l : List Int) : Nat → Nat → Int := fun y x => keptI l St (y * W + x)
/-- the first y rows -/
def keptTo (W : Nat) (St : Int) (l : List Int) (y : Nat) : Nat → Nat → Int := fun y' x' => if y' < y then keptF W St l y' x' else 0
/-- the field of the law -/
def keptD (W H : Nat) (St : Int) (pk : Bool) (l : List Int) : FD := ⟨W, H, St, pk, keptF W St l⟩

theorem Fld.cong {g W H : Nat} {St : Int} {pk : Bool} {f f' : Nat → Nat → Int} {S : Nat → Prop} {w : World} (h : Fld g ⟨W, H, St, pk, f⟩ S w) (hf : ∀ y x, y < H → x < W → f y x = f' y x) : Fld g ⟨W, H, St, pk, f'⟩ S w := by
  obtain ⟨gr, G, a, hS⟩ := h.ex
  refine ⟨gr, G, ⟨a.fld, a.st.cong hf, ?_⟩, hS⟩
  have o := a.ok
  exact ⟨o.w0, o.w1, o.h0, o.h1, o.wh, o.s0, o.s1, o.ps, fun y x hy hx => by have := o.bd y x hy hx; simp only at this ⊢; rwa [hf y x hy hx] at this⟩

/-- the value of a law's field -/
abbrev keptV (W H : Nat) (St : Int) (pk : Bool) (A : Option Addr) (n c : Nat) : Value := .agg #[.int .i64 W, .int .i64 H, .int .i64 St, .bool pk, .slice A n c]

/-- what is known while rows are laid -/
structure KeptSt (kb q cb g W H : Nat) (St : Int) (pk : Bool) (A : Option Addr) (n c : Nat) (l : List Int) (S : Nat → Prop) (y i : Nat) (w wr : World) : Prop where
  kp : wr.heap[kb]? = some (.cells #[.int .i64 W, .int .i64 H, .int .i64 St, .bool pk, .slice A n c] 70 (0, 0))
  dq : wr.heap[q]? = some (.cells #[.int .i64 W, .int .i64 H, .int .i64 St, .bool pk, .slice (some ⟨cb, 0, none⟩) (W * H) (W * H)] 114 (0, 0))
  dc : ∃ cs, wr.heap[cb]? = some (.cells cs 5 (0, 0)) ∧ cs.size = W * H ∧ ∀ j, j < i → cs[j]? = some (.int .u8 (keptI l St j))
  fl : Fld g ⟨W, H, St, pk, keptTo W St l y⟩ S wr
  bl : Below w.heap.size w wr
/-- what is known of a row that is filled -/
structure LineSt (lb W : Nat) (St : Int) (l : List Int) (y x : Nat) (wr : World) : Prop where
  ex : ∃ ls, wr.heap[lb]? = some (.cells ls 5 (0, 0)) ∧ ls.size = W ∧ (∀ j, j < x → ls[j]? = some (.int .u8 (keptI l St (y * W + j)))) ∧ ∀ j, x ≤ j → j < W → ls[j]? = some (.int .u8 0)

theorem KeptSt.below {kb q cb g W H n c y i : Nat} {St : Int} {pk : Bool} {A : Option Addr} {l : List Int} {S : Nat → Prop} {w wr wr' : World} (h : KeptSt kb q cb g W H St pk A n c l S y i w wr) (hb : Below wr.heap.size wr wr') : KeptSt kb q cb g W H St pk A n c l S y i w wr' :=
  ⟨bk_below h.kp hb, bk_below h.dq hb, let ⟨cs, a, b, c⟩ := h.dc; ⟨cs, bk_below a hb, b, c⟩, h.fl.below hb, h.bl.trans (hb.mono h.bl.size)⟩
/-- behind a write to the row that is filled -/
theorem KeptSt.far {kb q cb g W H n c y i lb x : Nat} {St : Int} {pk : Bool} {A : Option Addr} {l : List Int} {S : Nat → Prop} {w wr : World} (h : KeptSt kb q cb g W H St pk A n c l S y i w wr) (v : Value) (h1 : kb < lb) (h2 : q < lb) (h3 : cb < lb) (h4 : ∀ b, S b → b < lb) (h5 : w.heap.size ≤ lb) : KeptSt kb q cb g W H St pk A n c l S y i w (wr.setCell ⟨lb, x, none⟩ v).drew :=
  ⟨bk_drew (bk_far h.kp (by show kb ≠ lb; omega) v), bk_drew (bk_far h.dq (by show q ≠ lb; omega) v), let ⟨cs, a, b, c⟩ := h.dc; ⟨cs, bk_drew (bk_far a (by show cb ≠ lb; omega) v), b, c⟩, h.fl.keep (fun b hb => Below.heap_setCell _ _ _ b (by have := h4 b hb; show b ≠ lb; omega)), (h.bl.setCell h5 v).drew⟩
/-- behind a write to the document's cells -/
theorem KeptSt.next {kb q cb g W H n c y i : Nat} {St : Int} {pk : Bool} {A : Option Addr} {l : List Int} {S : Nat → Prop} {w wr : World} {v : Int} (h : KeptSt kb q cb g W H St pk A n c l S y i w wr) (hv : keptI l St i = v) (hi : i < W * H) (h1 : kb ≠ cb) (h2 : q ≠ cb) (h3 : ¬ S cb) (h5 : w.heap.size ≤ cb) : KeptSt kb q cb g W H St pk A n c l S y (i + 1) w (wr.setCell ⟨cb, i, none⟩ (.int .u8 v)).drew :=
  ⟨bk_drew (bk_far h.kp h1 _), bk_drew (bk_far h.dq h2 _), (let ⟨cs, a, b, c⟩ := h.dc; ⟨_, bk_drew (bk_set a i _), by simpa using b, fun j hj => by
      by_cases e : j = i
      · subst e; rw [hv]; exact aset_same (by omega) _
      · rw [Array.getElem?_setIfInBounds_ne (by omega)]; exact c j (by omega)⟩), h.fl.keep (fun b hb => Below.heap_setCell _ _ _ b (fun e => h3 (by rw [← show b = cb from e]; exact hb))), (h.bl.setCell h5 _).drew⟩
theorem LineSt.far {lb W y x cb i : Nat} {St : Int} {l : List Int} {wr : World} (h : LineSt lb W St l y x wr) (hne : lb ≠ cb) (v : Value) : LineSt lb W St l y x (wr.setCell ⟨cb, i, none⟩ v).drew :=
  let ⟨ls, a, b, c, d⟩ := h.ex; ⟨ls, bk_drew (bk_far a hne v), b, c, d⟩
theorem LineSt.set {lb W y x : Nat} {St v : Int} {l : List Int} {wr : World} (h : LineSt lb W St l y x wr) (hx : x < W) (hv : keptI l St (y * W + x) = v) : LineSt lb W St l y (x + 1) (wr.setCell ⟨lb, x, none⟩ (.int .u8 v)).drew :=
  let ⟨ls, a, b, c, d⟩ := h.ex; ⟨_, bk_drew (bk_set a x _), by simpa using b, fun j hj => by
    by_cases e : j = x
    · subst e; rw [hv]; exact aset_same (by omega) _
    · rw [Array.getElem?_setIfInBounds_ne (by omega)]; exact c j (by omega), fun j hj hjW => by
    rw [Array.getElem?_setIfInBounds_ne (by omega)]; exact d j (by omega) hjW⟩
theorem LineSt.zero {lb W y x : Nat} {St : Int} {l : List Int} {wr : World} (h : LineSt lb W St l y x wr) (hx : x < W) (hv : keptI l St (y * W + x) = 0) : LineSt lb W St l y (x + 1) wr :=
  let ⟨ls, a, b, c, d⟩ := h.ex; ⟨ls, a, b, fun j hj => by
    by_cases e : j = x
    · subst e; rw [hv]; exact d j (Nat.le_refl _) hx
    · exact c j (by omega), fun j hj hjW => d j (by omega) hjW⟩
/-- the row that is laid -/
def keptRow (W : Nat) (St : Int) (l : List Int) (y : Nat) : List Int := (List.range W).map fun j => keptI l St (y * W + j)
theorem keptRow_at {W y j : Nat} {St : Int} {l : List Int} (h : j < W) : (keptRow W St l y)[j]? = some (keptI l St (y * W + j)) := by simp [keptRow, h]
theorem keptI_bd {l : List Int} {St : Int} (h : 0 < St) (i : Nat) : 0 ≤ keptI l St i ∧ keptI l St i < St := ⟨Int.emod_nonneg _ (by omega), Int.emod_lt_of_pos _ h⟩
theorem keptRow_lay {W H y : Nat} {St : Int} {pk : Bool} {l : List Int} (h : 0 < St) (hW : 0 < W) (hy : y < H) : layE ⟨W, H, St, pk, keptTo W St l y⟩ y (keptRow W St l y) = 0 ∧ ((⟨W, H, St, pk, keptTo W St l y⟩ : FD).lay y (keptRow W St l y)) = ⟨W, H, St, pk, layF (keptTo W St l y) y W (keptRow W St l y)⟩ := by
  have e : layE ⟨W, H, St, pk, keptTo W St l y⟩ y (keptRow W St l y) = 0 := by
    unfold layE
    rw [if_pos, if_pos, if_pos]
    · unfold allB
      rw [List.all_eq_true]
      intro s hs
      obtain ⟨j, _, rfl⟩ := List.mem_map.1 hs
      exact decide_eq_true (keptI_bd h _).2
    · simp [keptRow]
    · unfold hasB; simp; omega
  refine ⟨e, ?_⟩
  unfold FD.lay
  rw [if_pos e]; simp
theorem keptTo_next {W y : Nat} {St : Int} {l : List Int} (y' x' : Nat) (hx : x' < W) : layF (keptTo W St l y) y W (keptRow W St l y) y' x' = keptTo W St l (y + 1) y' x' := by
  unfold layF
  by_cases e : y' = y
  · subst e
    rw [if_pos ⟨rfl, hx⟩, List.getD_eq_getElem?_getD, keptRow_at hx]
    simp [keptTo, keptF]
  · rw [if_neg (fun h => e h.1)]
    unfold keptTo
    by_cases h2 : y' < y
    · rw [if_pos h2, if_pos (by omega)]
    · rw [if_neg h2, if_neg (by omega)]
/-- what Kept.field comes to -/
def KeptP (W H : Nat) (St : Int) (pk : Bool) (l : List Int) (w : World) (e : Ending) (w' : World) : Prop :=
  ∃ g q cb S, e = .returned (.tuple #[.pointer (some ⟨g, 0, none⟩), .pointer (some ⟨q, 0, none⟩), .bool true]) ∧ Fld g (keptD W H St pk l) S w' ∧ RF q cb (keptD W H St pk l) w' ∧ (∀ b, S b → w.heap.size ≤ b) ∧ w.heap.size ≤ q ∧ w.heap.size ≤ cb ∧ ¬ S q ∧ ¬ S cb ∧ Below w.heap.size w w'

set_option maxRecDepth 20000 in
set_option maxHeartbeats 3000000 in
theorem Kept_yes (W H : Nat) (St : Int) (pk : Bool) (A : Option Addr) (n c : Nat) (l : List Int) (w : World) (h1 : 1 ≤ W) (h2 : W ≤ 65536) (h3 : 1 ≤ H) (h4 : H ≤ 65536) (h5 : 2 ≤ St) (h6 : St ≤ 256) (hp : pk = true → St ≤ 2) (hb : W * H ≤ 1048576)
    (hn : l.length = n) (hnb : n ≤ 9223372036854775807) (hA : 0 < n → ∃ b off, A = some ⟨b, off, none⟩) (hr : Rd w A (l.map (.int .u8))) (hbl : ∀ z ∈ l, 0 ≤ z ∧ z ≤ 255) :
    Calls Try.prog 29 #[keptV W H St pk A n c] w (KeptP W H St pk l w) := by
  have K0 := bk_new w (.cells #[.int .i64 W, .int .i64 H, .int .i64 St, .bool pk, .slice A n c] 70)
  have B0 := boxed w (.cells #[.int .i64 W, .int .i64 H, .int .i64 St, .bool pk, .slice A n c] 70)
  have k0 := bk_cell K0
  have C1 := Lib.hid fun w => RNew_yes W H St pk w h1 h2 h3 h4 h5 h6 hp hb
  have C2 := Lib.hid fun w => New_yes W H St pk w h1 h2 h3 h4 h5 h6 hp hb
  have HN := Lib.hid hn; have HR := Lib.hid hr; have HA := Lib.hid hA; have HBL := Lib.hid hbl; have HWH := Lib.hid hb
  clear hn hr hbl hp hb hA
  go_enter Try.func29, Try.ntmps29
  go_wp2_with (first | (go_at_call 58; ((with_reducible refine (C1.out _).mono ?_); rintro e w1 ⟨q, cb, rfl, HF1, hq1, hcb1, hb1⟩; have K1 := bk_below K0 hb1; have k1 := bk_cell K1; have B1 := next B0 hb1)) | (go_at_call 26; ((with_reducible refine (C2.out _).mono ?_); rintro e w2 ⟨g, S, rfl, HG2, hS2, hb2⟩; have K2 := bk_below K1 hb2; have k2 := bk_cell K2; have B2 := next B1 hb2; have HF2 := HF1.below hb2)))
  have hqs := HF1.lt
  simp only [World.size_alloc] at hq1 hcb1
  have NE := Lib.hid (show w.heap.size < q ∧ w.heap.size < cb ∧ ¬ S q ∧ ¬ S cb ∧ ¬ S w.heap.size ∧ q ≠ cb from ⟨by omega, by omega, fun h => by have := hS2 q h; omega, fun h => by have := hS2 cb h; omega, fun h => by have := hS2 _ h; omega, HF1.ne⟩)
  have SB := Lib.hid (fun b (hb : S b) => Nat.le_trans (by have := hb2.size; omega : w.heap.size ≤ w1.heap.size) (hS2 b hb))
  have ST0 : Hid (KeptSt w.heap.size q cb g W H St pk A n c l S 0 0 w w2) := ⟨K2, HF2.blk, let ⟨cs, a, b, _⟩ := HF2.ex; ⟨cs, a, b, fun j hj => absurd hj (by omega)⟩, Fld.cong (f := fun _ _ => 0) HG2 (fun y x _ _ => by simp [keptTo]), B2⟩
  clear K0 B0 k0 C1 C2 K1 k1 B1 K2 k2 B2 HF1 HF2 HG2 hq1 hcb1 hb1 hb2 hqs hS2
  go_loopw [9] (fun i wr => ∃ y : Nat, i = .int .i64 y ∧ y ≤ H ∧ Hid (KeptSt w.heap.size q cb g W H St pk A n c l S y (y * W) w wr)) (fun i _ => H - (intOf i).toNat)
  case atStart => exact ⟨0, rfl, Nat.zero_le _, by rw [Nat.zero_mul]; exact ST0⟩
  clear ST0
  obtain ⟨y, rfl, hy, HS⟩ := hrel
  have kk := bk_cell HS.out.kp
  by_cases hlt : y < H
  · have hmk := run_makeN (P := Try.prog) Try.underlying32 u8info W (by omega) (by omega)
    simp only [Nat.mul_one] at hmk
    have hbn := boxed wr (.cells (madeCells #[.int .u8 0] W) 5)
    obtain ⟨lb, hlb⟩ : ∃ lb, lb = wr.heap.size := ⟨_, rfl⟩
    have LS0 : Hid (LineSt lb W St l y 0 (wr.alloc (.cells (madeCells #[.int .u8 0] W) 5))) := by rw [hlb]; exact ⟨_, bk_new _ _, by simp [madeCells], fun j hj => absurd hj (by omega), fun j _ hj => made_at (z := .int .u8 0) rfl _ _ hj⟩
    have HS0 : Hid (KeptSt w.heap.size q cb g W H St pk A n c l S y (y * W + 0) w (wr.alloc (.cells (madeCells #[.int .u8 0] W) 5))) := HS.out.below hbn
    have LT := Lib.hid (show w.heap.size < lb ∧ q < lb ∧ cb < lb ∧ ∀ b, S b → b < lb from by rw [hlb]; exact ⟨bk_lt HS.out.kp, bk_lt HS.out.dq, (let ⟨_, a, _⟩ := HS.out.dc; bk_lt a), HS.out.fl.lt⟩)
    go_wp2_with (first | fail)
    clear kk HS hbn
    generalize (wr.alloc (.cells (madeCells #[.int .u8 0] W) 5)) = W0 at *
    rw [← hlb]
    have HLB := Lib.hid hlb; clear hlb
    go_loopw [11] (fun i wx => ∃ x : Nat, i = .int .i64 x ∧ x ≤ W ∧ Hid (KeptSt w.heap.size q cb g W H St pk A n c l S y (y * W + x) w wx) ∧ Hid (LineSt lb W St l y x wx)) (fun i _ => W - (intOf i).toNat)
    case atStart => exact ⟨0, rfl, Nat.zero_le _, HS0, LS0⟩
    clear HS0 LS0
    obtain ⟨x, rfl, hx, HX, HL⟩ := hrel
    have kk := bk_cell HX.out.kp
    by_cases hxl : x < W
    · have hfit : y * W + x < W * H := Nat.lt_of_lt_of_le (Nat.add_lt_add_left hxl _) (by rw [← Nat.succ_mul, Nat.mul_comm W H]; exact Nat.mul_le_mul_right W hlt)
      obtain ⟨ls, KL, hlz, hl1, hl2⟩ := HL.out.ex
      obtain ⟨m, hm⟩ : ∃ m, m = y * W := ⟨_, rfl⟩
      have hmI : (y : Int) * (W : Int) = (m : Int) := by rw [hm, Int.natCast_mul]
      rw [← hm] at hfit
      have hm1 : m + x < 1048576 := by have := HWH.out; omega
      have hcl := bk_cell KL x
      rw [hl2 x (Nat.le_refl _) hxl] at hcl
      have hfl := bk_free KL x
      have HM := Lib.hid hm
      have HL2 := Lib.hid hl2; have HL1 := Lib.hid hl1; have HLZ := Lib.hid hlz
      clear hm hl1 hl2 hlz
      have hq0 : ((q : Int) = 0) = False := by have := NE.out; simp; omega
      by_cases hin : m + x < n
      · have hinI : (m : Int) + (x : Int) < (n : Int) := by omega
        obtain ⟨b, off, rfl⟩ := HA.out (by omega)
        have hz : l[m + x]? = some (l.getD (m + x) 0) := by rw [List.getD_eq_getElem?_getD, List.getElem?_eq_getElem (by rw [HN.out]; exact hin)]; rfl
        have hra := ((HR.out.below HX.out.bl).at_ (m + x) (.int .u8 (l.getD (m + x) 0)) (by rw [List.getElem?_map, hz]; rfl))
        have hzb := HBL.out _ (List.mem_of_getElem? hz)
        have HK : Hid (keptI l St (m + x) = l.getD (m + x) 0 % St) := rfl
        clear hz
        generalize l.getD (m + x) 0 = z at *
        have hz0 : 0 ≤ z % St := Int.emod_nonneg _ (by omega)
        have hz1 : z % St ≤ 255 := by have := Int.emod_lt_of_pos z (show 0 < St by omega); omega
        have hzm : z % St % 256 = z % St := Int.emod_eq_of_lt hz0 (by omega)
        have hs0 : (St == 0) = false := by simp; omega
        have hs1 : (St == -1) = false := by simp; omega
        go_wp2_with (first | fail)
        go_region
        have HX1 := Lib.hid (HX.out.far (x := x) (.int .u8 (z % St)) LT.out.1 LT.out.2.1 LT.out.2.2.1 LT.out.2.2.2 (Nat.le_of_lt LT.out.1))
        have LX1 := Lib.hid (HL.out.set (v := z % St) hxl (by rw [← HM.out, HK.out]))
        generalize (wr.setCell ⟨lb, x, none⟩ (.int .u8 (z % St))).drew = W1 at *
        have hq := bk_cell HX1.out.dq
        have k1 := bk_cell HX1.out.kp
        obtain ⟨ls1, KL1, _, hl1, _⟩ := LX1.out.ex
        have hc1 := bk_cell KL1 x
        rw [hl1 x (by omega), ← HM.out, HK.out] at hc1
        obtain ⟨cs, KC, hcz, _⟩ := HX1.out.dc
        have hcc := bk_cell KC (m + x)
        rw [Array.getElem?_eq_getElem (by omega)] at hcc
        have hfc := bk_free KC (m + x)
        have HX2 : Hid (KeptSt w.heap.size q cb g W H St pk (some ⟨b, off, none⟩) n c l S y (y * W + (x + 1)) w (W1.setCell ⟨cb, m + x, none⟩ (.int .u8 (z % St))).drew) := by
          have := HX1.out.next (v := (z % St)) (by rw [← HM.out, HK.out]) (by rw [← HM.out]; exact hfit) (by have := NE.out; omega) NE.out.2.2.2.2.2 NE.out.2.2.2.1 (by have := NE.out; omega)
          rw [← HM.out] at this ⊢
          exact this
        have LX2 : Hid (LineSt lb W St l y (x + 1) (W1.setCell ⟨cb, m + x, none⟩ (.int .u8 (z % St))).drew) := LX1.out.far (by have := LT.out; omega) _
        clear HX1 LX1 KL1 hl1 KC HX HL KL
        go_wp2_with (first | fail)
        go_region
        go_wp2
        go_roundw
        case rel => exact ⟨x + 1, by go_num, by omega, HX2, LX2⟩
        case measure => simp [intOf]; omega
      · have hinI : ¬ ((m : Int) + (x : Int) < (n : Int)) := by omega
        have HK : Hid (keptI l St (m + x) = 0) := by
          show keptI l St (m + x) = 0
          unfold keptI
          rw [List.getD_eq_getElem?_getD, List.getElem?_eq_none (by rw [HN.out]; omega)]; simp
        have HX1 := Lib.hid HX.out
        have LX1 := Lib.hid (HL.out.zero hxl (by rw [← HM.out, HK.out]))
        generalize wr = W1 at *
        have hq := bk_cell HX1.out.dq
        have k1 := bk_cell HX1.out.kp
        obtain ⟨ls1, KL1, _, hl1, _⟩ := LX1.out.ex
        have hc1 := bk_cell KL1 x
        rw [hl1 x (by omega), ← HM.out, HK.out] at hc1
        obtain ⟨cs, KC, hcz, _⟩ := HX1.out.dc
        have hcc := bk_cell KC (m + x)
        rw [Array.getElem?_eq_getElem (by omega)] at hcc
        have hfc := bk_free KC (m + x)
        have HX2 : Hid (KeptSt w.heap.size q cb g W H St pk A n c l S y (y * W + (x + 1)) w (W1.setCell ⟨cb, m + x, none⟩ (.int .u8 0)).drew) := by
          have := HX1.out.next (v := 0) (by rw [← HM.out, HK.out]) (by rw [← HM.out]; exact hfit) (by have := NE.out; omega) NE.out.2.2.2.2.2 NE.out.2.2.2.1 (by have := NE.out; omega)
          rw [← HM.out] at this ⊢
          exact this
        have LX2 : Hid (LineSt lb W St l y (x + 1) (W1.setCell ⟨cb, m + x, none⟩ (.int .u8 0)).drew) := LX1.out.far (by have := LT.out; omega) _
        clear HX1 LX1 KL1 hl1 KC HX HL KL
        go_wp2_with (first | fail)
        go_region
        go_wp2
        go_roundw
        case rel => exact ⟨x + 1, by go_num, by omega, HX2, LX2⟩
        case measure => simp [intOf]; omega
    · obtain rfl : x = W := by omega
      obtain ⟨hE, hD⟩ := keptRow_lay (W := x) (H := H) (y := y) (St := St) (pk := pk) (l := l) (by omega) (by omega) hlt
      obtain ⟨ls, KL, hlz, hl1, _⟩ := HL.out.ex
      have hrd : Rd wr (some ⟨lb, 0, none⟩) ((keptRow x St l y).map (.int .u8)) := Rd.of_block KL fun j u hu => by
        rw [List.getElem?_map] at hu
        by_cases hj : j < x
        · rw [keptRow_at hj] at hu
          rw [hl1 j hj]; exact hu
        · rw [List.getElem?_eq_none (by simp [keptRow]; omega)] at hu; simp at hu
      have CL := Lay_calls (y : Int) (some ⟨lb, 0, none⟩) x x (keptRow x St l y) HX.out.fl (by simp [keptRow]) (by omega) hrd (fun z hz => by obtain ⟨j, _, rfl⟩ := List.mem_map.1 hz; have := keptI_bd (l := l) (show 0 < St by omega) (y * x + j); omega) (fun _ => ⟨lb, 0, rfl, fun h => absurd (LT.out.2.2.2 lb h) (by omega), bk_lt KL⟩)
      unfold LayP at CL
      rw [hE, hD] at CL
      have CL' := Lib.hid CL
      clear CL hrd hE hD KL hlz hl1
      go_wp2_with (go_at_call 38; ((with_reducible refine CL'.out.mono ?_); rintro e w3 ⟨rfl, hF3, hW3⟩))
      have HX3 : Hid (KeptSt w.heap.size q cb g x H St pk A n c l S (y + 1) ((y + 1) * x) w w3) := by
        have hk : ∀ b, b < wr.heap.size → ¬ S b → w3.heap[b]? = wr.heap[b]? := hW3.block
        obtain ⟨cs, a1, a2, a3⟩ := HX.out.dc
        refine ⟨(hk _ (bk_lt HX.out.kp) NE.out.2.2.2.2.1).trans HX.out.kp, (hk _ (bk_lt HX.out.dq) NE.out.2.2.1).trans HX.out.dq, ⟨cs, (hk _ (bk_lt a1) NE.out.2.2.2.1).trans a1, a2, by rw [Nat.succ_mul]; exact a3⟩, Fld.cong hF3 (fun y' x' _ hx' => keptTo_next y' x' hx'), HX.out.bl.trans (hW3.below HX.out.bl.size SB.out)⟩
      clear hF3 hW3 CL' HX HL kk hmk LT HLB
      go_roundw
      case rel => exact ⟨y + 1, by go_num, by omega, HX3⟩
      case measure => simp [intOf]; omega
  · obtain rfl : y = H := by omega
    go_wp2
    go_ret3
    obtain ⟨cs, a1, a2, a3⟩ := HS.out.dc
    refine ⟨g, q, cb, S, rfl, HS.out.fl.cong fun y' x' hy' _ => by simp [keptTo, hy'], ⟨NE.out.2.2.2.2.2, HS.out.dq, cs, a1, a2, fun y' x' hy' hx' => a3 _ (Nat.lt_of_lt_of_le (Nat.add_lt_add_left hx' _) (by rw [← Nat.succ_mul]; exact Nat.mul_le_mul_right W hy'))⟩, SB.out, Nat.le_of_lt NE.out.1, Nat.le_of_lt NE.out.2.1, NE.out.2.2.1, NE.out.2.2.2.1, HS.out.bl⟩
end Go.Proofs.Ytkldffpdlkmncaa
