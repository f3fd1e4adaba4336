/- Plain facts of rules of blocks: which can be run backward, and by which rule. -/
import Derived.Test.YtdpcmpfhjhbicaaBlkM
set_option linter.unusedVariables false
set_option linter.unusedSimpArgs false
namespace Go.Viv

theorem nth_set (c : List Int) (i j : Nat) (v : Int) : nth (c.set i v) j = if i = j ∧ i < c.length then v else nth c j := by
  unfold nth
  rw [List.getD_eq_getElem?_getD, List.getD_eq_getElem?_getD, List.getElem?_set]
  by_cases h : i = j
  · subst h
    by_cases h2 : i < c.length
    · simp [h2]
    · simp [h2]
  · simp [h]
theorem nth_ext {a b : List Int} (hl : a.length = b.length) (h : ∀ k, k < a.length → nth a k = nth b k) : a = b := by
  apply List.ext_getElem hl
  intro k h1 h2
  have := h k h1
  simpa [nth, h1, h2] using this

/-- how often each number has come, of the first k -/
def seenF (b : List Int) : Nat → List Int
  | 0 => List.replicate 16 0
  | k + 1 => (seenF b k).set (nth b k).toNat (nth (seenF b k) (nth b k).toNat + 1)
def onceF : Nat → List Int
  | 0 => List.replicate 16 0
  | k + 1 => (onceF k).set k 1
def backF (b : List Int) : Nat → List Int
  | 0 => List.replicate 16 0
  | k + 1 => (backF b k).set (nth b k).toNat k
theorem seenF_length (b : List Int) (k : Nat) : (seenF b k).length = 16 := by
  induction k with
  | zero => rfl
  | succ k ih => simp [seenF, ih]
theorem onceF_length (k : Nat) : (onceF k).length = 16 := by
  induction k with
  | zero => rfl
  | succ k ih => simp [onceF, ih]
theorem backF_length (b : List Int) (k : Nat) : (backF b k).length = 16 := by
  induction k with
  | zero => rfl
  | succ k ih => simp [backF, ih]
theorem nth_rep (n k : Nat) (v : Int) (h : k < n) : nth (List.replicate n v) k = v := by simp [nth, h]
theorem seenF_bd (b : List Int) (k j : Nat) (hj : j < 16) : 0 ≤ nth (seenF b k) j ∧ nth (seenF b k) j ≤ k := by
  induction k with
  | zero => rw [seenF, nth_rep 16 j 0 hj]; omega
  | succ k ih =>
    rw [seenF, nth_set]
    split
    · rename_i h; obtain ⟨rfl, _⟩ := h; omega
    · omega
theorem backF_bd (b : List Int) (k j : Nat) (hj : j < 16) : 0 ≤ nth (backF b k) j ∧ nth (backF b k) j ≤ k := by
  induction k with
  | zero => rw [backF, nth_rep 16 j 0 hj]; omega
  | succ k ih =>
    rw [backF, nth_set]
    split <;> omega

/-- block.Check -/
def checkB (b : List Int) : Int := if b.all (fun n => decide (n ≤ 15)) then 0 else 290
theorem checkB_bad {b : List Int} {k : Nat} (h : k < b.length) (hk : 15 < nth b k) : checkB b = 290 := by
  unfold checkB
  rw [if_neg]
  rw [List.all_eq_true]
  intro hh
  have := hh (nth b k) (by rw [nth, List.getD_eq_getElem?_getD, List.getElem?_eq_getElem h]; exact List.getElem_mem _)
  simp at this; omega
theorem checkB_ok {b : List Int} (h : ∀ k, k < b.length → nth b k ≤ 15) : checkB b = 0 := by
  unfold checkB
  rw [if_pos]
  rw [List.all_eq_true]
  intro x hx
  obtain ⟨k, hk, rfl⟩ := List.getElem_of_mem hx
  have := h k hk
  rw [nth, List.getD_eq_getElem?_getD, List.getElem?_eq_getElem hk] at this
  simpa using this
theorem checkB_le {b : List Int} (h : checkB b = 0) : ∀ k, k < b.length → nth b k ≤ 15 := by
  intro k hk
  by_cases h1 : 15 < nth b k
  · rw [checkB_bad hk h1] at h; omega
  · omega
theorem checkB_two (b : List Int) : checkB b = 0 ∨ checkB b = 290 := by unfold checkB; split; exact .inl rfl; exact .inr rfl

/-- sixteen bytes -/
structure Arr16 (b : List Int) : Prop where
  len : b.length = 16
  bd : ∀ n, n < 16 → 0 ≤ nth b n ∧ nth b n ≤ 255
/-- can a rule be run backward? -/
def turnsB (b : List Int) : Bool := decide (checkB b = 0) && decide (seenF b 16 = onceF 16)
theorem ruleOk {b : List Int} (hb : Arr16 b) (h : checkB b = 0) : RuleOk b :=
  ⟨hb.len, fun n hn => ⟨(hb.bd n hn).1, by have := checkB_le h n (by rw [hb.len]; exact hn); omega⟩⟩

theorem seen_inj {b : List Int} (hb : RuleOk b) (h : seenF b 16 = List.replicate 16 1) : ∀ i j, i < 16 → j < 16 → nth b i = nth b j → i = j := by
  have mono : ∀ (d k v : Nat), v < 16 → nth (seenF b k) v ≤ nth (seenF b (k + d)) v := by
    intro d
    induction d with
    | zero => intro k v _; exact Int.le_refl _
    | succ d ih =>
      intro k v hv
      refine Int.le_trans (ih k v hv) ?_
      rw [show k + (d + 1) = (k + d) + 1 by omega, seenF, nth_set]
      split
      · rename_i e; obtain ⟨rfl, _⟩ := e; omega
      · exact Int.le_refl _
  have step : ∀ k, k < 16 → nth (seenF b (k + 1)) (nth b k).toNat = nth (seenF b k) (nth b k).toNat + 1 := fun k hk => by
    have := hb.bd k hk
    rw [seenF, nth_set, if_pos ⟨rfl, by rw [seenF_length]; omega⟩]
  have key : ∀ i j, i < j → j < 16 → nth b i ≠ nth b j := by
    intro i j hij hj e
    have b1 := hb.bd i (by omega)
    have s1 := step i (by omega)
    have s2 := step j hj
    have m1 := mono (j - (i + 1)) (i + 1) (nth b j).toNat (by have := hb.bd j hj; omega)
    have m2 := mono (16 - (j + 1)) (j + 1) (nth b j).toNat (by have := hb.bd j hj; omega)
    rw [show i + 1 + (j - (i + 1)) = j by omega] at m1
    rw [show j + 1 + (16 - (j + 1)) = 16 by omega, h, nth_rep 16 _ 1 (by have := hb.bd j hj; omega)] at m2
    rw [e] at s1
    have := (seenF_bd b i (nth b j).toNat (by have := hb.bd j hj; omega)).1
    omega
  intro i j hi hj e
  rcases Nat.lt_trichotomy i j with h1 | h1 | h1
  · exact absurd e (key i j h1 hj)
  · exact h1
  · exact absurd e.symm (key j i h1 hi)
def sumI : List Int → Int
  | [] => 0
  | x :: l => x + sumI l
theorem sumI_set : ∀ (c : List Int) (i : Nat) (v : Int), i < c.length → sumI (c.set i v) = sumI c - nth c i + v
  | [], i, v, h => by simp at h
  | x :: l, 0, v, h => by simp [sumI, nth]; omega
  | x :: l, i + 1, v, h => by
    have := sumI_set l i v (by simpa using h)
    simp only [List.set_cons_succ, sumI]
    rw [this]
    simp [nth]; omega
theorem all_ones : ∀ (c : List Int), (∀ k, k < c.length → nth c k ≤ 1) → sumI c ≤ c.length ∧ (sumI c = c.length → c = List.replicate c.length 1)
  | [], _ => ⟨by simp [sumI], fun _ => rfl⟩
  | x :: l, h => by
    obtain ⟨h1, h2⟩ := all_ones l (fun k hk => by have := h (k + 1) (by simp; omega); simpa [nth] using this)
    have hx : x ≤ 1 := by have := h 0 (by simp); simpa [nth] using this
    refine ⟨by simp [sumI]; omega, fun e => ?_⟩
    simp only [sumI, List.length_cons] at e
    have e1 : x = 1 := by omega
    rw [List.length_cons, List.replicate_succ, ← h2 (by omega), e1]
theorem inj_seen {b : List Int} (hb : RuleOk b) (h : ∀ i j, i < 16 → j < 16 → nth b i = nth b j → i = j) : seenF b 16 = List.replicate 16 1 := by
  have hs : ∀ k, k ≤ 16 → sumI (seenF b k) = k := by
    intro k
    induction k with
    | zero => intro _; rfl
    | succ k ih =>
      intro hk
      have := hb.bd k (by omega)
      rw [seenF, sumI_set _ _ _ (by rw [seenF_length]; omega), ih (by omega)]
      omega
  have h0 : ∀ (k v : Nat), k ≤ 16 → v < 16 → (∀ i, i < k → (nth b i).toNat ≠ v) → nth (seenF b k) v = 0 := by
    intro k
    induction k with
    | zero => intro v _ hv _; rw [seenF, nth_rep 16 v 0 hv]
    | succ k ih =>
      intro v hk hv hn
      rw [seenF, nth_set, if_neg (fun e => hn k (by omega) e.1)]
      exact ih v (by omega) hv fun i hi => hn i (by omega)
  have h1 : ∀ (k v : Nat), k ≤ 16 → v < 16 → nth (seenF b k) v ≤ 1 := by
    intro k
    induction k with
    | zero => intro v _ hv; rw [seenF, nth_rep 16 v 0 hv]; omega
    | succ k ih =>
      intro v hk hv
      rw [seenF, nth_set]
      split
      · rename_i e
        rw [h0 k _ (by omega) (by omega) fun i hi he => ?_]
        · omega
        · have b1 := hb.bd i (by omega); have b2 := hb.bd k (by omega)
          have := h i k (by omega) (by omega) (by omega)
          omega
      · exact ih v (by omega) hv
  have := (all_ones (seenF b 16) (fun k hk => by rw [seenF_length] at hk; exact h1 16 k (by omega) hk)).2 (by rw [hs 16 (by omega), seenF_length])
  rwa [seenF_length] at this
theorem once16 : onceF 16 = List.replicate 16 1 := by decide
theorem turnsB_iff {b : List Int} (hb : Arr16 b) (hc : checkB b = 0) : turnsB b = true ↔ ∀ i j, i < 16 → j < 16 → nth b i = nth b j → i = j := by
  unfold turnsB
  rw [once16]
  simp only [hc, decide_true, Bool.true_and, decide_eq_true_eq]
  exact ⟨seen_inj (ruleOk hb hc), inj_seen (ruleOk hb hc)⟩
theorem backF_at {b : List Int} (hb : RuleOk b) (h : ∀ i j, i < 16 → j < 16 → nth b i = nth b j → i = j) : ∀ (k i : Nat), k ≤ 16 → i < k → nth (backF b k) (nth b i).toNat = i := by
  intro k
  induction k with
  | zero => intro i _ hi; omega
  | succ k ih =>
    intro i hk hi
    rw [backF, nth_set]
    have b1 := hb.bd i (by omega); have b2 := hb.bd k (by omega)
    by_cases e : i = k
    · subst e; rw [if_pos ⟨rfl, by rw [backF_length]; omega⟩]
    · rw [if_neg fun e2 => e (h i k (by omega) (by omega) (by omega)), ih i (by omega) (by omega)]
theorem takes_back {b : List Int} (hb : RuleOk b) (h : ∀ i j, i < 16 → j < 16 → nth b i = nth b j → i = j) : Takes b (backF b 16) := fun n hn => backF_at hb h 16 n (by omega) hn
theorem back_rule {b : List Int} (hb : RuleOk b) : RuleOk (backF b 16) :=
  ⟨backF_length b 16, fun n hn => by
    refine ⟨(backF_bd b 16 n hn).1, ?_⟩
    have : ∀ k, k ≤ 16 → nth (backF b k) n < 16 := fun k => by
      induction k with
      | zero => intro _; rw [backF, nth_rep 16 n 0 hn]; omega
      | succ k ih =>
        intro hk
        rw [backF, nth_set]
        split
        · omega
        · exact ih (by omega)
    exact this 16 (by omega)⟩
/-- what takes back is taken back by the rule -/
theorem takes_again {b : List Int} (hb : RuleOk b) (h : ∀ i j, i < 16 → j < 16 → nth b i = nth b j → i = j) : ∀ v : Nat, v < 16 → ∃ i : Nat, i < 16 ∧ nth b i = v := by
  intro v hv
  have hs := inj_seen hb h
  have h0 : ∀ (k : Nat), k ≤ 16 → (∀ i, i < k → (nth b i).toNat ≠ v) → nth (seenF b k) v = 0 := by
    intro k
    induction k with
    | zero => intro _ _; rw [seenF, nth_rep 16 v 0 hv]
    | succ k ih =>
      intro hk hn
      rw [seenF, nth_set, if_neg (fun e => hn k (by omega) e.1)]
      exact ih (by omega) fun i hi => hn i (by omega)
  by_cases hex : ∃ i, i < 16 ∧ (nth b i).toNat = v
  · obtain ⟨i, hi, e⟩ := hex
    exact ⟨i, hi, by have := hb.bd i hi; omega⟩
  · have := h0 16 (by omega) fun i hi e => hex ⟨i, hi, e⟩
    rw [hs, nth_rep 16 v 1 hv] at this
    omega
theorem back_inj {b : List Int} (hb : RuleOk b) (h : ∀ i j, i < 16 → j < 16 → nth b i = nth b j → i = j) : ∀ i j, i < 16 → j < 16 → nth (backF b 16) i = nth (backF b 16) j → i = j := by
  intro i j hi hj e
  obtain ⟨m, hm, e1⟩ := takes_again hb h i hi
  obtain ⟨n, hn, e2⟩ := takes_again hb h j hj
  have a1 := takes_back hb h m hm
  have a2 := takes_back hb h n hn
  rw [e1] at a1
  rw [e2] at a2
  simp only [Int.toNat_natCast] at a1 a2
  have : m = n := by omega
  subst this
  omega
theorem back_back {b : List Int} (hb : RuleOk b) (h : ∀ i j, i < 16 → j < 16 → nth b i = nth b j → i = j) : backF (backF b 16) 16 = b := by
  refine nth_ext (by rw [backF_length, hb.len]) fun k hk => ?_
  rw [backF_length] at hk
  have b1 := hb.bd k hk
  have a1 := takes_back hb h k hk
  have := backF_at (back_rule hb) (back_inj hb h) 16 (nth b k).toNat (by omega) (by omega)
  rw [a1] at this
  simp only [Int.toNat_natCast] at this
  omega
end Go.Viv
