/- Scripts that come in, opened. -/
import Derived.Test.YtjhfiibfknhniaaLawKit
import Derived.Test.YtjhfiibfknhniaaLawKit0
import Derived.Test.YtjhfiibfknhniaaOpM
import Derived.Test.YtjhfiibfknhniaaLnE
import Derived.Deep.Slices
import Derived.ChangeSlices
set_option linter.unusedVariables false
set_option linter.unusedSimpArgs false
namespace Go.Proofs.Ytjhfiibfknhniaa
open Go.ChangeShapes Go.WideShapes Go.ChangeAt Go.RowKit Go.Joins Go.Deep

set_option maxRecDepth 100000 in
theorem open_ops {H : Type} {enc : TypeId × Value → H} {w : World} {base : Nat} {held : Bool} {r : Reach} {b0 : Nat} {v : Value} {d : DataW H} {ps : List MemPlace} {ts : List TypeId} {ds : List (DataW H)} {j : Nat}
    (hsz : (DataW.weightsEach Try.prog ts ds).all (· ≤ reachBytes) = true) (ht : ts[j]? = some 38) (hd : ds[j]? = some d)
    (hv : Value.okWide Try.prog w r b0 38 v) (h : DataW.Trod enc Try.prog w base (fun _ => true) held 38 v d ps) :
    ∃ (a : Option Addr) (n c : Nat) (os : List OpR), v = .slice a n c ∧ os.length = n ∧ n ≤ 9223372036854775807 ∧ OpsAt w a os := by
  obtain ⟨a, n, c, rfl⟩ := okWide_slice Try.underlying38 hv
  obtain ⟨fuel, hf⟩ := h
  rcases open_slice Try.underlying38 hf with ⟨hcs, _⟩ | ⟨x, len, cp, m, k, Dd, Pl, hcs, _, hl, hm, hmm, hx, hr⟩
  · simp [Value.cells] at hcs
    obtain ⟨rfl, rfl, rfl⟩ := hcs
    exact ⟨none, 0, 0, [], rfl, rfl, by omega, fun h => absurd h (by decide)⟩
  · simp [Value.cells] at hcs
    obtain ⟨rfl, rfl, rfl⟩ := hcs
    obtain ⟨hx, _⟩ := Prod.mk.inj hx
    subst hx
    have h8 : Try.prog.cellsOf 41 = 8 := by kernel_rfl
    have hB1 : Try.prog.bytesOf 5 = 1 := by kernel_rfl
    have q0 : Try.prog.cellsOf 3 = 1 := by kernel_rfl
    have q1 : Try.prog.cellsOf 5 = 1 := by kernel_rfl
    have q2 : Try.prog.cellsOf 28 = 1 := by kernel_rfl
    have q3 : Try.prog.cellsOf 4 = 1 := by kernel_rfl
    rw [h8] at hr
    have key : ∀ i, i < n → ∃ o : OpR, ∀ b off, x = ⟨b, off, none⟩ → ∃ A' c', OpAt w b off i o A' c' := fun i hi => by
      obtain ⟨cs, h1, h2⟩ := hr i (by simp at hmm; omega)
      obtain ⟨_, hlen, hcell⟩ := World.cells?_some h1
      obtain ⟨xs, f, _, hxs, _, hlen2, hfs⟩ := DataW.trod_struct Try.underlying41 h2
      match cs, hlen with
      | [c0, c1, c2, c3, c4, c5, c6, c7], _ =>
        match xs, hlen2 with
        | [y0, y1, y2, y3, y4, y5, y6, y7], _ =>
          have t0 := hfs 0 _ rfl; have t1 := hfs 1 _ rfl; have t2 := hfs 2 _ rfl; have t3 := hfs 3 _ rfl
          have t4 := hfs 4 _ rfl; have t5 := hfs 5 _ rfl; have t6 := hfs 6 _ rfl; have t7 := hfs 7 _ rfl
          simp [q0, q1, q2, q3] at t0 t1 t2 t3 t4 t5 t6 t7
          obtain ⟨z0, e0, _, w0⟩ := DataW.trod_int Try.underlying3 t0
          obtain ⟨z1, e1, _, w1⟩ := DataW.trod_int Try.underlying3 t1
          obtain ⟨z2, e2, _, w2⟩ := DataW.trod_int Try.underlying3 t2
          obtain ⟨z3, e3, _, w3⟩ := DataW.trod_int Try.underlying3 t3
          obtain ⟨z4, e4, _, w4⟩ := DataW.trod_int Try.underlying5 t4
          obtain ⟨z5, e5, _, w5⟩ := DataW.trod_int Try.underlying3 t5
          obtain ⟨z7, e7, _⟩ := DataW.trod_bool Try.underlying4 t7
          simp at e0 e1 e2 e3 e4 e5 e7
          subst e0 e1 e2 e3 e4 e5 e7
          have hcl : ∀ j u, j < 8 → [Value.int .i64 z0, .int .i64 z1, .int .i64 z2, .int .i64 z3, .int .u8 z4, .int .i64 z5, c6, .bool z7][j]? = some u → ∀ b off, x = ⟨b, off, none⟩ → w.cell? ⟨b, off + i * 8 + j, none⟩ = some u := fun j u hj hu b off hb => by
            have := hcell j hj
            rw [hu] at this
            subst hb
            have ea : (Addr.add (Addr.add ⟨b, off, none⟩ (i * 8)) j) = ⟨b, off + i * 8 + j, none⟩ := by rw [add_add]; simp [Addr.add, Nat.add_assoc]
            rw [ea] at this
            exact this
          rcases open_ints Try.underlying28 Try.underlying5 (by kernel_rfl) t6 with ⟨hc6, _⟩ | ⟨ad, L, cc, zs, hc6, _, hl6, hm6, hz6, hx6, hcell6, hwz6⟩
          · simp at hc6
            subst hc6
            exact ⟨⟨z0, z1, z2, z3, z4, z5, [], z7⟩, fun b off hb => ⟨none, 0, by simpa using hcl 0 _ (by omega) rfl b off hb, hcl 1 _ (by omega) rfl b off hb, hcl 2 _ (by omega) rfl b off hb, hcl 3 _ (by omega) rfl b off hb, hcl 4 _ (by omega) rfl b off hb, hcl 5 _ (by omega) rfl b off hb, hcl 6 _ (by omega) rfl b off hb, hcl 7 _ (by omega) rfl b off hb, Rd.nil _, fun h => absurd h (Nat.lt_irrefl 0), by simp, by simp, wf_i64 w2, wf_i64 w3, wf_u8 w4⟩⟩
          · simp at hc6
            subst hc6
            have hl2 : L ≤ zs.length := by rw [hz6]; simp; omega
            have hmem : ((lits (H := H) .u8 (zs.take L)).length + (lits (H := H) .u8 (zs.drop L)).length) * Try.prog.bytesOf 5 ∈ DataW.weightsEach Try.prog ts ds := by
              refine DataW.weights_mem_each ht hd _ ?_
              rw [DataW.weights, Try.underlying38]
              refine List.mem_cons_of_mem _ (List.mem_append_left _ (weights_in (d := Dd i) ?_ (List.mem_map.2 ⟨i, List.mem_range.2 hi, rfl⟩)))
              obtain ⟨hd1, _⟩ := Prod.mk.inj hxs
              rw [hd1, DataW.weights, Try.underlying41]
              refine DataW.weights_mem_each (j := 6) (t := 28) (d := y6.1) rfl rfl _ ?_
              rw [hx6]
              simp only
              rw [DataW.weights, Try.underlying28]
              exact List.mem_cons_self
            have hb := List.all_eq_true.1 hsz _ hmem
            rw [hB1] at hb
            simp [lits, reachBytes] at hb
            refine ⟨⟨z0, z1, z2, z3, z4, z5, zs.take L, z7⟩, fun b off hb' => ⟨some ad, cc, by simpa using hcl 0 _ (by omega) rfl b off hb', hcl 1 _ (by omega) rfl b off hb', hcl 2 _ (by omega) rfl b off hb', hcl 3 _ (by omega) rfl b off hb', hcl 4 _ (by omega) rfl b off hb', hcl 5 _ (by omega) rfl b off hb', by
              have e : (zs.take L).length = L := by simp; omega
              simpa [e] using hcl 6 _ (by omega) rfl b off hb', hcl 7 _ (by omega) rfl b off hb', ⟨fun h => (by cases h), fun ad' ha j u hu => ?_⟩, fun hp => ?_, by show (zs.take L).length ≤ _; simp; omega, fun z hz => wf_u8 (hwz6 z (List.mem_of_mem_take hz)), wf_i64 w2, wf_i64 w3, wf_u8 w4⟩⟩
            · obtain rfl := Option.some.inj ha
              rw [List.getElem?_map] at hu
              obtain ⟨z, hz2, rfl⟩ := Option.map_eq_some_iff.1 hu
              have hj : j < L := by have := (List.getElem?_eq_some_iff.1 hz2).1; simp at this; omega
              rw [hcell6 j (by omega)]
              rw [List.getElem?_take_of_lt hj] at hz2
              simp [List.getD, hz2]
            · have hp' : 0 < L := by simp at hp; omega
              obtain ⟨b, off, e, _⟩ := ints_at hcell6 (by omega)
              exact ⟨b, off, by rw [e]⟩
    obtain ⟨O, hO⟩ := choose_lt (α := OpR) (p := fun i o => ∀ b off, x = ⟨b, off, none⟩ → ∃ A' c', OpAt w b off i o A' c') key
    refine ⟨some x, n, c, (List.range n).map O, rfl, by simp, by unfold maxLen at hm; omega, fun hp => ?_⟩
    have hat : ∃ b off, x = ⟨b, off, none⟩ := by
      obtain ⟨b, off, spot⟩ := x
      obtain ⟨cs, h1, _⟩ := hr 0 (by simp at hmm hp; omega)
      obtain ⟨_, hlen, hcell⟩ := World.cells?_some h1
      have h0 := hcell 0 (by omega)
      rw [List.getElem?_eq_getElem (by omega)] at h0
      have hs : spot = none := by simpa [Addr.add] using World.cell?_spot h0
      subst hs
      exact ⟨b, off, rfl⟩
    obtain ⟨b, off, rfl⟩ := hat
    refine ⟨b, off, rfl, fun i o ho => ?_⟩
    have hk : i < n := by have := (List.getElem?_eq_some_iff.1 ho).1; simpa using this
    rw [List.getElem?_map, List.getElem?_range hk] at ho
    obtain rfl := Option.some.inj ho
    exact hO i hk b off rfl
end Go.Proofs.Ytjhfiibfknhniaa
