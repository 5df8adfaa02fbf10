/- What arguments of the laws read as, handed to the walks: people, recodings, bytes. -/
import Derived.Test.YtfhidimmaeiiaaaOpen
import Derived.Test.YtfhidimmaeiiaaaPure
import Derived.Deep.Slices
import Derived.Deep.Fields
import Derived.Lib.SmallJoins
import Derived.ChangeSame
namespace Go.Proofs.Ytfhidimmaeiiaaa
open Go.RowKit Go.Deep Go.ChangeShapes Go.WideShapes

instance : Inhabited Pn := ⟨⟨0, 0, 0, 0⟩⟩

section
variable {H : Type} {enc : TypeId × Value → H} {P : Program} {W : World} {t e q : TypeId} {a : Option Addr} {n c : Nat} {d : DataW H} {p : List MemPlace}

theorem int_at {m : Nat} {v : Value} {y : DataW H × List MemPlace} {q : TypeId} (hq : P.underlying q = some (.int .i64)) (h : DataW.trod enc P W 0 (fun _ => true) true m q [v] = some y) : ∃ z, v = .int .i64 z ∧ i64ok z := by
  obtain ⟨z, h1, _, hw⟩ := DataW.trod_int hq h
  exact ⟨z, by simpa using h1, bounds_i64 hw⟩

theorem open_people {f0 f1 f2 f3 : Field} (ht : P.underlying t = some (.slice e)) (he : P.underlying e = some (.struct #[f0, f1, f2, f3])) (hq : P.underlying q = some (.int .i64)) (hf : f0.type = q ∧ f1.type = q ∧ f2.type = q ∧ f3.type = q)
    (ce : P.cellsOf e = 4) (hone : oneCellFields P #[f0, f1, f2, f3] = true) (h : DataW.Trod enc P W 0 (fun _ => true) true t (.slice a n c) d p) :
    ∃ l : List Pn, n = l.length ∧ n ≤ 9223372036854775807 ∧ Ppl W W.heap.size a l ∧ ∀ z ∈ l, z.ok := by
  obtain ⟨fuel, hfu⟩ := h
  rcases open_slice ht hfu with ⟨hcs, _⟩ | ⟨x, len, cap, m, k, D, Pl, hcs, _, hl, hm, hmm, _, hi⟩
  · simp [Value.cells] at hcs
    obtain ⟨rfl, rfl, rfl⟩ := hcs
    exact ⟨[], rfl, by omega, ⟨by simp, fun h => by simp at h⟩, by simp⟩
  · simp [Value.cells] at hcs
    obtain ⟨rfl, rfl, rfl⟩ := hcs
    simp at hmm
    subst hmm
    obtain ⟨o0, k0⟩ := hone_of hone 0 f0 rfl
    obtain ⟨o1, k1⟩ := hone_of hone 1 f1 rfl
    obtain ⟨o2, k2⟩ := hone_of hone 2 f2 rfl
    obtain ⟨o3, k3⟩ := hone_of hone 3 f3 rfl
    obtain ⟨g, hg⟩ := choose_lt (α := Pn) (p := fun i z => z.ok ∧ ∀ j, j < 4 → W.cell? (x.add (i * 4 + j)) = z.vals[j]?) (n := m) (fun i him => by
      obtain ⟨cs', h1, h2⟩ := hi i him
      rw [ce] at h1
      obtain ⟨_, hcl, hat⟩ := World.cells?_some h1
      obtain ⟨ys, n', _, _, _, hyl, hfd⟩ := DataW.trod_struct he h2
      match cs', hcl with
      | [c0, c1, c2, c3], _ =>
        match ys, hyl with
        | [y0, y1, y2, y3], _ =>
          have g0 := hfd 0 f0 rfl
          have g1 := hfd 1 f1 rfl
          have g2 := hfd 2 f2 rfl
          have g3 := hfd 3 f3 rfl
          rw [o0, k0] at g0
          rw [o1, k1] at g1
          rw [o2, k2] at g2
          rw [o3, k3] at g3
          obtain ⟨z0, rfl, b0⟩ := int_at (v := c0) (y := y0) (by rw [hf.1]; exact hq) g0
          obtain ⟨z1, rfl, b1⟩ := int_at (v := c1) (y := y1) (by rw [hf.2.1]; exact hq) g1
          obtain ⟨z2, rfl, b2⟩ := int_at (v := c2) (y := y2) (by rw [hf.2.2.1]; exact hq) g2
          obtain ⟨z3, rfl, b3⟩ := int_at (v := c3) (y := y3) (by rw [hf.2.2.2]; exact hq) g3
          refine ⟨⟨z0, z1, z2, z3⟩, ⟨b0, b1, b2, b3⟩, fun j hj => ?_⟩
          rw [← Go.Deep.add_add]
          exact hat j hj)
    refine ⟨(List.range n).map g, by simp, by unfold maxLen at hm; omega, ?_, ?_⟩
    · refine ⟨by rw [flat_len Pn.vals 4 Pn.vals_len], fun hn => ?_⟩
      simp at hn
      obtain ⟨b, off, rfl, hb⟩ : ∃ b off, x = ⟨b, off, none⟩ ∧ b < W.heap.size := by
        have := (hg 0 (by omega)).2 0 (by omega)
        exact add_none (v := .int .i64 (g 0).a) this
      refine ⟨b, off, rfl, hb, fun j u hu => ?_⟩
      have hj : j < n * 4 := by have := (List.getElem?_eq_some_iff.1 hu).1; rw [flat_len Pn.vals 4 Pn.vals_len] at this; simpa using this
      have e1 := (hg (j / 4) (by omega)).2 (j % 4) (by omega)
      have e2 : j / 4 * 4 + j % 4 = j := by omega
      rw [e2, add_at] at e1
      have e3 := flat_at Pn.vals 4 Pn.vals_len ((List.range n).map g) (j / 4) (g (j / 4)) (by rw [List.getElem?_map, List.getElem?_range (by omega)]; rfl) (j % 4) (by omega)
      rw [e2, hu] at e3
      rw [e1, ← e3]
    · intro z hz
      obtain ⟨i, hi', rfl⟩ := List.mem_map.1 hz
      have := List.mem_range.1 hi'
      exact (hg i (by omega)).1

theorem open_recode {r : Reach} {b0 : Nat} {f0 f1 f2 : Field} {v : Value} (ht : P.underlying t = some (.struct #[f0, f1, f2])) (hq : P.underlying q = some (.int .i64)) (hf : f0.type = q ∧ f1.type = q ∧ f2.type = q) (ce : P.cellsOf t = 3) (hone : oneCellFields P #[f0, f1, f2] = true)
    (hv : Value.okWide P W r b0 t v) (h : DataW.Trod enc P W 0 (fun _ => true) true t v d p) : ∃ x : Rc, v = x.val ∧ x.ok := by
  obtain ⟨v0, v1, v2, y0, y1, y2, m, rfl, _, _, h0, h1, h2⟩ := Go.Joins.open_agg3 ht hone ce hv h
  obtain ⟨z0, rfl, b0⟩ := int_at (by rw [hf.1]; exact hq) h0
  obtain ⟨z1, rfl, b1⟩ := int_at (by rw [hf.2.1]; exact hq) h1
  obtain ⟨z2, rfl, b2⟩ := int_at (by rw [hf.2.2]; exact hq) h2
  exact ⟨⟨z0, z1, z2⟩, rfl, b0, b1, b2⟩

theorem open_bytes (ht : P.underlying t = some (.slice e)) (he : P.underlying e = some (.int .u8)) (ce : P.cellsOf e = 1) (h : DataW.Trod enc P W 0 (fun _ => true) true t (.slice a n c) d p) :
    ∃ bs : List Int, n = bs.length ∧ n ≤ 9223372036854775807 ∧ (n ≤ c ∧ c ≤ 9223372036854775807) ∧ Rds W W.heap.size 1 a n (bs.map (Value.int .u8)) ∧ ∀ z ∈ bs, 0 ≤ z ∧ z ≤ 255 := by
  obtain ⟨fuel, hf⟩ := h
  rcases open_ints ht he ce hf with ⟨hcs, _⟩ | ⟨x, l, cp, zs, hcs, _, hl, hm, hz, _, hcell, hwf⟩
  · simp [Value.cells] at hcs
    obtain ⟨rfl, rfl, rfl⟩ := hcs
    exact ⟨[], rfl, by omega, ⟨by omega, by omega⟩, ⟨by simp, fun h => by simp at h⟩, by simp⟩
  · simp [Value.cells] at hcs
    obtain ⟨rfl, rfl, rfl⟩ := hcs
    simp at hz
    unfold maxLen at hm
    refine ⟨zs.take n, by simp; omega, by omega, ⟨hl, by omega⟩, ⟨by simp; omega, fun hn => ?_⟩, ?_⟩
    · have h0 := hcell 0 (by omega)
      obtain ⟨b, off, rfl, hb⟩ := add_none h0
      refine ⟨b, off, rfl, hb, fun j u hu => ?_⟩
      have hj : j < n := by have := (List.getElem?_eq_some_iff.1 hu).1; simp at this; omega
      have e1 := hcell j (by omega)
      rw [add_at] at e1
      rw [e1]
      have hjz : j < zs.length := by omega
      rw [List.getElem?_map, List.getElem?_take, if_pos hj, List.getElem?_eq_getElem hjz] at hu
      rw [← hu]
      simp [List.getD, hjz]
    · intro z hz'
      have := hwf z (List.mem_of_mem_take hz')
      simp [Lit.wf, IntKind.min, IntKind.max, IntKind.signed, IntKind.bits] at this
      omega
end
end Go.Proofs.Ytfhidimmaeiiaaa
