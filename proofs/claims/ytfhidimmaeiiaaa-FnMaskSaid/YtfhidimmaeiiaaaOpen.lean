/- What an argument of the laws reads as, handed to the walks: rows of flags, rows of numbers, bytes. -/
import Derived.Test.YtfhidimmaeiiaaaMem
import Derived.ProofKit
import Derived.OpenShut
import Derived.Deep.Grids
import Derived.Deep.Matrix
namespace Go.Proofs.Ytfhidimmaeiiaaa
open Go.RowKit Go.Deep Go.ChangeShapes Go.WideShapes

theorem add_none {a : Addr} {W : World} {v : Value} (h : W.cell? (a.add 0) = some v) : ∃ b off, a = ⟨b, off, none⟩ ∧ b < W.heap.size := by
  obtain ⟨b, off, spot⟩ := a
  have e : (⟨b, off, spot⟩ : Addr).add 0 = ⟨b, off, spot⟩ := rfl
  rw [e] at h
  have hs := World.cell?_spot h
  have hb := World.block_lt_of_cell? W _ h
  simp at hs
  subst hs
  exact ⟨b, off, rfl, hb⟩

theorem add_at (b off j : Nat) : (⟨b, off, none⟩ : Addr).add j = ⟨b, off + j, none⟩ := by
  unfold Addr.add
  split
  · rename_i e; subst e; rfl
  · rfl

/-- Cells by index, from some address on, as a row. -/
theorem rds_of {W : World} {A : Option Addr} {n c : Nat} {V : Nat → Value} (hnc : n ≤ c) (h0 : A = none → c = 0) (hc : ∀ a', A = some a' → ∀ i, i < c → W.cell? (a'.add i) = some (V i)) :
    Rds W W.heap.size 1 A n ((List.range n).map V) := by
  refine ⟨by simp, fun hn => ?_⟩
  rcases A with _ | a'
  · have := h0 rfl; omega
  · obtain ⟨b, off, rfl, hb⟩ := add_none (hc a' rfl 0 (by omega))
    refine ⟨b, off, rfl, hb, fun j u hu => ?_⟩
    have hj : j < n := by have := (List.getElem?_eq_some_iff.1 hu).1; simpa using this
    have e := hc _ rfl j (by omega)
    rw [add_at] at e
    rw [e]
    simpa [hj] using hu

/-- Rows by index, from some address on, as a grid. -/
theorem grd_of {W : World} {a : Addr} {n c : Nat} {A : Nat → Option Addr} {L C : Nat → Nat} {V : Nat → Nat → Value} (hnc : n ≤ c)
    (h : ∀ r, r < c → W.cell? (a.add r) = some (.slice (A r) (L r) (C r)) ∧ L r ≤ C r ∧ C r ≤ maxLen ∧ (A r = none → C r = 0) ∧ ∀ a', A r = some a' → ∀ i, i < C r → W.cell? (a'.add i) = some (V r i)) :
    Grd W W.heap.size (some a) ((List.range n).map fun r => (List.range (L r)).map (V r)) := by
  intro hn
  simp at hn
  obtain ⟨b, off, rfl, hb⟩ := add_none (h 0 (by omega)).1
  refine ⟨b, off, rfl, hb, fun k r hr => ?_⟩
  have hk : k < n := by have := (List.getElem?_eq_some_iff.1 hr).1; simpa using this
  obtain ⟨h1, h2, h3, h4, h5⟩ := h k (by omega)
  have e : r = (List.range (L k)).map (V k) := by simpa [hk] using hr.symm
  subst e
  rw [add_at] at h1
  exact ⟨A k, C k, by simpa using h1, by simpa using h2, h3, by have := rds_of h2 h4 h5; simpa using this⟩

section
variable {H : Type} {enc : TypeId × Value → H} {P : Program} {W : World} {t e q : TypeId} {a : Option Addr} {n c : Nat} {d : DataW H} {p : List MemPlace}

theorem open_bool_grid (ht : P.underlying t = some (.slice e)) (he : P.underlying e = some (.slice q)) (hq : P.underlying q = some .bool) (ce : P.cellsOf e = 1) (cq : P.cellsOf q = 1)
    (h : DataW.Trod enc P W 0 (fun _ => true) true t (.slice a n c) d p) : ∃ rs : List (List Bool), n = rs.length ∧ n ≤ 9223372036854775807 ∧ Grd W W.heap.size a (rs.map (·.map Value.bool)) := by
  obtain ⟨fuel, hf⟩ := h
  rcases open_bool_rows ht he hq ce cq hf with ⟨hcs, _⟩ | ⟨x, l, cp, A, L, C, B, hcs, _, hl, hm, _, hr⟩
  · simp [Value.cells] at hcs
    obtain ⟨rfl, rfl, rfl⟩ := hcs
    exact ⟨[], rfl, by omega, fun h => by simp at h⟩
  · simp [Value.cells] at hcs
    obtain ⟨rfl, rfl, rfl⟩ := hcs
    refine ⟨(List.range n).map fun r => (List.range (L r)).map (B r), by simp, by unfold maxLen at hm; omega, ?_⟩
    have := grd_of (V := fun r i => .bool (B r i)) hl (fun r hr' => ⟨(hr r hr').1, (hr r hr').2.1, (hr r hr').2.2.1, (hr r hr').2.2.2.1, fun a' ha' => ((hr r hr').2.2.2.2 a' ha').2⟩)
    simpa [Function.comp_def] using this

theorem open_int_grid (ht : P.underlying t = some (.slice e)) (he : P.underlying e = some (.slice q)) (hq : P.underlying q = some (.int .i64)) (ce : P.cellsOf e = 1) (cq : P.cellsOf q = 1)
    (h : DataW.Trod enc P W 0 (fun _ => true) true t (.slice a n c) d p) :
    ∃ rs : List (List Int), n = rs.length ∧ n ≤ 9223372036854775807 ∧ Grd W W.heap.size a (rs.map (·.map (Value.int .i64))) ∧ ∀ r ∈ rs, ∀ z ∈ r, -9223372036854775808 ≤ z ∧ z ≤ 9223372036854775807 := by
  obtain ⟨fuel, hf⟩ := h
  rcases open_int_rows ht he hq ce cq hf with ⟨hcs, _⟩ | ⟨x, l, cp, A, L, C, Z, hcs, _, hl, hm, _, hr⟩
  · simp [Value.cells] at hcs
    obtain ⟨rfl, rfl, rfl⟩ := hcs
    exact ⟨[], rfl, by omega, fun h => by simp at h, by simp⟩
  · simp [Value.cells] at hcs
    obtain ⟨rfl, rfl, rfl⟩ := hcs
    refine ⟨(List.range n).map fun r => (List.range (L r)).map fun i => (Z r).getD i 0, by simp, by unfold maxLen at hm; omega, ?_, ?_⟩
    · have := grd_of (V := fun r i => .int .i64 ((Z r).getD i 0)) hl (fun r hr' => ⟨(hr r hr').1, (hr r hr').2.1, (hr r hr').2.2.1, (hr r hr').2.2.2.2.2.1, fun a' ha' => ((hr r hr').2.2.2.2.2.2 a' ha').2⟩)
      simpa [Function.comp_def] using this
    · intro r hr1 z hz
      obtain ⟨k, hk, rfl⟩ := List.mem_map.1 hr1
      obtain ⟨i, hi, rfl⟩ := List.mem_map.1 hz
      have hk' : k < n := List.mem_range.1 hk
      have hi' : i < L k := List.mem_range.1 hi
      obtain ⟨_, h2, _, h4, h5, _⟩ := hr k (by omega)
      have hl' : i < (Z k).length := by omega
      have := h5 ((Z k)[i]) (List.getElem_mem hl')
      have e : (Z k).getD i 0 = (Z k)[i] := by simp [List.getD, hl']
      rw [e]
      exact bounds_i64 this
end
end Go.Proofs.Ytfhidimmaeiiaaa
