/- The plain side: persons, ladders, recodings, groups, as functions on lists of integers. No program text is named here. -/
import Derived.Test.YtfhidimmaeiiaaaMem
namespace Go.Proofs.Ytfhidimmaeiiaaa
open Go.RowKit

structure Pn where
  a : Int
  j : Int
  s : Int
  p : Int

structure Rc where
  a : Int
  j : Int
  s : Int

def i64ok (z : Int) : Prop := -9223372036854775808 ≤ z ∧ z ≤ 9223372036854775807
def Pn.ok (p : Pn) : Prop := i64ok p.a ∧ i64ok p.j ∧ i64ok p.s ∧ i64ok p.p
def Rc.ok (r : Rc) : Prop := i64ok r.a ∧ i64ok r.j ∧ i64ok r.s

def Pn.vals (p : Pn) : List Value := [.int .i64 p.a, .int .i64 p.j, .int .i64 p.s, .int .i64 p.p]
abbrev Pn.val (p : Pn) : Value := .agg #[.int .i64 p.a, .int .i64 p.j, .int .i64 p.s, .int .i64 p.p]
abbrev Rc.val (r : Rc) : Value := .agg #[.int .i64 r.a, .int .i64 r.j, .int .i64 r.s]

theorem Pn.vals_len (p : Pn) : p.vals.length = 4 := rfl
/-- A slice of persons that reads as the list l. -/
def Ppl (w : World) (B : Nat) (A : Option Addr) (l : List Pn) : Prop := Rds w B 4 A l.length (l.flatMap Pn.vals)
theorem Ppl.at_ {w : World} {B : Nat} {A : Option Addr} {l : List Pn} {k : Nat} {p : Pn} (h : Ppl w B A l) (hp : l[k]? = some p) :
    ∃ b off, A = some ⟨b, off, none⟩ ∧ b < B ∧ w.cell? ⟨b, off + k * 4, none⟩ = some (.int .i64 p.a) ∧ w.cell? ⟨b, off + k * 4 + 1, none⟩ = some (.int .i64 p.j) ∧ w.cell? ⟨b, off + k * 4 + 2, none⟩ = some (.int .i64 p.s) ∧ w.cell? ⟨b, off + k * 4 + 3, none⟩ = some (.int .i64 p.p) := by
  obtain ⟨b, off, e, hb, hc⟩ := Rds.atm Pn.vals_len h hp
  exact ⟨b, off, e, hb, hc 0 (by omega), by have := hc 1 (by omega); rw [← Nat.add_assoc] at this; exact this, by have := hc 2 (by omega); rw [← Nat.add_assoc] at this; exact this, by have := hc 3 (by omega); rw [← Nat.add_assoc] at this; exact this⟩

theorem Ppl.below {w w' : World} {B : Nat} {A : Option Addr} {l : List Pn} (h : Ppl w B A l) (hb : Below B w w') : Ppl w' B A l := Rds.below h hb
theorem Ppl.more {w : World} {B B' : Nat} {A : Option Addr} {l : List Pn} (h : Ppl w B A l) (hB : B ≤ B') : Ppl w B' A l := Rds.more h hB

/-- A valid person. -/
def Pn.good (p : Pn) : Prop := (0 ≤ p.a ∧ p.a ≤ 3) ∧ (0 ≤ p.j ∧ p.j ≤ 3) ∧ (0 ≤ p.s ∧ p.s ≤ 1) ∧ (0 ≤ p.p ∧ p.p ≤ 999)
def goodL (l : List Pn) : Prop := (∀ p ∈ l, p.good) ∧ l.length ≤ 40

theorem all_snoc {α : Type} {P : α → Prop} {pre : List α} {p : α} (h1 : Hid (∀ q ∈ pre, P q)) (h2 : Hid (P p)) : Hid (∀ q ∈ pre ++ [p], P q) := by
  intro q hq
  rcases List.mem_append.1 hq with h | h
  · exact h1 q h
  · rw [List.mem_singleton.1 h]; exact h2

/-- Is a number within bounds? -/
def inB (n lo hi : Int) : Bool := decide (lo ≤ n ∧ n ≤ hi)
theorem inB_yes {n lo hi : Int} (h1 : lo ≤ n) (h2 : n ≤ hi) : inB n lo hi = true := by simp [inB, h1, h2]
theorem inB_no {n lo hi : Int} (h : n < lo ∨ hi < n) : inB n lo hi = false := by simp [inB]; omega

/-! ### Ladders -/
def ix (s : List Int) (k : Nat) : Int := s.getD k 0
def ixs (L : List (List Int)) (k : Nat) : List Int := L.getD k []
theorem ix_at {s : List Int} {k : Nat} (h : k < s.length) : s[k]? = some (ix s k) := by simp [ix, h]
theorem ixs_at {L : List (List Int)} {k : Nat} (h : k < L.length) : L[k]? = some (ixs L k) := by simp [ixs, h]
theorem ixs_mem {L : List (List Int)} {k : Nat} (h : k < L.length) : ixs L k ∈ L := List.mem_of_getElem? (ixs_at h)
def codeOk (s : List Int) (i : Nat) : Prop := 0 ≤ ix s i ∧ ix s i ≤ i ∧ ix s (ix s i).toNat = ix s i
def goodS (s : List Int) : Prop := s.length = 4 ∧ ∀ i, i < 4 → codeOk s i
def coarse (f s : List Int) : Prop := ∀ i, i < 4 → ix s (ix f i).toNat = ix s i
def goodLad (L : List (List Int)) : Prop := L.length ≤ 3 ∧ (∀ k, k < L.length → goodS (ixs L k)) ∧ ∀ k, 0 < k → k < L.length → coarse (ixs L (k - 1)) (ixs L k)
/-- The code at a level. -/
def lcode (L : List (List Int)) (lev c : Int) : Int := if lev = 0 then c else ix (ixs L (lev - 1).toNat) c.toNat

abbrev ints (s : List Int) : List Value := s.map (Value.int .i64)
abbrev grid (L : List (List Int)) : List (List Value) := L.map (fun s => s.map (Value.int .i64))
theorem Rds.ix {w : World} {B : Nat} {A : Option Addr} {s : List Int} {k : Nat} (h : Rds w B 1 A s.length (s.map (Value.int .i64))) (hk : k < s.length) :
    ∃ b off, A = some ⟨b, off, none⟩ ∧ b < B ∧ w.cell? ⟨b, off + k, none⟩ = some (.int .i64 (ix s k)) :=
  h.at_ (by rw [List.getElem?_map, ix_at hk]; rfl)
theorem Grd.ix {w : World} {B : Nat} {A : Option Addr} {L : List (List Int)} {k : Nat} (h : Grd w B A (grid L)) (hk : k < L.length) :
    ∃ b off A' c', A = some ⟨b, off, none⟩ ∧ b < B ∧ w.cell? ⟨b, off + k, none⟩ = some (.slice A' (ixs L k).length c') ∧ (ixs L k).length ≤ c' ∧ c' ≤ 9223372036854775807 ∧ Rds w B 1 A' (ixs L k).length (ints (ixs L k)) := by
  obtain ⟨b, off, A', c', h1, h2, h3, h4, h5, h6⟩ := h.at_ (k := k) (r := ints (ixs L k)) (by rw [List.getElem?_map, ixs_at hk]; rfl)
  simp only [List.length_map] at h3 h4 h6
  exact ⟨b, off, A', c', h1, h2, h3, h4, h5, h6⟩

theorem cells_of {w : World} {B : Nat} {A : Option Addr} {s : List Int} {m : Nat} (h : Rds w B 1 A s.length (s.map (Value.int .i64))) (hm : m < s.length) :
    ∃ b off, A = some ⟨b, off, none⟩ ∧ b < B ∧ w.cell? ⟨b, off + m, none⟩ = some (.int .i64 (ix s m)) ∧ Hid (∀ q, q < s.length → w.cell? ⟨b, off + q, none⟩ = some (.int .i64 (ix s q))) := by
  obtain ⟨b, off, rfl, hb, hc⟩ := h.ix hm
  refine ⟨b, off, rfl, hb, hc, fun q hq => ?_⟩
  obtain ⟨b3, off3, e, _, h⟩ := h.ix hq
  simp only [Option.some.injEq, Addr.mk.injEq, and_true] at e
  rw [e.1, e.2]
  exact h
/-- What the reference's walk through a step has seen so far. -/
def stepOk (s : List Int) (n : Nat) : Prop := ∀ i, i < n → codeOk s i
theorem stepOk_next {s : List Int} {n : Nat} (h : Hid (stepOk s n)) (h1 : codeOk s n) : Hid (stepOk s (n + 1)) := fun i hi => by
  rcases Nat.lt_or_ge i n with hlt | hge
  · exact h i hlt
  · obtain rfl : i = n := by omega
    exact h1
def coarseTo (f s : List Int) (n : Nat) : Prop := ∀ i, i < n → ix s (ix f i).toNat = ix s i
theorem coarseTo_next {f s : List Int} {n : Nat} (h : Hid (coarseTo f s n)) (h1 : ix s (ix f n).toNat = ix s n) : Hid (coarseTo f s (n + 1)) := fun i hi => by
  rcases Nat.lt_or_ge i n with hlt | hge
  · exact h i hlt
  · obtain rfl : i = n := by omega
    exact h1

/-! ### Recodings -/
def goodR (L : List (List Int)) (r : Rc) : Prop := goodLad L ∧ (0 ≤ r.a ∧ r.a ≤ L.length) ∧ (r.j = 0 ∨ r.j = 1) ∧ (r.s = 0 ∨ r.s = 1)
def rec1 (L : List (List Int)) (r : Rc) (p : Pn) : Pn := ⟨lcode L r.a p.a, p.j * (1 - r.j), p.s * (1 - r.s), p.p⟩
theorem lcode_bd {L : List (List Int)} {lev c : Int} (h : goodLad L) (h0 : 0 ≤ lev) (h1 : lev ≤ L.length) (c0 : 0 ≤ c) (c1 : c ≤ 3) : 0 ≤ lcode L lev c ∧ lcode L lev c ≤ c := by
  unfold lcode
  split
  · omega
  · have := (h.2.1 (lev - 1).toNat (by omega)).2 c.toNat (by omega)
    unfold codeOk at this
    omega
theorem rec1_good {L : List (List Int)} {r : Rc} {p : Pn} (hr : goodR L r) (hp : p.good) : (rec1 L r p).good := by
  obtain ⟨h1, ⟨h2, h3⟩, h4, h5⟩ := hr
  obtain ⟨⟨a0, a1⟩, ⟨j0, j1⟩, ⟨s0, s1⟩, p1⟩ := hp
  have := lcode_bd h1 h2 h3 a0 a1
  unfold Pn.good rec1
  dsimp only
  refine ⟨by omega, ?_, ?_, p1⟩
  · rcases h4 with h | h <;> rw [h] <;> simp <;> omega
  · rcases h5 with h | h <;> rw [h] <;> simp <;> omega
/-- Owned persons. -/
def OPpl (w : World) (base T : Nat) (v : Value) (l : List Pn) : Prop := w.ownsRow base T 4 v l.length (l.flatMap Pn.vals)
theorem OPpl.nil (w : World) (base T : Nat) : OPpl w base T (.slice none 0 0) [] := World.ownsRow_nil w base T 4
theorem OPpl.form {w : World} {base T : Nat} {v : Value} {l : List Pn} (h : OPpl w base T v l) : ∃ A c, v = .slice A l.length c ∧ Ppl w w.heap.size A l ∧ l.length ≤ c ∧ c ≤ 9223372036854775807 := by
  rcases h.2 with ⟨rfl, h0⟩ | ⟨g, cap, cur, rfl, hb, hh, hnc, hm, hs, ht⟩
  · have : l = [] := List.eq_nil_of_length_eq_zero h0
    subst this
    exact ⟨none, 0, rfl, ⟨by simp, fun h => by simp at h⟩, by simp, by omega⟩
  · refine ⟨_, _, rfl, ⟨h.1, fun hn => ⟨g, 0, rfl, (Array.getElem?_eq_some_iff.1 hh).1, fun j u hu => ?_⟩⟩, hnc, by unfold maxLen at hm; omega⟩
    have e := World.ownsRow.cellAt h j (by have := (List.getElem?_eq_some_iff.1 hu).1; rw [h.1] at this; exact this)
    rw [Nat.zero_add, e]
    exact hu
theorem Ppl.pre {w : World} {B : Nat} {A : Option Addr} {x y : List Pn} (h : Ppl w B A (x ++ y)) : Ppl w B A x := by
  have hl : (x.flatMap Pn.vals).length = x.length * 4 := flat_len Pn.vals 4 Pn.vals_len x
  refine ⟨hl, fun hn => ?_⟩
  obtain ⟨b, off, e, hb, hc⟩ := h.2 (by simp; omega)
  refine ⟨b, off, e, hb, fun j u hu => hc j u ?_⟩
  have hj := (List.getElem?_eq_some_iff.1 hu).1
  rw [List.flatMap_append, List.getElem?_append_left hj]
  exact hu
theorem own_base {w : World} {base T size n : Nat} {v : Value} {xs : List Value} (h : w.ownsRow base T size v n xs) : ∀ k, v.ownBlock = some k → base ≤ k := by
  intro k hk
  rcases h.2 with ⟨rfl, _⟩ | ⟨g, cap, cur, rfl, hb, _⟩
  · simp [Value.ownBlock] at hk
  · simp [Value.ownBlock] at hk; omega
theorem own_weaken {w : World} {base base' T size n : Nat} {v : Value} {xs : List Value} (h : w.ownsRow base T size v n xs) (hb : base' ≤ base) : w.ownsRow base' T size v n xs := by
  refine ⟨h.1, ?_⟩
  rcases h.2 with h' | ⟨g, cap, cur, h1, h2, h3⟩
  · exact .inl h'
  · exact .inr ⟨g, cap, cur, h1, Nat.le_trans hb h2, h3⟩
theorem own_lt {w : World} {base T size n : Nat} {v : Value} {xs : List Value} (h : w.ownsRow base T size v n xs) : ∀ k, v.ownBlock = some k → k < w.heap.size := by
  intro k hk
  rcases h.2 with ⟨rfl, _⟩ | ⟨g, cap, cur, rfl, hb, hh, _⟩
  · simp [Value.ownBlock] at hk
  · simp [Value.ownBlock] at hk; subst hk; exact (Array.getElem?_eq_some_iff.1 hh).1
theorem cells4 (w : World) (p : Pn) (T : Nat) : ∀ j u, p.vals[j]? = some u → (w.alloc (.cells #[.int .i64 p.a, .int .i64 p.j, .int .i64 p.s, .int .i64 p.p] T)).cell? ((⟨w.heap.size, 0, none⟩ : Addr).add j) = some u := by
  intro j u hu
  have h := Blk.new w T #[.int .i64 p.a, .int .i64 p.j, .int .i64 p.s, .int .i64 p.p]
  have e : (⟨w.heap.size, 0, none⟩ : Addr).add j = ⟨w.heap.size, j, none⟩ := by
    unfold Addr.add
    split
    · rename_i e; subst e; rfl
    · simp
  rw [e, h.cell]
  exact hu
theorem cells4h (w : World) (p : Pn) (T n : Nat) (hn : w.heap.size = n) : ∀ j u, p.vals[j]? = some u → (w.alloc (.cells #[.int .i64 p.a, .int .i64 p.j, .int .i64 p.s, .int .i64 p.p] T)).cell? ((⟨n, 0, none⟩ : Addr).add j) = some u := by
  subst hn
  exact cells4 w p T
theorem one4 (p : Pn) : ∀ u ∈ p.vals, u.oneCell' = true := by
  intro u hu
  simp [Pn.vals] at hu
  rcases hu with rfl | rfl | rfl | rfl <;> rfl
theorem OPpl.snoc {w : World} {base T : Nat} {v : Value} {l : List Pn} {p : Pn} (h : w.ownsRow base T 4 v (l.length + 1) (l.flatMap Pn.vals ++ p.vals)) : OPpl w base T v (l ++ [p]) := by
  unfold OPpl
  rw [List.flatMap_append, List.length_append]
  simpa using h

/-! ### The arguments of the functions on people -/
/-- A list of people and a ladder, as they lie in memory. -/
def Arg (w : World) (A : Option Addr) (l : List Pn) (A2 : Option Addr) (L : List (List Int)) : Prop :=
  Ppl w w.heap.size A l ∧ l.length ≤ 2000000 ∧ Grd w w.heap.size A2 (grid L) ∧ L.length ≤ 2000000 ∧ ∀ s ∈ L, s.length ≤ 2000000
theorem Arg.below {w w' : World} {A A2 : Option Addr} {l : List Pn} {L : List (List Int)} (h : Arg w A l A2 L) (hb : Below w.heap.size w w') : Arg w' A l A2 L :=
  ⟨(h.1.below hb).more hb.size, h.2.1, (h.2.2.1.below hb).more hb.size, h.2.2.2⟩
/-- All is valid. -/
def okA (l : List Pn) (L : List (List Int)) (r : Rc) : Prop := goodL l ∧ goodR L r
def recd (L : List (List Int)) (r : Rc) (l : List Pn) : List Pn := l.map (rec1 L r)
/-- What a recoding of people hands back. -/
def RcOut (T : Nat) (l : List Pn) (L : List (List Int)) (r : Rc) (w : World) (e : Ending) (w' : World) : Prop :=
  (okA l L r ∧ ∃ v, e = .returned (.tuple #[v, .bool true]) ∧ OPpl w' w.heap.size T v (recd L r l) ∧ Below w.heap.size w w') ∨
  (¬ okA l L r ∧ ∃ v, e = .returned (.tuple #[v, .bool false]) ∧ OPpl w' w.heap.size T v [] ∧ Below w.heap.size w w')
end Go.Proofs.Ytfhidimmaeiiaaa
