/- Words for memory that the walks of this seat share: a slice that reads as a list of cells, a slice of slices, and how both outlive what later calls do. No program text is named here. -/
import Derived.Below
import Derived.Laws.OwnMore
import Derived.Lib.Hide
import Derived.Deep.Draws
import Derived.Deep.QuietTactic
import Derived.Deep.OwnRows
namespace Go.Proofs.Ytfhidimmaeiiaaa
open Go.RowKit

/-- The slice at A of n elements, each of `size` cells, holds the cells xs; all lie in blocks below B. -/
def Rds (w : World) (B size : Nat) (A : Option Addr) (n : Nat) (xs : List Value) : Prop :=
  xs.length = n * size ∧ (0 < n → ∃ b off, A = some ⟨b, off, none⟩ ∧ b < B ∧ ∀ j u, xs[j]? = some u → w.cell? ⟨b, off + j, none⟩ = some u)

section
variable {w w' : World} {B B' size n : Nat} {A : Option Addr} {xs : List Value}

theorem Rds.len (h : Rds w B size A n xs) : xs.length = n * size := h.1

theorem Rds.at_ {k : Nat} {u : Value} (h : Rds w B 1 A n xs) (hu : xs[k]? = some u) : ∃ b off, A = some ⟨b, off, none⟩ ∧ b < B ∧ w.cell? ⟨b, off + k, none⟩ = some u := by
  have hk : k < xs.length := (List.getElem?_eq_some_iff.1 hu).1
  obtain ⟨b, off, e, hb, hc⟩ := h.2 (by have := h.1; omega)
  exact ⟨b, off, e, hb, hc k u hu⟩

theorem Rds.keep (h : Rds w B size A n xs) (hk : ∀ b o, b < B → w'.cell? ⟨b, o, none⟩ = w.cell? ⟨b, o, none⟩) : Rds w' B size A n xs :=
  ⟨h.1, fun hn => by
    obtain ⟨b, off, e, hb, hc⟩ := h.2 hn
    exact ⟨b, off, e, hb, fun j u hu => (hk _ _ hb).trans (hc j u hu)⟩⟩

theorem Rds.more (h : Rds w B size A n xs) (hB : B ≤ B') : Rds w B' size A n xs :=
  ⟨h.1, fun hn => by
    obtain ⟨b, off, e, hb, hc⟩ := h.2 hn
    exact ⟨b, off, e, by omega, hc⟩⟩

theorem Rds.below (h : Rds w B size A n xs) (hb : Below B w w') : Rds w' B size A n xs := h.keep fun b o hp => hb.cell (p := ⟨b, o, none⟩) hp
end

theorem flat_at {α : Type} (f : α → List Value) (m : Nat) (hf : ∀ x, (f x).length = m) (l : List α) (k : Nat) (x : α) (h : l[k]? = some x) (j : Nat) (hj : j < m) : (l.flatMap f)[k * m + j]? = (f x)[j]? := by
  induction l generalizing k with
  | nil => simp at h
  | cons y l ih =>
    rw [List.flatMap_cons]
    cases k with
    | zero =>
      simp at h
      subst h
      rw [List.getElem?_append_left (by rw [hf]; omega)]
      simp
    | succ k =>
      rw [List.getElem?_append_right (by rw [hf, Nat.succ_mul]; omega), hf]
      have e : (k + 1) * m + j - m = k * m + j := by rw [Nat.succ_mul]; omega
      rw [e]
      exact ih k (by simpa using h)
theorem flat_len {α : Type} (f : α → List Value) (m : Nat) (hf : ∀ x, (f x).length = m) (l : List α) : (l.flatMap f).length = l.length * m := by
  induction l with
  | nil => simp
  | cons y l ih => rw [List.flatMap_cons, List.length_append, ih, hf, List.length_cons, Nat.succ_mul]; omega
theorem Rds.atm {α : Type} {f : α → List Value} {m : Nat} (hf : ∀ x, (f x).length = m) {w : World} {B : Nat} {A : Option Addr} {l : List α} {k : Nat} {x : α} (h : Rds w B m A l.length (l.flatMap f)) (hx : l[k]? = some x) :
    ∃ b off, A = some ⟨b, off, none⟩ ∧ b < B ∧ ∀ j, j < m → w.cell? ⟨b, off + (k * m + j), none⟩ = (f x)[j]? := by
  have hk : k < l.length := (List.getElem?_eq_some_iff.1 hx).1
  obtain ⟨b, off, e, hb, hc⟩ := h.2 (by omega)
  refine ⟨b, off, e, hb, fun j hj => ?_⟩
  have e1 := flat_at f m hf l k x hx j hj
  have e2 : (f x)[j]? = some ((f x)[j]'(by rw [hf]; exact hj)) := List.getElem?_eq_getElem _
  rw [e2]
  exact hc _ _ (e1.trans e2)

/-- A slice of rows: element k is a slice that holds rs[k], one cell an element. -/
def Grd (w : World) (B : Nat) (A : Option Addr) (rs : List (List Value)) : Prop :=
  0 < rs.length → ∃ b off, A = some ⟨b, off, none⟩ ∧ b < B ∧ ∀ k r, rs[k]? = some r → ∃ A' c', w.cell? ⟨b, off + k, none⟩ = some (.slice A' r.length c') ∧ r.length ≤ c' ∧ c' ≤ maxLen ∧ Rds w B 1 A' r.length r

section
variable {w w' : World} {B B' : Nat} {A : Option Addr} {rs : List (List Value)}

theorem Grd.at_ {k : Nat} {r : List Value} (h : Grd w B A rs) (hr : rs[k]? = some r) :
    ∃ b off A' c', A = some ⟨b, off, none⟩ ∧ b < B ∧ w.cell? ⟨b, off + k, none⟩ = some (.slice A' r.length c') ∧ r.length ≤ c' ∧ c' ≤ maxLen ∧ Rds w B 1 A' r.length r := by
  have hk : k < rs.length := (List.getElem?_eq_some_iff.1 hr).1
  obtain ⟨b, off, e, hb, hc⟩ := h (by omega)
  obtain ⟨A', c', h1, h2, h3, h4⟩ := hc k r hr
  exact ⟨b, off, A', c', e, hb, h1, h2, h3, h4⟩

theorem Grd.keep (h : Grd w B A rs) (hk : ∀ b o, b < B → w'.cell? ⟨b, o, none⟩ = w.cell? ⟨b, o, none⟩) : Grd w' B A rs := fun hn => by
  obtain ⟨b, off, e, hb, hc⟩ := h hn
  refine ⟨b, off, e, hb, fun k r hr => ?_⟩
  obtain ⟨A', c', h1, h2, h3, h4⟩ := hc k r hr
  exact ⟨A', c', (hk _ _ hb).trans h1, h2, h3, h4.keep hk⟩

theorem Grd.more (h : Grd w B A rs) (hB : B ≤ B') : Grd w B' A rs := fun hn => by
  obtain ⟨b, off, e, hb, hc⟩ := h hn
  refine ⟨b, off, e, by omega, fun k r hr => ?_⟩
  obtain ⟨A', c', h1, h2, h3, h4⟩ := hc k r hr
  exact ⟨A', c', h1, h2, h3, h4.more hB⟩

theorem Grd.below (h : Grd w B A rs) (hb : Below B w w') : Grd w' B A rs := h.keep fun b o hp => hb.cell (p := ⟨b, o, none⟩) hp
end

/-- Block g is just the cells xs, of element type t, none frozen. -/
def Blk (w : World) (g : Nat) (t : TypeId) (xs : List Value) : Prop := w.heap[g]? = some (.cells xs.toArray t (0, 0))

section
variable {w w' : World} {g t : Nat} {xs : List Value}
theorem Blk.lt (h : Blk w g t xs) : g < w.heap.size := (Array.getElem?_eq_some_iff.1 h).1
theorem Blk.cell (h : Blk w g t xs) (i : Nat) : w.cell? ⟨g, i, none⟩ = xs[i]? := by
  unfold Blk at h; simp [World.cell?, h]
theorem Blk.frozen (h : Blk w g t xs) (i : Nat) : w.frozen? ⟨g, i, none⟩ = false := by
  unfold Blk at h; simp [World.frozen?, h]
theorem Blk.of (h : Blk w g t xs) (e : w'.heap[g]? = w.heap[g]?) : Blk w' g t xs := e.trans h
theorem Blk.alloc (h : Blk w g t xs) (o : Obj) : Blk (w.alloc o) g t xs := h.of (Below.heap_alloc w o g h.lt)
theorem Blk.far (h : Blk w g t xs) {p : Addr} (hp : g ≠ p.block) (u : Value) : Blk (w.setCell p u) g t xs := h.of (Below.heap_setCell w p u g hp)
theorem Blk.set (h : Blk w g t xs) (i : Nat) (u : Value) : Blk (w.setCell ⟨g, i, none⟩ u) g t (xs.set i u) := by
  unfold Blk at h ⊢
  simp [World.setCell, Array.getElem?_modify, h]
theorem Blk.below {B : Nat} (h : Blk w g t xs) (hb : Below B w w') (hg : g < B) : Blk w' g t xs := h.of (hb.block g hg)
theorem Blk.new (w : World) (t : Nat) (cs : Array Value) : Blk (w.alloc (.cells cs t)) w.heap.size t cs.toList := by
  unfold Blk; exact heap_alloc_new w _
theorem Blk.made (w : World) (z : Value) (n t : Nat) : Blk (w.alloc (.cells (madeCells #[z] n) t)) w.heap.size t (List.replicate n z) := by
  have h := Blk.new w t (madeCells #[z] n)
  have e : (madeCells #[z] n).toList = List.replicate n z := by
    apply List.ext_getElem?
    intro i
    by_cases hi : i < n
    · simp [madeCells, hi, Nat.mod_one]
    · simp [madeCells, hi]
  rw [e] at h
  exact h
theorem Blk.rds {B n : Nat} (h : Blk w g t xs) (hB : g < B) (hn : xs.length = n) : Rds w B 1 (some ⟨g, 0, none⟩) n xs :=
  ⟨by omega, fun _ => ⟨g, 0, rfl, hB, fun j u hu => by rw [Nat.zero_add, h.cell, hu]⟩⟩
end

/-- A list cut in two: what has come, what is to come. (A name of its own, so that a walk does not take it for a rule.) -/
def Cut {α : Type} (l pre suf : List α) : Prop := l = pre ++ suf
section
variable {α : Type} {l pre suf : List α} {x : α}
theorem Cut.zero (l : List α) : Cut l [] l := rfl
theorem Cut.next (h : Cut l pre (x :: suf)) : Cut l (pre ++ [x]) suf := by unfold Cut at h ⊢; simp [h]
theorem Cut.at_ (h : Cut l pre (x :: suf)) : l[pre.length]? = some x := by unfold Cut at h; simp [h]
theorem Cut.done (h : Cut l pre []) : pre = l := by unfold Cut at h; simp [h]
theorem Cut.len (h : Cut l pre suf) : l.length = pre.length + suf.length := by unfold Cut at h; simp [h]
theorem Cut.len1 (h : Cut l pre (x :: suf)) : pre.length < l.length := by unfold Cut at h; simp [h]
theorem Cut.len0 (h : Cut l pre []) : ¬ pre.length < l.length := by unfold Cut at h; simp [h]
theorem Cut.le (h : Cut l pre suf) : pre.length ≤ l.length := by unfold Cut at h; simp [h]
theorem Cut.map_at {β : Type} (f : α → β) (h : Cut l pre (x :: suf)) : (l.map f)[pre.length]? = some (f x) := by unfold Cut at h; simp [h]
theorem Cut.mem (h : Cut l pre (x :: suf)) : x ∈ l := by unfold Cut at h; simp [h]
theorem Cut.out (h : Cut l pre suf) : l = pre ++ suf := h
end

/-- What is left of an allowance, or -1; how much a list of rows takes up. -/
def szR (left : Int) (n : Nat) : Int := if (n : Int) ≤ left then left - n else -1
theorem szR_yes {left : Int} {n : Nat} (h : (n : Int) ≤ left) : szR left n = left - n := if_pos h
theorem szR_no {left : Int} {n : Nat} (h : left < (n : Int)) : szR left n = -1 := if_neg (by omega)
def lens {α : Type} (rs : List (List α)) : Nat := (rs.map List.length).sum
def tot {α : Type} (rs : List (List α)) : Nat := rs.length + lens rs
theorem lens_snoc {α : Type} (rs : List (List α)) (r : List α) : lens (rs ++ [r]) = lens rs + r.length := by simp [lens]
theorem lens_cut {α : Type} {rs pre suf : List (List α)} {r : List α} (h : Cut rs pre (r :: suf)) : lens pre + r.length ≤ lens rs := by rw [h.out]; simp [lens]
theorem tot_no {α : Type} {rs pre suf : List (List α)} {r : List α} {left x : Int} (h : Cut rs pre (r :: suf)) (hx : x = left - (rs.length + lens pre : Nat)) (hn : x < (r.length : Int)) : szR left (tot rs) = -1 := by
  refine szR_no ?_
  have := lens_cut h
  unfold tot
  omega
theorem tot_no0 {α : Type} {rs : List (List α)} {left : Int} (hn : left < (rs.length : Int)) : szR left (tot rs) = -1 := by
  refine szR_no ?_
  unfold tot
  omega

/-- A row that is being filled: what has been stored, then zeros. -/
def filled (f : List Value) (n : Nat) (z : Value) : List Value := f ++ List.replicate (n - f.length) z
theorem filled_zero (n : Nat) (z : Value) : filled [] n z = List.replicate n z := by simp [filled]
theorem filled_next (f : List Value) (n : Nat) (z u : Value) (h : f.length < n) : (filled f n z).set f.length u = filled (f ++ [u]) n z := by
  unfold filled
  obtain ⟨m, hm⟩ : ∃ m, n - f.length = m + 1 := ⟨n - f.length - 1, by omega⟩
  have e : n - (f ++ [u]).length = m := by simp; omega
  rw [hm, e, List.replicate_succ]
  simp
theorem filled_at (f : List Value) (n : Nat) (z : Value) (h : f.length < n) : (filled f n z)[f.length]? = some z := by
  unfold filled
  rw [List.getElem?_append_right (Nat.le_refl _), Nat.sub_self, List.getElem?_replicate, if_pos (by omega)]
theorem filled_full (f : List Value) (n : Nat) (z : Value) (h : f.length = n) : filled f n z = f := by
  unfold filled
  rw [h, Nat.sub_self]
  simp

/-- Rows in blocks N + 1, N + 2, ..; and the slice values that lead to them. -/
def RowsB (w : World) (N t : Nat) (rs : List (List Value)) : Prop := ∀ i r, rs[i]? = some r → Blk w (N + 1 + i) t r
def heads (N : Nat) (rs : List (List Value)) : List Value := rs.mapIdx fun i r => .slice (some ⟨N + 1 + i, 0, none⟩) r.length r.length
theorem heads_nil (N : Nat) : heads N [] = [] := rfl
theorem heads_len (N : Nat) (rs : List (List Value)) : (heads N rs).length = rs.length := by simp [heads]
theorem heads_snoc (N : Nat) (rs : List (List Value)) (r : List Value) : heads N (rs ++ [r]) = heads N rs ++ [.slice (some ⟨N + 1 + rs.length, 0, none⟩) r.length r.length] := by
  simp [heads, List.mapIdx_append]
theorem heads_at (N : Nat) (rs : List (List Value)) (k : Nat) (r : List Value) (h : rs[k]? = some r) : (heads N rs)[k]? = some (.slice (some ⟨N + 1 + k, 0, none⟩) r.length r.length) := by
  simp [heads, h]
theorem RowsB.nil (w : World) (N t : Nat) : RowsB w N t [] := fun i r h => by simp at h
theorem RowsB.keep {w w' : World} {N t : Nat} {rs : List (List Value)} (h : RowsB w N t rs) (hk : ∀ b, N < b → b < N + 1 + rs.length → w'.heap[b]? = w.heap[b]?) : RowsB w' N t rs :=
  fun i r hr => (h i r hr).of (hk _ (by omega) (by have := (List.getElem?_eq_some_iff.1 hr).1; omega))
theorem RowsB.snoc {w : World} {N t : Nat} {rs : List (List Value)} {r : List Value} (h : RowsB w N t rs) (hr : Blk w (N + 1 + rs.length) t r) : RowsB w N t (rs ++ [r]) := by
  intro i q hq
  rcases Nat.lt_or_ge i rs.length with hi | hi
  · rw [List.getElem?_append_left hi] at hq
    exact h i q hq
  · rw [List.getElem?_append_right hi] at hq
    obtain ⟨hl, e⟩ := List.getElem?_eq_some_iff.1 hq
    simp at hl
    obtain rfl : i = rs.length := by omega
    simp at e
    subst e
    exact hr
/-- A grid of the call's own: its heads in block N, its rows in the blocks behind it. -/
def OGrd (w : World) (N tr te : Nat) (rs : List (List Value)) : Prop := Blk w N tr (heads N rs) ∧ RowsB w N te rs
theorem OGrd.grd {w : World} {N tr te B : Nat} {rs : List (List Value)} (h : OGrd w N tr te rs) (hB : N + 1 + rs.length ≤ B) (hm : ∀ r ∈ rs, r.length ≤ maxLen) : Grd w B (some ⟨N, 0, none⟩) rs := by
  intro _
  refine ⟨N, 0, rfl, by omega, fun k r hr => ⟨some ⟨N + 1 + k, 0, none⟩, r.length, ?_, Nat.le_refl _, hm r (List.mem_of_getElem? hr), (h.2 k r hr).rds ?_ rfl⟩⟩
  · rw [Nat.zero_add, h.1.cell, heads_at N rs k r hr]
  · have := (List.getElem?_eq_some_iff.1 hr).1; omega
theorem OGrd.below {w w' : World} {N tr te B : Nat} {rs : List (List Value)} (h : OGrd w N tr te rs) (hb : Below B w w') (hB : N + 1 + rs.length ≤ B) : OGrd w' N tr te rs :=
  ⟨h.1.below hb (by omega), h.2.keep fun b _ hb2 => hb.block b (by omega)⟩

theorem bdrewN {B : Nat} {a w : World} (h : Below B a w) (n : Nat) : Below B a (w.drewN n) := h.trans ⟨rfl, rfl, rfl, Nat.le_refl _, fun _ _ => rfl⟩
/-- Two calls, one behind the other. -/
theorem Bel2 {a b c : World} (h : Below a.heap.size a b) (k : Below b.heap.size b c) : Below a.heap.size a c := h.trans (k.mono h.size)

/-- A callee that only draws, called where draws have been made before. -/
theorem quiet_add {P : Program} {f : FuncId} {args : Array Value} {w : World} {a n : Nat} {v : Value}
    (h : Calls P f args (w.drewN (a + n)) fun e w' => e = .returned v ∧ ∃ m, w' = (w.drewN (a + n)).drewN m) :
    Calls P f args (w.drewN (a + n)) fun e w'' => e = .returned v ∧ ∃ m, w'' = w.drewN (a + m) :=
  h.mono fun _ _ ⟨he, m, hm⟩ => ⟨he, n + m, by rw [hm, World.drewN_drewN, Nat.add_assoc]⟩

theorem len_le {α : Type} (rs : List (List α)) (n : Nat) (h : tot rs ≤ n) : ∀ r ∈ rs, r.length ≤ n := by
  intro r hr
  have : r.length ≤ (rs.map List.length).sum := by
    clear h
    induction rs with
    | nil => cases hr
    | cons q rs ih =>
      rcases List.mem_cons.1 hr with rfl | h1
      · simp
      · have := ih h1
        simp; omega
  unfold tot lens at h
  omega
theorem OGrd.lt {w : World} {N tr te : Nat} {rs : List (List Value)} (h : OGrd w N tr te rs) : N + 1 + rs.length ≤ w.heap.size := by
  have h0 := h.1.lt
  rcases Nat.eq_zero_or_pos rs.length with e | e
  · omega
  · have := (h.2 (rs.length - 1) rs[rs.length - 1] (List.getElem?_eq_getElem (by omega))).lt
    omega
theorem Grd.of_tot {w w1 : World} {N tr te : Nat} {α : Type} {rs : List (List α)} {f : α → Value} (h : OGrd w1 N tr te (rs.map (·.map f))) (hb : Below w1.heap.size w1 w) (ht : tot rs ≤ 1048576) : Grd w w.heap.size (some ⟨N, 0, none⟩) (rs.map (·.map f)) :=
  (h.below hb h.lt).grd (Nat.le_trans h.lt hb.size) (fun r hr => by
    obtain ⟨q, hq, rfl⟩ := List.mem_map.1 hr
    have := len_le rs _ ht q hq
    simp [maxLen]
    omega)

/-- A bool is returned that says whether p holds. -/
def RB (p : Prop) (e : Ending) : Prop := ∃ b : Bool, e = .returned (.bool b) ∧ (b = true ↔ p)
theorem RB.yes {p : Prop} (h : p) : RB p (.returned (.bool true)) := ⟨true, rfl, by simp [h]⟩
theorem RB.split {p : Prop} {e : Ending} (h : RB p e) : (e = .returned (.bool true) ∧ Hid p) ∨ (e = .returned (.bool false) ∧ Hid (¬ p)) := by
  obtain ⟨b, rfl, hb⟩ := h
  cases b
  · exact .inr ⟨rfl, fun hp => by simp [hp] at hb⟩
  · exact .inl ⟨rfl, hb.1 rfl⟩
theorem RB.isTrue {p : Prop} {e : Ending} (h : RB p e) (hp : p) : e = .returned (.bool true) := by
  rcases h.split with ⟨h1, _⟩ | ⟨_, h2⟩
  · exact h1
  · exact absurd hp h2
theorem RB.isFalse {p : Prop} {e : Ending} (h : RB p e) (hp : ¬ p) : e = .returned (.bool false) := by
  rcases h.split with ⟨_, h2⟩ | ⟨h1, _⟩
  · exact absurd h2 hp
  · exact h1
theorem RB.no {p : Prop} (h : ¬ p) : RB p (.returned (.bool false)) := ⟨false, rfl, by simp [h]⟩

theorem quiet_add_same {P : Program} {f : FuncId} {args : Array Value} {w : World} {a n : Nat} {v : Value}
    (h : Calls P f args (w.drewN (a + n)) fun e w' => e = .returned v ∧ w' = w.drewN (a + n)) :
    Calls P f args (w.drewN (a + n)) fun e w'' => e = .returned v ∧ ∃ m, w'' = w.drewN (a + m) :=
  h.mono fun _ _ ⟨he, hm⟩ => ⟨he, n, hm⟩

theorem ret_int {k : IntKind} {a b : Int} (h : a = b) : Ending.returned (.int k a) = .returned (.int k b) := by rw [h]

end Go.Proofs.Ytfhidimmaeiiaaa
