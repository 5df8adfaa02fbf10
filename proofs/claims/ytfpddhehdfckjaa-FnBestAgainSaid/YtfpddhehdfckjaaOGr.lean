/- A slice of rows of numbers that a call has made by appending: its heads in a row of the call's own, its rows elsewhere. No program text is named here. -/
import Derived.Test.YtfpddhehdfckjaaPure
import Derived.Maps.AppendAt
import Derived.Maps.Range
namespace Go.Proofs.Ytfpddhehdfckjaa
open Go.RowKit

/-- Row k of a grid: a slice that holds s, in a block from base on that is not the heads' own. -/
def RowAt (w : World) (base : Nat) (v r : Value) (s : List Int) : Prop := ∃ A c, r = .slice A s.length c ∧ s.length ≤ c ∧ c ≤ maxLen ∧ (0 < s.length → ∃ b off, A = some ⟨b, off, none⟩ ∧ base ≤ b ∧ b < w.heap.size ∧ v.ownBlock ≠ some b ∧ ∀ j u, (ints s)[j]? = some u → w.cell? ⟨b, off + j, none⟩ = some u)
def OGr (w : World) (base T : Nat) (v : Value) (L : List (List Int)) : Prop := ∃ hs : List Value, w.ownsRow base T 1 v L.length hs ∧ ∀ (k : Nat) (s : List Int), L[k]? = some s → ∃ r, hs[k]? = some r ∧ RowAt w base v r s

section
variable {w w' : World} {base base' T : Nat} {v r : Value} {s : List Int} {L : List (List Int)}
theorem RowAt.keep (h : RowAt w base v r s) (hs : w.heap.size ≤ w'.heap.size) (hk : ∀ b, base ≤ b → b < w.heap.size → v.ownBlock ≠ some b → w'.heap[b]? = w.heap[b]?) : RowAt w' base v r s := by
  obtain ⟨A, c, h1, h2, h3, h4⟩ := h
  refine ⟨A, c, h1, h2, h3, fun hn => ?_⟩
  obtain ⟨b, off, e, hb, hl, hv, hc⟩ := h4 hn
  exact ⟨b, off, e, hb, by omega, hv, fun j u hu => (World.cell?_of_block (w := w) (hk b hb hl hv)).trans (hc j u hu)⟩
theorem RowAt.weaken (h : RowAt w base v r s) (hb : base' ≤ base) : RowAt w base' v r s := by
  obtain ⟨A, c, h1, h2, h3, h4⟩ := h
  refine ⟨A, c, h1, h2, h3, fun hn => ?_⟩
  obtain ⟨b, off, e, hb', h5⟩ := h4 hn
  exact ⟨b, off, e, by omega, h5⟩
theorem RowAt.step {v' : Value} (h : RowAt w base v r s) (hs : w.heap.size ≤ w'.heap.size) (hk : ∀ b, base ≤ b → b < w.heap.size → v.ownBlock ≠ some b → w'.heap[b]? = w.heap[b]? ∧ v'.ownBlock ≠ some b) : RowAt w' base v' r s := by
  obtain ⟨A, c, h1, h2, h3, h4⟩ := h
  refine ⟨A, c, h1, h2, h3, fun hn => ?_⟩
  obtain ⟨b, off, e, hb, hl, hv, hc⟩ := h4 hn
  exact ⟨b, off, e, hb, by omega, (hk b hb hl hv).2, fun j u hu => (World.cell?_of_block (w := w) (hk b hb hl hv).1).trans (hc j u hu)⟩
theorem own_hold {n size : Nat} {xs : List Value} (h : w.ownsRow base T size v n xs) (hk : ∀ b, base ≤ b → b < w.heap.size → w'.heap[b]? = w.heap[b]?) : w'.ownsRow base T size v n xs := by
  refine ⟨h.1, ?_⟩
  rcases h.2 with h' | ⟨g, cap, cur, h1, h2, h3, h4⟩
  · exact .inl h'
  · exact .inr ⟨g, cap, cur, h1, h2, (hk g h2 (Array.getElem?_eq_some_iff.1 h3).1).trans h3, h4⟩
theorem OGr.hold (h : OGr w base T v L) (hs : w.heap.size ≤ w'.heap.size) (hk : ∀ b, base ≤ b → b < w.heap.size → w'.heap[b]? = w.heap[b]?) : OGr w' base T v L := by
  obtain ⟨hd, h1, h2⟩ := h
  refine ⟨hd, own_hold h1 hk, fun k s hs' => ?_⟩
  obtain ⟨r, h3, h4⟩ := h2 k s hs'
  exact ⟨r, h3, h4.keep hs (fun b hb hl _ => hk b hb hl)⟩
theorem OGr.below (h : OGr w base T v L) (hb : Below w.heap.size w w') : OGr w' base T v L := h.hold hb.size (fun b _ hl => hb.block b hl)
theorem OGr.pick {g : Nat} (h : OGr w base T v L) (hg : w.grownBy w' (some g)) (hgb : g < base) : OGr w' base T v L := h.hold hg.size (fun b hb hl => hg.block b hl (fun e => by simp at e; omega))
theorem OGr.alloc (h : OGr w base T v L) (o : Obj) : OGr (w.alloc o) base T v L := h.below ((Below.refl _ _).alloc (Nat.le_refl _) o)
theorem OGr.weaken (h : OGr w base T v L) (hb : base' ≤ base) : OGr w base' T v L := by
  obtain ⟨hd, h1, h2⟩ := h
  refine ⟨hd, own_weaken h1 hb, fun k s hs' => ?_⟩
  obtain ⟨r, h3, h4⟩ := h2 k s hs'
  exact ⟨r, h3, h4.weaken hb⟩
theorem OGr.empty (w : World) (T : Nat) : OGr (w.alloc (.cells #[] T)) w.heap.size T (.slice (some ⟨w.heap.size, 0, none⟩) 0 0) [] :=
  ⟨[], ⟨by simp, .inr ⟨w.heap.size, 0, #[], rfl, Nat.le_refl _, heap_alloc_new w _, by simp, by unfold maxLen; omega, rfl, rfl⟩⟩, fun k s h => by simp at h⟩
theorem OGr.form (h : OGr w base T v L) : ∃ A c, v = .slice A L.length c ∧ Grd w w.heap.size A (grid L) ∧ L.length ≤ c ∧ c ≤ 9223372036854775807 := by
  obtain ⟨hd, h1, h2⟩ := h
  rcases h1.2 with ⟨rfl, h0⟩ | ⟨g, cap, cur, rfl, hb, hh, hnc, hm, hs, ht⟩
  · have : L = [] := List.eq_nil_of_length_eq_zero h0
    subst this
    exact ⟨none, 0, rfl, fun h => by simp at h, by simp, by omega⟩
  · refine ⟨_, _, rfl, fun hn => ⟨g, 0, rfl, (Array.getElem?_eq_some_iff.1 hh).1, fun k r hr => ?_⟩, hnc, by unfold maxLen at hm; omega⟩
    rw [List.getElem?_map] at hr
    obtain ⟨s, hs1, rfl⟩ := Option.map_eq_some_iff.1 hr
    obtain ⟨r, h3, A, c, rfl, h5, h6, h7⟩ := h2 k s hs1
    have hk : k < L.length := (List.getElem?_eq_some_iff.1 hs1).1
    refine ⟨A, c, ?_, by simpa using h5, h6, ⟨by simp, fun hp => ?_⟩⟩
    · rw [Nat.zero_add, World.ownsRow.cellAt h1 k (by omega)]
      simpa using h3
    · simp at hp
      obtain ⟨b, off, e, _, hl, _, hc⟩ := h7 (by simpa using hp)
      exact ⟨b, off, e, hl, hc⟩
/-- A row that is owned is a row of a grid whose heads lie elsewhere. -/
theorem RowAt.own {TI n : Nat} (h : w.ownsRow base TI 1 r n (ints s)) (hn : n = s.length) (hv : ∀ b, r.ownBlock = some b → v.ownBlock ≠ some b) : RowAt w base v r s := by
  subst hn
  rcases h.2 with ⟨rfl, h0⟩ | ⟨g, cap, cur, rfl, hb, hh, hnc, hm, hs, ht⟩
  · exact ⟨none, 0, by rw [h0], by omega, by unfold maxLen; omega, fun hn => by omega⟩
  · refine ⟨_, _, rfl, hnc, hm, fun _ => ⟨g, 0, rfl, hb, (Array.getElem?_eq_some_iff.1 hh).1, hv g rfl, fun j u hu => ?_⟩⟩
    have hj := (List.getElem?_eq_some_iff.1 hu).1
    rw [Nat.zero_add, World.ownsRow.cellAt h j (by simpa using hj)]
    exact hu
/-- Whoever appends a row to the heads hs has a grid of one row more. -/
def AppOk (w : World) (base T : Nat) (v : Value) (L : List (List Int)) (hs : List Value) : Prop :=
  ∀ (w' : World) (v' r : Value) (s : List Int) (o : Obj), RowAt w base v r s → w'.ownsRow base T 1 v' (L.length + 1) (hs ++ [r]) → (w.alloc o).grownBy w' v.ownBlock → (v'.ownBlock = v.ownBlock ∨ v'.ownBlock = some (w.heap.size + 1)) → OGr w' base T v' (L ++ [s])
theorem OGr.heads (h : OGr w base T v L) : ∃ hs : List Value, w.ownsRow base T 1 v L.length hs ∧ AppOk w base T v L hs := by
  obtain ⟨hd, h1, h2⟩ := h
  have hlen : hd.length = L.length := by have := h1.1; omega
  refine ⟨hd, h1, fun w' v' r s o hr ho hg hl => ?_⟩
  have hsz : w.heap.size ≤ w'.heap.size := by have := hg.size; simp at this; omega
  have hstep : ∀ b, base ≤ b → b < w.heap.size → v.ownBlock ≠ some b → w'.heap[b]? = w.heap[b]? ∧ v'.ownBlock ≠ some b := fun b _ hb hv =>
    ⟨(hg.block b (by simp; omega) (fun e => hv e.symm)).trans (Below.heap_alloc w o b hb), by
      rcases hl with e | e
      · rw [e]; exact hv
      · rw [e]; intro e2; simp at e2; omega⟩
  refine ⟨hd ++ [r], by rw [List.length_append]; exact ho, fun k q hq => ?_⟩
  rcases Nat.lt_or_ge k L.length with hk | hk
  · rw [List.getElem?_append_left hk] at hq
    obtain ⟨r', h3, h4⟩ := h2 k q hq
    exact ⟨r', by rw [List.getElem?_append_left (by omega)]; exact h3, h4.step hsz hstep⟩
  · rw [List.getElem?_append_right hk] at hq
    obtain ⟨hlt, e⟩ := List.getElem?_eq_some_iff.1 hq
    simp at hlt
    obtain rfl : k = L.length := by omega
    simp at e
    subst e
    exact ⟨r, by rw [List.getElem?_append_right (by omega)]; simp [hlen], hr.step hsz hstep⟩
theorem OGr.base_le (h : OGr w base T v L) : ∀ k, v.ownBlock = some k → base ≤ k := by
  obtain ⟨hd, h1, _⟩ := h
  exact own_base h1
theorem OGr.blk_lt (h : OGr w base T v L) : ∀ k, v.ownBlock = some k → k < w.heap.size := by
  obtain ⟨hd, h1, _⟩ := h
  exact own_lt h1
theorem rds_news {B : Nat} {A : Addr} {n : Nat} {xs : List Value} (h : Rds w B 1 (some A) n xs) (hk : ∀ b o, b < B → w'.cell? ⟨b, o, none⟩ = w.cell? ⟨b, o, none⟩) : ∀ j u, xs[j]? = some u → w'.cell? (A.add j) = some u := by
  intro j u hu
  obtain ⟨b, off, e, hb, hc⟩ := h.at_ hu
  simp at e
  subst e
  have : (⟨b, off, none⟩ : Addr).add j = ⟨b, off + j, none⟩ := by
    unfold Addr.add
    split
    · rename_i e; subst e; rfl
    · rfl
  rw [this, hk _ _ hb]
  exact hc
end
end Go.Proofs.Ytfpddhehdfckjaa
