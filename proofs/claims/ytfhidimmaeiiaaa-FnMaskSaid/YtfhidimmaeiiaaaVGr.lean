/- A slice of rows that a call has made by appending: its heads in a row of the call's own, its rows in rows of the call's own, no two in one block. No program text is named here. -/
import Derived.Test.YtfhidimmaeiiaaaPure
import Derived.Maps.AppendAt
import Derived.Maps.Range
namespace Go.Proofs.Ytfhidimmaeiiaaa
open Go.RowKit

/-- A row of n elements f x, owned, in a block that is not v's. -/
def RowV {α : Type} (f : α → Value) (w : World) (base TI : Nat) (v r : Value) (n : Nat) : Prop := ∃ s : List α, s.length = n ∧ w.ownsRow base TI 1 r n (s.map f) ∧ ∀ b, r.ownBlock = some b → v.ownBlock ≠ some b
/-- No two rows in one block. -/
def Apart (hs : List Value) : Prop := ∀ (i j : Nat) (r s : Value) (b : Nat), hs[i]? = some r → hs[j]? = some s → r.ownBlock = some b → s.ownBlock = some b → i = j
def VG {α : Type} (f : α → Value) (w : World) (base TI TH : Nat) (v : Value) (ns : List Nat) : Prop :=
  ∃ hs : List Value, w.ownsRow base TH 1 v ns.length hs ∧ (∀ (k n : Nat), ns[k]? = some n → ∃ r, hs[k]? = some r ∧ RowV f w base TI v r n) ∧ Apart hs

section
variable {α : Type} {f : α → Value} {w w' : World} {base base' TI TH : Nat} {v r : Value} {n : Nat} {ns : List Nat}
theorem own_holdB {T size : Nat} {xs : List Value} (h : w.ownsRow base T size v n xs) (hk : ∀ b, v.ownBlock = some b → b < w.heap.size → w'.heap[b]? = w.heap[b]?) : w'.ownsRow base T size v n xs := by
  refine ⟨h.1, ?_⟩
  rcases h.2 with h' | ⟨g, cap, cur, h1, h2, h3, h4⟩
  · exact .inl h'
  · subst h1
    exact .inr ⟨g, cap, cur, rfl, h2, (hk g rfl (Array.getElem?_eq_some_iff.1 h3).1).trans h3, h4⟩
theorem RowV.hold (h : RowV f w base TI v r n) (hk : ∀ b, base ≤ b → b < w.heap.size → w'.heap[b]? = w.heap[b]?) : RowV f w' base TI v r n := by
  obtain ⟨s, h1, h2, h3⟩ := h
  exact ⟨s, h1, own_holdB h2 (fun b hb hl => hk b (own_base h2 b hb) hl), h3⟩
theorem VG.hold (h : VG f w base TI TH v ns) (hk : ∀ b, base ≤ b → b < w.heap.size → w'.heap[b]? = w.heap[b]?) : VG f w' base TI TH v ns := by
  obtain ⟨hs, h1, h2, h3⟩ := h
  refine ⟨hs, own_holdB h1 (fun b hb hl => hk b (own_base h1 b hb) hl), fun k n hn => ?_, h3⟩
  obtain ⟨r, h4, h5⟩ := h2 k n hn
  exact ⟨r, h4, h5.hold hk⟩
theorem VG.below (h : VG f w base TI TH v ns) (hb : Below w.heap.size w w') : VG f w' base TI TH v ns := h.hold (fun b _ hl => hb.block b hl)
theorem VG.drew (h : VG f w base TI TH v ns) : VG f w.drew base TI TH v ns := h.hold (fun _ _ _ => rfl)
theorem VG.pick {g : Nat} (h : VG f w base TI TH v ns) (hg : w.grownBy w' (some g)) (hgb : g < base) : VG f w' base TI TH v ns := h.hold (fun b hb hl => hg.block b hl (fun e => by simp at e; omega))
theorem VG.alloc (h : VG f w base TI TH v ns) (o : Obj) : VG f (w.alloc o) base TI TH v ns := h.below ((Below.refl _ _).alloc (Nat.le_refl _) o)
theorem VG.weaken (h : VG f w base TI TH v ns) (hb : base' ≤ base) : VG f w base' TI TH v ns := by
  obtain ⟨hs, h1, h2, h3⟩ := h
  refine ⟨hs, own_weaken h1 hb, fun k n hn => ?_, h3⟩
  obtain ⟨r, h4, s, h5, h6, h7⟩ := h2 k n hn
  exact ⟨r, h4, s, h5, own_weaken h6 hb, h7⟩
theorem VG.empty (f : α → Value) (w : World) (TI TH : Nat) : VG f (w.alloc (.cells #[] TH)) w.heap.size TI TH (.slice (some ⟨w.heap.size, 0, none⟩) 0 0) [] :=
  ⟨[], ⟨by simp, .inr ⟨w.heap.size, 0, #[], rfl, Nat.le_refl _, heap_alloc_new w _, by simp, by unfold maxLen; omega, rfl, rfl⟩⟩, fun k s h => by simp at h, fun i j r s b h => by simp at h⟩
theorem VG.base_le (h : VG f w base TI TH v ns) : ∀ k, v.ownBlock = some k → base ≤ k := by
  obtain ⟨hd, h1, _⟩ := h
  exact own_base h1
theorem VG.blk_lt (h : VG f w base TI TH v ns) : ∀ k, v.ownBlock = some k → k < w.heap.size := by
  obtain ⟨hd, h1, _⟩ := h
  exact own_lt h1
/-- What a grid reads as. -/
theorem own_rds {TI : Nat} {s : List α} (h : w.ownsRow base TI 1 r n (s.map f)) (hn : s.length = n) : ∃ A c, r = .slice A n c ∧ n ≤ c ∧ c ≤ maxLen ∧ Rds w w.heap.size 1 A n (s.map f) := by
  subst hn
  rcases h.2 with ⟨rfl, h0⟩ | ⟨g, cap, cur, rfl, hb, hh, hnc, hm, hs, ht⟩
  · exact ⟨none, 0, by rw [h0], by omega, by unfold maxLen; omega, ⟨by simp, fun hp => by omega⟩⟩
  · refine ⟨_, _, rfl, hnc, hm, ⟨by simp, fun _ => ⟨g, 0, rfl, (Array.getElem?_eq_some_iff.1 hh).1, fun j u hu => ?_⟩⟩⟩
    have hj := (List.getElem?_eq_some_iff.1 hu).1
    rw [Nat.zero_add, World.ownsRow.cellAt h j (by simpa using hj)]
    exact hu
theorem choose_rows {hs : List Value} : ∀ {ns : List Nat}, (∀ (k n : Nat), ns[k]? = some n → ∃ r, hs[k]? = some r ∧ RowV f w base TI v r n) → ∃ L : List (List α), L.map List.length = ns ∧ ∀ (k : Nat) (s : List α), L[k]? = some s → ∃ r, hs[k]? = some r ∧ w.ownsRow base TI 1 r s.length (s.map f) := by
  intro ns
  induction ns generalizing hs with
  | nil => intro _; exact ⟨[], rfl, fun k s h => by simp at h⟩
  | cons n ns ih =>
    intro h
    obtain ⟨r, hr, s, hs1, hs2, _⟩ := h 0 n rfl
    obtain ⟨L, hL, hL2⟩ := ih (hs := hs.drop 1) (fun k m hm => by
      obtain ⟨r, h1, h2⟩ := h (k + 1) m (by simpa using hm)
      exact ⟨r, by rw [List.getElem?_drop, Nat.add_comm]; exact h1, h2⟩)
    refine ⟨s :: L, by simp [hs1, hL], fun k q hq => ?_⟩
    cases k with
    | zero =>
      simp at hq
      subst hq
      exact ⟨r, hr, by rw [hs1]; exact hs2⟩
    | succ k =>
      obtain ⟨r, h1, h2⟩ := hL2 k q (by simpa using hq)
      exact ⟨r, by rw [List.getElem?_drop, Nat.add_comm] at h1; exact h1, h2⟩
theorem VG.form (h : VG f w base TI TH v ns) : ∃ (A : Option Addr) (c : Nat) (L : List (List α)), v = .slice A L.length c ∧ Grd w w.heap.size A (L.map (·.map f)) ∧ L.map List.length = ns ∧ L.length ≤ c ∧ c ≤ 9223372036854775807 := by
  obtain ⟨hd, h1, h2, _⟩ := h
  obtain ⟨L, hL, hL2⟩ := choose_rows h2
  have hlen : L.length = ns.length := by rw [← hL, List.length_map]
  rw [← hlen] at h1
  rcases h1.2 with ⟨rfl, h0⟩ | ⟨g, cap, cur, rfl, hb, hh, hnc, hm, hs, ht⟩
  · have : L = [] := List.eq_nil_of_length_eq_zero h0
    subst this
    exact ⟨none, 0, [], rfl, fun h => by simp at h, hL, by simp, by omega⟩
  · refine ⟨_, _, L, rfl, fun hn => ⟨g, 0, rfl, (Array.getElem?_eq_some_iff.1 hh).1, fun k r hr => ?_⟩, hL, hnc, by unfold maxLen at hm; omega⟩
    rw [List.getElem?_map] at hr
    obtain ⟨s, hs1, rfl⟩ := Option.map_eq_some_iff.1 hr
    obtain ⟨r, h3, h4⟩ := hL2 k s hs1
    have hk : k < L.length := (List.getElem?_eq_some_iff.1 hs1).1
    obtain ⟨A, c, rfl, h5, h6, h7⟩ := own_rds h4 rfl
    refine ⟨A, c, ?_, by simpa using h5, h6, by simpa using h7⟩
    rw [Nat.zero_add, World.ownsRow.cellAt h1 k (by omega)]
    simpa using h3
/-- The heads' cell k; and the row there. -/
theorem VG.cell {g c k : Nat} (h : VG f w base TI TH (.slice (some ⟨g, 0, none⟩) ns.length c) ns) (hk : ns[k]? = some n) :
    ∃ r, w.cell? ⟨g, k, none⟩ = some r ∧ RowV f w base TI (.slice (some ⟨g, 0, none⟩) ns.length c) r n := by
  obtain ⟨hd, h1, h2, _⟩ := h
  obtain ⟨r, h3, h4⟩ := h2 k n hk
  exact ⟨r, by rw [World.ownsRow.cellAt h1 k (by have := (List.getElem?_eq_some_iff.1 hk).1; omega)]; exact h3, h4⟩
theorem VG.head (h : VG f w base TI TH v ns) (hn : 0 < ns.length) : ∃ g c, v = .slice (some ⟨g, 0, none⟩) ns.length c ∧ base ≤ g ∧ g < w.heap.size ∧ ns.length ≤ c ∧ c ≤ maxLen ∧ ∀ o, w.frozen? ⟨g, o, none⟩ = false := by
  obtain ⟨hd, h1, h2, _⟩ := h
  rcases h1.2 with ⟨rfl, h0⟩ | ⟨g, cap, cur, rfl, hb, hh, hnc, hm, hs, ht⟩
  · omega
  · exact ⟨g, cap, rfl, hb, (Array.getElem?_eq_some_iff.1 hh).1, hnc, hm, fun o => World.ownsRow.frozenAt h1 o⟩
theorem RowV.at_ (h : RowV f w base TI v r n) (hn : 0 < n) : ∃ b c, r = .slice (some ⟨b, 0, none⟩) n c ∧ base ≤ b ∧ b < w.heap.size ∧ n ≤ c ∧ c ≤ maxLen ∧ v.ownBlock ≠ some b ∧ ∀ j, j < n → (∃ x, w.cell? ⟨b, j, none⟩ = some (f x)) ∧ w.frozen? ⟨b, j, none⟩ = false := by
  obtain ⟨s, h1, h2, h3⟩ := h
  rcases h2.2 with ⟨rfl, h0⟩ | ⟨g, cap, cur, rfl, hb, hh, hnc, hm, hs, ht⟩
  · omega
  · refine ⟨g, cap, rfl, hb, (Array.getElem?_eq_some_iff.1 hh).1, hnc, hm, h3 g rfl, fun j hj => ⟨⟨s[j]'(by omega), ?_⟩, World.ownsRow.frozenAt h2 j⟩⟩
    rw [World.ownsRow.cellAt h2 j (by omega), List.getElem?_map, List.getElem?_eq_getElem (by omega)]
    rfl
theorem VG.shape (h : VG f w base TI TH v ns) : ∃ A c, v = .slice A ns.length c ∧ ns.length ≤ c ∧ c ≤ 9223372036854775807 ∧ (0 < ns.length → ∃ g, A = some ⟨g, 0, none⟩ ∧ base ≤ g ∧ g < w.heap.size) := by
  obtain ⟨hd, h1, h2, _⟩ := h
  rcases h1.2 with ⟨rfl, h0⟩ | ⟨g, cap, cur, rfl, hb, hh, hnc, hm, hs, ht⟩
  · exact ⟨none, 0, by rw [h0], by omega, by omega, fun h => by omega⟩
  · exact ⟨_, _, rfl, hnc, by unfold maxLen at hm; omega, fun _ => ⟨g, rfl, hb, (Array.getElem?_eq_some_iff.1 hh).1⟩⟩
theorem VG.len {g c k : Nat} (h : VG f w base TI TH (.slice (some ⟨g, 0, none⟩) ns.length c) ns) (hk : ns[k]? = some n) :
    ∃ A c', w.cell? ⟨g, k, none⟩ = some (.slice A n c') ∧ n ≤ c' ∧ c' ≤ 9223372036854775807 := by
  obtain ⟨r, h1, s, h2, h3, h4⟩ := h.cell hk
  obtain ⟨A, c', rfl, h5, h6, _⟩ := own_rds h3 h2
  exact ⟨A, c', h1, h5, h6⟩
/-- Cell j of row k is stored anew. -/
theorem VG.store {g c k j b c' : Nat} {x : α} (h : VG f w base TI TH (.slice (some ⟨g, 0, none⟩) ns.length c) ns) (hk : ns[k]? = some n) (hc : w.cell? ⟨g, k, none⟩ = some (.slice (some ⟨b, 0, none⟩) n c')) (_hj : j < n) :
    VG f (w.setCell ⟨b, j, none⟩ (f x)) base TI TH (.slice (some ⟨g, 0, none⟩) ns.length c) ns := by
  obtain ⟨hd, h1, h2, h3⟩ := h
  have hkl := (List.getElem?_eq_some_iff.1 hk).1
  obtain ⟨r, h4, h5⟩ := h2 k n hk
  have e : hd[k]? = some (.slice (some ⟨b, 0, none⟩) n c') := by rw [← World.ownsRow.cellAt h1 k (by omega)]; exact hc
  have er : r = .slice (some ⟨b, 0, none⟩) n c' := by rw [e] at h4; exact (Option.some.inj h4).symm
  subst er
  have hgr : w.grownBy (w.setCell ⟨b, j, none⟩ (f x)) (some b) := ⟨rfl, rfl, rfl, by simp, fun k _ hk => Below.heap_setCell w _ _ k (fun e => hk (by rw [e]))⟩
  obtain ⟨s5, hs5, ho5, hv5⟩ := h5
  refine ⟨hd, World.ownsRow.kept h1 hgr (.inr (hv5 b rfl)), fun k2 n2 hn2 => ?_, h3⟩
  obtain ⟨r2, h6, s6, hs6, ho6, hv6⟩ := h2 k2 n2 hn2
  by_cases hkk : k2 = k
  · subst hkk
    rw [h6] at h4
    cases h4
    rw [hn2] at hk
    cases hk
    obtain ⟨hst, _⟩ := World.ownsRow.stored ho6 j (f x)
    exact ⟨_, h6, s6.set j x, by simp [hs6], by rw [List.map_set]; exact hst, hv6⟩
  · refine ⟨r2, h6, s6, hs6, World.ownsRow.kept ho6 hgr (.inr (fun e2 => hkk (h3 k2 k _ _ b h6 e e2 rfl))), hv6⟩
/-- Whoever appends to the heads hs a row that is newer than all has a grid of one row more. -/
def VApp {α : Type} (f : α → Value) (m : Nat) (w : World) (base TI TH : Nat) (v : Value) (ns : List Nat) (hs : List Value) : Prop :=
  ∀ (w' : World) (v' r : Value) (n : Nat) (s : List α) (o : Obj), s.length = n → w.ownsRow m TI 1 r n (s.map f) → w'.ownsRow base TH 1 v' (ns.length + 1) (hs ++ [r]) → (w.alloc o).grownBy w' v.ownBlock → (v'.ownBlock = v.ownBlock ∨ v'.ownBlock = some (w.heap.size + 1)) → VG f w' base TI TH v' (ns ++ [n])
theorem VG.heads {m : Nat} {w0 : World} (h0 : VG f w0 base TI TH v ns) (hk : ∀ b, base ≤ b → b < w0.heap.size → w.heap[b]? = w0.heap[b]?) (hm : w0.heap.size ≤ m) (hs0 : w0.heap.size ≤ w.heap.size) (hbm : base ≤ m) : ∃ hs : List Value, w.ownsRow base TH 1 v ns.length hs ∧ VApp f m w base TI TH v ns hs := by
  obtain ⟨hd, h1, h2, h3⟩ := h0
  have hlen : hd.length = ns.length := by have := h1.1; omega
  have h1w : w.ownsRow base TH 1 v ns.length hd := own_holdB h1 (fun b hb hl => hk b (own_base h1 b hb) hl)
  refine ⟨hd, h1w, fun w' v' r n s o hsn hr ho hg hl => ?_⟩
  have hsz : w.heap.size ≤ w'.heap.size := by have := hg.size; simp at this; omega
  have hvlt : ∀ b, v.ownBlock = some b → b < w0.heap.size := own_lt h1
  have hstep : ∀ b, b < w.heap.size → v.ownBlock ≠ some b → w'.heap[b]? = w.heap[b]? ∧ v'.ownBlock ≠ some b := fun b hb hv =>
    ⟨(hg.block b (by simp; omega) (fun e => hv e.symm)).trans (Below.heap_alloc w o b hb), by
      rcases hl with e | e
      · rw [e]; exact hv
      · rw [e]; intro e2; simp at e2; omega⟩
  have hlt : ∀ (k : Nat) (q : Value) (b : Nat), k < hd.length → hd[k]? = some q → q.ownBlock = some b → b < w0.heap.size := fun k q b hk2 hq hb => by
    obtain ⟨r', h4, s', _, h6, _⟩ := h2 k (ns[k]'(by omega)) (List.getElem?_eq_getElem (by omega))
    rw [hq] at h4
    cases h4
    exact own_lt h6 b hb
  refine ⟨hd ++ [r], by rw [List.length_append]; exact ho, fun k q hq => ?_, fun i j a c b hi hj ha hc => ?_⟩
  · rcases Nat.lt_or_ge k ns.length with hkl | hkl
    · rw [List.getElem?_append_left hkl] at hq
      obtain ⟨r', h4, s', h5, h6, h7⟩ := h2 k q hq
      have h8 : ∀ b, r'.ownBlock = some b → b < w0.heap.size := own_lt h6
      have h6w : w.ownsRow base TI 1 r' q (s'.map f) := own_holdB h6 (fun b hb hl => hk b (own_base h6 b hb) hl)
      refine ⟨r', by rw [List.getElem?_append_left (by omega)]; exact h4, s', h5, own_holdB h6w (fun b hb hl => (hstep b hl (h7 b hb)).1), fun b hb => (hstep b (by have := h8 b hb; omega) (h7 b hb)).2⟩
    · rw [List.getElem?_append_right hkl] at hq
      obtain ⟨hlt, e⟩ := List.getElem?_eq_some_iff.1 hq
      simp at hlt
      obtain rfl : k = ns.length := by omega
      simp at e
      subst e
      have hrv : ∀ b, r.ownBlock = some b → v.ownBlock ≠ some b := fun b hb e => by
        have h8 := own_base hr b hb
        have h9 := hvlt b e
        omega
      refine ⟨r, by rw [List.getElem?_append_right (by omega)]; simp [hlen], s, hsn, own_weaken (own_holdB hr (fun b hb hl => (hstep b hl (hrv b hb)).1)) hbm, fun b hb => (hstep b (own_lt hr b hb) (hrv b hb)).2⟩
  · have hnew : ∀ (k : Nat) (q : Value), (hd ++ [r])[k]? = some q → (k < hd.length ∧ hd[k]? = some q) ∨ (k = hd.length ∧ q = r) := fun k q hq => by
      rcases Nat.lt_or_ge k hd.length with h | h
      · exact .inl ⟨h, by rw [List.getElem?_append_left h] at hq; exact hq⟩
      · rw [List.getElem?_append_right h] at hq
        obtain ⟨hlt2, e⟩ := List.getElem?_eq_some_iff.1 hq
        simp at hlt2
        simp at e
        exact .inr ⟨by omega, e.symm⟩
    rcases hnew i a hi with ⟨h5, h6⟩ | ⟨h5, h6⟩
    · rcases hnew j c hj with ⟨h7, h8⟩ | ⟨h7, h8⟩
      · exact h3 i j a c b h6 h8 ha hc
      · subst h8
        have := hlt i a b h5 h6 ha
        have := own_base hr b hc
        omega
    · subst h6
      rcases hnew j c hj with ⟨h7, h8⟩ | ⟨h7, h8⟩
      · have := hlt j c b h7 h8 hc
        have := own_base hr b ha
        omega
      · omega
/-- Row k gives way to another, r', which is in its block or in a new one. -/
theorem VG.swap {g c k m : Nat} {r r' : Value} {s' : List α} (h : VG f w base TI TH (.slice (some ⟨g, 0, none⟩) ns.length c) ns) (hk : ns[k]? = some n) (hc : w.cell? ⟨g, k, none⟩ = some r) (hg : w.grownBy w' r.ownBlock) (hs' : s'.length = m) (ho : w'.ownsRow base TI 1 r' m (s'.map f)) (hl : r'.ownBlock = r.ownBlock ∨ ∃ b, r'.ownBlock = some b ∧ w.heap.size ≤ b) :
    VG f (w'.setCell ⟨g, k, none⟩ r') base TI TH (.slice (some ⟨g, 0, none⟩) ns.length c) (ns.set k m) := by
  obtain ⟨hd, h1, h2, h3⟩ := h
  have hlen : hd.length = ns.length := by have := h1.1; omega
  have hkl := (List.getElem?_eq_some_iff.1 hk).1
  have hgl : g < w.heap.size := own_lt h1 g rfl
  obtain ⟨r0, h4, h5⟩ := h2 k n hk
  have e : hd[k]? = some r := by rw [← World.ownsRow.cellAt h1 k (by omega)]; exact hc
  have er : r0 = r := by rw [e] at h4; exact (Option.some.inj h4).symm
  subst er
  obtain ⟨s5, hs5, ho5, hv5⟩ := h5
  have hrv : ∀ b, r0.ownBlock = some b → b ≠ g := fun b hb e => hv5 b hb (by rw [e]; rfl)
  have h1w : w'.ownsRow base TH 1 (.slice (some ⟨g, 0, none⟩) ns.length c) ns.length hd := own_holdB h1 (fun b hb hl => by
    cases hb
    exact hg.block g hl (fun e => (hrv g e.symm) rfl))
  obtain ⟨hst, hgr⟩ := World.ownsRow.stored h1w k r'
  have hr'v : ∀ b, r'.ownBlock = some b → b ≠ g := fun b hb e => by
    rcases hl with e2 | ⟨b2, e2, hge⟩
    · rw [e2] at hb; exact hrv b hb e
    · rw [hb] at e2; cases e2; omega
  have hr'o : (w'.setCell ⟨g, k, none⟩ r').ownsRow base TI 1 r' m (s'.map f) := World.ownsRow.kept ho hgr (by
    cases hb : r'.ownBlock with
    | none => exact .inl rfl
    | some b => exact .inr (fun e => hr'v b hb (by simpa using e)))
  have hoth : ∀ (i : Nat) (q : Value) (b : Nat), i ≠ k → hd[i]? = some q → q.ownBlock = some b → r'.ownBlock ≠ some b ∧ r0.ownBlock ≠ some b := fun i q b hik hq hb => by
    have h0 : r0.ownBlock ≠ some b := fun e2 => hik (h3 i k q r0 b hq e hb e2)
    refine ⟨fun e2 => ?_, h0⟩
    rcases hl with e3 | ⟨b2, e3, hge⟩
    · rw [e3] at e2; exact h0 e2
    · rw [e2] at e3
      cases e3
      have hil : i < ns.length := by rw [← hlen]; exact (List.getElem?_eq_some_iff.1 hq).1
      obtain ⟨r6, h6, s6, _, h7, _⟩ := h2 i (ns[i]'hil) (List.getElem?_eq_getElem hil)
      rw [hq] at h6
      cases h6
      have := own_lt h7 b hb
      omega
  refine ⟨hd.set k r', by rw [List.length_set]; exact hst, fun i q hq => ?_, fun i j a d b hi hj ha hd' => ?_⟩
  · rw [List.getElem?_set] at hq
    by_cases hik : k = i
    · subst hik
      rw [if_pos rfl, if_pos hkl] at hq
      cases hq
      exact ⟨r', by rw [List.getElem?_set_self (by omega)], s', hs', hr'o, fun b hb e => hr'v b hb (by simpa [Value.ownBlock] using e.symm)⟩
    · rw [if_neg hik] at hq
      obtain ⟨r6, h6, s6, hs6, ho6, hv6⟩ := h2 i q hq
      refine ⟨r6, by rw [List.getElem?_set_ne hik]; exact h6, s6, hs6, ?_, hv6⟩
      refine World.ownsRow.kept (own_holdB ho6 (fun b hb hl => hg.block b hl (fun e => (hoth i r6 b (Ne.symm hik) h6 hb).2 e.symm))) hgr ?_
      cases hb : r6.ownBlock with
      | none => exact .inl rfl
      | some b => exact .inr (fun e => by
          have := hv6 b hb
          simp [Value.ownBlock] at this e
          omega)
  · rw [List.getElem?_set] at hi hj
    by_cases hik : k = i
    · by_cases hjk : k = j
      · omega
      · rw [if_pos hik, if_pos (by omega)] at hi
        rw [if_neg hjk] at hj
        cases hi
        exact absurd ha (hoth j d b (Ne.symm hjk) hj hd').1
    · rw [if_neg hik] at hi
      by_cases hjk : k = j
      · rw [if_pos hjk, if_pos (by omega)] at hj
        cases hj
        exact absurd hd' (hoth i a b (Ne.symm hik) hi ha).1
      · rw [if_neg hjk] at hj
        exact h3 i j a d b hi hj ha hd'
end
end Go.Proofs.Ytfhidimmaeiiaaa
