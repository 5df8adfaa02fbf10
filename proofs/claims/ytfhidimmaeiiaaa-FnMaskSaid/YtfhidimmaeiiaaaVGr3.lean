/- A grid appended to itself. No program text is named here. -/
import Derived.Test.YtfhidimmaeiiaaaVGr2
namespace Go.Proofs.Ytfhidimmaeiiaaa
open Go.RowKit

theorem choose_rows2 {α : Type} {f : α → Value} {w : World} {base TI : Nat} {v : Value} {hs : List Value} : ∀ {ns : List Nat}, (∀ (k n : Nat), ns[k]? = some n → ∃ r, hs[k]? = some r ∧ RowV f w base TI v r n) → ∃ L : List (List α), L.map List.length = ns ∧ ∀ (k : Nat) (s : List α), L[k]? = some s → ∃ r, hs[k]? = some r ∧ w.ownsRow base TI 1 r s.length (s.map f) ∧ ∀ b, r.ownBlock = some b → v.ownBlock ≠ some b := by
  intro ns
  induction ns generalizing hs with
  | nil => intro _; exact ⟨[], rfl, fun k s h => by simp at h⟩
  | cons n ns ih =>
    intro h
    obtain ⟨r, hr, s, hs1, hs2, hs3⟩ := h 0 n rfl
    obtain ⟨L, hL, hL2⟩ := ih (hs := hs.drop 1) (fun k m hm => by
      obtain ⟨r, h1, h2⟩ := h (k + 1) m (by simpa using hm)
      exact ⟨r, by rw [List.getElem?_drop, Nat.add_comm]; exact h1, h2⟩)
    refine ⟨s :: L, by simp [hs1, hL], fun k q hq => ?_⟩
    cases k with
    | zero =>
      simp at hq
      subst hq
      exact ⟨r, hr, by rw [hs1]; exact hs2, hs3⟩
    | succ k =>
      obtain ⟨r, h1, h2⟩ := hL2 k q (by simpa using hq)
      exact ⟨r, by rw [List.getElem?_drop, Nat.add_comm] at h1; exact h1, h2⟩
theorem VG.twice {α : Type} {f : α → Value} {w : World} {base TI TH : Nat} {v : Value} {ns : List Nat} (H : VG f w base TI TH v ns) :
    ∃ hs : List Value, w.ownsRow base TH 1 v ns.length hs ∧ (∀ u ∈ hs, u.oneCell' = true) ∧
      ∀ (w' : World) (v' : Value), w'.ownsRow base TH 1 v' (ns.length + ns.length) (hs ++ hs) → w.grownBy w' v.ownBlock →
        ∃ (A : Option Addr) (c : Nat) (L : List (List α)), v' = .slice A L.length c ∧ Grd w' w'.heap.size A (L.map (·.map f)) ∧ L.map List.length = ns ++ ns ∧ L.length ≤ c ∧ c ≤ 9223372036854775807 := by
  obtain ⟨hs, h1, h2, _⟩ := H
  obtain ⟨L, hL, hL2⟩ := choose_rows2 h2
  have hlen : L.length = ns.length := by rw [← hL, List.length_map]
  have hhs : hs.length = ns.length := by have := h1.1; omega
  refine ⟨hs, h1, fun u hu => ?_, fun w' v' ho hg => ?_⟩
  · obtain ⟨k, hk, rfl⟩ := List.mem_iff_getElem.1 hu
    obtain ⟨r, h3, h4, _⟩ := hL2 k (L[k]'(by omega)) (List.getElem?_eq_getElem (by omega))
    rw [List.getElem?_eq_getElem hk] at h3
    cases h3
    obtain ⟨A, c, e, _⟩ := own_rds h4 rfl
    rw [e]
    rfl
  · have hrow : ∀ (k : Nat) (s : List α), (L ++ L)[k]? = some s → ∃ A' c', (hs ++ hs)[k]? = some (.slice A' s.length c') ∧ s.length ≤ c' ∧ c' ≤ maxLen ∧ Rds w' w'.heap.size 1 A' s.length (s.map f) := fun k s hk => by
      have h3 : ∃ r, (hs ++ hs)[k]? = some r ∧ w.ownsRow base TI 1 r s.length (s.map f) ∧ ∀ b, r.ownBlock = some b → v.ownBlock ≠ some b := by
        rcases Nat.lt_or_ge k L.length with h | h
        · rw [List.getElem?_append_left h] at hk
          obtain ⟨r, h4, h5⟩ := hL2 k s hk
          exact ⟨r, by rw [List.getElem?_append_left (by omega)]; exact h4, h5⟩
        · rw [List.getElem?_append_right h] at hk
          obtain ⟨r, h4, h5⟩ := hL2 _ s hk
          exact ⟨r, by rw [List.getElem?_append_right (by omega), hhs, ← hlen]; exact h4, h5⟩
      obtain ⟨r, h4, h5, h6⟩ := h3
      have h7 : w'.ownsRow base TI 1 r s.length (s.map f) := own_holdB h5 (fun b hb hl => hg.block b hl (fun e => h6 b hb e.symm))
      obtain ⟨A', c', rfl, h8, h9, h10⟩ := own_rds h7 rfl
      exact ⟨A', c', h4, h8, h9, h10⟩
    have hll : (L ++ L).length = ns.length + ns.length := by rw [List.length_append, hlen]
    rw [← hll] at ho
    rcases ho.2 with ⟨rfl, h0⟩ | ⟨g, cap, cur, rfl, hb, hh, hnc, hm, hsz, ht⟩
    · refine ⟨none, 0, L ++ L, by rw [h0], fun hn => ?_, by rw [List.map_append, hL], by omega, by omega⟩
      rw [List.length_map] at hn
      omega
    · refine ⟨_, _, L ++ L, rfl, fun hn => ⟨g, 0, rfl, (Array.getElem?_eq_some_iff.1 hh).1, fun k r hr => ?_⟩, by rw [List.map_append, hL], hnc, by unfold maxLen at hm; omega⟩
      rw [List.getElem?_map] at hr
      obtain ⟨s, hs1, rfl⟩ := Option.map_eq_some_iff.1 hr
      obtain ⟨A', c', h4, h8, h9, h10⟩ := hrow k s hs1
      have hk : k < (L ++ L).length := (List.getElem?_eq_some_iff.1 hs1).1
      refine ⟨A', c', ?_, by simpa using h8, h9, by simpa using h10⟩
      rw [Nat.zero_add, World.ownsRow.cellAt ho k (by omega)]
      simpa using h4
end Go.Proofs.Ytfhidimmaeiiaaa
