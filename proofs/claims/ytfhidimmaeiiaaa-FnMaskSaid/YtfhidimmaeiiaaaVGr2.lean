/- A grid of the call's own: its first row grows. No program text is named here. -/
import Derived.Test.YtfhidimmaeiiaaaVGr
namespace Go.Proofs.Ytfhidimmaeiiaaa
open Go.RowKit

theorem VG.grow {α : Type} {f : α → Value} {w : World} {base TI TH g c k n : Nat} {ns : List Nat} (H : VG f w base TI TH (.slice (some ⟨g, 0, none⟩) ns.length c) ns) (hk : ns[k]? = some n) :
    ∃ (A : Option Addr) (c' : Nat) (s : List α), w.cell? ⟨g, k, none⟩ = some (.slice A n c') ∧ n ≤ c' ∧ c' ≤ 9223372036854775807 ∧ s.length = n ∧ w.ownsRow base TI 1 (.slice A n c') n (s.map f) ∧ (∀ b, (Value.slice A n c').ownBlock = some b → b ≠ g) ∧
      ∀ (w' : World) (v' : Value) (o : Obj) (s' : List α), w'.ownsRow base TI 1 v' (n + 1) (s'.map f) → (w.alloc o).grownBy w' (Value.slice A n c').ownBlock → (v'.ownBlock = (Value.slice A n c').ownBlock ∨ v'.ownBlock = some (w.heap.size + 1)) →
        VG f (w'.setCell ⟨g, k, none⟩ v') base TI TH (.slice (some ⟨g, 0, none⟩) ns.length c) (ns.set k (n + 1)) := by
  obtain ⟨r, h3, s, h4, h5, h6⟩ := H.cell hk
  obtain ⟨A, c', rfl, h7, h8, _⟩ := own_rds h5 h4
  refine ⟨A, c', s, h3, h7, h8, h4, h5, fun b hb e => h6 b hb (by rw [e]; rfl), fun w' v' o s' ho hg hl => ?_⟩
  have hgl := H.blk_lt g rfl
  have hs' : s'.length = n + 1 := by have := ho.1; simp at this; omega
  have hc3 : (w.alloc o).cell? ⟨g, k, none⟩ = some (.slice A n c') := (World.cell?_of_block (Below.heap_alloc w o g hgl)).trans h3
  exact (H.alloc o).swap hk hc3 hg hs' ho (by
    rcases hl with e | e
    · exact .inl e
    · exact .inr ⟨_, e, by simp⟩)
theorem VG.frz {α : Type} {f : α → Value} {w : World} {base TI TH g c : Nat} {ns : List Nat} (H : VG f w base TI TH (.slice (some ⟨g, 0, none⟩) ns.length c) ns) (o : Nat) : w.frozen? ⟨g, o, none⟩ = false := by
  obtain ⟨hd, h1, _⟩ := H
  exact World.ownsRow.frozenAt h1 o
end Go.Proofs.Ytfhidimmaeiiaaa
