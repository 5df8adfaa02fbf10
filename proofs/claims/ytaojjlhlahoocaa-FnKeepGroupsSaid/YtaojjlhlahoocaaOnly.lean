/- Which blocks a call turns. No program text is named here. -/
import Derived.Test.YtaojjlhlahoocaaOGr
namespace Go.Proofs.Ytaojjlhlahoocaa
open Go.RowKit

/-- Only blocks from lo on and below hi have turned; others may be new. -/
structure Only (lo hi : Nat) (w w' : World) : Prop where
  os : w'.os = w.os
  tape : w'.tape = w.tape
  output : w'.output = w.output
  size : w.heap.size ≤ w'.heap.size
  block : ∀ k, k < w.heap.size → (k < lo ∨ hi ≤ k) → w'.heap[k]? = w.heap[k]?
section
variable {lo hi hi' g : Nat} {a b c w w' : World}
theorem Only.refl (lo hi : Nat) (w : World) : Only lo hi w w := ⟨rfl, rfl, rfl, Nat.le_refl _, fun _ _ _ => rfl⟩
theorem Only.grown (h : Only lo hi a b) (hg : b.grownBy c (some g)) (hl : lo ≤ g) (hh : g < hi') (hhi : hi ≤ hi') : Only lo hi' a c :=
  ⟨hg.os.trans h.os, hg.tape.trans h.tape, hg.output.trans h.output, Nat.le_trans h.size hg.size, fun k hk hc =>
    (hg.block k (Nat.lt_of_lt_of_le hk h.size) (fun e => by simp only [Option.some.injEq] at e; omega)).trans (h.block k hk (by omega))⟩
theorem Only.then (h : Only lo hi a b) (hb : Below b.heap.size b c) : Only lo hi a c :=
  ⟨hb.os.trans h.os, hb.tape.trans h.tape, hb.output.trans h.output, Nat.le_trans h.size hb.size, fun k hk hc => (hb.block k (Nat.lt_of_lt_of_le hk h.size)).trans (h.block k hk hc)⟩
theorem Only.step {row : Option Nat} (h : Only lo hi a b) (hg : b.grownBy c row) (hr : ∀ g, row = some g → (lo ≤ g ∧ g < hi) ∨ a.heap.size ≤ g) : Only lo hi a c :=
  ⟨hg.os.trans h.os, hg.tape.trans h.tape, hg.output.trans h.output, Nat.le_trans h.size hg.size, fun k hk hc =>
    (hg.block k (Nat.lt_of_lt_of_le hk h.size) (fun e => by have := hr k e.symm; omega)).trans (h.block k hk hc)⟩
theorem Only.below (h : Only lo hi w w') (hl : lo ≤ w.heap.size) : Below lo w w' := ⟨h.os, h.tape, h.output, h.size, fun k hk => h.block k (Nat.lt_of_lt_of_le hk hl) (.inl hk)⟩
theorem Only.own {base T : Nat} {v : Value} {l : List Pn} (h : Only lo hi w w') (ho : OPpl w base T v l) (hb : hi ≤ base) : OPpl w' base T v l := own_hold ho (fun b hb2 hl => h.block b hl (.inr (by omega)))
end
/-- A value that is owned lies in block g, or in a block from N on. -/
def OwnAt (v : Value) (g N : Nat) : Prop := ∀ b, v.ownBlock = some b → b = g ∨ N ≤ b
end Go.Proofs.Ytaojjlhlahoocaa
