/- People, a ladder, a recoding and an index. -/
import Derived.Test.YtfpddhehdfckjaaDraw4
import Derived.Deep.RegionHeld3
namespace Go.Proofs.Ytfpddhehdfckjaa
open Go.RowKit
set_option linter.unusedSimpArgs false
attribute [local go_sem ↓] Go.wp_at_zero Go.wp_at_succ

/-- Two boxes beside what was drawn: the result's (bo) and the variable's (bi). -/
def BX (w : World) (g N : Nat) (v : Value) (l : List Pn) (v2 : Value) (L : List (List Int)) (bo bi : Nat) (o i : List Value) (w' : World) : Prop :=
  Blk w' bo 44 o ∧ Blk w' bi 44 i ∧ ASt (w.heap.size + 1) g N v l v2 L w' ∧ w.grownBy w' (some g)
section
variable {w w' w4 : World} {g N N' bo bi : Nat} {v v2 : Value} {l : List Pn} {L : List (List Int)} {o i : List Value} {x0 x1 x2 : Value}
theorem BX.drew (h : BX w g N v l v2 L bo bi o i w') : BX w g N v l v2 L bo bi o i w'.drew := ⟨h.1, h.2.1, h.2.2.1.below ⟨rfl, rfl, rfl, Nat.le_refl _, fun _ _ => rfl⟩, ⟨h.2.2.2.os, h.2.2.2.tape, h.2.2.2.output, h.2.2.2.size, h.2.2.2.block⟩⟩
theorem BX.alloc (h : BX w g N v l v2 L bo bi o i w') (x : Obj) : BX w g N v l v2 L bo bi o i (w'.alloc x) :=
  ⟨h.1.alloc x, h.2.1.alloc x, h.2.2.1.below ((Below.refl _ _).alloc (Nat.le_refl _) x), h.2.2.2.trans (World.grownBy_alloc _ _ _)⟩
theorem BX.pick (h : BX w g N v l v2 L bo bi o i w') (h0 : bo ≠ g) (h1 : bi ≠ g) (hg : w'.grownBy w4 (some g)) (hr : Rdr w4 g N') (hw : g ≤ w.heap.size := by omega) : BX w g N' v l v2 L bo bi o i w4 :=
  ⟨h.1.grown hg h0, h.2.1.grown hg h1, h.2.2.1.pick (by omega) hg hr, h.2.2.2.trans hg⟩
theorem BX.inner (h : BX w g N v l v2 L bo bi o [x0, x1, x2] w') : w'.cell? ⟨bi, 0, none⟩ = some x0 ∧ w'.cell? ⟨bi, 1, none⟩ = some x1 ∧ w'.cell? ⟨bi, 2, none⟩ = some x2 := ⟨h.2.1.cell 0, h.2.1.cell 1, h.2.1.cell 2⟩
theorem BX.set3 (h : BX w g N v l v2 L bo bi [x0, x1, x2] i w') (y0 y1 y2 : Value) (hw : g < bo) (hb : bo ≤ w.heap.size) (hw2 : w.heap.size ≤ bo) (hne : bi ≠ bo) : BX w g N v l v2 L bo bi [y0, y1, y2] i (((w'.setCell ⟨bo, 0, none⟩ y0).setCell ⟨bo, 1, none⟩ y1).setCell ⟨bo, 2, none⟩ y2) :=
  ⟨Go.Proofs.Ytfpddhehdfckjaa.set3 h.1 y0 y1 y2, ((h.2.1.far hne _).far hne _).far hne _, h.2.2.1.box (grown3 w' bo y0 y1 y2) (by omega) (by omega), h.2.2.2.andThen (grown3 w' bo y0 y1 y2) (fun j e => by cases e; exact .inl hw2)⟩
theorem BX.rdr (h : BX w g N v l v2 L bo bi o i w') : Rdr w' g N := h.2.2.1.2.2.1
end
theorem two_of {w : World} {b t : Nat} {x y z : Int} (h : Blk w b t [.int .i64 x, .int .i64 y]) (z0 : 0 ≤ z) (z1 : z < 2) {lo hi : Int} (hx : lo ≤ x) (hx2 : x ≤ hi) (hy : lo ≤ y) (hy2 : y ≤ hi) : ∃ kk : Int, lo ≤ kk ∧ kk ≤ hi ∧ w.cell? ⟨b, z.toNat, none⟩ = some (.int .i64 kk) := by
  rcases (show z = 0 ∨ z = 1 by omega) with rfl | rfl
  · exact ⟨x, hx, hx2, h.cell 0⟩
  · exact ⟨y, hy, hy2, h.cell 1⟩
theorem wpAnyH_and {P : Program} {md : Region.Mode} {ops : Array Oper} {Q : Exit → Act → World → Prop} {S T : World → Prop} : ∀ {fuel : Nat} {listed : Array Bool} {a : Act} {w : World}, wpAnyH P md ops Q (fun w => T w ∧ S w) fuel listed a w → wpAnyH P md ops Q S fuel listed a w
  | 0, _, _, _, h => h
  | _ + 1, _, _, _, h => ⟨h.1, fun i hi => wpOp_mono (fun _ _ h' => ⟨h'.1.2, wpAnyH_and h'.2⟩) (h.2 i hi)⟩
theorem Blk.other {w : World} {b t : Nat} {xs : List Value} {o : Nat} {u : Value} (_ : Blk w b t xs) (hc : w.cell? ⟨b, o, none⟩ = some u) {g : Nat} (hne : b ≠ g) {y0 y1 y2 : Value} : (((w.setCell ⟨g, 0, none⟩ y0).setCell ⟨g, 1, none⟩ y1).setCell ⟨g, 2, none⟩ y2).cell? ⟨b, o, none⟩ = some u := by
  rw [World.cell?_setCell_far _ _ _ _ (by simpa using Ne.symm hne), World.cell?_setCell_far _ _ _ _ (by simpa using Ne.symm hne), World.cell?_setCell_far _ _ _ _ (by simpa using Ne.symm hne), hc]
/-- What drawing all three and a number hands back. -/
def DAt (g N : Nat) (w : World) (e : Ending) (w' : World) : Prop := ∃ v l v2 L, ∃ x : Rc, ∃ k : Int, e = .returned (.tuple #[v, v2, x.val, .int .i64 k]) ∧ x.small ∧ (-10 ≤ k ∧ k ≤ 2000) ∧ ASt w.heap.size g (N + 98) v l v2 L w' ∧ w.grownBy w' (some g)

end Go.Proofs.Ytfpddhehdfckjaa
