/- Two boxes beside what was drawn. -/
import Derived.Test.YtaojjlhlahoocaaDraw6
namespace Go.Proofs.Ytaojjlhlahoocaa
open Go.RowKit

/-- People and a ladder of a draw's own, and two boxes: the result's (bo) and the variable's (bi). -/
def BY (w : World) (bs : Nat) (v : Value) (l : List Pn) (v2 : Value) (L : List (List Int)) (bo bi : Nat) (o i : List Value) (w' : World) : Prop :=
  Blk w' bo 26 o ∧ Blk w' bi 26 i ∧ OPpl w' bs 35 v l ∧ OGr w' bs 40 v2 L ∧ Below w.heap.size w w'
section
variable {w w' w4 : World} {bs g N N' bo bi : Nat} {v v2 : Value} {l : List Pn} {L : List (List Int)} {o i : List Value} {x0 x1 x2 : Value}
theorem BY.below (h : BY w bs v l v2 L bo bi o i w') (hb : Below w'.heap.size w' w4) : BY w bs v l v2 L bo bi o i w4 :=
  ⟨h.1.below hb h.1.lt, h.2.1.below hb h.2.1.lt, own_hold h.2.2.1 (fun b _ hl => hb.block b hl), h.2.2.2.1.below hb, h.2.2.2.2.trans (hb.mono h.2.2.2.2.size)⟩
theorem BY.drew (h : BY w bs v l v2 L bo bi o i w') : BY w bs v l v2 L bo bi o i w'.drew := h.below (Below.refl _ _).drew
theorem BY.alloc (h : BY w bs v l v2 L bo bi o i w') (x : Obj) : BY w bs v l v2 L bo bi o i (w'.alloc x) := h.below ((Below.refl _ _).alloc (Nat.le_refl _) x)
theorem BY.pick (h : BY w bs v l v2 L bo bi o i w') (hg : w'.grownBy w4 (some g)) (h0 : bo ≠ g) (h1 : bi ≠ g) (h2 : g < bs) (h3 : w.heap.size ≤ g) : BY w bs v l v2 L bo bi o i w4 :=
  ⟨h.1.grown hg h0, h.2.1.grown hg h1, own_hold h.2.2.1 (fun b hb hl => hg.block b hl (fun e => by simp at e; omega)), h.2.2.2.1.pick hg h2, bel_of h.2.2.2.2 hg h3⟩
theorem BY.set3 (h : BY w bs v l v2 L bo bi [x0, x1, x2] i w') (y0 y1 y2 : Value) (hb : bo < bs) (hw : w.heap.size ≤ bo) (hne : bi ≠ bo) : BY w bs v l v2 L bo bi [y0, y1, y2] i (((w'.setCell ⟨bo, 0, none⟩ y0).setCell ⟨bo, 1, none⟩ y1).setCell ⟨bo, 2, none⟩ y2) :=
  have hg := grown3 w' bo y0 y1 y2
  ⟨Go.Proofs.Ytaojjlhlahoocaa.set3 h.1 y0 y1 y2, ((h.2.1.far hne _).far hne _).far hne _, own_hold h.2.2.1 (fun b hb hl => hg.block b hl (fun e => by simp at e; omega)), h.2.2.2.1.pick hg hb, h.2.2.2.2.grown hg h.2.2.2.2.size (fun k e => by cases e; exact hw)⟩
theorem BY.inner (h : BY w bs v l v2 L bo bi o [x0, x1, x2] w') : w'.cell? ⟨bi, 0, none⟩ = some x0 ∧ w'.cell? ⟨bi, 1, none⟩ = some x1 ∧ w'.cell? ⟨bi, 2, none⟩ = some x2 := ⟨h.2.1.cell 0, h.2.1.cell 1, h.2.1.cell 2⟩
end
/-- What is known of what was drawn. -/
def Drb (l : List Pn) (L : List (List Int)) (x : Rc) : Prop := l.length ≤ 10 ∧ L.length ≤ 4 ∧ x.small ∧ (∀ p ∈ l, p.small) ∧ ∀ s ∈ L, s.length ≤ 4
/-- A draw of people, a ladder, a recoding and a number: all of the draw's own. -/
def DrO (w : World) (e : Ending) (w' : World) : Prop := ∃ v l v2 L, ∃ x : Rc, ∃ k : Int, e = .returned (.tuple #[v, v2, x.val, .int .i64 k]) ∧ OPpl w' w.heap.size 35 v l ∧ OGr w' w.heap.size 40 v2 L ∧ Drb l L x ∧ (-10 ≤ k ∧ k ≤ 2000) ∧ Below w.heap.size w w'
theorem own_arg {w' : World} {bs : Nat} {v v2 : Value} {l : List Pn} {L : List (List Int)} {x : Rc} (h1 : OPpl w' bs 35 v l) (h2 : OGr w' bs 40 v2 L) (hd : Drb l L x) :
    ∃ A c A2 c2, v = .slice A l.length c ∧ v2 = .slice A2 L.length c2 ∧ Arg w' A l A2 L ∧ DBd l c L c2 x := by
  obtain ⟨A, c, e1, e2, e3, e4⟩ := OPpl.form h1
  obtain ⟨A2, c2, k1, k2, k3, k4⟩ := h2.form
  obtain ⟨b1, b2, b3, b4, b5⟩ := hd
  exact ⟨A, c, A2, c2, e1, k1, ⟨e2, by omega, k2, by omega, fun s hs => by have := b5 s hs; omega⟩, b1, b2, b3, b4, b5, e3, e4, k3, k4⟩
theorem DrO.drK {w w' : World} {e : Ending} (h : DrO w e w') : DrK w e w' := by
  obtain ⟨v, l, v2, L, x, k, rfl, h1, h2, hd, hk, hb⟩ := h
  obtain ⟨A, c, A2, c2, rfl, rfl, hA, hD⟩ := own_arg h1 h2 hd
  exact ⟨A, c, l, A2, c2, L, x, k, rfl, hA, hD, hk, hb⟩
/-- The same and one number more. -/
def DrM (w : World) (e : Ending) (w' : World) : Prop := ∃ A c l A2 c2 L, ∃ x : Rc, ∃ k m : Int, e = .returned (.tuple #[.slice A l.length c, .slice A2 L.length c2, x.val, .int .i64 k, .int .i64 m]) ∧ Arg w' A l A2 L ∧ DBd l c L c2 x ∧ (-10 ≤ k ∧ k ≤ 2000) ∧ (-10 ≤ m ∧ m ≤ 2000) ∧ Below w.heap.size w w'
end Go.Proofs.Ytaojjlhlahoocaa
