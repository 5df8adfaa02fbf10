/- All three drawn: people, a ladder, a recoding. -/
import Derived.Test.YtfpddhehdfckjaaDraw3
namespace Go.Proofs.Ytfpddhehdfckjaa
open Go.RowKit
attribute [local go_sem ↓] Go.wp_at_zero Go.wp_at_succ

/-- People and a ladder of a draw's own, from block base on; and the reader. -/
def ASt (base g N : Nat) (v : Value) (l : List Pn) (v2 : Value) (L : List (List Int)) (wr : World) : Prop :=
  OPpl wr base 82 v l ∧ OGr wr base 33 v2 L ∧ Rdr wr g N ∧ (l.length ≤ 10 ∧ L.length ≤ 4 ∧ (∀ s ∈ L, s.length ≤ 4) ∧ ∀ p ∈ l, p.small)
section
variable {base base' g N N' b : Nat} {v v2 : Value} {l : List Pn} {L : List (List Int)} {wr w' : World}
theorem ASt.pick (h : ASt base g N v l v2 L wr) (hgb : g < base) (hg : wr.grownBy w' (some g)) (hr : Rdr w' g N') : ASt base g N' v l v2 L w' :=
  ⟨own_hold h.1 (fun b hb hl => hg.block b hl (fun e => by simp at e; omega)), h.2.1.pick hg hgb, hr, h.2.2.2⟩
theorem ASt.below (h : ASt base g N v l v2 L wr) (hb : Below wr.heap.size wr w') : ASt base g N v l v2 L w' :=
  ⟨own_hold h.1 (fun b _ hl => hb.block b hl), h.2.1.below hb, h.2.2.1.below hb, h.2.2.2⟩
theorem ASt.box (h : ASt base g N v l v2 L wr) (hg : wr.grownBy w' (some b)) (hb : b < base) (hne : g < b) : ASt base g N v l v2 L w' :=
  ⟨own_hold h.1 (fun k hk hl => hg.block k hl (fun e => by simp at e; omega)), h.2.1.pick hg hb, h.2.2.1.grown hg (fun e => by simp at e; omega) (fun k e => by cases e; omega), h.2.2.2⟩
theorem ASt.new (h : ASt base g N v l v2 L wr) (hg : wr.grownBy w' (some b)) (hn : wr.heap.size ≤ b) : ASt base g N v l v2 L w' := by
  have hb' : Below wr.heap.size wr w' := ⟨hg.os, hg.tape, hg.output, hg.size, fun k hk => hg.block k hk (fun e => by simp at e; omega)⟩
  exact h.below hb'
theorem ASt.weaken (h : ASt base g N v l v2 L wr) (hb : base' ≤ base) : ASt base' g N v l v2 L wr := ⟨own_weaken h.1 hb, h.2.1.weaken hb, h.2.2⟩
theorem ASt.mono (h : ASt base g N v l v2 L wr) (hN : N ≤ N') : ASt base g N' v l v2 L wr := ⟨h.1, h.2.1, h.2.2.1.mono hN, h.2.2.2⟩
theorem ASt.arg (h : ASt base g N v l v2 L wr) : ∃ A c A2 c2, v = .slice A l.length c ∧ v2 = .slice A2 L.length c2 ∧ Arg wr A l A2 L ∧ l.length ≤ c ∧ L.length ≤ c2 ∧ c ≤ 9223372036854775807 ∧ c2 ≤ 9223372036854775807 := by
  obtain ⟨A, c, h1, h2, h3, h4⟩ := OPpl.form h.1
  obtain ⟨A2, c2, k1, k2, k3, k4⟩ := h.2.1.form
  obtain ⟨b1, b2, b3, b4⟩ := h.2.2.2
  exact ⟨A, c, A2, c2, h1, k1, ⟨h2, by omega, k2, by omega, fun s hs => by have := b3 s hs; omega⟩, h3, k3, h4, k4⟩
end
/-- What drawing all three hands back. -/
def DAl (g N : Nat) (w : World) (e : Ending) (w' : World) : Prop := ∃ v l v2 L, ∃ x : Rc, e = .returned (.tuple #[v, v2, x.val]) ∧ x.small ∧ ASt w.heap.size g (N + 96) v l v2 L w' ∧ w.grownBy w' (some g)

/-- What is known of people, a ladder and a recoding that were drawn. -/
def DBd (l : List Pn) (c : Nat) (L : List (List Int)) (c2 : Nat) (x : Rc) : Prop := l.length ≤ 10 ∧ L.length ≤ 4 ∧ x.small ∧ (∀ p ∈ l, p.small) ∧ (∀ s ∈ L, s.length ≤ 4) ∧ l.length ≤ c ∧ c ≤ 9223372036854775807 ∧ L.length ≤ c2 ∧ c2 ≤ 9223372036854775807
def DrA (w : World) (e : Ending) (w' : World) : Prop := ∃ A c l A2 c2 L, ∃ x : Rc, e = .returned (.tuple #[.slice A l.length c, .slice A2 L.length c2, x.val]) ∧ Arg w' A l A2 L ∧ DBd l c L c2 x ∧ Below w.heap.size w w'
def DrK (w : World) (e : Ending) (w' : World) : Prop := ∃ A c l A2 c2 L, ∃ x : Rc, ∃ k : Int, e = .returned (.tuple #[.slice A l.length c, .slice A2 L.length c2, x.val, .int .i64 k]) ∧ Arg w' A l A2 L ∧ DBd l c L c2 x ∧ (-10 ≤ k ∧ k ≤ 2000) ∧ Below w.heap.size w w'
/-- A draw's own blocks, the reader's among them, are new: so nothing that was there has turned. -/
theorem bel_of {w w1 w2 : World} {g : Nat} (h1 : Below w.heap.size w w1) (h2 : w1.grownBy w2 (some g)) (hg : w.heap.size ≤ g) : Below w.heap.size w w2 :=
  h1.grown h2 h1.size (fun k e => by cases e; exact hg)
end Go.Proofs.Ytfpddhehdfckjaa
