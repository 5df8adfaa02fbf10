/- All three drawn: people, a ladder, a recoding. -/
import Derived.Test.YtaojjlhlahoocaaDraw3
namespace Go.Proofs.Ytaojjlhlahoocaa
open Go.RowKit
attribute [local go_sem ↓] Go.wp_at_zero Go.wp_at_succ

/-- People and a ladder of a draw's own, from block base on; and the reader. -/
def ASt (base g N : Nat) (v : Value) (l : List Pn) (v2 : Value) (L : List (List Int)) (wr : World) : Prop :=
  OPpl wr base 35 v l ∧ OGr wr base 40 v2 L ∧ Rdr wr g N ∧ (l.length ≤ 10 ∧ L.length ≤ 4 ∧ (∀ s ∈ L, s.length ≤ 4) ∧ ∀ p ∈ l, p.small)
section
variable {base base' g N N' b : Nat} {v v2 : Value} {l : List Pn} {L : List (List Int)} {wr w' : World}
theorem ASt.pick (h : ASt base g N v l v2 L wr) (hgb : g < base) (hg : wr.grownBy w' (some g)) (hr : Rdr w' g N') : ASt base g N' v l v2 L w' :=
  ⟨own_hold h.1 (fun b hb hl => hg.block b hl (fun e => by simp at e; omega)), h.2.1.pick hg hgb, hr, h.2.2.2⟩
theorem ASt.below (h : ASt base g N v l v2 L wr) (hb : Below wr.heap.size wr w') : ASt base g N v l v2 L w' :=
  ⟨own_hold h.1 (fun b _ hl => hb.block b hl), h.2.1.below hb, h.2.2.1.below hb, h.2.2.2⟩
theorem ASt.box (h : ASt base g N v l v2 L wr) (hg : wr.grownBy w' (some b)) (hb : b < base) (hne : g < b) : ASt base g N v l v2 L w' :=
  ⟨own_hold h.1 (fun k hk hl => hg.block k hl (fun e => by simp at e; omega)), h.2.1.pick hg hb, h.2.2.1.grown hg (fun e => by simp at e; omega) (fun k e => by cases e; omega), h.2.2.2⟩
theorem ASt.new (h : ASt base g N v l v2 L wr) (hg : wr.grownBy w' (some b)) (hn : wr.heap.size ≤ b) : ASt base g N v l v2 L w' := by
  have hb' : Below wr.heap.size wr w' := ⟨hg.os, hg.tape, hg.output, hg.size, fun k hk => hg.block k hk (fun e => by simp at e; omega)⟩
  exact h.below hb'
theorem ASt.weaken (h : ASt base g N v l v2 L wr) (hb : base' ≤ base) : ASt base' g N v l v2 L wr := ⟨own_weaken h.1 hb, h.2.1.weaken hb, h.2.2⟩
theorem ASt.mono (h : ASt base g N v l v2 L wr) (hN : N ≤ N') : ASt base g N' v l v2 L wr := ⟨h.1, h.2.1, h.2.2.1.mono hN, h.2.2.2⟩
theorem ASt.arg (h : ASt base g N v l v2 L wr) : ∃ A c A2 c2, v = .slice A l.length c ∧ v2 = .slice A2 L.length c2 ∧ Arg wr A l A2 L ∧ l.length ≤ c ∧ L.length ≤ c2 ∧ c ≤ 9223372036854775807 ∧ c2 ≤ 9223372036854775807 := by
  obtain ⟨A, c, h1, h2, h3, h4⟩ := OPpl.form h.1
  obtain ⟨A2, c2, k1, k2, k3, k4⟩ := h.2.1.form
  obtain ⟨b1, b2, b3, b4⟩ := h.2.2.2
  exact ⟨A, c, A2, c2, h1, k1, ⟨h2, by omega, k2, by omega, fun s hs => by have := b3 s hs; omega⟩, h3, k3, h4, k4⟩
end
/-- What drawing all three hands back. -/
def DAl (g N : Nat) (w : World) (e : Ending) (w' : World) : Prop := ∃ v l v2 L, ∃ x : Rc, e = .returned (.tuple #[v, v2, x.val]) ∧ x.small ∧ ASt w.heap.size g (N + 96) v l v2 L w' ∧ w.grownBy w' (some g)

set_option maxRecDepth 100000 in
set_option maxHeartbeats 4000000 in
theorem specDAll (g N : Nat) (w : World) (h : Rdr w g N) (hN : N ≤ 500) : Calls Try.prog 45 #[.pointer (some ⟨g, 0, none⟩)] w (DAl g N w) := by
  have hg := h.lt
  have hr0 := h.below (((Below.refl _ _).alloc (Nat.le_refl _) _) : Below w.heap.size w (w.alloc (.cells #[.int .i64 0, .int .i64 0, .int .i64 0] 26)))
  have hk0 := Blk.new w 26 #[.int .i64 0, .int .i64 0, .int .i64 0]
  have hg0 : w.grownBy (w.alloc (.cells #[.int .i64 0, .int .i64 0, .int .i64 0] 26)) (some g) := World.grownBy_alloc _ _ _
  have HNE := Lib.hid (show w.heap.size ≠ g by omega)
  go_enter Try.func45, Try.ntmps45
  go_wp2_with fail
  refine (specDPeople g N 10 _ hr0 (by omega) (by omega)).mono ?_
  rintro e w1 ⟨v, l, rfl, hl, hD⟩
  have hbw1 := hD.2.2.1.size
  rw [World.size_alloc] at hbw1
  have hg1 := hg0.trans hD.2.2.1
  have hk1 := hk0.grown hD.2.2.1 HNE.out
  have hO1 : OPpl w1 (w.heap.size + 1) 35 v l := by have := hD.1; rw [World.size_alloc] at this; exact this
  have HO1 := Lib.hid hO1
  have HR1 := Lib.hid hD.2.1
  have HSM := Lib.hid hD.2.2.2
  clear hD hr0 hk0 hg0 hO1
  go_wp2_with fail
  refine (specDLadder g (N + 8 * 10 + 3) _ HR1.out (by omega)).mono ?_
  rintro e w2 ⟨v2, L, rfl, hL, hD2⟩
  have hk2 := hk1.grown hD2.2.2.1 HNE.out
  have hg2 := hg1.trans hD2.2.2.1
  have HA2 : Hid (ASt (w.heap.size + 1) g (N + 8 * 10 + 3 + 8) v l v2 L w2) := ⟨own_hold HO1.out (fun b hb hl => hD2.2.2.1.block b hl (fun e => by simp at e; omega)), hD2.1.weaken hbw1, hD2.2.1, by omega, hL, hD2.2.2.2, HSM.out⟩
  clear hk1 hg1 hD2 HO1 HR1 HSM
  obtain ⟨A2, c2, rfl, hG, _, _⟩ := HA2.out.2.1.form
  clear hG
  go_wp2_with fail
  refine (specDRecode g (N + 8 * 10 + 3 + 8) A2 L.length c2 _ HA2.out.2.2.1 (by omega) (by omega)).mono ?_
  rintro e w3 ⟨x, hxs, rfl, hr3, hgr3⟩
  have hk3 := hk2.grown hgr3 HNE.out
  have hg3 := hg2.trans hgr3
  have HA3 := Lib.hid ((HA2.out.pick (by omega) hgr3 hr3).mono (show N + 8 * 10 + 3 + 8 + 5 ≤ N + 96 by omega))
  clear hk2 hg2 HA2 hr3 hgr3
  have ho0 := hk3.cell 0
  have ho1 := hk3.cell 1
  have ho2 := hk3.cell 2
  have hf0 := hk3.frozen 0
  have hf1 := hk3.frozen 1
  have hf2 := hk3.frozen 2
  simp at ho0 ho1 ho2
  go_wp2
  have hq := set3 hk3 (.int .i64 x.a) (.int .i64 x.j) (.int .i64 x.s)
  have hq0 := hq.cell 0
  have hq1 := hq.cell 1
  have hq2 := hq.cell 2
  simp only [List.getElem?_cons_zero, List.getElem?_cons_succ] at hq0 hq1 hq2
  refine bodyPost_ret (v := .tuple #[v, .slice A2 L.length c2, x.val]) ?_ rfl ⟨v, l, _, L, x, rfl, hxs, (HA3.out.box (grown3 w3 w.heap.size _ _ _) (by omega) (by omega)).weaken (by omega), hg3.andThen (grown3 w3 w.heap.size _ _ _) (fun j e => by cases e; exact .inl (Nat.le_refl _))⟩
  simp [results, Try.results45, go_sem, hq0, hq1, hq2]

/-- What is known of people, a ladder and a recoding that were drawn. -/
def DBd (l : List Pn) (c : Nat) (L : List (List Int)) (c2 : Nat) (x : Rc) : Prop := l.length ≤ 10 ∧ L.length ≤ 4 ∧ x.small ∧ (∀ p ∈ l, p.small) ∧ (∀ s ∈ L, s.length ≤ 4) ∧ l.length ≤ c ∧ c ≤ 9223372036854775807 ∧ L.length ≤ c2 ∧ c2 ≤ 9223372036854775807
def DrA (w : World) (e : Ending) (w' : World) : Prop := ∃ A c l A2 c2 L, ∃ x : Rc, e = .returned (.tuple #[.slice A l.length c, .slice A2 L.length c2, x.val]) ∧ Arg w' A l A2 L ∧ DBd l c L c2 x ∧ Below w.heap.size w w'
def DrK (w : World) (e : Ending) (w' : World) : Prop := ∃ A c l A2 c2 L, ∃ x : Rc, ∃ k : Int, e = .returned (.tuple #[.slice A l.length c, .slice A2 L.length c2, x.val, .int .i64 k]) ∧ Arg w' A l A2 L ∧ DBd l c L c2 x ∧ (-10 ≤ k ∧ k ≤ 2000) ∧ Below w.heap.size w w'
/-- A draw's own blocks, the reader's among them, are new: so nothing that was there has turned. -/
theorem bel_of {w w1 w2 : World} {g : Nat} (h1 : Below w.heap.size w w1) (h2 : w1.grownBy w2 (some g)) (hg : w.heap.size ≤ g) : Below w.heap.size w w2 :=
  h1.grown h2 h1.size (fun k e => by cases e; exact hg)
end Go.Proofs.Ytaojjlhlahoocaa
