/- spec.DrawGroupUniques: people, a ladder, a recoding (and a number), all of the draw's own. -/
import Derived.Test.YtljjaanohcibcaaDraw4
namespace Go.Proofs.Ytljjaanohcibcaa
open Go.RowKit
attribute [local go_sem ↓] Go.wp_at_zero Go.wp_at_succ

set_option maxRecDepth 100000 in
set_option maxHeartbeats 4000000 in
theorem specDrawGroupUniques (A : Option Addr) (c : Nat) (bs : List Int) (w : World) (h : Byt w A c bs) : Calls Try.prog 39 #[.slice A bs.length c] w (DrA w) := by
  have hb0 := (((Below.refl _ _).alloc (Nat.le_refl _) _) : Below w.heap.size w (w.alloc (.cells #[.int .i64 0, .int .i64 0, .int .i64 0] 26)))
  have hk0 := Blk.new w 26 #[.int .i64 0, .int .i64 0, .int .i64 0]
  have HB0 := Lib.hid (h.below hb0)
  clear h
  go_enter Try.func39, Try.ntmps39
  go_wp2_with fail
  refine (specOpen A c bs _ HB0.out).mono ?_
  rw [World.size_alloc]
  rintro e w1 ⟨rfl, hr1, hb1⟩
  have hk1 := hk0.below hb1 (by omega)
  have hs1 : w.heap.size + 1 < w1.heap.size := hr1.lt
  have hb01 := hb0.trans (hb1.mono (by omega))
  clear hk0 hb1 HB0 hb0
  go_wp2_with fail
  refine (specDAll (w.heap.size + 1) 0 w1 hr1 (by omega)).mono ?_
  rintro e w2 ⟨v, l, v2, L, x, rfl, hx, hA, hg2⟩
  have hk2 := hk1.grown hg2 (by omega)
  obtain ⟨A1, c1, A2, c2, rfl, rfl, _, h1, h2, h3, h4⟩ := hA.arg
  have HA := Lib.hid hA
  have hb2 := bel_of hb01 hg2 (by omega)
  have ho0 := hk2.cell 0
  have ho1 := hk2.cell 1
  have ho2 := hk2.cell 2
  have hf0 := hk2.frozen 0
  have hf1 := hk2.frozen 1
  have hf2 := hk2.frozen 2
  simp at ho0 ho1 ho2
  clear hA hk1 hg2 hb01
  go_wp2
  have hq := set3 hk2 (.int .i64 x.a) (.int .i64 x.j) (.int .i64 x.s)
  have hq0 := hq.cell 0
  have hq1 := hq.cell 1
  have hq2 := hq.cell 2
  simp only [List.getElem?_cons_zero, List.getElem?_cons_succ] at hq0 hq1 hq2
  have hA3 := (HA.out.weaken (base' := w.heap.size + 2) (by omega)).1
  have hG3 := (HA.out.weaken (base' := w.heap.size + 2) (by omega)).2.1
  have hgr := grown3 w2 w.heap.size (.int .i64 x.a) (.int .i64 x.j) (.int .i64 x.s)
  have hA4 := own_hold hA3 (fun b hb hl => hgr.block b hl (fun e => by simp at e; omega))
  have hG4 := hG3.pick hgr (by omega)
  obtain ⟨A5, c5, e5, hP5, _⟩ := OPpl.form hA4
  obtain ⟨A6, c6, e6, hG6, _⟩ := hG4.form
  simp only [Value.slice.injEq, true_and] at e5 e6
  obtain ⟨rfl, rfl⟩ := e5
  obtain ⟨rfl, rfl⟩ := e6
  obtain ⟨b1, b2, b3, b4⟩ := HA.out.2.2.2
  refine bodyPost_ret (v := .tuple #[.slice A1 l.length c1, .slice A2 L.length c2, x.val]) ?_ rfl ⟨A1, c1, l, A2, c2, L, x, rfl, ⟨hP5, by omega, hG6, by omega, fun s hs => by have := b3 s hs; omega⟩, ⟨b1, b2, hx, b4, b3, h1, h3, h2, h4⟩, hb2.grown hgr hb2.size (fun k e => by cases e; exact Nat.le_refl _)⟩
  simp [results, Try.results39, go_sem, hq0, hq1, hq2]
end Go.Proofs.Ytljjaanohcibcaa
