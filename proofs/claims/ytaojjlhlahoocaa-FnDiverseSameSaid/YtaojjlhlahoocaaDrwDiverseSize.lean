/- spec.DrawDiverseSize: what it draws, all of the draw's own. -/
import Derived.Test.YtaojjlhlahoocaaDrwBox
namespace Go.Proofs.Ytaojjlhlahoocaa
open Go.RowKit
set_option linter.unusedSimpArgs false
attribute [local go_sem ↓] Go.wp_at_zero Go.wp_at_succ

set_option maxRecDepth 100000 in
set_option maxHeartbeats 8000000 in
theorem specDrawDiverseSize (A : Option Addr) (c : Nat) (bs : List Int) (w : World) (h : Byt w A c bs) : Calls Try.prog 28 #[.slice A bs.length c] w (DrK w) := by
  have hb0 := (((Below.refl _ _).alloc (Nat.le_refl _) _) : Below w.heap.size w (w.alloc (.cells #[.int .i64 0, .int .i64 0, .int .i64 0] 26)))
  have hk0 := Blk.new w 26 #[.int .i64 0, .int .i64 0, .int .i64 0]
  have HB0 := Lib.hid (h.below hb0)
  have HBT := Lib.hid h
  clear h
  go_enter Try.func28, Try.ntmps28
  go_wp2_with fail
  refine (specOpen A c bs _ HB0.out).mono ?_
  rw [World.size_alloc]
  rintro e w1 ⟨rfl, hr1, hb1⟩
  have hk1 := hk0.below hb1 (by omega)
  have hs1 : w.heap.size + 1 < w1.heap.size := hr1.lt
  have hb01 := hb0.trans (hb1.mono (by omega))
  clear hk0 hb1 HB0 hb0
  clear HBT
  go_wp2_with fail
  refine (specDAt (w.heap.size + 1) 0 w1 hr1 (by omega)).mono ?_
  rintro e w2 ⟨v, l, v2, L, ⟨xa, xj, xs⟩, k, rfl, hx, hkb, hA, hg2⟩
  have HD : Hid (Drb l L ⟨xa, xj, xs⟩) := ⟨hA.2.2.2.1, hA.2.2.2.2.1, hx, hA.2.2.2.2.2.2, hA.2.2.2.2.2.1⟩
  have hk2 := hk1.grown hg2 (by omega)
  have HX4 : BY w w1.heap.size v l v2 L w.heap.size w.heap.size _ _ w2 := ⟨hk2, hk2, hA.1, hA.2.1, bel_of hb01 hg2 (by omega)⟩
  have hgr := grown3 w2 w.heap.size (.int .i64 xa) (.int .i64 xj) (.int .i64 xs)
  have hf0 := HX4.1.frozen 0
  have hf1 := HX4.1.frozen 1
  have hf2 := HX4.1.frozen 2
  have ho0 := HX4.1.cell 0
  have ho1 := HX4.1.cell 1
  have ho2 := HX4.1.cell 2
  simp only [List.getElem?_cons_zero, List.getElem?_cons_succ] at ho0 ho1 ho2
  have hq := set3 hk2 (.int .i64 xa) (.int .i64 xj) (.int .i64 xs)
  have HO1 := Lib.hid (own_hold HX4.2.2.1 (fun b hb hl => hgr.block b hl (fun e => by simp at e; omega)))
  have HO2 := Lib.hid (HX4.2.2.2.1.pick hgr (by omega))
  have HBB := Lib.hid (HX4.2.2.2.2.grown hgr HX4.2.2.2.2.size (fun k e => by cases e; exact Nat.le_refl _))
  clear hgr hA hg2 hk1 hk2 HX4 hb01 hr1
  go_wp2
  have hq0 := hq.cell 0
  have hq1 := hq.cell 1
  have hq2 := hq.cell 2
  simp only [List.getElem?_cons_zero, List.getElem?_cons_succ] at hq0 hq1 hq2
  refine bodyPost_ret (v := .tuple #[v, v2, Rc.val ⟨xa, xj, xs⟩, .int .i64 k]) ?_ rfl (DrO.drK ⟨v, l, v2, L, ⟨xa, xj, xs⟩, k, rfl, own_weaken HO1.out (by omega), HO2.out.weaken (by omega), HD.out, hkb, HBB.out⟩)
  simp [results, Try.results28, go_sem, hq0, hq1, hq2]
end Go.Proofs.Ytaojjlhlahoocaa
