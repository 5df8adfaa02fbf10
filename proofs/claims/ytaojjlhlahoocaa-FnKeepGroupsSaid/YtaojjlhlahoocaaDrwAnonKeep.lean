/- spec.DrawAnonKeep: what DrawAnonDrop draws. -/
import Derived.Test.YtaojjlhlahoocaaDrwAnonDrop
namespace Go.Proofs.Ytaojjlhlahoocaa
open Go.RowKit
set_option linter.unusedSimpArgs false
attribute [local go_sem ↓] Go.wp_at_zero Go.wp_at_succ

set_option maxRecDepth 100000 in
set_option maxHeartbeats 8000000 in
theorem specDrawAnonKeep (A : Option Addr) (c : Nat) (bs : List Int) (w : World) (h : Byt w A c bs) : Calls Try.prog 15 #[.slice A bs.length c] w (DrK w) := by
  have hb0 := (((Below.refl _ _).alloc (Nat.le_refl _) _) : Below w.heap.size w (w.alloc (.cells #[.int .i64 0, .int .i64 0, .int .i64 0] 26)))
  have hk0 := Blk.new w 26 #[.int .i64 0, .int .i64 0, .int .i64 0]
  have HB0 := Lib.hid (h.below hb0)
  clear h
  go_enter Try.func15, Try.ntmps15
  go_wp2_with fail
  refine (specDrawAnonDropO A c bs _ HB0.out).mono ?_
  rintro e w2 ⟨v, l, v2, L, ⟨xa, xj, xs⟩, k, rfl, hO1, hO2, hd, hkb, hb2⟩
  rw [World.size_alloc] at hO1 hO2 hb2
  have hk2 := hk0.below hb2 (by omega)
  have hb02 := hb0.trans (hb2.mono (by omega))
  have HX4 : BY w (w.heap.size + 1) v l v2 L w.heap.size w.heap.size _ _ w2 := ⟨hk2, hk2, hO1, hO2, hb02⟩
  have hgr := grown3 w2 w.heap.size (.int .i64 xa) (.int .i64 xj) (.int .i64 xs)
  have hf0 := HX4.1.frozen 0
  have hf1 := HX4.1.frozen 1
  have hf2 := HX4.1.frozen 2
  have ho0 := HX4.1.cell 0
  have ho1 := HX4.1.cell 1
  have ho2 := HX4.1.cell 2
  simp only [List.getElem?_cons_zero, List.getElem?_cons_succ] at ho0 ho1 ho2
  have hq := set3 hk2 (.int .i64 xa) (.int .i64 xj) (.int .i64 xs)
  have HO1 := Lib.hid (own_hold HX4.2.2.1 (fun b hb hl => hgr.block b hl (fun e => by simp at e; omega)))
  have HO2 := Lib.hid (HX4.2.2.2.1.pick hgr (by omega))
  have HBB := Lib.hid (HX4.2.2.2.2.grown hgr HX4.2.2.2.2.size (fun k e => by cases e; exact Nat.le_refl _))
  have HD := Lib.hid hd
  clear hgr hk2 HX4 hb02 hb2 hO1 hO2 hd hb0 hk0 HB0
  go_wp2
  have hq0 := hq.cell 0
  have hq1 := hq.cell 1
  have hq2 := hq.cell 2
  simp only [List.getElem?_cons_zero, List.getElem?_cons_succ] at hq0 hq1 hq2
  refine bodyPost_ret (v := .tuple #[v, v2, Rc.val ⟨xa, xj, xs⟩, .int .i64 k]) ?_ rfl (DrO.drK ⟨v, l, v2, L, ⟨xa, xj, xs⟩, k, rfl, own_weaken HO1.out (by omega), HO2.out.weaken (by omega), HD.out, hkb, HBB.out⟩)
  simp [results, Try.results15, go_sem, hq0, hq1, hq2]
end Go.Proofs.Ytaojjlhlahoocaa
