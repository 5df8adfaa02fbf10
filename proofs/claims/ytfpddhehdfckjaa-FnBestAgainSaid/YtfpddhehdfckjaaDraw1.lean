/- Drawn persons. -/
import Derived.Test.YtfpddhehdfckjaaPick
import Derived.Test.YtfpddhehdfckjaaRecodeS
import Derived.Maps.Range
namespace Go.Proofs.Ytfpddhehdfckjaa
open Go.RowKit
attribute [local go_sem ↓] Go.wp_at_zero Go.wp_at_succ

theorem Blk.grown {w w' : World} {b t g : Nat} {xs : List Value} (h : Blk w b t xs) (hg : w.grownBy w' (some g)) (hne : b ≠ g) : Blk w' b t xs := h.of (hg.block b h.lt (fun e => hne (by simpa using e)))

/-- A drawn person's numbers are small. -/
def Pn.small (p : Pn) : Prop := (-10 ≤ p.a ∧ p.a ≤ 2000) ∧ (-10 ≤ p.j ∧ p.j ≤ 2000) ∧ (-10 ≤ p.s ∧ p.s ≤ 2000) ∧ (0 ≤ p.p ∧ p.p ≤ 2000)
def Psn (g N : Nat) (w : World) (e : Ending) (w' : World) : Prop := ∃ p : Pn, p.small ∧ e = .returned p.val ∧ Rdr w' g (N + 5) ∧ w.grownBy w' (some g)

set_option maxHeartbeats 1000000 in
theorem specDPerson (g N : Nat) (w : World) (h : Rdr w g N) (hN : N ≤ 100000) : Calls Try.prog 74 #[.pointer (some ⟨g, 0, none⟩)] w (Psn g N w) := by
  have hg := h.lt
  have hne : w.heap.size ≠ g := by omega
  have HNE := Lib.hid hne
  clear hne
  have hr0 := h.below (((Below.refl _ _).alloc (Nat.le_refl _) _) : Below w.heap.size w (w.alloc (.cells #[.int .i64 0, .int .i64 0, .int .i64 0, .int .i64 0] 82)))
  have hk0 := Blk.new w 82 #[.int .i64 0, .int .i64 0, .int .i64 0, .int .i64 0]
  have hg0 : w.grownBy (w.alloc (.cells #[.int .i64 0, .int .i64 0, .int .i64 0, .int .i64 0] 82)) (some g) := World.grownBy_alloc _ _ _
  go_enter Try.func74, Try.ntmps74
  go_wp2_with fail
  refine (specPick g N 4 _ hr0 (by omega) (by omega)).mono ?_
  rintro e w1 ⟨z1, rfl, ⟨a0, a1, _⟩, hr1, hgr1, _⟩
  have hk1 := hk0.grown hgr1 HNE.out
  have hg1 := hg0.trans hgr1
  go_wp2_with fail
  refine (specPick g (N + 1) 3 w1 hr1 (by omega) (by omega)).mono ?_
  rintro e w2 ⟨z2, rfl, ⟨b0, b1, _⟩, hr2, hgr2, _⟩
  have hk2 := hk1.grown hgr2 HNE.out
  have hg2 := hg1.trans hgr2
  go_wp2_with fail
  refine (specPick g (N + 1 + 1) 2 w2 hr2 (by omega) (by omega)).mono ?_
  rintro e w3 ⟨z3, rfl, ⟨c0, c1, _⟩, hr3, hgr3, _⟩
  have hk3 := hk2.grown hgr3 HNE.out
  have hg3 := hg2.trans hgr3
  go_wp2_with fail
  refine (specPick g (N + 1 + 1 + 1) 10 w3 hr3 (by omega) (by omega)).mono ?_
  rintro e w4 ⟨z4, rfl, ⟨d0, d1, _⟩, hr4, hgr4, _⟩
  have hk4 := hk3.grown hgr4 HNE.out
  have hg4 := hg3.trans hgr4
  have d1 := d1 (by omega)
  go_wp2_with fail
  refine (specPick g (N + 1 + 1 + 1 + 1) 100 w4 hr4 (by omega) (by omega)).mono ?_
  rintro e w5 ⟨z5, rfl, ⟨e0, e1, _⟩, hr5, hgr5, _⟩
  have hk5 := hk4.grown hgr5 HNE.out
  have hg5 := hg4.trans hgr5
  have e1 := e1 (by omega)
  have a1 := a1 (by omega)
  have b1 := b1 (by omega)
  have c1 := c1 (by omega)
  have hd0 := hk5.cell 0
  have hd1 := hk5.cell 1
  have hd2 := hk5.cell 2
  have hd3 := hk5.cell 3
  have hf0 := hk5.frozen 0
  have hf1 := hk5.frozen 1
  have hf2 := hk5.frozen 2
  have hf3 := hk5.frozen 3
  simp at hd0 hd1 hd2 hd3
  go_wp2
  have hk6 := (((hk5.set 0 (.int .i64 z1)).set 1 (.int .i64 z2)).set 2 (.int .i64 z3)).set 3 (.int .i64 (z4 * 100 + z5))
  have hs := (((grown_set w5 w.heap.size 0 (.int .i64 z1)).trans (grown_set _ w.heap.size 1 (.int .i64 z2))).trans (grown_set _ w.heap.size 2 (.int .i64 z3))).trans (grown_set _ w.heap.size 3 (.int .i64 (z4 * 100 + z5)))
  have hq0 := hk6.cell 0
  have hq1 := hk6.cell 1
  have hq2 := hk6.cell 2
  have hq3 := hk6.cell 3
  simp only [List.set_cons_zero, List.set_cons_succ] at hq0 hq1 hq2 hq3
  have hsm : Pn.small ⟨z1, z2, z3, z4 * 100 + z5⟩ := by unfold Pn.small; dsimp only; omega
  refine bodyPost_ret (v := Pn.val ⟨z1, z2, z3, z4 * 100 + z5⟩) ?_ rfl ⟨⟨z1, z2, z3, z4 * 100 + z5⟩, hsm, rfl, hr5.grown hs (fun e => HNE.out (by simpa using e.symm)) (fun b e => by cases e; omega), hg5.andThen hs (fun j e => by cases e; exact .inl (Nat.le_refl _))⟩
  simp [results, Try.results74, go_sem, hq0, hq1, hq2, hq3]
end Go.Proofs.Ytfpddhehdfckjaa
