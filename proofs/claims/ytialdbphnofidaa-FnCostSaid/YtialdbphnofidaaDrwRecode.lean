/- spec.DrawRecodeValid, spec.DrawAnonCost: a ladder and a recoding. -/
import Derived.Test.YtialdbphnofidaaDraw4
import Derived.Deep.RegionHeld3
namespace Go.Proofs.Ytialdbphnofidaa
open Go.RowKit
attribute [local go_sem ↓] Go.wp_at_zero Go.wp_at_succ

def DrR (w : World) (e : Ending) (w' : World) : Prop := ∃ A2 c2 L, ∃ x : Rc, e = .returned (.tuple #[.slice A2 L.length c2, x.val]) ∧ OGr w' w.heap.size 60 (.slice A2 L.length c2) L ∧ (L.length ≤ 4 ∧ x.small ∧ (∀ s ∈ L, s.length ≤ 4) ∧ L.length ≤ c2 ∧ c2 ≤ 9223372036854775807) ∧ Below w.heap.size w w'
theorem DrR.drew {w w' : World} {e : Ending} (h : DrR w e w') : DrR w e w'.drew := by
  obtain ⟨A2, c2, L, x, h1, h2, h3, h4⟩ := h
  exact ⟨A2, c2, L, x, h1, h2, h3, h4.drew⟩
theorem DrR.mk {w w4 : World} {L : List (List Int)} {x : Rc} {A2 : Option Addr} {c2 : Nat} (hO : OGr w4 (w.heap.size + 1) 60 (.slice A2 L.length c2) L) (hL : L.length ≤ 4) (hx : x.small) (hs : ∀ s ∈ L, s.length ≤ 4) (hb : Below w.heap.size w w4) :
    DrR w (.returned (.tuple #[.slice A2 L.length c2, x.val])) (((w4.setCell ⟨w.heap.size, 0, none⟩ (.int .i64 x.a)).setCell ⟨w.heap.size, 1, none⟩ (.int .i64 x.j)).setCell ⟨w.heap.size, 2, none⟩ (.int .i64 x.s)) := by
  have hgr := grown3 w4 w.heap.size (.int .i64 x.a) (.int .i64 x.j) (.int .i64 x.s)
  obtain ⟨A, c, e, h1, h2, h3⟩ := (hO.pick hgr (by omega)).form
  simp only [Value.slice.injEq, true_and] at e
  obtain ⟨rfl, rfl⟩ := e
  exact ⟨A2, c2, L, x, rfl, (hO.pick hgr (by omega)).weaken (by omega), ⟨hL, hx, hs, h2, h3⟩, hb.grown hgr hb.size (fun k e => by cases e; exact Nat.le_refl _)⟩

set_option maxRecDepth 100000 in
set_option maxHeartbeats 4000000 in
theorem specDrawRecodeValid (A : Option Addr) (c : Nat) (bs : List Int) (w : World) (h : Byt w A c bs) : Calls Try.prog 61 #[.slice A bs.length c] w (DrR w) := by
  have hb0 := (((Below.refl _ _).alloc (Nat.le_refl _) _) : Below w.heap.size w (w.alloc (.cells #[.int .i64 0, .int .i64 0, .int .i64 0] 28)))
  have hk0 := Blk.new w 28 #[.int .i64 0, .int .i64 0, .int .i64 0]
  have HB0 := Lib.hid (h.below hb0)
  clear h
  go_enter Try.func61, Try.ntmps61
  go_wp2_with fail
  refine (specOpen A c bs _ HB0.out).mono ?_
  rw [World.size_alloc]
  rintro e w1 ⟨rfl, hr1, hb1⟩
  have hk1 := hk0.below hb1 (by omega)
  have hs1 : w.heap.size + 1 < w1.heap.size := hr1.lt
  have hb01 := hb0.trans (hb1.mono (by omega))
  clear hk0 hb1 HB0 hb0
  go_wp2_with fail
  refine (specDLadder (w.heap.size + 1) 0 w1 hr1 (by omega)).mono ?_
  rintro e w2 ⟨v2, L, rfl, hL, hD2⟩
  have hk2 := hk1.grown hD2.2.2.1 (by omega)
  have hb2 := bel_of hb01 hD2.2.2.1 (by omega)
  have HO2 := Lib.hid (hD2.1.weaken (base' := w.heap.size + 2) (by omega))
  have HSM := Lib.hid hD2.2.2.2
  have hr2 := hD2.2.1
  obtain ⟨A2, c2, rfl, -, hLc, hcm⟩ := hD2.1.form
  clear hk1 hD2 hb01 hr1
  go_wp2_with fail
  refine (specDRecode (w.heap.size + 1) (0 + 8) A2 L.length c2 w2 hr2 (by omega) (by omega)).mono ?_
  rintro e w3 ⟨x, hxs, rfl, hr3, hgr3⟩
  have hk3 := (hk2.grown hgr3 (by omega)).alloc (.cells #[.int .i64 x.a, .int .i64 x.j, .int .i64 x.s] 28)
  have hb3 := bel_of hb2 hgr3 (by omega)
  have hb3' := hb3.alloc hb3.size (.cells #[.int .i64 x.a, .int .i64 x.j, .int .i64 x.s] 28)
  have hr3' := hr3.grown (World.grownBy_alloc w3 (.cells #[.int .i64 x.a, .int .i64 x.j, .int .i64 x.s] 28) none) (by simp) (fun _ e => by cases e)
  have HO3 := Lib.hid ((HO2.out.pick hgr3 (by omega)).alloc (.cells #[.int .i64 x.a, .int .i64 x.j, .int .i64 x.s] 28))
  have hm3 := Blk.new w3 28 #[.int .i64 x.a, .int .i64 x.j, .int .i64 x.s]
  have hs3 : w.heap.size + 1 < w3.heap.size := hr3.lt
  have HG23 := Lib.hid (hgr3.trans (World.grownBy_alloc w3 (.cells #[.int .i64 x.a, .int .i64 x.j, .int .i64 x.s] 28) _))
  have hw23 := hgr3.size
  clear hk2 hb2 hr2 hr3 hgr3 hb3
  go_wp2_with fail
  refine (specPick (w.heap.size + 1) (0 + 8 + 5) 8 _ hr3' (by omega) (by omega)).mono ?_
  rintro e w4 ⟨z, rfl, ⟨d0, d1, -⟩, hr4, hgr4, -⟩
  have hk4 := hk3.grown hgr4 (by omega)
  have hm4 := hm3.grown hgr4 (by omega)
  have hb4 := bel_of hb3' hgr4 (by omega)
  have HO4 := Lib.hid (HO3.out.pick hgr4 (by omega))
  have HG24 := Lib.hid (HG23.out.trans hgr4)
  clear hk3 hm3 hb3' HO3 hr3' hr4 hgr4
  have ho0 := hk4.cell 0
  have ho1 := hk4.cell 1
  have ho2 := hk4.cell 2
  have hf0 := hk4.frozen 0
  have hf1 := hk4.frozen 1
  have hf2 := hk4.frozen 2
  have hi0 := hm4.cell 0
  have hi1 := hm4.cell 1
  have hi2 := hm4.cell 2
  have hj2 := hm4.frozen 2
  simp at ho0 ho1 ho2 hi0 hi1 hi2
  have hne : w.heap.size ≠ w3.heap.size := by omega
  have hwl : w.heap.size < w4.heap.size := hk4.lt
  obtain ⟨xa, xj, xs⟩ := x
  dsimp only at *
  by_cases hz : z = 0
  · subst hz
    go_wp2
    have hk5 := hk4.far (p := ⟨w3.heap.size, 2, none⟩) hne (.int .i64 (-1))
    have hm5 := hm4.set 2 (.int .i64 (-1))
    have hg5 := grown_set w4 w3.heap.size 2 (.int .i64 (-1))
    have hb5 := hb4.grown hg5 hb4.size (fun k e => by cases e; omega)
    have HO5 := Lib.hid (HO2.out.hold (w' := w4.setCell ⟨w3.heap.size, 2, none⟩ (.int .i64 (-1))) (Nat.le_trans HG24.out.size hg5.size) (fun b hb hl => (Below.heap_setCell w4 ⟨w3.heap.size, 2, none⟩ _ b (by show b ≠ w3.heap.size; omega)).trans (HG24.out.block b hl (fun e => by simp at e; omega))))
    clear ho0 ho1 ho2 hf0 hf1 hf2 hi0 hi1 hi2 hj2 hk4 hm4 hg5 hb4 HO4
    generalize w4.setCell ⟨w3.heap.size, 2, none⟩ (.int .i64 (-1)) = w5 at *
    simp only [List.set_cons_zero, List.set_cons_succ] at hm5
    have ho0 := hk5.cell 0
    have ho1 := hk5.cell 1
    have ho2 := hk5.cell 2
    have hf0 := hk5.frozen 0
    have hf1 := hk5.frozen 1
    have hf2 := hk5.frozen 2
    have hi0 := hm5.cell 0
    have hi1 := hm5.cell 1
    have hi2 := hm5.cell 2
    simp at ho0 ho1 ho2 hi0 hi1 hi2
    go_region_held3 (fun w' => w'.cell? ⟨w3.heap.size, 0, none⟩ = some (.int .i64 xa) ∧ w'.cell? ⟨w3.heap.size, 1, none⟩ = some (.int .i64 xj) ∧ w'.cell? ⟨w3.heap.size, 2, none⟩ = some (.int .i64 (-1)))
      (go_keep)
      (fail)
    go_wp2
    have hq := set3 hk5 (.int .i64 xa) (.int .i64 xj) (.int .i64 (-1))
    have hq0 := hq.cell 0
    have hq1 := hq.cell 1
    have hq2 := hq.cell 2
    simp only [List.getElem?_cons_zero, List.getElem?_cons_succ] at hq0 hq1 hq2
    refine bodyPost_ret (v := .tuple #[.slice A2 L.length c2, Rc.val ⟨xa, xj, -1⟩]) ?_ rfl (DrR.drew (DrR.mk (x := ⟨xa, xj, -1⟩) (HO5.out.weaken (by omega)) hL (by obtain ⟨h1, h2, h3⟩ := hxs; exact ⟨h1, h2, by show (-10 : Int) ≤ -1; decide, by show (-1 : Int) ≤ 2000; decide⟩) HSM.out hb5))
    simp [results, Try.results61, go_sem, hq0, hq1, hq2]
  · have hzb : (z == 0) = false := by simp [hz]
    go_wp2
    go_region_held3 (fun w' => w'.cell? ⟨w3.heap.size, 0, none⟩ = some (.int .i64 xa) ∧ w'.cell? ⟨w3.heap.size, 1, none⟩ = some (.int .i64 xj) ∧ w'.cell? ⟨w3.heap.size, 2, none⟩ = some (.int .i64 (xs)))
      (go_keep)
      (fail)
    go_wp2
    have hq := set3 hk4 (.int .i64 xa) (.int .i64 xj) (.int .i64 (xs))
    have hq0 := hq.cell 0
    have hq1 := hq.cell 1
    have hq2 := hq.cell 2
    simp only [List.getElem?_cons_zero, List.getElem?_cons_succ] at hq0 hq1 hq2
    refine bodyPost_ret (v := .tuple #[.slice A2 L.length c2, Rc.val ⟨xa, xj, xs⟩]) ?_ rfl (DrR.drew (DrR.mk (x := ⟨xa, xj, xs⟩) (HO4.out.weaken (by omega)) hL hxs HSM.out hb4))
    simp [results, Try.results61, go_sem, hq0, hq1, hq2]

set_option maxRecDepth 100000 in
set_option maxHeartbeats 4000000 in
theorem specDrawAnonCost (A : Option Addr) (c : Nat) (bs : List Int) (w : World) (h : Byt w A c bs) : Calls Try.prog 24 #[.slice A bs.length c] w (DrR w) := by
  have hb0 := (((Below.refl _ _).alloc (Nat.le_refl _) _) : Below w.heap.size w (w.alloc (.cells #[.int .i64 0, .int .i64 0, .int .i64 0] 28)))
  have hk0 := Blk.new w 28 #[.int .i64 0, .int .i64 0, .int .i64 0]
  have HB0 := Lib.hid (h.below hb0)
  clear h
  go_enter Try.func24, Try.ntmps24
  go_wp2_with fail
  refine (specDrawRecodeValid A c bs _ HB0.out).mono ?_
  rintro e w1 ⟨A2, c2, L, ⟨xa, xj, xs⟩, rfl, hG, ⟨hL, hx, hs, hLc, hcm⟩, hb1⟩
  have hk1 := hk0.below hb1 (by simp)
  have hb01 := hb0.trans (hb1.mono hb0.size)
  have ho0 := hk1.cell 0
  have ho1 := hk1.cell 1
  have ho2 := hk1.cell 2
  have hf0 := hk1.frozen 0
  have hf1 := hk1.frozen 1
  have hf2 := hk1.frozen 2
  simp at ho0 ho1 ho2
  have HG := Lib.hid hG
  clear hG
  go_wp2
  have hq := set3 hk1 (.int .i64 xa) (.int .i64 xj) (.int .i64 xs)
  have hq0 := hq.cell 0
  have hq1 := hq.cell 1
  have hq2 := hq.cell 2
  simp only [List.getElem?_cons_zero, List.getElem?_cons_succ] at hq0 hq1 hq2
  refine bodyPost_ret (v := .tuple #[.slice A2 L.length c2, Rc.val ⟨xa, xj, xs⟩]) ?_ rfl (DrR.mk (x := ⟨xa, xj, xs⟩) (by have := HG.out; rw [World.size_alloc] at this; exact this) hL hx hs hb01)
  simp [results, Try.results24, go_sem, hq0, hq1, hq2]
end Go.Proofs.Ytialdbphnofidaa
