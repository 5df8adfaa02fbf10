/- spec.DrawMaskValid, spec.DrawMaskMany: a table and a mask of the draw's own. -/
import Derived.Test.YtfhidimmaeiiaaaTab
import Derived.Test.YtfhidimmaeiiaaaMsk
import Derived.Test.YtfhidimmaeiiaaaVGr2
namespace Go.Proofs.Ytfhidimmaeiiaaa
open Go.RowKit
set_option linter.unusedSimpArgs false
attribute [local go_sem ↓] Go.wp_at_zero Go.wp_at_succ

/-- What drawing a table and a mask hands back. -/
def DMV (w : World) (e : Ending) (w' : World) : Prop := ∃ tv ns mv ms, e = .returned (.tuple #[tv, mv]) ∧ (ns.length ≤ 4 ∧ ∀ n ∈ ns, n ≤ 4) ∧ (ms.length ≤ 5 ∧ ∀ n ∈ ms, n ≤ 5) ∧
  VG (Value.int .i64) w' w.heap.size 3 31 tv ns ∧ VG Value.bool w' w.heap.size 4 36 mv ms ∧ Below w.heap.size w w'

set_option maxRecDepth 100000 in
set_option maxHeartbeats 8000000 in
theorem specDrawMaskValid (A : Option Addr) (c : Nat) (bs : List Int) (w : World) (h : Byt w A c bs) : Calls Try.prog 13 #[.slice A bs.length c] w (DMV w) := by
  obtain ⟨k0, hk, hx0, hx1, hx2⟩ := info_parts infoBo
  go_enter Try.func13, Try.ntmps13
  go_wp2_with fail
  refine (specOpen A c bs _ h).mono ?_
  rintro e w1 ⟨rfl, hr1, hb1⟩
  have HG1 := Lib.hid hr1.lt
  have HB1 := Lib.hid hb1
  clear h hb1
  go_wp2_with fail
  refine (specDTable w.heap.size 0 9 w1 hr1 (by omega) (by omega)).mono ?_
  rintro e w2 ⟨tv, ns, rfl, ⟨hn4, hnn⟩, hV2, hr2, hgr2⟩
  have HNN := Lib.hid hnn
  have HG2 := Lib.hid hr2.lt
  clear hr1 hnn
  go_wp2_with fail
  refine (specDMask w.heap.size (0 + 20) w1.heap.size tv ns w2 hr2 (by omega) hV2 HG1.out hn4 HNN.out).mono ?_
  rintro e w3 ⟨mv, ms, rfl, ⟨hm5, hmm⟩, hM3, hr3, hgr3⟩
  have HV2 := Lib.hid hV2
  have HM3 := Lib.hid hM3
  have HR3 := Lib.hid hr3
  have HMM := Lib.hid hmm
  have HG12 := Lib.hid hgr2
  have HG23 := Lib.hid hgr3
  obtain ⟨mA, mc, rfl, hmc, hmc2, hmsh⟩ := hM3.shape
  have HSH := Lib.hid hmsh
  have HN4 := Lib.hid hn4
  clear hV2 hr2 hgr2 hM3 hr3 hgr3 hmm hmsh hn4
  by_cases hm0 : 0 < ms.length
  · have hb0 : decide (0 < ms.length) = true := by simp [hm0]
    obtain ⟨mg, rfl, hmg1, hmg2⟩ := HSH.out hm0
    go_wp2_with fail
    refine (specPick w.heap.size (0 + 20 + 20) 8 _ HR3.out (by omega) (by omega)).mono ?_
    rintro e w4 ⟨z, rfl, -, -, hgr4, -⟩
    have HM4 := Lib.hid (HM3.out.pick hgr4 HG2.out)
    have HG24 := Lib.hid (HG23.out.trans hgr4)
    clear hgr4 HM3 HR3 HG23
    by_cases hz0 : z = 0
    · subst hz0
      obtain ⟨n0, hn0⟩ : ∃ n0, ms[0]? = some n0 := ⟨_, List.getElem?_eq_getElem hm0⟩
      have hn04 : n0 ≤ 4 := HMM.out n0 (List.mem_of_getElem? hn0)
      obtain ⟨rA, rc, s0, hrow, hrc, hrm, hsl, hown0, hne0, hgr0⟩ := HM4.out.grow hn0
      have hfz := HM4.out.frz 0
      have HW24 := Lib.hid HG24.out.size
      have HMG := Lib.hid (HM4.out.blk_lt mg rfl)
      have HMB := Lib.hid (show w2.heap.size ≤ mg from hmg1)
      have HGR0 := Lib.hid hgr0
      have HNE0 := Lib.hid hne0
      have HOB := Lib.hid (own_base hown0)
      have HSL := Lib.hid hsl
      clear hgr0 hne0 hn0 hmg1 hmg2 hsl
      go_wp2_with (at_builtin; go_must (refine wpList_append_own_at _ rfl _ _ 36 rfl w2.heap.size 4 k0 _ 1 1 Try.underlying36 hk hx0 hx1 hx2 rfl (by decide) _ _ _ rfl (World.ownsRow.alloc hown0 _) ⟨w4.heap.size, 0, none⟩ 1 1 [_] rfl rfl (cellN _ _ _ _ rfl) (by simp [Value.oneCell']) (by unfold maxLen; omega) (by omega) (by have := HW24.out; simp; omega) ?_))
      intro v' w5 hown' hgrow _ hloc
      have hblk : w5.heap[mg]? = w4.heap[mg]? := (hgrow.block mg (by have := HMG.out; simp; omega) (fun e => HNE0.out mg e.symm rfl)).trans (Below.heap_alloc w4 _ mg HMG.out)
      have hc5 := (World.cell?_of_block (a := ⟨mg, 0, none⟩) hblk).trans hrow
      have hf5 := (World.frozen?_of_block (a := ⟨mg, 0, none⟩) hblk).trans hfz
      have hown2 : w5.ownsRow w2.heap.size 4 1 v' (n0 + 1) ((s0 ++ [false]).map Value.bool) := by rw [List.map_append]; exact hown'
      have HV5 := Lib.hid (HGR0.out w5 v' _ (s0 ++ [false]) hown2 hgrow (by simpa using hloc))
      have HG25 : Hid (w2.grownBy (w5.setCell ⟨mg, 0, none⟩ v') (some w.heap.size)) := ((HG24.out.trans (World.grownBy_alloc w4 _ _)).andThen hgrow (fun k e => .inl (HOB.out k e))).andThen (grown_set w5 mg 0 v') (fun k e => by cases e; exact .inl HMB.out)
      obtain ⟨A7, c7, rfl, -, -, -⟩ := own_rds hown2 (by rw [List.length_append, HSL.out]; rfl)
      clear hblk hown2 hown' hgrow hloc HGR0 HM4 hown0 hrow hfz HOB
      go_wp2
      go_ret2
      exact ⟨tv, ns, _, ms.set 0 (n0 + 1), rfl, ⟨HN4.out, HNN.out⟩, ⟨by simpa using hm5, fun n hn => by rcases List.mem_or_eq_of_mem_set hn with h1 | h1; (· have := HMM.out n h1; omega); (· omega)⟩,
        (HV2.out.pick HG25.out HG1.out).weaken (by have := HG1.out; omega), HV5.out.weaken (by have := HG2.out; omega), HB1.out.grown (HG12.out.trans HG25.out) HB1.out.size (fun k e => by cases e; exact Nat.le_refl _)⟩
    · have hz0b : (z == 0) = false := by simp [hz0]
      go_wp2
      go_ret2
      exact ⟨tv, ns, _, ms, rfl, ⟨HN4.out, HNN.out⟩, ⟨hm5, fun n hn => by have := HMM.out n hn; omega⟩,
        (HV2.out.pick HG24.out HG1.out).weaken (by have := HG1.out; omega), HM4.out.weaken (by have := HG2.out; omega), HB1.out.grown (HG12.out.trans HG24.out) HB1.out.size (fun k e => by cases e; exact Nat.le_refl _)⟩
  · have hb0 : decide (0 < ms.length) = false := decide_eq_false hm0
    have hb1 : decide ((0 : Int) < (ms.length : Int)) = false := decide_eq_false (by omega)
    have hb2 : ¬ (0 : Int) < (ms.length : Int) := by omega
    clear hm0
    go_wp2
    go_ret2
    exact ⟨tv, ns, _, ms, rfl, ⟨HN4.out, HNN.out⟩, ⟨hm5, fun n hn => by have := HMM.out n hn; omega⟩,
      (HV2.out.pick HG23.out HG1.out).weaken (by have := HG1.out; omega), HM3.out.weaken (by have := HG2.out; omega), HB1.out.grown (HG12.out.trans HG23.out) HB1.out.size (fun k e => by cases e; exact Nat.le_refl _)⟩

theorem specDrawMaskMany (A : Option Addr) (c : Nat) (bs : List Int) (w : World) (h : Byt w A c bs) : Calls Try.prog 6 #[.slice A bs.length c] w fun e w' => ∃ v ms, e = .returned v ∧ (ms.length ≤ 5 ∧ ∀ n ∈ ms, n ≤ 5) ∧ VG Value.bool w' w.heap.size 4 36 v ms ∧ Below w.heap.size w w' := by
  go_enter Try.func6, Try.ntmps6
  go_wp2_with fail
  refine (specDrawMaskValid A c bs w h).mono ?_
  rintro e w1 ⟨tv, ns, mv, ms, rfl, -, hm, -, hM, hb⟩
  have HM := Lib.hid hM
  have HMM := Lib.hid hm
  clear hM hm h
  go_wp2
  go_ret
  exact ⟨mv, ms, rfl, HMM.out, HM.out, hb⟩
end Go.Proofs.Ytfhidimmaeiiaaa
