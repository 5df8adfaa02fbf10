/- PersonValid, PeopleValid: the program's and the reference's. -/
import Derived.Test.YtfpddhehdfckjaaChecked
import Derived.Test.YtfpddhehdfckjaaMem
import Derived.Test.YtfpddhehdfckjaaPure
import Derived.WalkKit
import Derived.LoopTactic
namespace Go.Proofs.Ytfpddhehdfckjaa
open Go.RowKit

theorem implPersonValid (p : Pn) (w : World) :
    Calls Try.prog 76 #[p.val] w fun e w' => RB p.good e ∧ Below w.heap.size w w' := by
  obtain ⟨a, j, s, q⟩ := p
  unfold Pn.val
  dsimp only
  go_enter Try.func76, Try.ntmps76
  go_wp2
  all_goals go_ret
  all_goals refine ⟨?_, (Below.refl _ _).alloc (Nat.le_refl _) _⟩
  all_goals first
    | exact RB.no (by unfold Pn.good; dsimp only; omega)
    | exact ⟨_, rfl, by unfold Pn.good; dsimp only; simp only [decide_eq_true_eq]; omega⟩

set_option maxHeartbeats 400000 in
theorem implPeopleValid (A : Option Addr) (c : Nat) (l : List Pn) (w : World) (hg : Ppl w w.heap.size A l) (hn : l.length ≤ 2000000) :
    Calls Try.prog 58 #[.slice A l.length c] w fun e w' => RB (goodL l) e ∧ Below w.heap.size w w' := by
  go_enter Try.func58, Try.ntmps58
  go_wp2
  go_loopw [7] (fun i wr => ∃ pre suf, Cut l pre suf ∧ i = .int .i64 pre.length ∧ Hid (∀ p ∈ pre, p.good) ∧ Below w.heap.size w wr) (fun i _ => l.length - (intOf i).toNat)
  case atStart => exact ⟨[], l, Cut.zero _, rfl, by unfold Hid; simp, Below.refl _ _⟩
  case round =>
    obtain ⟨pre, suf, hcut, rfl, hall, hbel⟩ := hrel
    cases suf with
    | nil =>
      have hge := hcut.len0
      go_wp2
      go_ret
      refine ⟨⟨_, rfl, ?_⟩, hbel⟩
      have := hall.out
      rw [hcut.done] at this
      unfold goodL
      simp only [decide_eq_true_eq]
      constructor
      · intro h; exact ⟨this, by omega⟩
      · intro h; have := h.2; omega
    | cons p suf =>
      have hlt := hcut.len1
      obtain ⟨b, off, rfl, hb, hc0, hc1, hc2, hc3⟩ := (Ppl.below hg hbel).at_ hcut.at_
      have hbs := hbel.size
      go_wp2_with fail
      refine (implPersonValid p _).mono ?_
      rintro e w1 ⟨hrb, hb1⟩
      have hbl := (hbel.alloc hbs _).trans (hb1.mono (by simp; omega))
      clear hb1
      rcases hrb.split with ⟨rfl, HG⟩ | ⟨rfl, HG⟩
      · go_wp2
        go_roundw
        case rel => exact ⟨pre ++ [p], suf, hcut.next, by simp, all_snoc hall HG, hbl⟩
        case measure => simp [intOf]; omega
      · go_wp2
        go_ret
        exact ⟨RB.no (fun h => HG.out (h.1 p hcut.mem)), hbl⟩

theorem specIn (n lo hi : Int) (w : World) : Calls Try.prog 48 #[.int .i64 n, .int .i64 lo, .int .i64 hi] w fun e w' => e = .returned (.bool (inB n lo hi)) ∧ w' = w := by
  go_enter Try.func48, Try.ntmps48
  go_wp2
  all_goals go_ret
  all_goals refine ⟨?_, rfl⟩
  all_goals refine congrArg (fun b => Ending.returned (.bool b)) ?_
  all_goals first
    | (rw [inB_no (by omega)]; done)
    | (unfold inB; simp only [decide_eq_decide]; omega)

theorem specPersonValid (p : Pn) (w : World) :
    Calls Try.prog 89 #[p.val] w fun e w' => RB p.good e ∧ Below w.heap.size w w' := by
  obtain ⟨a, j, s, q⟩ := p
  unfold Pn.val
  dsimp only
  go_enter Try.func89, Try.ntmps89
  go_wp2
  all_goals go_ret
  all_goals refine ⟨?_, (Below.refl _ _).alloc (Nat.le_refl _) _⟩
  all_goals first
    | exact RB.no (by unfold Pn.good; dsimp only; omega)
    | exact ⟨_, rfl, by unfold Pn.good; dsimp only; simp only [decide_eq_true_eq]; omega⟩

set_option maxHeartbeats 400000 in
theorem specPeopleValid (A : Option Addr) (c : Nat) (l : List Pn) (w : World) (hg : Ppl w w.heap.size A l) (hn : l.length ≤ 2000000) :
    Calls Try.prog 86 #[.slice A l.length c] w fun e w' => RB (goodL l) e ∧ Below w.heap.size w w' := by
  go_enter Try.func86, Try.ntmps86
  go_wp2
  go_loopw [3] (fun i wr => ∃ pre suf, Cut l pre suf ∧ i = .int .i64 pre.length ∧ Hid (∀ p ∈ pre, p.good) ∧ Below w.heap.size w wr) (fun i _ => l.length - (intOf i).toNat)
  case atStart => exact ⟨[], l, Cut.zero _, rfl, by unfold Hid; simp, Below.refl _ _⟩
  case round =>
    obtain ⟨pre, suf, hcut, rfl, hall, hbel⟩ := hrel
    cases suf with
    | nil =>
      have hge := hcut.len0
      go_wp2
      go_ret
      refine ⟨⟨_, rfl, ?_⟩, hbel⟩
      have := hall.out
      rw [hcut.done] at this
      unfold goodL
      simp only [decide_eq_true_eq]
      constructor
      · intro h; exact ⟨this, by omega⟩
      · intro h; have := h.2; omega
    | cons p suf =>
      have hlt := hcut.len1
      obtain ⟨b, off, rfl, hb, hc0, hc1, hc2, hc3⟩ := (Ppl.below hg hbel).at_ hcut.at_
      have hbs := hbel.size
      go_wp2_with fail
      refine (specPersonValid p _).mono ?_
      rintro e w1 ⟨hrb, hb1⟩
      have hbl := hbel.trans (hb1.mono hbs)
      clear hb1
      rcases hrb.split with ⟨rfl, HG⟩ | ⟨rfl, HG⟩
      · go_wp2
        go_roundw
        case rel => exact ⟨pre ++ [p], suf, hcut.next, by simp, all_snoc hall HG, hbl⟩
        case measure => simp [intOf]; omega
      · go_wp2
        go_ret
        exact ⟨RB.no (fun h => HG.out (h.1 p hcut.mem)), hbl⟩
end Go.Proofs.Ytfpddhehdfckjaa
