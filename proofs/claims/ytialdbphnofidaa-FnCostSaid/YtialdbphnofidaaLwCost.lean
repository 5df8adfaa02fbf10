/- FnCost, walked. -/
import Derived.Test.YtialdbphnofidaaLawKit
import Derived.Test.YtialdbphnofidaaCost
import Derived.Test.YtialdbphnofidaaDrwRecode
namespace Go.Proofs.Ytialdbphnofidaa.WFnCost
open Go.RowKit
set_option linter.unusedVariables false

theorem grd_alloc {w : World} {A : Option Addr} {rs : List (List Value)} (h : Grd w w.heap.size A rs) (o : Obj) : Grd (w.alloc o) (w.alloc o).heap.size A rs := (h.below ((Below.refl _ _).alloc (Nat.le_refl _) o)).more (by simp)

set_option maxRecDepth 100000 in
set_option maxHeartbeats 4000000 in
theorem walk (w : World) (A : Option Addr) (c : Nat) (bs : List Int) (hn : bs.length ≤ 9223372036854775807) (hec : bs.length ≤ c ∧ c ≤ 9223372036854775807) (hg : Rds w w.heap.size 1 A bs.length (bs.map (Value.int .u8))) (hb : ∀ z ∈ bs, 0 ≤ z ∧ z ≤ 255) : Calls Try.prog 5 #[.slice A bs.length c] w fun e w' => e = .returned (.bool true) ∧ Below w.heap.size w w' := by
  have hB : Byt w A c bs := ⟨hg, hec.1, hec.2, hb⟩
  clear hg hb
  by_cases hbig : bs.length ≤ 1048576
  · go_enter Try.func5, Try.ntmps5
    go_wp2_with fail
    refine (specDrawAnonCost A c bs w hB).mono ?_
    rintro e w1 ⟨A2, c2, L, ⟨xa, xj, xs⟩, rfl, hO, ⟨hL4, hxs, hrs, hLc, hcm⟩, hb1⟩
    obtain ⟨A3, c3, e3, hG, -, -⟩ := hO.form
    simp only [Value.slice.injEq, true_and] at e3
    obtain ⟨rfl, rfl⟩ := e3
    have HRS := Lib.hid (fun s hs => Nat.le_trans (hrs s hs) (show 4 ≤ 2000000 by decide))
    have hG2 := grd_alloc hG (.cells #[.int .i64 xa, .int .i64 xj, .int .i64 xs] 28)
    have hk2 := Blk.new w1 28 #[.int .i64 xa, .int .i64 xj, .int .i64 xs]
    have hB2 := hb1.alloc hb1.size (.cells #[.int .i64 xa, .int .i64 xj, .int .i64 xs] 28)
    clear hO hG hb1 hrs hB
    obtain ⟨V, hV⟩ : ∃ V, V = aCost L ⟨xa, xj, xs⟩ := ⟨_, rfl⟩
    have HV := Lib.hid hV
    clear hV
    go_wp2_with fail
    refine (implAnonCost _ _ L ⟨xa, xj, xs⟩ _ hG2 (by omega) HRS.out).mono ?_
    rw [← HV.out]
    rintro e w3 ⟨rfl, hb3⟩
    have hG3 := (hG2.below hb3).more hb3.size
    have hk3 := hk2.below hb3 hk2.lt
    have hB3 := hB2.trans (hb3.mono hB2.size)
    have hc0 := hk3.cell 0
    have hc1 := hk3.cell 1
    have hc2 := hk3.cell 2
    simp at hc0 hc1 hc2
    clear hb3 hk2 hG2 hB2
    go_wp2_with fail
    refine (specAnonCost _ _ L ⟨xa, xj, xs⟩ _ hG3 (by omega) HRS.out).mono ?_
    rw [← HV.out]
    rintro e w4 ⟨rfl, hb4⟩
    have hG4 := (hG3.below hb4).more hb4.size
    have hk4 := hk3.below hb4 hk3.lt
    have hB4 := hB3.trans (hb4.mono hB3.size)
    clear hc0 hc1 hc2
    have hc0 := hk4.cell 0
    have hc1 := hk4.cell 1
    have hc2 := hk4.cell 2
    simp at hc0 hc1 hc2
    have hlt4 : w1.heap.size < w4.heap.size := hk4.lt
    clear hb4 hk3 hG3 hB3
    by_cases hok : goodR L ⟨xa, xj, xs⟩
    · have hV1 := HV.out.trans (if_pos hok)
      dsimp only at hV1
      obtain ⟨hlad, ⟨a0, a1⟩, hj, hs⟩ := hok
      dsimp only at a0 a1 hj hs
      have hok2 : goodR L ⟨xa, 1, xs⟩ := ⟨hlad, ⟨a0, a1⟩, .inr rfl, hs⟩
      have HY := Lib.hid (show aCost L ⟨xa, 1, xs⟩ = xa + 1 + xs from if_pos hok2)
      have hj0 : 0 ≤ xj := by omega
      have hj1 : xj ≤ 1 := by omega
      have hs0 : 0 ≤ xs := by omega
      have hs1 : xs ≤ 1 := by omega
      clear hok2 hlad hj hs
      subst hV1
      have hG5 := grd_alloc hG4 (.cells #[.int .i64 xa, .int .i64 1, .int .i64 xs] 28)
      have hB5 := hB4.alloc hB4.size (.cells #[.int .i64 xa, .int .i64 1, .int .i64 xs] 28)
      have hk5 := Blk.new w4 28 #[.int .i64 xa, .int .i64 1, .int .i64 xs]
      have hLL : (L.length : Int) ≤ 4 := by omega
      rcases (show xa = 0 ∧ xj = 0 ∧ xs = 0 ∨ 1 ≤ xa ∨ xa = 0 ∧ xj = 1 ∨ xa = 0 ∧ xj = 0 ∧ xs = 1 by omega) with ⟨rfl, rfl, rfl⟩ | hx1 | ⟨rfl, rfl⟩ | ⟨rfl, rfl, rfl⟩
      case' inr.inl =>
        have h9 : ((xa + xj + xs : Int) == 0) = false := beq_eq_false_iff_ne.2 (by omega)
        have h8 : (xa == 0) = false := beq_eq_false_iff_ne.2 (by omega)
        have h7 : ¬ xa = 0 := by omega
      case' inr.inr.inl =>
        have h9 : ((0 + 1 + xs : Int) == 0) = false := beq_eq_false_iff_ne.2 (by omega)
        have h8 : ((1 + xs : Int) == 0) = false := beq_eq_false_iff_ne.2 (by omega)
      all_goals
        go_wp2_with fail
        refine (implAnonCost _ _ L ⟨_, 1, _⟩ _ hG5 (by omega) HRS.out).mono ?_
        rw [HY.out]
        rintro e w6 ⟨rfl, hb6⟩
        have hk6 := hk5.below hb6 hk5.lt
        have hG6 := (hG5.below hb6).more hb6.size
        have hB6 := hB5.trans (hb6.mono hB5.size)
        have hd0 := hk6.cell 0
        have hd1 := hk6.cell 1
        have hd2 := hk6.cell 2
        simp at hd0 hd1 hd2
        go_wp2_with fail
        refine (implAnonCost _ _ L ⟨_, 1, _⟩ _ hG6 (by omega) HRS.out).mono ?_
        rw [HY.out]
        rintro e w7 ⟨rfl, hb7⟩
        go_wp2
        go_ret
        refine ⟨?_, hB6.trans (hb7.mono hB6.size)⟩
        first
          | rfl
          | (refine congrArg (fun b => Ending.returned (.bool b)) ?_; simp only [decide_eq_true_eq]; omega)
    · have hV1 : V < 0 := val_not (HV.out.trans (if_neg hok))
      go_wp2
      go_ret
      exact ⟨rfl, hB4⟩
  · have hbig2 : 1048576 < bs.length := by omega
    go_enter Try.func5, Try.ntmps5
    go_wp2
    go_ret
    exact ⟨rfl, Below.refl _ _⟩
end Go.Proofs.Ytialdbphnofidaa.WFnCost
