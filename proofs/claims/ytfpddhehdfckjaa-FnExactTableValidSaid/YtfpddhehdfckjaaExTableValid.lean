/- FnExactTableValid, walked: true, and nothing that was there has turned. -/
import Derived.Test.YtfpddhehdfckjaaTable
import Derived.Test.YtfpddhehdfckjaaSzeqInt
namespace Go.Proofs.Ytfpddhehdfckjaa.WFnExactTableValid
open Go.RowKit
set_option linter.unusedVariables false

set_option maxHeartbeats 1000000 in
theorem walk (w : World) (A : Option Addr) (c : Nat) (L : List (List Int)) (hn : L.length ≤ 9223372036854775807) (hg : Grd w w.heap.size A (L.map (·.map (Value.int .i64)))) (hLb : ∀ r ∈ L, ∀ z ∈ r, -9223372036854775808 ≤ z ∧ z ≤ 9223372036854775807) :
    Calls Try.prog 3 #[.slice A L.length c] w fun e w' => e = .returned (.bool true) ∧ Below w.heap.size w w' := by
  clear hLb
  by_cases ht : tot L ≤ 1048576
  · have hx0 : 0 ≤ szR 1048576 (tot L) := by rw [szR_yes (by omega)]; omega
    have hLl : L.length ≤ 1048576 := by unfold tot at ht; omega
    have HL := Lib.hid (fun r hr => Nat.le_trans (len_le L _ ht r hr) (show 1048576 ≤ 2000000 by decide))
    go_enter Try.func3, Try.ntmps3
    go_wp2_with fail
    refine (SzInt.szSS A c L _ w hg (by omega) (by omega) hn).mono ?_
    rintro e w' ⟨rfl, rfl⟩
    go_wp2_with fail
    refine (SzInt.toSS A c L w hg (by omega) HL.out).mono ?_
    rintro e w1 ⟨rfl, ho1, hb1⟩
    have hz1 := hb1.size
    go_wp2_with fail
    refine (specTableValid _ _ L w1 (Grd.of_tot ho1 (Below.refl _ _) ht) (by omega)).mono ?_
    rintro e w2 ⟨⟨b, rfl, hb⟩, hb2⟩
    have HBI := Lib.hid hb
    clear hb
    have hb02 := hb1.trans (hb2.mono hz1)
    have hz2 := hb02.size
    go_wp2_with fail
    refine (SzInt.toSS A c L w2 ((hg.below hb02).more hz2) (by omega) HL.out).mono ?_
    rintro e w3 ⟨rfl, ho3, hb3⟩
    have hb03 := hb02.trans (hb3.mono hz2)
    go_wp2_with fail
    refine (implTableValid _ _ L w3 (Grd.of_tot ho3 (Below.refl _ _) ht) (by omega)).mono ?_
    rintro e w' ⟨⟨b', rfl, hb'⟩, rfl⟩
    have hbb : b' = b := by
      have h1 := HBI.out
      cases b <;> cases b' <;> simp_all
    subst hbb
    clear hb'
    have e0 : (b' != b') = false := by cases b' <;> rfl
    go_wp2_with fail
    refine (SzInt.toSS A c L w3 ((hg.below hb03).more hb03.size) (by omega) HL.out).mono ?_
    rintro e w4 ⟨rfl, ho4, hb4⟩
    have hb04 := hb03.trans (hb4.mono hb03.size)
    go_wp2_with fail
    refine (SzInt.eqSS _ _ _ _ L w4 (Grd.of_tot ho3 hb4 ht) (Grd.of_tot ho4 (Below.refl _ _) ht) (by omega) HL.out).mono ?_
    rintro e w' ⟨rfl, n, rfl⟩
    go_wp2
    go_ret
    exact ⟨rfl, bdrewN hb04 _⟩
  · have hx0 : szR 1048576 (tot L) < 0 := by rw [szR_no (by omega)]; decide
    go_enter Try.func3, Try.ntmps3
    go_wp2_with (go_at_call 15; refine (SzInt.szSS A c L _ w hg (by omega) (by omega) hn).mono ?_; rintro e w' ⟨rfl, rfl⟩)
    go_ret
    exact ⟨rfl, Below.refl _ _⟩
end Go.Proofs.Ytfpddhehdfckjaa.WFnExactTableValid
