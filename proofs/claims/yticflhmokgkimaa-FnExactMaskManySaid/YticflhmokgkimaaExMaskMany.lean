/- FnExactMaskMany, walked: true, and nothing that was there has turned. -/
import Derived.Test.YticflhmokgkimaaMaskMany
import Derived.Test.YticflhmokgkimaaSzeqBool
namespace Go.Proofs.Yticflhmokgkimaa.WFnExactMaskMany
open Go.RowKit
theorem cnt_le (rs : List (List Bool)) : cntBB rs ≤ lens rs := by
  induction rs with
  | nil => simp [cntBB, lens]
  | cons r rs ih => have := cntB_le r; simp [cntBB, lens] at *; omega

set_option maxHeartbeats 400000 in
theorem walk (w : World) (A : Option Addr) (c : Nat) (rs : List (List Bool)) (hn : rs.length ≤ 9223372036854775807) (hg : Grd w w.heap.size A (rs.map (·.map Value.bool))) :
    Calls Try.prog 3 #[.slice A rs.length c] w fun e w' => e = .returned (.bool true) ∧ Below w.heap.size w w' := by
  by_cases ht : tot rs ≤ 1048576
  · have hx0 : 0 ≤ szR 1048576 (tot rs) := by rw [szR_yes (by omega)]; omega
    have hcl := cnt_le rs
    have htl : rs.length + lens rs ≤ 1048576 := ht
    have HL := Lib.hid (fun r hr => Nat.le_trans (len_le rs _ ht r hr) (show 1048576 ≤ 2000000 by decide))
    go_enter Try.func3, Try.ntmps3
    go_wp2_with fail
    refine (SzBool.szSS A c rs _ w hg (by omega) (by omega) hn).mono ?_
    rintro e w' ⟨rfl, rfl⟩
    go_wp2_with fail
    refine (SzBool.toSS A c rs w hg (by omega) HL.out).mono ?_
    rintro e w1 ⟨rfl, ho1, hb1⟩
    have hz1 := hb1.size
    go_wp2_with fail
    refine (specMaskMany _ _ rs w1 (Grd.of_tot ho1 (Below.refl _ _) ht) (by omega) (by omega)).mono ?_
    rintro e w' ⟨rfl, rfl⟩
    go_wp2_with fail
    refine (SzBool.toSS A c rs w1 ((hg.below hb1).more hz1) (by omega) HL.out).mono ?_
    rintro e w2 ⟨rfl, ho2, hb2⟩
    have hz2 := hb2.size
    go_wp2_with fail
    refine (implMaskMany _ _ rs w2 (Grd.of_tot ho2 (Below.refl _ _) ht) (by omega) (by omega)).mono ?_
    rintro e w' ⟨rfl, rfl⟩
    have hb12 := Bel2 hb1 hb2
    go_wp2_with fail
    refine (SzBool.toSS A c rs w2 ((hg.below hb12).more (by omega)) (by omega) HL.out).mono ?_
    rintro e w3 ⟨rfl, ho3, hb3⟩
    have hz3 := hb3.size
    go_wp2_with fail
    refine (SzBool.eqSS _ _ _ _ rs w3 (Grd.of_tot ho2 hb3 ht) (Grd.of_tot ho3 (Below.refl _ _) ht) (by omega) HL.out).mono ?_
    rintro e w' ⟨rfl, n, rfl⟩
    go_wp2
    go_ret
    exact ⟨rfl, bdrewN (Bel2 hb12 hb3) _⟩
  · have hx0 : szR 1048576 (tot rs) < 0 := by rw [szR_no (by omega)]; decide
    go_enter Try.func3, Try.ntmps3
    go_wp2_with (go_at_call 8; refine (SzBool.szSS A c rs _ w hg (by omega) (by omega) hn).mono ?_; rintro e w' ⟨rfl, rfl⟩)
    go_ret
    exact ⟨rfl, Below.refl _ _⟩
end Go.Proofs.Yticflhmokgkimaa.WFnExactMaskMany
