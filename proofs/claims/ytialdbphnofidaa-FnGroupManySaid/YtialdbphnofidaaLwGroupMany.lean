/- FnGroupMany, walked. -/
import Derived.Test.YtialdbphnofidaaLawKit
import Derived.Test.YtialdbphnofidaaGrpI
import Derived.Test.YtialdbphnofidaaDrwGroupMany
namespace Go.Proofs.Ytialdbphnofidaa.WFnGroupMany
open Go.RowKit
set_option linter.unusedVariables false

set_option maxRecDepth 100000 in
set_option maxHeartbeats 4000000 in
theorem walk (w : World) (A : Option Addr) (c : Nat) (bs : List Int) (hn : bs.length ≤ 9223372036854775807) (hec : bs.length ≤ c ∧ c ≤ 9223372036854775807) (hg : Rds w w.heap.size 1 A bs.length (bs.map (Value.int .u8))) (hb : ∀ z ∈ bs, 0 ≤ z ∧ z ≤ 255) : Calls Try.prog 10 #[.slice A bs.length c] w fun e w' => e = .returned (.bool true) ∧ Below w.heap.size w w' := by
  have hB : Byt w A c bs := ⟨hg, hec.1, hec.2, hb⟩
  clear hg hb
  by_cases hbig : bs.length ≤ 1048576
  · go_enter Try.func10, Try.ntmps10
    go_wp2_with fail
    refine (specDrawGroupMany A c bs w hB).mono ?_
    rintro e w1 ⟨A1, c1, l, A2, c2, L, ⟨xa, xj, xs⟩, rfl, hA, hD, hb1⟩
    have hD0 := Lib.hid hD
    obtain ⟨hl10, hL4, hxs, hps, hrs, hlc, hcm, hLc, hcm2⟩ := hD
    clear hps hrs hxs hB
    have hW2 : LW (w1.alloc (.cells #[.int .i64 xa, .int .i64 xj, .int .i64 xs] 28)) A1 l A2 L w1.heap.size xa xj xs := ⟨hA.below ((Below.refl _ _).alloc (Nat.le_refl _) _), Blk.new w1 _ _⟩
    have hB2 := hb1.alloc hb1.size (.cells #[.int .i64 xa, .int .i64 xj, .int .i64 xs] 28)
    clear hA hb1
    obtain ⟨V, hV⟩ : ∃ V, V = gMany l L ⟨xa, xj, xs⟩ := ⟨_, rfl⟩
    have HV := Lib.hid hV
    clear hV
    go_wp2_with fail
    refine (implGroupMany _ _ _ _ l L ⟨xa, xj, xs⟩ _ hW2.1).mono ?_
    rw [← HV.out]
    rintro e w3 ⟨rfl, hb3⟩
    have hW3 := hW2.below hb3
    have hB3 := hB2.trans (hb3.mono hB2.size)
    obtain ⟨hc0, hc1, hc2⟩ := hW3.cells
    clear hW2 hB2 hb3
    go_wp2_with fail
    refine (specGroupMany _ _ _ _ l L ⟨xa, xj, xs⟩ _ hW3.1).mono ?_
    rw [← HV.out]
    rintro e w4 ⟨rfl, hb4⟩
    have hW4 := hW3.below hb4
    have hB4 := hB3.trans (hb4.mono hB3.size)
    obtain ⟨hc0, hc1, hc2⟩ := hW4.cells
    clear hW3 hB3 hb4
    by_cases hok : okA l L ⟨xa, xj, xs⟩
    · have hV1 := HV.out.trans (gMany_yes hok rfl)
      have HX := Lib.hid hok
      have hx1 := many_least (recd L ⟨xa, xj, xs⟩ l)
      have hx2 := gmany_le (recd L ⟨xa, xj, xs⟩ l)
      have hx3 := many_coarse hok (okA_top hok) (topR_finer hok.2)
      have hx4 := lst_len (recd L ⟨xa, xj, xs⟩ l)
      rw [recd_length] at hx1 hx2 hx4
      have hV0 : 0 ≤ V := by omega
      have hVl : V ≤ l.length := by omega
      obtain ⟨T, hT⟩ : ∃ T, T = gMany l L (topR L) := ⟨_, rfl⟩
      have hT1 := hT.trans (gMany_yes (okA_top hok) rfl)
      have hT0 : 0 ≤ T := by omega
      have hTV : T ≤ V := by omega
      obtain ⟨M, hM⟩ : ∃ M, M = gLeast l L ⟨xa, xj, xs⟩ := ⟨_, rfl⟩
      have hM1 := hM.trans (gLeast_yes hok rfl)
      have hM0 : 0 ≤ M := by omega
      have hMl : M ≤ l.length := by omega
      have hVM : V * M ≤ l.length := by rw [hV1, hM1]; exact_mod_cast hx1
      have hVM0 : 0 ≤ V * M := Int.mul_nonneg hV0 hM0
      have HT := Lib.hid hT
      have HM := Lib.hid hM
      clear hok hV1 hx1 hx2 hx3 hx4 hT hT1 hM hM1
      go_wp2_with fail
      refine (implGroupMany _ _ _ _ l L (topR L) _ hW4.1).mono ?_
      rw [← HT.out]
      rintro e w5 ⟨rfl, hb5⟩
      have hW5 := hW4.below hb5
      have hB5 := hB4.trans (hb5.mono hB4.size)
      obtain ⟨hc0, hc1, hc2⟩ := hW5.cells
      clear hW4 hB4 hb5
      go_wp2_with fail
      refine (implGroupLeast _ _ _ _ l L ⟨xa, xj, xs⟩ _ hW5.1).mono ?_
      rw [← HM.out]
      rintro e w6 ⟨rfl, hb6⟩
      have hW6 := hW5.below hb6
      have hB6 := hB5.trans (hb6.mono hB5.size)
      obtain ⟨hc0, hc1, hc2⟩ := hW6.cells
      clear hW5 hB5 hb6
      go_wp2
      go_ret
      exact ⟨rfl, hB6⟩
    · have hV1 : V < 0 := val_not (HV.out.trans (if_neg hok))
      go_wp2
      go_ret
      exact ⟨rfl, hB4⟩
  · have hbig2 : 1048576 < bs.length := by omega
    go_enter Try.func10, Try.ntmps10
    go_wp2
    go_ret
    exact ⟨rfl, Below.refl _ _⟩
end Go.Proofs.Ytialdbphnofidaa.WFnGroupMany
