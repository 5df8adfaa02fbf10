/- FnDiverseOk, walked. -/
import Derived.Test.YtiheheapghjpbaaLawKit
import Derived.Test.YtiheheapghjpbaaPlain2
import Derived.Test.YtiheheapghjpbaaDivOk
import Derived.Test.YtiheheapghjpbaaDrwDiverseOk
import Derived.Test.YtiheheapghjpbaaPlain3
namespace Go.Proofs.Ytiheheapghjpbaa.WFnDiverseOk
open Go.RowKit
set_option linter.unusedVariables false

theorem dOk_top {l : List Pn} {L : List (List Int)} {r : Rc} {k m : Int} (h : dOk l L r k m) : dOk l L (topR L) k m := by
  obtain ⟨hm, hd, hl⟩ := h
  obtain ⟨ho, hk1, hk2⟩ := aDrop_k hd
  refine ⟨hm, ?_, hl.imp id (fun h => ?_)⟩
  · rw [aDrop_yes ho rfl hk1 hk2] at hd
    rw [aDrop_yes (okA_top ho) rfl hk1 hk2]
    have := drop_coarse ho (okA_top ho) (topR_finer ho.2) k
    omega
  · rw [dLeast_yes ho rfl] at h
    rw [dLeast_yes (okA_top ho) rfl]
    have := dl_coarse ho (okA_top ho) (topR_finer ho.2)
    omega
set_option maxRecDepth 100000 in
set_option maxHeartbeats 4000000 in
theorem walk (w : World) (A : Option Addr) (c : Nat) (bs : List Int) (hn : bs.length ≤ 9223372036854775807) (hec : bs.length ≤ c ∧ c ≤ 9223372036854775807) (hg : Rds w w.heap.size 1 A bs.length (bs.map (Value.int .u8))) (hb : ∀ z ∈ bs, 0 ≤ z ∧ z ≤ 255) : Calls Try.prog 11 #[.slice A bs.length c] w fun e w' => e = .returned (.bool true) ∧ Below w.heap.size w w' := by
  have hB : Byt w A c bs := ⟨hg, hec.1, hec.2, hb⟩
  clear hg hb
  by_cases hbig : bs.length ≤ 1048576
  · go_enter Try.func11, Try.ntmps11
    go_wp2_with fail
    refine (specDrawDiverseOk A c bs w hB).mono ?_
    rintro e w1 ⟨A1, c1, l, A2, c2, L, ⟨xa, xj, xs⟩, k, m, rfl, hA, hD, hkb, hmb, hb1⟩
    have hD0 := Lib.hid hD
    obtain ⟨hl10, hL4, hxs, hps, hrs, hlc, hcm, hLc, hcm2⟩ := hD
    clear hps hrs hxs hB
    have hW2 : LW (w1.alloc (.cells #[.int .i64 xa, .int .i64 xj, .int .i64 xs] 26)) A1 l A2 L w1.heap.size xa xj xs := ⟨hA.below ((Below.refl _ _).alloc (Nat.le_refl _) _), Blk.new w1 _ _⟩
    have hB2 := hb1.alloc hb1.size (.cells #[.int .i64 xa, .int .i64 xj, .int .i64 xs] 26)
    clear hA hb1
    obtain ⟨V, hV⟩ : ∃ V, V = dOkB l L ⟨xa, xj, xs⟩ k m := ⟨_, rfl⟩
    have HV := Lib.hid hV
    clear hV
    go_wp2_with fail
    refine (implDiverseOk _ _ _ _ l L ⟨xa, xj, xs⟩ k m _ hW2.1).mono ?_
    rw [← HV.out]
    rintro e w3 ⟨rfl, hb3⟩
    have hW3 := hW2.below hb3
    have hB3 := hB2.trans (hb3.mono hB2.size)
    obtain ⟨hc0, hc1, hc2⟩ := hW3.cells
    clear hW2 hB2 hb3
    go_wp2_with fail
    refine (specDiverseOk _ _ _ _ l L ⟨xa, xj, xs⟩ k m _ hW3.1).mono ?_
    rw [← HV.out]
    rintro e w4 ⟨rfl, hb4⟩
    have hW4 := hW3.below hb4
    have hB4 := hB3.trans (hb4.mono hB3.size)
    obtain ⟨hc0, hc1, hc2⟩ := hW4.cells
    clear hW3 hB3 hb4
    cases V with
    | false =>
      go_wp2
      go_ret
      exact ⟨rfl, hB4⟩
    | true =>
      have hd := dOkB_iff.1 HV.out.symm
      obtain ⟨T, hT⟩ : ∃ T, T = dOkB l L (topR L) k m := ⟨_, rfl⟩
      have hT1 : T = true := hT.trans (dOkB_iff.2 (dOk_top hd))
      obtain ⟨O, hO⟩ : ∃ O, O = (aDrop l L ⟨xa, xj, xs⟩ k == 0) := ⟨_, rfl⟩
      have hO1 : O = true := by rw [hO, hd.2.1]; rfl
      obtain ⟨S, hS⟩ : ∃ S, S = dLeast l L ⟨xa, xj, xs⟩ := ⟨_, rfl⟩
      have hS1 : l.length = 0 ∨ m ≤ S := by rw [hS]; exact hd.2.2
      subst hT1 hO1
      have HT := Lib.hid hT; clear hT
      have HO := Lib.hid hO; clear hO
      have HS := Lib.hid hS; clear hS
      clear hd
      go_wp2_with fail
      refine (implAnonOk _ _ _ _ l L ⟨xa, xj, xs⟩ k _ hW4.1).mono ?_
      rw [← HO.out]
      rintro e w5 ⟨rfl, hb5⟩
      have hW5 := hW4.below hb5
      have hB5 := hB4.trans (hb5.mono hB4.size)
      obtain ⟨hc0, hc1, hc2⟩ := hW5.cells
      clear hW4 hB4 hb5
      by_cases hl0 : l.length = 0
      · have e1 : ((l.length : Int) == 0) = true := by simp [hl0]
        have e2 : (l.length == 0) = true := by simp [hl0]
        clear hl0 hS1
        go_wp2_with fail
        refine (implDiverseOk _ _ _ _ l L (topR L) k m _ hW5.1).mono ?_
        rw [← HT.out]
        rintro e w6 ⟨rfl, hb6⟩
        have hW6 := hW5.below hb6
        have hB6 := hB5.trans (hb6.mono hB5.size)
        obtain ⟨hc0, hc1, hc2⟩ := hW6.cells
        clear hW5 hB5 hb6
        go_wp2
        go_ret
        exact ⟨rfl, hB6⟩
      · have e1 : ((l.length : Int) == 0) = false := beq_eq_false_iff_ne.2 (by omega)
        have e2 : (l.length == 0) = false := beq_eq_false_iff_ne.2 (by omega)
        have hS2 : m ≤ S := by omega
        clear hl0 hS1
        go_wp2_with fail
        refine (implDiverseLeast _ _ _ _ l L ⟨xa, xj, xs⟩  _ hW5.1).mono ?_
        rw [← HS.out]
        rintro e w6 ⟨rfl, hb6⟩
        have hW6 := hW5.below hb6
        have hB6 := hB5.trans (hb6.mono hB5.size)
        obtain ⟨hc0, hc1, hc2⟩ := hW6.cells
        clear hW5 hB5 hb6
        go_wp2_with fail
        refine (implDiverseOk _ _ _ _ l L (topR L) k m _ hW6.1).mono ?_
        rw [← HT.out]
        rintro e w7 ⟨rfl, hb7⟩
        have hW7 := hW6.below hb7
        have hB7 := hB6.trans (hb7.mono hB6.size)
        obtain ⟨hc0, hc1, hc2⟩ := hW7.cells
        clear hW6 hB6 hb7
        go_wp2
        go_ret
        exact ⟨rfl, hB7⟩
  · have hbig2 : 1048576 < bs.length := by omega
    go_enter Try.func11, Try.ntmps11
    go_wp2
    go_ret
    exact ⟨rfl, Below.refl _ _⟩
end Go.Proofs.Ytiheheapghjpbaa.WFnDiverseOk
