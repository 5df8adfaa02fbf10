/- FnUniquesAll, walked. -/
import Derived.Test.YtljjaanohcibcaaLawKit
import Derived.Test.YtljjaanohcibcaaPlain2
import Derived.Test.YtljjaanohcibcaaAnonI
import Derived.Test.YtljjaanohcibcaaGrpI
import Derived.Test.YtljjaanohcibcaaDrwGroupUniques
namespace Go.Proofs.Ytljjaanohcibcaa.WFnUniquesAll
open Go.RowKit
set_option linter.unusedVariables false

set_option maxRecDepth 100000 in
set_option maxHeartbeats 4000000 in
theorem walk (w : World) (A : Option Addr) (c : Nat) (bs : List Int) (hn : bs.length ≤ 9223372036854775807) (hec : bs.length ≤ c ∧ c ≤ 9223372036854775807) (hg : Rds w w.heap.size 1 A bs.length (bs.map (Value.int .u8))) (hb : ∀ z ∈ bs, 0 ≤ z ∧ z ≤ 255) : Calls Try.prog 8 #[.slice A bs.length c] w fun e w' => e = .returned (.bool true) ∧ Below w.heap.size w w' := by
  have hB : Byt w A c bs := ⟨hg, hec.1, hec.2, hb⟩
  clear hg hb
  by_cases hbig : bs.length ≤ 1048576
  · go_enter Try.func8, Try.ntmps8
    go_wp2_with fail
    refine (specDrawGroupUniques A c bs w hB).mono ?_
    rintro e w1 ⟨A1, c1, l, A2, c2, L, ⟨xa, xj, xs⟩, rfl, hA, hD, hb1⟩
    have hD0 := Lib.hid hD
    obtain ⟨hl10, hL4, hxs, hps, hrs, hlc, hcm, hLc, hcm2⟩ := hD
    clear hps hrs hxs hB
    have hW2 : LW (w1.alloc (.cells #[.int .i64 xa, .int .i64 xj, .int .i64 xs] 26)) A1 l A2 L w1.heap.size xa xj xs := ⟨hA.below ((Below.refl _ _).alloc (Nat.le_refl _) _), Blk.new w1 _ _⟩
    have hB2 := hb1.alloc hb1.size (.cells #[.int .i64 xa, .int .i64 xj, .int .i64 xs] 26)
    clear hA hb1
    obtain ⟨V, hV⟩ : ∃ V, V = aDrop l L ⟨xa, xj, xs⟩ 2 := ⟨_, rfl⟩
    have HV := Lib.hid hV
    clear hV
    go_wp2_with fail
    refine (implGroupUniques _ _ _ _ l L ⟨xa, xj, xs⟩  _ hW2.1).mono ?_
    rw [← HV.out]
    rintro e w3 ⟨rfl, hb3⟩
    have hW3 := hW2.below hb3
    have hB3 := hB2.trans (hb3.mono hB2.size)
    obtain ⟨hc0, hc1, hc2⟩ := hW3.cells
    clear hW2 hB2 hb3
    go_wp2_with fail
    refine (specGroupUniques _ _ _ _ l L ⟨xa, xj, xs⟩  _ hW3.1).mono ?_
    rw [← HV.out]
    rintro e w4 ⟨rfl, hb4⟩
    have hW4 := hW3.below hb4
    have hB4 := hB3.trans (hb4.mono hB3.size)
    obtain ⟨hc0, hc1, hc2⟩ := hW4.cells
    clear hW3 hB3 hb4
    by_cases hok : 0 ≤ V
    · obtain ⟨ho, -, -⟩ := aDrop_ok (by rw [← HV.out]; exact hok)
      have hV1 := HV.out.trans (aDrop_yes ho rfl (by decide) (by decide))
      obtain ⟨M, hM⟩ : ∃ M, M = gMany l L ⟨xa, xj, xs⟩ := ⟨_, rfl⟩
      obtain ⟨T, hT⟩ : ∃ T, T = gLeast l L ⟨xa, xj, xs⟩ := ⟨_, rfl⟩
      have hM1 := hM.trans (gMany_yes ho rfl)
      have hT1 := hT.trans (gLeast_yes ho rfl)
      have hU := uniq_all (recd L ⟨xa, xj, xs⟩ l)
      have hS := uniq_some (recd L ⟨xa, xj, xs⟩ l)
      rw [recd_length] at hU
      have hc1 : V = l.length ↔ M = l.length := by omega
      have hc2 : 0 < V ↔ T = 1 := by omega
      have HM := Lib.hid hM; clear hM
      have HT := Lib.hid hT; clear hT
      clear hV1 hM1 hT1 hU hS ho
      have HC1 := Lib.hid hc1
      have HC2 := Lib.hid hc2
      clear hc1 hc2
      rcases (show (V = l.length ∨ V ≠ l.length) ∧ (0 < V ∨ ¬ 0 < V) by omega) with ⟨h1 | h1, h3 | h3⟩
      · have g1 : (V == (l.length : Int)) = true := by simp [h1]
        have g2 : (M == (l.length : Int)) = true := by simp [HC1.out.1 h1]
        have g3 : decide (0 < V) = true := decide_eq_true h3
        have g4 : (T == 1) = true := by simp [HC2.out.1 h3]
        clear h1 h3
        go_wp2_with fail
        refine (implGroupMany _ _ _ _ l L ⟨xa, xj, xs⟩  _ hW4.1).mono ?_
        rw [← HM.out]
        rintro e w5 ⟨rfl, hb5⟩
        have hW5 := hW4.below hb5
        have hB5 := hB4.trans (hb5.mono hB4.size)
        obtain ⟨hc0, hc1, hc2⟩ := hW5.cells
        clear hW4 hB4 hb5
        go_wp2_with fail
        refine (implGroupLeast _ _ _ _ l L ⟨xa, xj, xs⟩  _ hW5.1).mono ?_
        rw [← HT.out]
        rintro e w6 ⟨rfl, hb6⟩
        have hW6 := hW5.below hb6
        have hB6 := hB5.trans (hb6.mono hB5.size)
        obtain ⟨hc0, hc1, hc2⟩ := hW6.cells
        clear hW5 hB5 hb6
        go_wp2
        go_ret
        exact ⟨rfl, hB6⟩
      · have g1 : (V == (l.length : Int)) = true := by simp [h1]
        have g2 : (M == (l.length : Int)) = true := by simp [HC1.out.1 h1]
        have g3 : decide (0 < V) = false := decide_eq_false h3
        have g4 : (T == 1) = false := beq_eq_false_iff_ne.2 (fun h => h3 (HC2.out.2 h))
        clear h1 h3
        go_wp2_with fail
        refine (implGroupMany _ _ _ _ l L ⟨xa, xj, xs⟩  _ hW4.1).mono ?_
        rw [← HM.out]
        rintro e w5 ⟨rfl, hb5⟩
        have hW5 := hW4.below hb5
        have hB5 := hB4.trans (hb5.mono hB4.size)
        obtain ⟨hc0, hc1, hc2⟩ := hW5.cells
        clear hW4 hB4 hb5
        go_wp2_with fail
        refine (implGroupLeast _ _ _ _ l L ⟨xa, xj, xs⟩  _ hW5.1).mono ?_
        rw [← HT.out]
        rintro e w6 ⟨rfl, hb6⟩
        have hW6 := hW5.below hb6
        have hB6 := hB5.trans (hb6.mono hB5.size)
        obtain ⟨hc0, hc1, hc2⟩ := hW6.cells
        clear hW5 hB5 hb6
        go_wp2
        go_ret
        exact ⟨rfl, hB6⟩
      · have g1 : (V == (l.length : Int)) = false := beq_eq_false_iff_ne.2 h1
        have g2 : (M == (l.length : Int)) = false := beq_eq_false_iff_ne.2 (fun h => h1 (HC1.out.2 h))
        have g3 : decide (0 < V) = true := decide_eq_true h3
        have g4 : (T == 1) = true := by simp [HC2.out.1 h3]
        clear h1 h3
        go_wp2_with fail
        refine (implGroupMany _ _ _ _ l L ⟨xa, xj, xs⟩  _ hW4.1).mono ?_
        rw [← HM.out]
        rintro e w5 ⟨rfl, hb5⟩
        have hW5 := hW4.below hb5
        have hB5 := hB4.trans (hb5.mono hB4.size)
        obtain ⟨hc0, hc1, hc2⟩ := hW5.cells
        clear hW4 hB4 hb5
        go_wp2_with fail
        refine (implGroupLeast _ _ _ _ l L ⟨xa, xj, xs⟩  _ hW5.1).mono ?_
        rw [← HT.out]
        rintro e w6 ⟨rfl, hb6⟩
        have hW6 := hW5.below hb6
        have hB6 := hB5.trans (hb6.mono hB5.size)
        obtain ⟨hc0, hc1, hc2⟩ := hW6.cells
        clear hW5 hB5 hb6
        go_wp2
        go_ret
        exact ⟨rfl, hB6⟩
      · have g1 : (V == (l.length : Int)) = false := beq_eq_false_iff_ne.2 h1
        have g2 : (M == (l.length : Int)) = false := beq_eq_false_iff_ne.2 (fun h => h1 (HC1.out.2 h))
        have g3 : decide (0 < V) = false := decide_eq_false h3
        have g4 : (T == 1) = false := beq_eq_false_iff_ne.2 (fun h => h3 (HC2.out.2 h))
        clear h1 h3
        go_wp2_with fail
        refine (implGroupMany _ _ _ _ l L ⟨xa, xj, xs⟩  _ hW4.1).mono ?_
        rw [← HM.out]
        rintro e w5 ⟨rfl, hb5⟩
        have hW5 := hW4.below hb5
        have hB5 := hB4.trans (hb5.mono hB4.size)
        obtain ⟨hc0, hc1, hc2⟩ := hW5.cells
        clear hW4 hB4 hb5
        go_wp2_with fail
        refine (implGroupLeast _ _ _ _ l L ⟨xa, xj, xs⟩  _ hW5.1).mono ?_
        rw [← HT.out]
        rintro e w6 ⟨rfl, hb6⟩
        have hW6 := hW5.below hb6
        have hB6 := hB5.trans (hb6.mono hB5.size)
        obtain ⟨hc0, hc1, hc2⟩ := hW6.cells
        clear hW5 hB5 hb6
        go_wp2
        go_ret
        exact ⟨rfl, hB6⟩
    · have hV1 : V < 0 := by omega
      go_wp2
      go_ret
      exact ⟨rfl, hB4⟩
  · have hbig2 : 1048576 < bs.length := by omega
    go_enter Try.func8, Try.ntmps8
    go_wp2
    go_ret
    exact ⟨rfl, Below.refl _ _⟩
end Go.Proofs.Ytljjaanohcibcaa.WFnUniquesAll
