/- FnBestTop, walked. -/
import Derived.Test.YtfpddhehdfckjaaLawKit
import Derived.Test.YtfpddhehdfckjaaPlain2
import Derived.Test.YtfpddhehdfckjaaBestS
import Derived.Test.YtfpddhehdfckjaaDrwAnonBest
import Derived.Test.YtfpddhehdfckjaaPlain4
import Derived.IntWalk
namespace Go.Proofs.Ytfpddhehdfckjaa.WFnBestTop
open Go.RowKit
set_option linter.unusedVariables false
set_option linter.unusedSimpArgs false

set_option maxRecDepth 100000 in
set_option maxHeartbeats 4000000 in
theorem walk (w : World) (A : Option Addr) (c : Nat) (bs : List Int) (hn : bs.length ≤ 9223372036854775807) (hec : bs.length ≤ c ∧ c ≤ 9223372036854775807) (hg : Rds w w.heap.size 1 A bs.length (bs.map (Value.int .u8))) (hb : ∀ z ∈ bs, 0 ≤ z ∧ z ≤ 255) : Calls Try.prog 11 #[.slice A bs.length c] w fun e w' => e = .returned (.bool true) ∧ Below w.heap.size w w' := by
  have hB : Byt w A c bs := ⟨hg, hec.1, hec.2, hb⟩
  clear hg hb
  by_cases hbig : bs.length ≤ 1048576
  · go_enter Try.func11, Try.ntmps11
    go_wp2_with fail
    refine (specDrawAnonBest A c bs w hB).mono ?_
    rintro e w1 ⟨A1, c1, l, A2, c2, L, k, d, rfl, hA, hD, ⟨hk0, hk41⟩, ⟨hd0, hd1⟩, hb1⟩
    have hD0 := Lib.hid hD
    obtain ⟨hl10, hL4, hps, hrs, hlc, hcm, hLc, hcm2⟩ := hD
    clear hps hrs hB
    obtain ⟨o, ho⟩ : ∃ o, o = aBest l L k d := ⟨_, rfl⟩
    have HO := Lib.hid ho
    clear ho
    go_wp2_with fail
    refine (implAnonBest _ _ _ _ l L k d _ hA).mono ?_
    rw [← HO.out]
    rintro e v1 ⟨rfl, hb2⟩
    rcases o with _ | ⟨xa, xj, xs⟩
    · dsimp only [bestV]
      have hA2 := hA.below hb2
      have hB2 := hb1.trans (hb2.mono hb1.size)
      have hW3 : LW (v1.alloc (.cells #[.int .i64 0, .int .i64 0, .int .i64 0] 44)) A1 l A2 L v1.heap.size 0 0 0 := ⟨hA2.below ((Below.refl _ _).alloc (Nat.le_refl _) _), Blk.new v1 _ _⟩
      have hB3 := hB2.alloc hB2.size (.cells #[.int .i64 0, .int .i64 0, .int .i64 0] 44)
      obtain ⟨hc0, hc1, hc2⟩ := hW3.cells
      clear hA hb1 hb2 hA2 hB2
      go_wp2_with fail
      refine (specAnonBest _ _ _ _ l L k d _ hW3.1).mono ?_
      rw [← HO.out]
      dsimp only [bestV, Rc.val]
      rintro e v2 ⟨rfl, hb4⟩
      have hW4 := hW3.below hb4
      have hB4 := hB3.trans (hb4.mono hB3.size)
      have hW5 : LW (v2.alloc (.cells #[.int .i64 0, .int .i64 0, .int .i64 0] 44)) A1 l A2 L v1.heap.size 0 0 0 := hW4.below ((Below.refl _ _).alloc (Nat.le_refl _) _)
      have hB5 := hB4.alloc hB4.size (.cells #[.int .i64 0, .int .i64 0, .int .i64 0] 44)
      have q5 := Blk.new v2 44 #[.int .i64 0, .int .i64 0, .int .i64 0]
      have y0 := q5.cell 0
      have y1 := q5.cell 1
      have y2 := q5.cell 2
      simp only [List.getElem?_cons_zero, List.getElem?_cons_succ] at y0 y1 y2
      obtain ⟨hc0, hc1, hc2⟩ := hW5.cells
      clear hW3 hW4 hB3 hB4 hb4 q5
      go_wp2
      go_ret
      exact ⟨rfl, hB5⟩
    · dsimp only [bestV, Rc.val]
      have hA2 := hA.below hb2
      have hB2 := hb1.trans (hb2.mono hb1.size)
      have hW3 : LW (v1.alloc (.cells #[.int .i64 xa, .int .i64 xj, .int .i64 xs] 44)) A1 l A2 L v1.heap.size xa xj xs := ⟨hA2.below ((Below.refl _ _).alloc (Nat.le_refl _) _), Blk.new v1 _ _⟩
      have hB3 := hB2.alloc hB2.size (.cells #[.int .i64 xa, .int .i64 xj, .int .i64 xs] 44)
      obtain ⟨hc0, hc1, hc2⟩ := hW3.cells
      clear hA hb1 hb2 hA2 hB2
      go_wp2_with fail
      refine (specAnonBest _ _ _ _ l L k d _ hW3.1).mono ?_
      rw [← HO.out]
      dsimp only [bestV, Rc.val]
      rintro e v2 ⟨rfl, hb4⟩
      have hW4 := hW3.below hb4
      have hB4 := hB3.trans (hb4.mono hB3.size)
      have hW5 : LW (v2.alloc (.cells #[.int .i64 xa, .int .i64 xj, .int .i64 xs] 44)) A1 l A2 L v1.heap.size xa xj xs := hW4.below ((Below.refl _ _).alloc (Nat.le_refl _) _)
      have hB5 := hB4.alloc hB4.size (.cells #[.int .i64 xa, .int .i64 xj, .int .i64 xs] 44)
      have q5 := Blk.new v2 44 #[.int .i64 xa, .int .i64 xj, .int .i64 xs]
      have y0 := q5.cell 0
      have y1 := q5.cell 1
      have y2 := q5.cell 2
      simp only [List.getElem?_cons_zero, List.getElem?_cons_succ] at y0 y1 y2
      obtain ⟨hc0, hc1, hc2⟩ := hW5.cells
      clear hW3 hW4 hB3 hB4 hb4 q5
      have hbo := aBest_ok HO.out.symm
      have hbs := aBest_some HO.out.symm
      have ho : okA l L ⟨xa, xj, xs⟩ := ⟨hbo.1, hbs.1⟩
      obtain ⟨hk1, hk2⟩ := hbo.2.2.1
      have h1 := drop_coarse ho (okA_top ho) (topR_finer ho.2) k
      have h2 := hbs.2.1
      rw [aDrop_yes ho rfl hk1 hk2] at h2
      obtain ⟨T, hT⟩ : ∃ T, T = aDrop l L (topR L) k := ⟨_, rfl⟩
      have hT1 := hT.trans (aDrop_yes (okA_top ho) rfl hk1 hk2)
      have hT0 : 0 ≤ T := by omega
      have hTd : T ≤ d := by omega
      have HG := Lib.hid hbs.1
      have HT := Lib.hid hT; clear hT
      clear hT1 h1 h2 ho hbo hbs
      go_wp2_with fail
      refine (implAnonDrop _ _ _ _ l L (topR L) k _ hW5.1).mono ?_
      rw [← HT.out]
      rintro e w6 ⟨rfl, hb6⟩
      have hW6 := hW5.below hb6
      have hB6 := hB5.trans (hb6.mono hB5.size)
      obtain ⟨hc0, hc1, hc2⟩ := hW6.cells
      clear hW5 hB5 hb6
      go_wp2_with fail
      refine (implRecodeValid _ _ L ⟨xa, xj, xs⟩ _ hW6.1.2.2.1 (by omega)).mono ?_
      rintro e w7 ⟨hrb, hb7⟩
      obtain rfl := hrb.isTrue HG.out
      have hW7 := hW6.below hb7
      have hB7 := hB6.trans (hb7.mono hB6.size)
      obtain ⟨hc0, hc1, hc2⟩ := hW7.cells
      clear hW6 hB6 hb7
      go_wp2
      go_ret
      exact ⟨rfl, hB7⟩
  · have hbig2 : 1048576 < bs.length := by omega
    go_enter Try.func11, Try.ntmps11
    go_wp2
    go_ret
    exact ⟨rfl, Below.refl _ _⟩
end Go.Proofs.Ytfpddhehdfckjaa.WFnBestTop
