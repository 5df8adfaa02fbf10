/- FnBestAgain, walked. -/
import Derived.Test.YtfpddhehdfckjaaLawKit
import Derived.Test.YtfpddhehdfckjaaPlain2
import Derived.Test.YtfpddhehdfckjaaBestS
import Derived.Test.YtfpddhehdfckjaaDrwAnonBest
import Derived.Test.YtfpddhehdfckjaaPlain4
import Derived.Test.YtfpddhehdfckjaaRecX
import Derived.Test.YtfpddhehdfckjaaLawKit2
import Derived.IntWalk
namespace Go.Proofs.Ytfpddhehdfckjaa.WFnBestAgain
open Go.RowKit
set_option linter.unusedVariables false
set_option linter.unusedSimpArgs false

set_option maxRecDepth 100000 in
set_option maxHeartbeats 4000000 in
theorem walk (w : World) (A : Option Addr) (c : Nat) (bs : List Int) (hn : bs.length ≤ 9223372036854775807) (hec : bs.length ≤ c ∧ c ≤ 9223372036854775807) (hg : Rds w w.heap.size 1 A bs.length (bs.map (Value.int .u8))) (hb : ∀ z ∈ bs, 0 ≤ z ∧ z ≤ 255) : Calls Try.prog 8 #[.slice A bs.length c] w fun e w' => e = .returned (.bool true) ∧ Below w.heap.size w w' := by
  have hB : Byt w A c bs := ⟨hg, hec.1, hec.2, hb⟩
  clear hg hb
  by_cases hbig : bs.length ≤ 1048576
  · go_enter Try.func8, Try.ntmps8
    go_wp2_with fail
    refine (specDrawAnonBest A c bs w hB).mono ?_
    rintro e w1 ⟨A1, c1, l, A2, c2, L, k, d, rfl, hA, hD, ⟨hk0, hk41⟩, ⟨hd0, hd1⟩, hb1⟩
    have hD0 := Lib.hid hD
    obtain ⟨hl10, hL4, hps, hrs, hlc, hcm, hLc, hcm2⟩ := hD
    clear hps hrs hB
    obtain ⟨o, ho⟩ : ∃ o, o = aBest l L k d := ⟨_, rfl⟩
    have HO := Lib.hid ho
    clear ho
    go_wp2_with fail
    refine (implAnonBest _ _ _ _ l L k d _ hA).mono ?_
    rw [← HO.out]
    rintro e v1 ⟨rfl, hb2⟩
    rcases o with _ | ⟨xa, xj, xs⟩
    · dsimp only [bestV]
      have hA2 := hA.below hb2
      have hB2 := hb1.trans (hb2.mono hb1.size)
      have hW3 : LW (v1.alloc (.cells #[.int .i64 0, .int .i64 0, .int .i64 0] 44)) A1 l A2 L v1.heap.size 0 0 0 := ⟨hA2.below ((Below.refl _ _).alloc (Nat.le_refl _) _), Blk.new v1 _ _⟩
      have hB3 := hB2.alloc hB2.size (.cells #[.int .i64 0, .int .i64 0, .int .i64 0] 44)
      obtain ⟨hc0, hc1, hc2⟩ := hW3.cells
      clear hA hb1 hb2 hA2 hB2
      go_wp2_with fail
      refine (specAnonBest _ _ _ _ l L k d _ hW3.1).mono ?_
      rw [← HO.out]
      dsimp only [bestV, Rc.val]
      rintro e v2 ⟨rfl, hb4⟩
      have hW4 := hW3.below hb4
      have hB4 := hB3.trans (hb4.mono hB3.size)
      have hW5 : LW (v2.alloc (.cells #[.int .i64 0, .int .i64 0, .int .i64 0] 44)) A1 l A2 L v1.heap.size 0 0 0 := hW4.below ((Below.refl _ _).alloc (Nat.le_refl _) _)
      have hB5 := hB4.alloc hB4.size (.cells #[.int .i64 0, .int .i64 0, .int .i64 0] 44)
      have q5 := Blk.new v2 44 #[.int .i64 0, .int .i64 0, .int .i64 0]
      have y0 := q5.cell 0
      have y1 := q5.cell 1
      have y2 := q5.cell 2
      simp only [List.getElem?_cons_zero, List.getElem?_cons_succ] at y0 y1 y2
      obtain ⟨hc0, hc1, hc2⟩ := hW5.cells
      clear hW3 hW4 hB3 hB4 hb4 q5
      go_wp2
      go_ret
      exact ⟨rfl, hB5⟩
    · dsimp only [bestV, Rc.val]
      have hA2 := hA.below hb2
      have hB2 := hb1.trans (hb2.mono hb1.size)
      have hW3 : LW (v1.alloc (.cells #[.int .i64 xa, .int .i64 xj, .int .i64 xs] 44)) A1 l A2 L v1.heap.size xa xj xs := ⟨hA2.below ((Below.refl _ _).alloc (Nat.le_refl _) _), Blk.new v1 _ _⟩
      have hB3 := hB2.alloc hB2.size (.cells #[.int .i64 xa, .int .i64 xj, .int .i64 xs] 44)
      obtain ⟨hc0, hc1, hc2⟩ := hW3.cells
      clear hA hb1 hb2 hA2 hB2
      go_wp2_with fail
      refine (specAnonBest _ _ _ _ l L k d _ hW3.1).mono ?_
      rw [← HO.out]
      dsimp only [bestV, Rc.val]
      rintro e v2 ⟨rfl, hb4⟩
      have hW4 := hW3.below hb4
      have hB4 := hB3.trans (hb4.mono hB3.size)
      have hW5 : LW (v2.alloc (.cells #[.int .i64 xa, .int .i64 xj, .int .i64 xs] 44)) A1 l A2 L v1.heap.size xa xj xs := hW4.below ((Below.refl _ _).alloc (Nat.le_refl _) _)
      have hB5 := hB4.alloc hB4.size (.cells #[.int .i64 xa, .int .i64 xj, .int .i64 xs] 44)
      have q5 := Blk.new v2 44 #[.int .i64 xa, .int .i64 xj, .int .i64 xs]
      have y0 := q5.cell 0
      have y1 := q5.cell 1
      have y2 := q5.cell 2
      simp only [List.getElem?_cons_zero, List.getElem?_cons_succ] at y0 y1 y2
      obtain ⟨hc0, hc1, hc2⟩ := hW5.cells
      clear hW3 hW4 hB3 hB4 hb4 q5
      have hbo := aBest_ok HO.out.symm
      have hbs := aBest_some HO.out.symm
      have ho : okA l L ⟨xa, xj, xs⟩ := ⟨hbo.1, hbs.1⟩
      obtain ⟨hk1, hk2⟩ := hbo.2.2.1
      have hrb := rB_yes ho
      have hrv := rV_yes ho
      have hgV := recd_good ho
      have hdr := hbs.2.1
      rw [aDrop_yes ho rfl hk1 hk2] at hdr
      obtain ⟨x, hx⟩ : ∃ x, x = recd L ⟨xa, xj, xs⟩ l := ⟨_, rfl⟩
      have hxl : x.length = l.length := by rw [hx, recd_length]
      rw [← hx] at hrv hgV hdr
      have H1 : Hid (aBest x L k d = some zeroR) := aBest_first ⟨hgV, hbo.2.1, ⟨hk1, hk2⟩, hbo.2.2.2⟩ (by
        rw [aDrop_yes (⟨hgV, zeroR_good hbo.2.1⟩ : okA x L zeroR) rfl hk1 hk2, recd_zero]
        exact hdr)
      have Hxl := Lib.hid hxl; clear hxl
      have Hrb := Lib.hid hrb; clear hrb
      have Hrv := Lib.hid hrv; clear hrv
      clear ho hbo hbs hgV hdr hx
      go_wp2_with fail
      refine (implRecX _ _ _ _ l L ⟨xa, xj, xs⟩ _ hW5.1).mono ?_
      rw [Hrv.out, Hrb.out]
      rintro e w6 ⟨AY, cY, rfl, hPY, hcY1, hcY2, hb6⟩
      have hx10 : x.length ≤ 10 := by have := Hxl.out; omega
      have hW6 : LW2 w6 A1 l A2 L v1.heap.size xa xj xs AY x := LW.more hW5 hb6 hPY (by omega)
      have hB6 := hB5.trans (hb6.mono hB5.size)
      obtain ⟨hc0, hc1, hc2⟩ := hW6.cells
      clear hW5 hB5 hb6 hPY y0 y1 y2
      go_wp2_with fail
      refine (implAnonBest _ _ _ _ x L k d _ hW6.yarg).mono ?_
      rw [H1.out]
      dsimp only [bestV, Rc.val, zeroR]
      rintro e w7 ⟨rfl, hb7⟩
      have hW7 := hW6.below hb7
      have hB7 := hB6.trans (hb7.mono hB6.size)
      obtain ⟨hc0, hc1, hc2⟩ := hW7.cells
      clear hW6 hB6 hb7
      have hW8 := hW7.below (((Below.refl _ _).alloc (Nat.le_refl _) _) : Below w7.heap.size w7 (w7.alloc (.cells #[.int .i64 0, .int .i64 0, .int .i64 0] 44)))
      have hB8 := hB7.alloc hB7.size (.cells #[.int .i64 0, .int .i64 0, .int .i64 0] 44)
      have q8 := Blk.new w7 44 #[.int .i64 0, .int .i64 0, .int .i64 0]
      obtain ⟨hc0, hc1, hc2⟩ := hW8.cells
      clear hW7 hB7
      have z0 := q8.cell 0
      have z1 := q8.cell 1
      have z2 := q8.cell 2
      simp only [List.getElem?_cons_zero, List.getElem?_cons_succ] at z0 z1 z2
      go_wp2
      go_ret
      exact ⟨rfl, hB8⟩
  · have hbig2 : 1048576 < bs.length := by omega
    go_enter Try.func8, Try.ntmps8
    go_wp2
    go_ret
    exact ⟨rfl, Below.refl _ _⟩
end Go.Proofs.Ytfpddhehdfckjaa.WFnBestAgain
