/- FnAnonOkCoarser, walked. -/
import Derived.Test.YtljjaanohcibcaaLawKit
import Derived.Test.YtljjaanohcibcaaPlain2
import Derived.Test.YtljjaanohcibcaaAnonOk
import Derived.Test.YtljjaanohcibcaaDrwAnonOk
import Derived.IntWalk
namespace Go.Proofs.Ytljjaanohcibcaa.WFnAnonOkCoarser
open Go.RowKit
set_option linter.unusedVariables false

set_option maxRecDepth 100000 in
set_option maxHeartbeats 4000000 in
theorem walk (w : World) (A : Option Addr) (c : Nat) (bs : List Int) (hn : bs.length ≤ 9223372036854775807) (hec : bs.length ≤ c ∧ c ≤ 9223372036854775807) (hg : Rds w w.heap.size 1 A bs.length (bs.map (Value.int .u8))) (hb : ∀ z ∈ bs, 0 ≤ z ∧ z ≤ 255) : Calls Try.prog 4 #[.slice A bs.length c] w fun e w' => e = .returned (.bool true) ∧ Below w.heap.size w w' := by
  have hB : Byt w A c bs := ⟨hg, hec.1, hec.2, hb⟩
  clear hg hb
  by_cases hbig : bs.length ≤ 1048576
  · go_enter Try.func4, Try.ntmps4
    go_wp2_with fail
    refine (specDrawAnonOk A c bs w hB).mono ?_
    rintro e w1 ⟨A1, c1, l, A2, c2, L, ⟨xa, xj, xs⟩, k, rfl, hA, hD, hkb, hb1⟩
    have hD0 := Lib.hid hD
    obtain ⟨hl10, hL4, hxs, hps, hrs, hlc, hcm, hLc, hcm2⟩ := hD
    clear hps hrs hxs hB
    have hW2 : LW (w1.alloc (.cells #[.int .i64 xa, .int .i64 xj, .int .i64 xs] 26)) A1 l A2 L w1.heap.size xa xj xs := ⟨hA.below ((Below.refl _ _).alloc (Nat.le_refl _) _), Blk.new w1 _ _⟩
    have hB2 := hb1.alloc hb1.size (.cells #[.int .i64 xa, .int .i64 xj, .int .i64 xs] 26)
    clear hA hb1
    obtain ⟨V, hV⟩ : ∃ V, V = (aDrop l L ⟨xa, xj, xs⟩ k == 0) := ⟨_, rfl⟩
    have HV := Lib.hid hV
    clear hV
    go_wp2_with fail
    refine (implAnonOk _ _ _ _ l L ⟨xa, xj, xs⟩ k _ hW2.1).mono ?_
    rw [← HV.out]
    rintro e w3 ⟨rfl, hb3⟩
    have hW3 := hW2.below hb3
    have hB3 := hB2.trans (hb3.mono hB2.size)
    obtain ⟨hc0, hc1, hc2⟩ := hW3.cells
    clear hW2 hB2 hb3
    go_wp2_with fail
    refine (specAnonOk _ _ _ _ l L ⟨xa, xj, xs⟩ k _ hW3.1).mono ?_
    rw [← HV.out]
    rintro e w4 ⟨rfl, hb4⟩
    have hW4 := hW3.below hb4
    have hB4 := hB3.trans (hb4.mono hB3.size)
    obtain ⟨hc0, hc1, hc2⟩ := hW4.cells
    clear hW3 hB3 hb4
    cases V with
    | false =>
      go_wp2
      go_ret
      exact ⟨rfl, hB4⟩
    | true =>
      have hd : aDrop l L ⟨xa, xj, xs⟩ k = 0 := by have := HV.out; simpa using this.symm
      obtain ⟨ho, hk1, hk2⟩ := aDrop_ok (show 0 ≤ aDrop l L ⟨xa, xj, xs⟩ k by omega)
      have HC : Hid (∀ r : Rc, goodR L r → finer ⟨xa, xj, xs⟩ r → (aDrop l L r k == 0) = true) := fun r hr hf => by
        have h1 := drop_coarse ho ⟨ho.1, hr⟩ hf k
        rw [aDrop_yes ho rfl hk1 hk2] at hd
        rw [aDrop_yes ⟨ho.1, hr⟩ rfl hk1 hk2]
        have h2 : drp (recd L r l) k = 0 := by omega
        rw [h2]; rfl
      have HTF : Hid (finer ⟨xa, xj, xs⟩ ⟨(L.length : Int), 1, 1⟩) := topR_finer ho.2
      obtain ⟨-, ⟨a0, a1⟩, hj, hs⟩ := ho.2
      dsimp only at a0 a1 hj hs
      have hj0 : 0 ≤ xj := by omega
      have hj1 : xj ≤ 1 := by omega
      have hs0 : 0 ≤ xs := by omega
      have hs1 : xs ≤ 1 := by omega
      have hb5 := Blk.new w4 26 #[.int .i64 (xa + 1), .int .i64 xj, .int .i64 xs, .int .i64 xa, .int .i64 (xj + 1), .int .i64 xs, .int .i64 xa, .int .i64 xj, .int .i64 (xs + 1), .int .i64 L.length, .int .i64 1, .int .i64 1]
      have hbl : Below w4.heap.size w4 (w4.alloc (.cells #[.int .i64 (xa + 1), .int .i64 xj, .int .i64 xs, .int .i64 xa, .int .i64 (xj + 1), .int .i64 xs, .int .i64 xa, .int .i64 xj, .int .i64 (xs + 1), .int .i64 L.length, .int .i64 1, .int .i64 1] 26)) := ((Below.refl _ _).alloc (Nat.le_refl _) _)
      have HB5 := Lib.hid hb5
      have HBL := Lib.hid hbl
      clear hd ho hj hs hb5 hbl
      go_wp2
      generalize w4.alloc (.cells #[.int .i64 (xa + 1), .int .i64 xj, .int .i64 xs, .int .i64 xa, .int .i64 (xj + 1), .int .i64 xs, .int .i64 xa, .int .i64 xj, .int .i64 (xs + 1), .int .i64 L.length, .int .i64 1, .int .i64 1] 26) = W5 at *
      have hB5 := hB4.trans (HBL.out.mono hB4.size)
      have hW5 := hW4.below HBL.out
      clear hc0 hc1 hc2 hW4 hB4
      go_loopw [10] (fun t wr => ∃ i : Nat, i ≤ 4 ∧ t = .int .i64 i ∧ Below W5.heap.size W5 wr) (fun t _ => 4 - (intOf t).toNat)
      case atStart => exact ⟨0, by omega, rfl, Below.refl _ _⟩
      case round =>
        obtain ⟨i, hi, rfl, hbel⟩ := hrel
        have hWr := hW5.1.below hbel
        have hbr := HB5.out.below hbel HB5.out.lt
        rcases (show i = 0 ∨ i = 1 ∨ i = 2 ∨ i = 3 ∨ i = 4 by omega) with rfl | rfl | rfl | rfl | rfl
        · have hd0 := hbr.cell 0
          have hd1 := hbr.cell 1
          have hd2 := hbr.cell 2
          simp only [List.getElem?_cons_zero, List.getElem?_cons_succ] at hd0 hd1 hd2
          by_cases hg : goodR L ⟨(xa + 1), xj, xs⟩
          · have HA := Lib.hid (HC.out ⟨(xa + 1), xj, xs⟩ hg ⟨by dsimp only; omega, Int.le_refl _, Int.le_refl _⟩)
            have HGD := Lib.hid hg
            clear hg
            go_wp2_with fail
            refine (implRecodeValid _ _ L ⟨(xa + 1), xj, xs⟩ _ hWr.2.2.1 (by omega)).mono ?_
            rintro e w5 ⟨hrb, hb5⟩
            obtain rfl := hrb.isTrue HGD.out
            have hbr5 := hbr.below hb5 hbr.lt
            have hbel5 := hbel.trans (hb5.mono hbel.size)
            have hWr5 := hWr.below hb5
            clear hd0 hd1 hd2 hrb hb5 hbr hWr
            have hd0 := hbr5.cell 0
            have hd1 := hbr5.cell 1
            have hd2 := hbr5.cell 2
            simp only [List.getElem?_cons_zero, List.getElem?_cons_succ] at hd0 hd1 hd2
            go_wp2_with fail
            refine (implAnonOk _ _ _ _ l L ⟨(xa + 1), xj, xs⟩ k _ hWr5).mono ?_
            rw [HA.out]
            rintro e w6 ⟨rfl, hb6⟩
            have hbel6 := hbel5.trans (hb6.mono hbel5.size)
            clear hd0 hd1 hd2
            go_wp2
            go_roundw
            case rel => exact ⟨0 + 1, by omega, by go_num, hbel6⟩
            case measure => simp [intOf]
          · have HGD := Lib.hid hg
            clear hg
            go_wp2_with fail
            refine (implRecodeValid _ _ L ⟨(xa + 1), xj, xs⟩ _ hWr.2.2.1 (by omega)).mono ?_
            rintro e w5 ⟨hrb, hb5⟩
            obtain rfl := hrb.isFalse HGD.out
            have hbel5 := hbel.trans (hb5.mono hbel.size)
            clear hd0 hd1 hd2
            go_wp2
            go_roundw
            case rel => exact ⟨0 + 1, by omega, by go_num, hbel5⟩
            case measure => simp [intOf]
        · have hd0 := hbr.cell 3
          have hd1 := hbr.cell 4
          have hd2 := hbr.cell 5
          simp only [List.getElem?_cons_zero, List.getElem?_cons_succ] at hd0 hd1 hd2
          by_cases hg : goodR L ⟨xa, (xj + 1), xs⟩
          · have HA := Lib.hid (HC.out ⟨xa, (xj + 1), xs⟩ hg ⟨Int.le_refl _, by dsimp only; omega, Int.le_refl _⟩)
            have HGD := Lib.hid hg
            clear hg
            go_wp2_with fail
            refine (implRecodeValid _ _ L ⟨xa, (xj + 1), xs⟩ _ hWr.2.2.1 (by omega)).mono ?_
            rintro e w5 ⟨hrb, hb5⟩
            obtain rfl := hrb.isTrue HGD.out
            have hbr5 := hbr.below hb5 hbr.lt
            have hbel5 := hbel.trans (hb5.mono hbel.size)
            have hWr5 := hWr.below hb5
            clear hd0 hd1 hd2 hrb hb5 hbr hWr
            have hd0 := hbr5.cell 3
            have hd1 := hbr5.cell 4
            have hd2 := hbr5.cell 5
            simp only [List.getElem?_cons_zero, List.getElem?_cons_succ] at hd0 hd1 hd2
            go_wp2_with fail
            refine (implAnonOk _ _ _ _ l L ⟨xa, (xj + 1), xs⟩ k _ hWr5).mono ?_
            rw [HA.out]
            rintro e w6 ⟨rfl, hb6⟩
            have hbel6 := hbel5.trans (hb6.mono hbel5.size)
            clear hd0 hd1 hd2
            go_wp2
            go_roundw
            case rel => exact ⟨1 + 1, by omega, by go_num, hbel6⟩
            case measure => simp [intOf]
          · have HGD := Lib.hid hg
            clear hg
            go_wp2_with fail
            refine (implRecodeValid _ _ L ⟨xa, (xj + 1), xs⟩ _ hWr.2.2.1 (by omega)).mono ?_
            rintro e w5 ⟨hrb, hb5⟩
            obtain rfl := hrb.isFalse HGD.out
            have hbel5 := hbel.trans (hb5.mono hbel.size)
            clear hd0 hd1 hd2
            go_wp2
            go_roundw
            case rel => exact ⟨1 + 1, by omega, by go_num, hbel5⟩
            case measure => simp [intOf]
        · have hd0 := hbr.cell 6
          have hd1 := hbr.cell 7
          have hd2 := hbr.cell 8
          simp only [List.getElem?_cons_zero, List.getElem?_cons_succ] at hd0 hd1 hd2
          by_cases hg : goodR L ⟨xa, xj, (xs + 1)⟩
          · have HA := Lib.hid (HC.out ⟨xa, xj, (xs + 1)⟩ hg ⟨Int.le_refl _, Int.le_refl _, by dsimp only; omega⟩)
            have HGD := Lib.hid hg
            clear hg
            go_wp2_with fail
            refine (implRecodeValid _ _ L ⟨xa, xj, (xs + 1)⟩ _ hWr.2.2.1 (by omega)).mono ?_
            rintro e w5 ⟨hrb, hb5⟩
            obtain rfl := hrb.isTrue HGD.out
            have hbr5 := hbr.below hb5 hbr.lt
            have hbel5 := hbel.trans (hb5.mono hbel.size)
            have hWr5 := hWr.below hb5
            clear hd0 hd1 hd2 hrb hb5 hbr hWr
            have hd0 := hbr5.cell 6
            have hd1 := hbr5.cell 7
            have hd2 := hbr5.cell 8
            simp only [List.getElem?_cons_zero, List.getElem?_cons_succ] at hd0 hd1 hd2
            go_wp2_with fail
            refine (implAnonOk _ _ _ _ l L ⟨xa, xj, (xs + 1)⟩ k _ hWr5).mono ?_
            rw [HA.out]
            rintro e w6 ⟨rfl, hb6⟩
            have hbel6 := hbel5.trans (hb6.mono hbel5.size)
            clear hd0 hd1 hd2
            go_wp2
            go_roundw
            case rel => exact ⟨2 + 1, by omega, by go_num, hbel6⟩
            case measure => simp [intOf]
          · have HGD := Lib.hid hg
            clear hg
            go_wp2_with fail
            refine (implRecodeValid _ _ L ⟨xa, xj, (xs + 1)⟩ _ hWr.2.2.1 (by omega)).mono ?_
            rintro e w5 ⟨hrb, hb5⟩
            obtain rfl := hrb.isFalse HGD.out
            have hbel5 := hbel.trans (hb5.mono hbel.size)
            clear hd0 hd1 hd2
            go_wp2
            go_roundw
            case rel => exact ⟨2 + 1, by omega, by go_num, hbel5⟩
            case measure => simp [intOf]
        · have hd0 := hbr.cell 9
          have hd1 := hbr.cell 10
          have hd2 := hbr.cell 11
          simp only [List.getElem?_cons_zero, List.getElem?_cons_succ] at hd0 hd1 hd2
          by_cases hg : goodR L ⟨(L.length : Int), 1, 1⟩
          · have HA := Lib.hid (HC.out ⟨(L.length : Int), 1, 1⟩ hg HTF.out)
            have HGD := Lib.hid hg
            clear hg
            go_wp2_with fail
            refine (implRecodeValid _ _ L ⟨(L.length : Int), 1, 1⟩ _ hWr.2.2.1 (by omega)).mono ?_
            rintro e w5 ⟨hrb, hb5⟩
            obtain rfl := hrb.isTrue HGD.out
            have hbr5 := hbr.below hb5 hbr.lt
            have hbel5 := hbel.trans (hb5.mono hbel.size)
            have hWr5 := hWr.below hb5
            clear hd0 hd1 hd2 hrb hb5 hbr hWr
            have hd0 := hbr5.cell 9
            have hd1 := hbr5.cell 10
            have hd2 := hbr5.cell 11
            simp only [List.getElem?_cons_zero, List.getElem?_cons_succ] at hd0 hd1 hd2
            go_wp2_with fail
            refine (implAnonOk _ _ _ _ l L ⟨(L.length : Int), 1, 1⟩ k _ hWr5).mono ?_
            rw [HA.out]
            rintro e w6 ⟨rfl, hb6⟩
            have hbel6 := hbel5.trans (hb6.mono hbel5.size)
            clear hd0 hd1 hd2
            go_wp2
            go_roundw
            case rel => exact ⟨3 + 1, by omega, by go_num, hbel6⟩
            case measure => simp [intOf]
          · have HGD := Lib.hid hg
            clear hg
            go_wp2_with fail
            refine (implRecodeValid _ _ L ⟨(L.length : Int), 1, 1⟩ _ hWr.2.2.1 (by omega)).mono ?_
            rintro e w5 ⟨hrb, hb5⟩
            obtain rfl := hrb.isFalse HGD.out
            have hbel5 := hbel.trans (hb5.mono hbel.size)
            clear hd0 hd1 hd2
            go_wp2
            go_roundw
            case rel => exact ⟨3 + 1, by omega, by go_num, hbel5⟩
            case measure => simp [intOf]
        · go_wp2
          go_ret
          exact ⟨rfl, hB5.trans (hbel.mono hB5.size)⟩
  · have hbig2 : 1048576 < bs.length := by omega
    go_enter Try.func4, Try.ntmps4
    go_wp2
    go_ret
    exact ⟨rfl, Below.refl _ _⟩
end Go.Proofs.Ytljjaanohcibcaa.WFnAnonOkCoarser
