/- FnBest, walked. -/
import Derived.Test.YtfpddhehdfckjaaLawKit
import Derived.Test.YtfpddhehdfckjaaPlain2
import Derived.Test.YtfpddhehdfckjaaBestS
import Derived.Test.YtfpddhehdfckjaaDrwAnonBest
import Derived.Test.YtfpddhehdfckjaaPlain4
import Derived.IntWalk
namespace Go.Proofs.Ytfpddhehdfckjaa.WFnBest
open Go.RowKit
set_option linter.unusedVariables false
set_option linter.unusedSimpArgs false

set_option maxRecDepth 100000 in
set_option maxHeartbeats 4000000 in
theorem walk (w : World) (A : Option Addr) (c : Nat) (bs : List Int) (hn : bs.length ≤ 9223372036854775807) (hec : bs.length ≤ c ∧ c ≤ 9223372036854775807) (hg : Rds w w.heap.size 1 A bs.length (bs.map (Value.int .u8))) (hb : ∀ z ∈ bs, 0 ≤ z ∧ z ≤ 255) : Calls Try.prog 7 #[.slice A bs.length c] w fun e w' => e = .returned (.bool true) ∧ Below w.heap.size w w' := by
  have hB : Byt w A c bs := ⟨hg, hec.1, hec.2, hb⟩
  clear hg hb
  by_cases hbig : bs.length ≤ 1048576
  · go_enter Try.func7, Try.ntmps7
    go_wp2_with fail
    refine (specDrawAnonBest A c bs w hB).mono ?_
    rintro e w1 ⟨A1, c1, l, A2, c2, L, k, d, rfl, hA, hD, ⟨hk0, hk41⟩, ⟨hd0, hd1⟩, hb1⟩
    have hD0 := Lib.hid hD
    obtain ⟨hl10, hL4, hps, hrs, hlc, hcm, hLc, hcm2⟩ := hD
    clear hps hrs hB
    obtain ⟨o, ho⟩ : ∃ o, o = aBest l L k d := ⟨_, rfl⟩
    have HO := Lib.hid ho
    clear ho
    go_wp2_with fail
    refine (implAnonBest _ _ _ _ l L k d _ hA).mono ?_
    rw [← HO.out]
    rintro e v1 ⟨rfl, hb2⟩
    rcases o with _ | ⟨xa, xj, xs⟩
    · dsimp only [bestV]
      have hA2 := hA.below hb2
      have hB2 := hb1.trans (hb2.mono hb1.size)
      have hW3 : LW (v1.alloc (.cells #[.int .i64 0, .int .i64 0, .int .i64 0] 44)) A1 l A2 L v1.heap.size 0 0 0 := ⟨hA2.below ((Below.refl _ _).alloc (Nat.le_refl _) _), Blk.new v1 _ _⟩
      have hB3 := hB2.alloc hB2.size (.cells #[.int .i64 0, .int .i64 0, .int .i64 0] 44)
      obtain ⟨hc0, hc1, hc2⟩ := hW3.cells
      clear hA hb1 hb2 hA2 hB2
      go_wp2_with fail
      refine (specAnonBest _ _ _ _ l L k d _ hW3.1).mono ?_
      rw [← HO.out]
      dsimp only [bestV, Rc.val]
      rintro e v2 ⟨rfl, hb4⟩
      have hW4 := hW3.below hb4
      have hB4 := hB3.trans (hb4.mono hB3.size)
      have hW5 : LW (v2.alloc (.cells #[.int .i64 0, .int .i64 0, .int .i64 0] 44)) A1 l A2 L v1.heap.size 0 0 0 := hW4.below ((Below.refl _ _).alloc (Nat.le_refl _) _)
      have hB5 := hB4.alloc hB4.size (.cells #[.int .i64 0, .int .i64 0, .int .i64 0] 44)
      have q5 := Blk.new v2 44 #[.int .i64 0, .int .i64 0, .int .i64 0]
      have y0 := q5.cell 0
      have y1 := q5.cell 1
      have y2 := q5.cell 2
      simp only [List.getElem?_cons_zero, List.getElem?_cons_succ] at y0 y1 y2
      obtain ⟨hc0, hc1, hc2⟩ := hW5.cells
      clear hW3 hW4 hB3 hB4 hb4 q5
      go_wp2
      go_ret
      exact ⟨rfl, hB5⟩
    · dsimp only [bestV, Rc.val]
      have hA2 := hA.below hb2
      have hB2 := hb1.trans (hb2.mono hb1.size)
      have hW3 : LW (v1.alloc (.cells #[.int .i64 xa, .int .i64 xj, .int .i64 xs] 44)) A1 l A2 L v1.heap.size xa xj xs := ⟨hA2.below ((Below.refl _ _).alloc (Nat.le_refl _) _), Blk.new v1 _ _⟩
      have hB3 := hB2.alloc hB2.size (.cells #[.int .i64 xa, .int .i64 xj, .int .i64 xs] 44)
      obtain ⟨hc0, hc1, hc2⟩ := hW3.cells
      clear hA hb1 hb2 hA2 hB2
      go_wp2_with fail
      refine (specAnonBest _ _ _ _ l L k d _ hW3.1).mono ?_
      rw [← HO.out]
      dsimp only [bestV, Rc.val]
      rintro e v2 ⟨rfl, hb4⟩
      have hW4 := hW3.below hb4
      have hB4 := hB3.trans (hb4.mono hB3.size)
      have hW5 : LW (v2.alloc (.cells #[.int .i64 xa, .int .i64 xj, .int .i64 xs] 44)) A1 l A2 L v1.heap.size xa xj xs := hW4.below ((Below.refl _ _).alloc (Nat.le_refl _) _)
      have hB5 := hB4.alloc hB4.size (.cells #[.int .i64 xa, .int .i64 xj, .int .i64 xs] 44)
      have q5 := Blk.new v2 44 #[.int .i64 xa, .int .i64 xj, .int .i64 xs]
      have y0 := q5.cell 0
      have y1 := q5.cell 1
      have y2 := q5.cell 2
      simp only [List.getElem?_cons_zero, List.getElem?_cons_succ] at y0 y1 y2
      obtain ⟨hc0, hc1, hc2⟩ := hW5.cells
      clear hW3 hW4 hB3 hB4 hb4 q5
      have hbo := aBest_ok HO.out.symm
      have hbs := aBest_some HO.out.symm
      have ho : okA l L ⟨xa, xj, xs⟩ := ⟨hbo.1, hbs.1⟩
      have hC0 := aCost_nn hbs.1
      obtain ⟨C, hC⟩ : ∃ C, C = aCost L ⟨xa, xj, xs⟩ := ⟨_, rfl⟩
      obtain ⟨D, hD⟩ : ∃ D, D = aDrop l L ⟨xa, xj, xs⟩ k := ⟨_, rfl⟩
      have hDd := hbs.2.1
      rw [← hD] at hDd
      rw [← hC] at hC0
      have HM := Lib.hid (show ∀ j, j < 4 * (L.length + 1) → aDrop l L (cand j) k ≤ d → C ≤ aCost L (cand j) by rw [hC]; exact hbs.2.2)
      have HC := Lib.hid hC; clear hC
      have HD := Lib.hid hD; clear hD
      clear hbo hbs ho
      go_wp2_with fail
      refine (implAnonCost _ _ L ⟨xa, xj, xs⟩ _ hW5.1.2.2.1 (by omega) hW5.1.2.2.2.2).mono ?_
      rw [← HC.out]
      rintro e w6 ⟨rfl, hb6⟩
      clear y0 y1 y2
      have hW6 := hW5.below hb6
      have hB6 := hB5.trans (hb6.mono hB5.size)
      obtain ⟨hc0, hc1, hc2⟩ := hW6.cells
      clear hW5 hB5 hb6
      have HW := Lib.hid hW6
      have HB := Lib.hid hB6
      clear hW6 hB6 hc0 hc1 hc2
      go_wp2
      go_loopw [12] (fun t wr => ∃ i : Nat, i ≤ L.length + 1 ∧ t = .int .i64 i ∧ Below w6.heap.size w6 wr) (fun t _ => L.length + 1 - (intOf t).toNat)
      case atStart => exact ⟨0, by omega, rfl, Below.refl _ _⟩
      case round =>
        obtain ⟨i, hi, rfl, hbel⟩ := hrel
        by_cases hlt : i ≤ L.length
        · go_wp2
          go_loopw [13] (fun t wr => ∃ j : Nat, j ≤ 4 ∧ t = .int .i64 j ∧ Below w6.heap.size w6 wr) (fun t _ => 4 - (intOf t).toNat)
          case atStart => exact ⟨0, by omega, rfl, hbel⟩
          case round =>
            clear hbel
            obtain ⟨j, hj, rfl, hbel⟩ := hrel
            by_cases hlt2 : j < 4
            · have hmin := HM.out (4 * i + j) (by omega)
              rw [cand_at i j hlt2] at hmin
              obtain ⟨X, hX⟩ : ∃ X, X = aDrop l L ⟨(i : Int), (j : Int) / 2, (j : Int) % 2⟩ k := ⟨_, rfl⟩
              obtain ⟨E, hE⟩ : ∃ E, E = aCost L ⟨(i : Int), (j : Int) / 2, (j : Int) % 2⟩ := ⟨_, rfl⟩
              rw [← hX, ← hE] at hmin
              have q0 := Blk.new wr 44 #[.int .i64 i, .int .i64 ((j : Int) / 2), .int .i64 ((j : Int) % 2)]
              have y0 := q0.cell 0
              have y1 := q0.cell 1
              have y2 := q0.cell 2
              simp only [List.getElem?_cons_zero, List.getElem?_cons_succ] at y0 y1 y2
              have hb1 := hbel.alloc hbel.size (.cells #[.int .i64 i, .int .i64 ((j : Int) / 2), .int .i64 ((j : Int) % 2)] 44)
              have HX := Lib.hid hX; clear hX
              have HE := Lib.hid hE; clear hE
              clear hbel
              go_wp2_with fail
              refine (implAnonDrop _ _ _ _ l L ⟨(i : Int), (j : Int) / 2, (j : Int) % 2⟩ k _ (HW.out.below hb1).1).mono ?_
              rw [← HX.out]
              rintro e x1 ⟨rfl, hq1⟩
              have q1 := q0.below hq1 q0.lt
              have hb2 := hb1.trans (hq1.mono hb1.size)
              clear y0 y1 y2 hb1 hq1 q0
              have y0 := q1.cell 0
              have y1 := q1.cell 1
              have y2 := q1.cell 2
              simp only [List.getElem?_cons_zero, List.getElem?_cons_succ] at y0 y1 y2
              clear q1
              by_cases hle : X ≤ d
              · have hCE : C ≤ E := hmin hle
                clear hmin
                go_wp2_with fail
                refine (implAnonCost _ _ L ⟨(i : Int), (j : Int) / 2, (j : Int) % 2⟩ _ (HW.out.below hb2).1.2.2.1 (by omega) HW.out.1.2.2.2.2).mono ?_
                rw [← HE.out]
                rintro e x3 ⟨rfl, hq3⟩
                have hb3 := hb2.trans (hq3.mono hb2.size)
                clear hq3 hb2 y0 y1 y2
                go_wp2
                go_roundw
                case rel => exact ⟨j + 1, by omega, by go_num, hb3⟩
                case measure => simp [intOf]; omega
              · have hlt9 : d < X := by omega
                clear hmin
                go_wp2
                go_roundw
                case rel => exact ⟨j + 1, by omega, by go_num, hb2⟩
                case measure => simp [intOf]; omega
            · go_wp2
              go_roundw
              case rel => exact ⟨i + 1, by omega, by go_num, hbel⟩
              case measure => simp [intOf]; omega
        · have hWe := HW.out.below hbel
          obtain ⟨hc0, hc1, hc2⟩ := hWe.cells
          go_wp2_with fail
          refine (implAnonDrop _ _ _ _ l L ⟨xa, xj, xs⟩ k _ hWe.1).mono ?_
          rw [← HD.out]
          rintro e w7 ⟨rfl, hq7⟩
          have hB9 := (HB.out.trans (hbel.mono HB.out.size)).trans (hq7.mono (Nat.le_trans HB.out.size hbel.size))
          go_wp2
          go_ret
          exact ⟨rfl, hB9⟩
  · have hbig2 : 1048576 < bs.length := by omega
    go_enter Try.func7, Try.ntmps7
    go_wp2
    go_ret
    exact ⟨rfl, Below.refl _ _⟩
end Go.Proofs.Ytfpddhehdfckjaa.WFnBest
