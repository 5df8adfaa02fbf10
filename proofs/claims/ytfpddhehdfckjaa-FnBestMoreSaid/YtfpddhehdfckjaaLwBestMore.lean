/- FnBestMore, walked. -/
import Derived.Test.YtfpddhehdfckjaaLawKit
import Derived.Test.YtfpddhehdfckjaaPlain2
import Derived.Test.YtfpddhehdfckjaaBestS
import Derived.Test.YtfpddhehdfckjaaDrwAnonBest
import Derived.Test.YtfpddhehdfckjaaPlain4
import Derived.IntWalk
namespace Go.Proofs.Ytfpddhehdfckjaa.WFnBestMore
open Go.RowKit
set_option linter.unusedVariables false
set_option linter.unusedSimpArgs false

set_option maxRecDepth 100000 in
set_option maxHeartbeats 4000000 in
theorem walk (w : World) (A : Option Addr) (c : Nat) (bs : List Int) (hn : bs.length ≤ 9223372036854775807) (hec : bs.length ≤ c ∧ c ≤ 9223372036854775807) (hg : Rds w w.heap.size 1 A bs.length (bs.map (Value.int .u8))) (hb : ∀ z ∈ bs, 0 ≤ z ∧ z ≤ 255) : Calls Try.prog 9 #[.slice A bs.length c] w fun e w' => e = .returned (.bool true) ∧ Below w.heap.size w w' := by
  have hB : Byt w A c bs := ⟨hg, hec.1, hec.2, hb⟩
  clear hg hb
  by_cases hbig : bs.length ≤ 1048576
  · go_enter Try.func9, Try.ntmps9
    go_wp2_with fail
    refine (specDrawAnonBest A c bs w hB).mono ?_
    rintro e w1 ⟨A1, c1, l, A2, c2, L, k, d, rfl, hA, hD, ⟨hk0, hk41⟩, ⟨hd0, hd1⟩, hb1⟩
    have hD0 := Lib.hid hD
    obtain ⟨hl10, hL4, hps, hrs, hlc, hcm, hLc, hcm2⟩ := hD
    clear hps hrs hB
    obtain ⟨o, ho⟩ : ∃ o, o = aBest l L k d := ⟨_, rfl⟩
    have HO := Lib.hid ho
    clear ho
    go_wp2_with fail
    refine (implAnonBest _ _ _ _ l L k d _ hA).mono ?_
    rw [← HO.out]
    rintro e v1 ⟨rfl, hb2⟩
    rcases o with _ | ⟨xa, xj, xs⟩
    · dsimp only [bestV]
      have hA2 := hA.below hb2
      have hB2 := hb1.trans (hb2.mono hb1.size)
      have hW3 : LW (v1.alloc (.cells #[.int .i64 0, .int .i64 0, .int .i64 0] 44)) A1 l A2 L v1.heap.size 0 0 0 := ⟨hA2.below ((Below.refl _ _).alloc (Nat.le_refl _) _), Blk.new v1 _ _⟩
      have hB3 := hB2.alloc hB2.size (.cells #[.int .i64 0, .int .i64 0, .int .i64 0] 44)
      obtain ⟨hc0, hc1, hc2⟩ := hW3.cells
      clear hA hb1 hb2 hA2 hB2
      go_wp2_with fail
      refine (specAnonBest _ _ _ _ l L k d _ hW3.1).mono ?_
      rw [← HO.out]
      dsimp only [bestV, Rc.val]
      rintro e v2 ⟨rfl, hb4⟩
      have hW4 := hW3.below hb4
      have hB4 := hB3.trans (hb4.mono hB3.size)
      have hW5 : LW (v2.alloc (.cells #[.int .i64 0, .int .i64 0, .int .i64 0] 44)) A1 l A2 L v1.heap.size 0 0 0 := hW4.below ((Below.refl _ _).alloc (Nat.le_refl _) _)
      have hB5 := hB4.alloc hB4.size (.cells #[.int .i64 0, .int .i64 0, .int .i64 0] 44)
      have q5 := Blk.new v2 44 #[.int .i64 0, .int .i64 0, .int .i64 0]
      have y0 := q5.cell 0
      have y1 := q5.cell 1
      have y2 := q5.cell 2
      simp only [List.getElem?_cons_zero, List.getElem?_cons_succ] at y0 y1 y2
      obtain ⟨hc0, hc1, hc2⟩ := hW5.cells
      clear hW3 hW4 hB3 hB4 hb4 q5
      go_wp2
      go_ret
      exact ⟨rfl, hB5⟩
    · dsimp only [bestV, Rc.val]
      have hA2 := hA.below hb2
      have hB2 := hb1.trans (hb2.mono hb1.size)
      have hW3 : LW (v1.alloc (.cells #[.int .i64 xa, .int .i64 xj, .int .i64 xs] 44)) A1 l A2 L v1.heap.size xa xj xs := ⟨hA2.below ((Below.refl _ _).alloc (Nat.le_refl _) _), Blk.new v1 _ _⟩
      have hB3 := hB2.alloc hB2.size (.cells #[.int .i64 xa, .int .i64 xj, .int .i64 xs] 44)
      obtain ⟨hc0, hc1, hc2⟩ := hW3.cells
      clear hA hb1 hb2 hA2 hB2
      go_wp2_with fail
      refine (specAnonBest _ _ _ _ l L k d _ hW3.1).mono ?_
      rw [← HO.out]
      dsimp only [bestV, Rc.val]
      rintro e v2 ⟨rfl, hb4⟩
      have hW4 := hW3.below hb4
      have hB4 := hB3.trans (hb4.mono hB3.size)
      have hW5 : LW (v2.alloc (.cells #[.int .i64 xa, .int .i64 xj, .int .i64 xs] 44)) A1 l A2 L v1.heap.size xa xj xs := hW4.below ((Below.refl _ _).alloc (Nat.le_refl _) _)
      have hB5 := hB4.alloc hB4.size (.cells #[.int .i64 xa, .int .i64 xj, .int .i64 xs] 44)
      have q5 := Blk.new v2 44 #[.int .i64 xa, .int .i64 xj, .int .i64 xs]
      have y0 := q5.cell 0
      have y1 := q5.cell 1
      have y2 := q5.cell 2
      simp only [List.getElem?_cons_zero, List.getElem?_cons_succ] at y0 y1 y2
      obtain ⟨hc0, hc1, hc2⟩ := hW5.cells
      clear hW3 hW4 hB3 hB4 hb4 q5
      have hbo := aBest_ok HO.out.symm
      have hbs := aBest_some HO.out.symm
      obtain ⟨i, hi, hci⟩ := aBest_cand HO.out.symm
      have ho : okA l L ⟨xa, xj, xs⟩ := ⟨hbo.1, hbs.1⟩
      obtain ⟨hk1, hk2⟩ := hbo.2.2.1
      have hdd := hbo.2.2.2
      have hdr := hbs.2.1
      obtain ⟨b1, hb1, hc1'⟩ := aBest_has (l := l) (L := L) (k := k) (d := d + 1) (j := i) ⟨hbo.1, hbo.2.1, ⟨hk1, hk2⟩, by omega⟩ hi (by rw [← hci]; omega)
      rw [← hci] at hc1'
      have H1 := Lib.hid hb1
      obtain ⟨C, hC⟩ : ∃ C, C = aCost L ⟨xa, xj, xs⟩ := ⟨_, rfl⟩
      obtain ⟨D, hD⟩ : ∃ D, D = aCost L b1 := ⟨_, rfl⟩
      have hDC : D ≤ C := by omega
      have HC := Lib.hid hC; clear hC
      have HD := Lib.hid hD; clear hD
      have HKO : Hid ((k = 1 → aBest l L (k - 1) d = none) ∧ (k ≠ 1 → ∃ b2, aBest l L (k - 1) d = some b2 ∧ aCost L b2 ≤ C)) := ⟨fun h => if_neg (fun h2 => by have := h2.2.2.1.1; omega), fun h => by
        rw [HC.out, hci]
        refine aBest_has ⟨hbo.1, hbo.2.1, ⟨by omega, by omega⟩, hdd⟩ hi ?_
        rw [← hci]
        rw [aDrop_yes ho rfl hk1 hk2] at hdr
        rw [aDrop_yes ho rfl (by omega) (by omega)]
        have := drp_mono (x := recd L ⟨xa, xj, xs⟩ l) (show k - 1 ≤ k by omega)
        omega⟩
      clear ho hbo hbs hci hb1 hc1' hdr
      obtain ⟨ra, rj, rs⟩ := b1
      go_wp2_with fail
      refine (implAnonBest _ _ _ _ l L k (d + 1) _ hW5.1).mono ?_
      rw [H1.out]
      dsimp only [bestV, Rc.val]
      rintro e w6 ⟨rfl, hb6⟩
      clear y0 y1 y2
      have hW6 := hW5.below hb6
      have hB6 := hB5.trans (hb6.mono hB5.size)
      obtain ⟨hc0, hc1, hc2⟩ := hW6.cells
      clear hW5 hB5 hb6
      have hW7 := hW6.below (((Below.refl _ _).alloc (Nat.le_refl _) _) : Below w6.heap.size w6 (w6.alloc (.cells #[.int .i64 ra, .int .i64 rj, .int .i64 rs] 44)))
      have hB7 := hB6.alloc hB6.size (.cells #[.int .i64 ra, .int .i64 rj, .int .i64 rs] 44)
      have q7 := Blk.new w6 44 #[.int .i64 ra, .int .i64 rj, .int .i64 rs]
      obtain ⟨hc0, hc1, hc2⟩ := hW7.cells
      clear hW6 hB6
      by_cases hk : k = 1
      · have e1 : (k == 1) = true := by simp [hk]
        have H2 := Lib.hid (HKO.out.1 hk)
        clear hk HKO
        go_wp2_with fail
        refine (implAnonBest _ _ _ _ l L (k - 1) d _ hW7.1).mono ?_
        rw [H2.out]
        dsimp only [bestV, Rc.val]
        rintro e w8 ⟨rfl, hb8⟩
        have p8 := q7.below hb8 q7.lt
        have hW8 := hW7.below hb8
        have hB8 := hB7.trans (hb8.mono hB7.size)
        obtain ⟨hc0, hc1, hc2⟩ := hW8.cells
        clear hW7 hB7 hb8
        have hW9 := hW8.below (((Below.refl _ _).alloc (Nat.le_refl _) _) : Below w8.heap.size w8 (w8.alloc (.cells #[.int .i64 0, .int .i64 0, .int .i64 0] 44)))
        have hB9 := hB8.alloc hB8.size (.cells #[.int .i64 0, .int .i64 0, .int .i64 0] 44)
        have q9 := Blk.new w8 44 #[.int .i64 0, .int .i64 0, .int .i64 0]
        obtain ⟨hc0, hc1, hc2⟩ := hW9.cells
        clear hW8 hB8
        have p9 := p8.alloc (.cells #[.int .i64 0, .int .i64 0, .int .i64 0] 44)
        clear p8 q7 q9
        go_wp2_with fail
        refine (implAnonCost _ _ L ⟨xa, xj, xs⟩ _ hW9.1.2.2.1 (by omega) hW9.1.2.2.2.2).mono ?_
        rw [← HC.out]
        rintro e w10 ⟨rfl, hb10⟩
        have p10 := p9.below hb10 p9.lt
        have hW10 := hW9.below hb10
        have hB10 := hB9.trans (hb10.mono hB9.size)
        obtain ⟨hc0, hc1, hc2⟩ := hW10.cells
        clear hW9 hB9 hb10
        have z0 := p10.cell 0
        have z1 := p10.cell 1
        have z2 := p10.cell 2
        simp only [List.getElem?_cons_zero, List.getElem?_cons_succ] at z0 z1 z2
        clear p9
        go_wp2_with fail
        refine (implAnonCost _ _ L ⟨ra, rj, rs⟩ _ hW10.1.2.2.1 (by omega) hW10.1.2.2.2.2).mono ?_
        rw [← HD.out]
        rintro e w11 ⟨rfl, hb11⟩
        clear z0 z1 z2 p10
        have hW11 := hW10.below hb11
        have hB11 := hB10.trans (hb11.mono hB10.size)
        obtain ⟨hc0, hc1, hc2⟩ := hW11.cells
        clear hW10 hB10 hb11
        go_wp2
        go_ret
        exact ⟨rfl, hB11⟩
      · have e1 : (k == 1) = false := beq_eq_false_iff_ne.2 hk
        obtain ⟨⟨sa, sj, ss⟩, hb2, hs⟩ := HKO.out.2 hk
        have H2 := Lib.hid hb2
        clear hk HKO hb2
        obtain ⟨E, hE⟩ : ∃ E, E = aCost L ⟨sa, sj, ss⟩ := ⟨_, rfl⟩
        have hEC : E ≤ C := by omega
        have HE := Lib.hid hE; clear hE
        clear hs
        go_wp2_with fail
        refine (implAnonBest _ _ _ _ l L (k - 1) d _ hW7.1).mono ?_
        rw [H2.out]
        dsimp only [bestV, Rc.val]
        rintro e w8 ⟨rfl, hb8⟩
        have p8 := q7.below hb8 q7.lt
        have hW8 := hW7.below hb8
        have hB8 := hB7.trans (hb8.mono hB7.size)
        obtain ⟨hc0, hc1, hc2⟩ := hW8.cells
        clear hW7 hB7 hb8
        have hW9 := hW8.below (((Below.refl _ _).alloc (Nat.le_refl _) _) : Below w8.heap.size w8 (w8.alloc (.cells #[.int .i64 sa, .int .i64 sj, .int .i64 ss] 44)))
        have hB9 := hB8.alloc hB8.size (.cells #[.int .i64 sa, .int .i64 sj, .int .i64 ss] 44)
        have q9 := Blk.new w8 44 #[.int .i64 sa, .int .i64 sj, .int .i64 ss]
        obtain ⟨hc0, hc1, hc2⟩ := hW9.cells
        clear hW8 hB8
        have p9 := p8.alloc (.cells #[.int .i64 sa, .int .i64 sj, .int .i64 ss] 44)
        clear p8 q7
        go_wp2_with fail
        refine (implAnonCost _ _ L ⟨xa, xj, xs⟩ _ hW9.1.2.2.1 (by omega) hW9.1.2.2.2.2).mono ?_
        rw [← HC.out]
        rintro e w10 ⟨rfl, hb10⟩
        have p10 := p9.below hb10 p9.lt
        have q10 := q9.below hb10 q9.lt
        have hW10 := hW9.below hb10
        have hB10 := hB9.trans (hb10.mono hB9.size)
        obtain ⟨hc0, hc1, hc2⟩ := hW10.cells
        clear hW9 hB9 hb10
        have z0 := p10.cell 0
        have z1 := p10.cell 1
        have z2 := p10.cell 2
        simp only [List.getElem?_cons_zero, List.getElem?_cons_succ] at z0 z1 z2
        clear p9 q9
        go_wp2_with fail
        refine (implAnonCost _ _ L ⟨ra, rj, rs⟩ _ hW10.1.2.2.1 (by omega) hW10.1.2.2.2.2).mono ?_
        rw [← HD.out]
        rintro e w11 ⟨rfl, hb11⟩
        have q11 := q10.below hb11 q10.lt
        clear z0 z1 z2 p10 q10
        have hW11 := hW10.below hb11
        have hB11 := hB10.trans (hb11.mono hB10.size)
        obtain ⟨hc0, hc1, hc2⟩ := hW11.cells
        clear hW10 hB10 hb11
        have z0 := q11.cell 0
        have z1 := q11.cell 1
        have z2 := q11.cell 2
        simp only [List.getElem?_cons_zero, List.getElem?_cons_succ] at z0 z1 z2
        go_wp2_with fail
        refine (implAnonCost _ _ L ⟨sa, sj, ss⟩ _ hW11.1.2.2.1 (by omega) hW11.1.2.2.2.2).mono ?_
        rw [← HE.out]
        rintro e w12 ⟨rfl, hb12⟩
        clear z0 z1 z2 q11
        have hW12 := hW11.below hb12
        have hB12 := hB11.trans (hb12.mono hB11.size)
        obtain ⟨hc0, hc1, hc2⟩ := hW12.cells
        clear hW11 hB11 hb12
        go_wp2
        go_ret
        exact ⟨rfl, hB12⟩
  · have hbig2 : 1048576 < bs.length := by omega
    go_enter Try.func9, Try.ntmps9
    go_wp2
    go_ret
    exact ⟨rfl, Below.refl _ _⟩
end Go.Proofs.Ytfpddhehdfckjaa.WFnBestMore
