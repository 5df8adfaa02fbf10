/- FnDrop, walked. -/
import Derived.Test.YtljjaanohcibcaaLawKit
import Derived.Test.YtljjaanohcibcaaPlain2
import Derived.Test.YtljjaanohcibcaaAnonI
import Derived.Test.YtljjaanohcibcaaGrpI
import Derived.Test.YtljjaanohcibcaaDrwAnonDrop
namespace Go.Proofs.Ytljjaanohcibcaa.WFnDrop
open Go.RowKit
set_option linter.unusedVariables false

theorem drpTo_take {x : List Pn} {k : Int} {i : Nat} (h : i < x.length) : drpTo x k (x.take (i + 1)) = drpTo x k (x.take i) + if (gsz x (nth x i) : Int) < k then 1 else 0 := by
  rw [List.take_succ_eq_append_getElem h, drpTo_snoc]
  simp [nth, h]
set_option maxRecDepth 100000 in
set_option maxHeartbeats 4000000 in
theorem walk (w : World) (A : Option Addr) (c : Nat) (bs : List Int) (hn : bs.length ≤ 9223372036854775807) (hec : bs.length ≤ c ∧ c ≤ 9223372036854775807) (hg : Rds w w.heap.size 1 A bs.length (bs.map (Value.int .u8))) (hb : ∀ z ∈ bs, 0 ≤ z ∧ z ≤ 255) : Calls Try.prog 3 #[.slice A bs.length c] w fun e w' => e = .returned (.bool true) ∧ Below w.heap.size w w' := by
  have hB : Byt w A c bs := ⟨hg, hec.1, hec.2, hb⟩
  clear hg hb
  by_cases hbig : bs.length ≤ 1048576
  · go_enter Try.func3, Try.ntmps3
    go_wp2_with fail
    refine (specDrawAnonDrop A c bs w hB).mono ?_
    rintro e w1 ⟨A1, c1, l, A2, c2, L, ⟨xa, xj, xs⟩, k, rfl, hA, hD, hkb, hb1⟩
    have hD0 := Lib.hid hD
    obtain ⟨hl10, hL4, hxs, hps, hrs, hlc, hcm, hLc, hcm2⟩ := hD
    clear hps hrs hxs hB
    have hW2 : LW (w1.alloc (.cells #[.int .i64 xa, .int .i64 xj, .int .i64 xs] 26)) A1 l A2 L w1.heap.size xa xj xs := ⟨hA.below ((Below.refl _ _).alloc (Nat.le_refl _) _), Blk.new w1 _ _⟩
    have hB2 := hb1.alloc hb1.size (.cells #[.int .i64 xa, .int .i64 xj, .int .i64 xs] 26)
    clear hA hb1
    obtain ⟨V, hV⟩ : ∃ V, V = aDrop l L ⟨xa, xj, xs⟩ k := ⟨_, rfl⟩
    have HV := Lib.hid hV
    clear hV
    go_wp2_with fail
    refine (implAnonDrop _ _ _ _ l L ⟨xa, xj, xs⟩ k _ hW2.1).mono ?_
    rw [← HV.out]
    rintro e w3 ⟨rfl, hb3⟩
    have hW3 := hW2.below hb3
    have hB3 := hB2.trans (hb3.mono hB2.size)
    obtain ⟨hc0, hc1, hc2⟩ := hW3.cells
    clear hW2 hB2 hb3
    go_wp2_with fail
    refine (specAnonDrop _ _ _ _ l L ⟨xa, xj, xs⟩ k _ hW3.1).mono ?_
    rw [← HV.out]
    rintro e w4 ⟨rfl, hb4⟩
    have hW4 := hW3.below hb4
    have hB4 := hB3.trans (hb4.mono hB3.size)
    obtain ⟨hc0, hc1, hc2⟩ := hW4.cells
    clear hW3 hB3 hb4
    by_cases hok : 0 ≤ V
    · obtain ⟨ho, hk1, hk2⟩ := aDrop_ok (by rw [← HV.out]; exact hok)
      have hV1 := HV.out.trans (aDrop_yes ho rfl hk1 hk2)
      obtain ⟨x, hx⟩ : ∃ x, x = recd L ⟨xa, xj, xs⟩ l := ⟨_, rfl⟩
      have hxl : x.length = l.length := by rw [hx, recd_length]
      rw [← hx] at hV1
      have hx1 := drp_le x k
      obtain ⟨T, hT⟩ : ∃ T, T = aDrop l L ⟨xa, xj, xs⟩ (k + 1) := ⟨_, rfl⟩
      obtain ⟨O, hO⟩ : ∃ O, O = aDrop l L ⟨xa, xj, xs⟩ 1 := ⟨_, rfl⟩
      have hO1 : O = 0 := by rw [hO, aDrop_yes ho hx (by omega) (by omega), drp_one]; rfl
      have hT1 : (V ≤ T ∧ k < 40) ∨ (k = 40 ∧ T = -1) := by
        by_cases h40 : k < 40
        · left
          have := drp_mono (x := x) (a := k) (b := k + 1) (by omega)
          have h2 := hT.trans (aDrop_yes ho hx (by omega) (by omega))
          omega
        · right
          refine ⟨by omega, ?_⟩
          rw [hT]
          exact if_neg (fun h => by omega)
      have hVl : V ≤ l.length := by omega
      have HT := Lib.hid hT; clear hT
      have HO := Lib.hid hO; clear hO
      have Hx := Lib.hid hx; clear hx
      have Hxl := Lib.hid hxl; clear hxl
      have HX := Lib.hid ho
      have HV1 := Lib.hid hV1
      clear ho hV1 hx1
      go_wp2
      go_loopw [9, 10] (fun n t wr => ∃ i : Nat, i ≤ l.length ∧ t = .int .i64 i ∧ n = .int .i64 (drpTo x k (x.take i)) ∧ Below w4.heap.size w4 wr) (fun _ t _ => l.length - (intOf t).toNat)
      case atStart => exact ⟨0, by omega, rfl, by simp [drpTo], Below.refl _ _⟩
      case round =>
        obtain ⟨i, hi, rfl, rfl, hbel⟩ := hrel
        have hWr := hW4.below hbel
        obtain ⟨hc0, hc1, hc2⟩ := hWr.cells
        have hBr := hB4.trans (hbel.mono hB4.size)
        by_cases hlt : i < l.length
        · have hgs : gSize l L ⟨xa, xj, xs⟩ (i : Int) = gsz x (nth x i) := by
            rw [gSize_yes HX.out Hx.out (by omega) (by omega)]; simp
          have HFN := Lib.hid (drpTo_take (x := x) (k := k) (i := i) (by have := Hxl.out; omega))
          have HGS := Lib.hid hgs
          have hD1 := drpTo_le x k (x.take i)
          rw [List.length_take] at hD1
          have hD2 : drpTo x k (x.take i) ≤ 10 := by omega
          clear hgs hD1
          generalize gsz x (nth x i) = z at *
          generalize drpTo x k (x.take i) = D at *
          go_wp2_with fail
          refine (implGroupSize _ _ _ _ l L ⟨xa, xj, xs⟩ i _ hWr.1).mono ?_
          rw [HGS.out]
          rintro e w5 ⟨rfl, hb5⟩
          have hbel5 := hbel.trans (hb5.mono hbel.size)
          clear hb5 hWr
          by_cases hzk : (z : Int) < k
          · have HF1 : Hid (drpTo x k (x.take (i + 1)) = D + 1) := by unfold Hid; rw [HFN.out, if_pos hzk]
            go_wp2
            go_roundw
            case rel => exact ⟨i + 1, by omega, by go_num, by rw [HF1.out]; go_num, hbel5⟩
            case measure => simp [intOf]; omega
          · have HF1 : Hid (drpTo x k (x.take (i + 1)) = D) := by unfold Hid; rw [HFN.out, if_neg hzk]; rfl
            have hzk2 : k ≤ (z : Int) := by omega
            go_wp2
            go_roundw
            case rel => exact ⟨i + 1, by omega, by go_num, by rw [HF1.out], hbel5⟩
            case measure => simp [intOf]; omega
        · have hil : i = l.length := by omega
          have hn1 : (drpTo x k (x.take i) : Int) = V := by
            rw [hil, ← Hxl.out, List.take_length]
            exact HV1.out.symm
          rw [hn1]
          clear hil hn1
          go_wp2_with fail
          refine (implAnonDrop _ _ _ _ l L ⟨xa, xj, xs⟩ (k + 1) _ hWr.1).mono ?_
          rw [← HT.out]
          rintro e w5 ⟨rfl, hb5⟩
          have hW5 := hWr.below hb5
          have hB5 := hBr.trans (hb5.mono hBr.size)
          obtain ⟨hc0, hc1, hc2⟩ := hW5.cells
          clear hWr hBr hb5
          go_wp2_with fail
          refine (implAnonDrop _ _ _ _ l L ⟨xa, xj, xs⟩ 1 _ hW5.1).mono ?_
          rw [← HO.out]
          rintro e w6 ⟨rfl, hb6⟩
          have hW6 := hW5.below hb6
          have hB6 := hB5.trans (hb6.mono hB5.size)
          obtain ⟨hc0, hc1, hc2⟩ := hW6.cells
          clear hW5 hB5 hb6
          rcases hT1 with ⟨hT1, hk3⟩ | ⟨rfl, rfl⟩
          · subst hO1
            go_wp2
            go_ret
            exact ⟨rfl, hB6⟩
          · subst hO1
            go_wp2
            go_ret
            exact ⟨rfl, hB6⟩
    · have hV1 : V < 0 := by omega
      go_wp2
      go_ret
      exact ⟨rfl, hB4⟩
  · have hbig2 : 1048576 < bs.length := by omega
    go_enter Try.func3, Try.ntmps3
    go_wp2
    go_ret
    exact ⟨rfl, Below.refl _ _⟩
end Go.Proofs.Ytljjaanohcibcaa.WFnDrop
