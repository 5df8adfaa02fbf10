/- FnUniques, walked. -/
import Derived.Test.YtljjaanohcibcaaLawKit
import Derived.Test.YtljjaanohcibcaaPlain2
import Derived.Test.YtljjaanohcibcaaAnonI
import Derived.Test.YtljjaanohcibcaaGrpI
import Derived.Test.YtljjaanohcibcaaDrwGroupUniques
namespace Go.Proofs.Ytljjaanohcibcaa.WFnUniques
open Go.RowKit
set_option linter.unusedVariables false

theorem unqTo_take {x : List Pn} {i : Nat} (h : i < x.length) : unqTo x (x.take (i + 1)) = unqTo x (x.take i) + if gsz x (nth x i) = 1 then 1 else 0 := by
  rw [List.take_succ_eq_append_getElem h, unqTo_snoc]
  simp [nth, h]
set_option maxRecDepth 100000 in
set_option maxHeartbeats 4000000 in
theorem walk (w : World) (A : Option Addr) (c : Nat) (bs : List Int) (hn : bs.length ≤ 9223372036854775807) (hec : bs.length ≤ c ∧ c ≤ 9223372036854775807) (hg : Rds w w.heap.size 1 A bs.length (bs.map (Value.int .u8))) (hb : ∀ z ∈ bs, 0 ≤ z ∧ z ≤ 255) : Calls Try.prog 12 #[.slice A bs.length c] w fun e w' => e = .returned (.bool true) ∧ Below w.heap.size w w' := by
  have hB : Byt w A c bs := ⟨hg, hec.1, hec.2, hb⟩
  clear hg hb
  by_cases hbig : bs.length ≤ 1048576
  · go_enter Try.func12, Try.ntmps12
    go_wp2_with fail
    refine (specDrawGroupUniques A c bs w hB).mono ?_
    rintro e w1 ⟨A1, c1, l, A2, c2, L, ⟨xa, xj, xs⟩, rfl, hA, hD, hb1⟩
    have hD0 := Lib.hid hD
    obtain ⟨hl10, hL4, hxs, hps, hrs, hlc, hcm, hLc, hcm2⟩ := hD
    clear hps hrs hxs hB
    have hW2 : LW (w1.alloc (.cells #[.int .i64 xa, .int .i64 xj, .int .i64 xs] 26)) A1 l A2 L w1.heap.size xa xj xs := ⟨hA.below ((Below.refl _ _).alloc (Nat.le_refl _) _), Blk.new w1 _ _⟩
    have hB2 := hb1.alloc hb1.size (.cells #[.int .i64 xa, .int .i64 xj, .int .i64 xs] 26)
    clear hA hb1
    obtain ⟨V, hV⟩ : ∃ V, V = aDrop l L ⟨xa, xj, xs⟩ 2 := ⟨_, rfl⟩
    have HV := Lib.hid hV
    clear hV
    go_wp2_with fail
    refine (implGroupUniques _ _ _ _ l L ⟨xa, xj, xs⟩  _ hW2.1).mono ?_
    rw [← HV.out]
    rintro e w3 ⟨rfl, hb3⟩
    have hW3 := hW2.below hb3
    have hB3 := hB2.trans (hb3.mono hB2.size)
    obtain ⟨hc0, hc1, hc2⟩ := hW3.cells
    clear hW2 hB2 hb3
    go_wp2_with fail
    refine (specGroupUniques _ _ _ _ l L ⟨xa, xj, xs⟩  _ hW3.1).mono ?_
    rw [← HV.out]
    rintro e w4 ⟨rfl, hb4⟩
    have hW4 := hW3.below hb4
    have hB4 := hB3.trans (hb4.mono hB3.size)
    obtain ⟨hc0, hc1, hc2⟩ := hW4.cells
    clear hW3 hB3 hb4
    by_cases hok : 0 ≤ V
    · obtain ⟨ho, -, -⟩ := aDrop_ok (by rw [← HV.out]; exact hok)
      have hV1 := HV.out.trans (aDrop_yes ho rfl (by decide) (by decide))
      obtain ⟨x, hx⟩ : ∃ x, x = recd L ⟨xa, xj, xs⟩ l := ⟨_, rfl⟩
      have hxl : x.length = l.length := by rw [hx, recd_length]
      rw [← hx] at hV1
      obtain ⟨M, hM⟩ : ∃ M, M = gMany l L ⟨xa, xj, xs⟩ := ⟨_, rfl⟩
      obtain ⟨T, hT⟩ : ∃ T, T = gLeast l L ⟨xa, xj, xs⟩ := ⟨_, rfl⟩
      have hM1 := hM.trans (gMany_yes ho hx)
      have hT1 := hT.trans (gLeast_yes ho hx)
      have hU := uniq_many x
      have hS := uniq_some x
      have hx1 := drp_le x 2
      have hVM : V ≤ M := by omega
      have hc2 : V = 0 ∨ T ≤ 1 := by omega
      have hVl : V ≤ l.length := by omega
      have hV2 : V = unqTo x x := by rw [hV1, ← uniq_drop]; rfl
      have HM := Lib.hid hM; clear hM
      have HT := Lib.hid hT; clear hT
      have Hx := Lib.hid hx; clear hx
      have Hxl := Lib.hid hxl; clear hxl
      have HX := Lib.hid ho
      have HV1 := Lib.hid hV2
      clear ho hV1 hV2 hx1 hM1 hT1 hU hS
      go_wp2
      go_loopw [8, 9] (fun n t wr => ∃ i : Nat, i ≤ l.length ∧ t = .int .i64 i ∧ n = .int .i64 (unqTo x (x.take i)) ∧ Below w4.heap.size w4 wr) (fun _ t _ => l.length - (intOf t).toNat)
      case atStart => exact ⟨0, by omega, rfl, by simp [unqTo], Below.refl _ _⟩
      case round =>
        obtain ⟨i, hi, rfl, rfl, hbel⟩ := hrel
        have hWr := hW4.below hbel
        obtain ⟨hc0, hc1, hc2⟩ := hWr.cells
        have hBr := hB4.trans (hbel.mono hB4.size)
        by_cases hlt : i < l.length
        · have hgs : gSize l L ⟨xa, xj, xs⟩ (i : Int) = gsz x (nth x i) := by
            rw [gSize_yes HX.out Hx.out (by omega) (by omega)]; simp
          have HFN := Lib.hid (unqTo_take (x := x) (i := i) (by have := Hxl.out; omega))
          have HGS := Lib.hid hgs
          have hD1 := unqTo_le x (x.take i)
          rw [List.length_take] at hD1
          have hD2 : unqTo x (x.take i) ≤ 10 := by omega
          clear hgs hD1
          generalize gsz x (nth x i) = z at *
          generalize unqTo x (x.take i) = D at *
          go_wp2_with fail
          refine (implGroupSize _ _ _ _ l L ⟨xa, xj, xs⟩ i _ hWr.1).mono ?_
          rw [HGS.out]
          rintro e w5 ⟨rfl, hb5⟩
          have hbel5 := hbel.trans (hb5.mono hbel.size)
          clear hb5 hWr
          by_cases hzk : z = 1
          · have HF1 : Hid (unqTo x (x.take (i + 1)) = D + 1) := by unfold Hid; rw [HFN.out, if_pos hzk]
            subst hzk
            go_wp2
            go_roundw
            case rel => exact ⟨i + 1, by omega, by go_num, by rw [HF1.out]; go_num, hbel5⟩
            case measure => simp [intOf]; omega
          · have HF1 : Hid (unqTo x (x.take (i + 1)) = D) := by unfold Hid; rw [HFN.out, if_neg hzk]; rfl
            have e1 : ((z : Int) == 1) = false := beq_eq_false_iff_ne.2 (by omega)
            have e2 : (z == 1) = false := beq_eq_false_iff_ne.2 hzk
            clear hzk
            go_wp2
            go_roundw
            case rel => exact ⟨i + 1, by omega, by go_num, by rw [HF1.out], hbel5⟩
            case measure => simp [intOf]; omega
        · have hil : i = l.length := by omega
          have hn1 : (unqTo x (x.take i) : Int) = V := by
            rw [hil, ← Hxl.out, List.take_length]
            exact HV1.out.symm
          rw [hn1]
          clear hil hn1
          go_wp2_with fail
          refine (implGroupMany _ _ _ _ l L ⟨xa, xj, xs⟩ _ hWr.1).mono ?_
          rw [← HM.out]
          rintro e w5 ⟨rfl, hb5⟩
          have hW5 := hWr.below hb5
          have hB5 := hBr.trans (hb5.mono hBr.size)
          obtain ⟨hc0, hc1, hc2⟩ := hW5.cells
          clear hWr hBr hb5
          go_wp2_with fail
          refine (implGroupLeast _ _ _ _ l L ⟨xa, xj, xs⟩  _ hW5.1).mono ?_
          rw [← HT.out]
          rintro e w6 ⟨rfl, hb6⟩
          have hW6 := hW5.below hb6
          have hB6 := hB5.trans (hb6.mono hB5.size)
          obtain ⟨hc0, hc1, hc2⟩ := hW6.cells
          clear hW5 hB5 hb6
          by_cases hT2 : T ≤ 1
          · skip
            go_wp2
            go_ret
            exact ⟨rfl, hB6⟩
          · obtain rfl : V = 0 := by omega
            have hT3 : 1 < T := by omega
            go_wp2
            go_ret
            exact ⟨rfl, hB6⟩
    · have hV1 : V < 0 := by omega
      go_wp2
      go_ret
      exact ⟨rfl, hB4⟩
  · have hbig2 : 1048576 < bs.length := by omega
    go_enter Try.func12, Try.ntmps12
    go_wp2
    go_ret
    exact ⟨rfl, Below.refl _ _⟩
end Go.Proofs.Ytljjaanohcibcaa.WFnUniques
