/- FnKeepPeople, walked. -/
import Derived.Test.YtaojjlhlahoocaaLawKit
import Derived.Test.YtaojjlhlahoocaaPlain2
import Derived.Test.YtaojjlhlahoocaaLawKit3
import Derived.Test.YtaojjlhlahoocaaRecX
import Derived.Test.YtaojjlhlahoocaaDrwAnonKeep
import Derived.IntWalk
namespace Go.Proofs.Ytaojjlhlahoocaa.WFnKeepPeople
open Go.RowKit
set_option linter.unusedVariables false

/-- A step of looking for the persons of V, one after the other, in x. -/
theorem sub_step {V x : List Pn} {i a : Nat} (h : (V.drop a).Sublist (x.drop i)) (hi : i < x.length) (ha : a < V.length) : (nth x i = nth V a → (V.drop (a + 1)).Sublist (x.drop (i + 1))) ∧ (¬ nth x i = nth V a → (V.drop a).Sublist (x.drop (i + 1))) := by
  have e1 : x.drop i = nth x i :: x.drop (i + 1) := by rw [List.drop_eq_getElem_cons hi]; simp [nth, hi]
  have e2 : V.drop a = nth V a :: V.drop (a + 1) := by rw [List.drop_eq_getElem_cons ha]; simp [nth, ha]
  rw [e1, e2] at h
  rw [e2]
  clear e1 e2
  generalize nth x i = p at *
  generalize nth V a = q at *
  refine ⟨fun _ => ?_, fun hn => ?_⟩
  · cases h with
    | cons _ h => exact (List.sublist_cons_self _ _).trans h
    | cons_cons _ h => exact h
  · cases h with
    | cons _ h => exact h
    | cons_cons _ h => exact absurd rfl hn
set_option maxRecDepth 100000 in
set_option maxHeartbeats 4000000 in
theorem walk (w : World) (A : Option Addr) (c : Nat) (bs : List Int) (hn : bs.length ≤ 9223372036854775807) (hec : bs.length ≤ c ∧ c ≤ 9223372036854775807) (hg : Rds w w.heap.size 1 A bs.length (bs.map (Value.int .u8))) (hb : ∀ z ∈ bs, 0 ≤ z ∧ z ≤ 255) : Calls Try.prog 4 #[.slice A bs.length c] w fun e w' => e = .returned (.bool true) ∧ Below w.heap.size w w' := by
  have hB : Byt w A c bs := ⟨hg, hec.1, hec.2, hb⟩
  clear hg hb
  by_cases hbig : bs.length ≤ 1048576
  · go_enter Try.func4, Try.ntmps4
    go_wp2_with fail
    refine (specDrawAnonKeep A c bs w hB).mono ?_
    rintro e w1 ⟨A1, c1, l, A2, c2, L, ⟨xa, xj, xs⟩, k, rfl, hA, hD, hkb, hb1⟩
    have hD0 := Lib.hid hD
    obtain ⟨hl10, hL4, hxs, hps, hrs, hlc, hcm, hLc, hcm2⟩ := hD
    clear hps hrs hxs hB
    have hW2 : LW (w1.alloc (.cells #[.int .i64 xa, .int .i64 xj, .int .i64 xs] 26)) A1 l A2 L w1.heap.size xa xj xs := ⟨hA.below ((Below.refl _ _).alloc (Nat.le_refl _) _), Blk.new w1 _ _⟩
    have hB2 := hb1.alloc hb1.size (.cells #[.int .i64 xa, .int .i64 xj, .int .i64 xs] 26)
    clear hA hb1
    obtain ⟨V, hV⟩ : ∃ V, V = kV l L ⟨xa, xj, xs⟩ k := ⟨_, rfl⟩
    obtain ⟨B, hB⟩ : ∃ B, B = kB l L ⟨xa, xj, xs⟩ k := ⟨_, rfl⟩
    have hVl : V.length ≤ l.length := by rw [hV]; exact kV_len l L ⟨xa, xj, xs⟩ k
    have HV := Lib.hid hV
    have HVB := Lib.hid hB
    clear hV hB
    go_wp2_with fail
    refine (implKeepX _ _ _ _ l L ⟨xa, xj, xs⟩ k _ hW2.1).mono ?_
    rw [← HV.out, ← HVB.out]
    rintro e w3 ⟨AV, cV, rfl, hPV, hcV1, hcV2, hb3⟩
    have hW3 : LW2 w3 A1 l A2 L w1.heap.size xa xj xs AV V := LW.more hW2 hb3 hPV (by omega)
    have hB3 := hB2.trans (hb3.mono hB2.size)
    obtain ⟨hc0, hc1, hc2⟩ := hW3.cells
    clear hW2 hB2 hb3 hPV
    go_wp2_with fail
    refine (specKeepX _ _ _ _ l L ⟨xa, xj, xs⟩ k _ hW3.1).mono ?_
    rw [← HV.out, ← HVB.out]
    rintro e w4 ⟨AS, cS, rfl, hPS, hcS1, hcS2, hb4⟩
    have hW4 := hW3.below hb4
    have hB4 := hB3.trans (hb4.mono hB3.size)
    obtain ⟨hc0, hc1, hc2⟩ := hW4.cells
    clear hW3 hB3 hb4
    go_wp2_with fail
    refine (sameS AV AS cV cS V _ hW4.2.2.1 hPS (by omega)).mono ?_
    rintro e w5 ⟨rfl, hb5⟩
    have hPS5 := Lib.hid ((hPS.below hb5).more hb5.size)
    have hW5 := hW4.below hb5
    have hB5 := hB4.trans (hb5.mono hB4.size)
    obtain ⟨hc0, hc1, hc2⟩ := hW5.cells
    clear hW4 hB4 hb5
    clear hPS
    cases B with
    | false =>
      go_wp2_with fail
      refine (sameS AV AS cV cS V _ hW5.2.2.1 hPS5.out (by omega)).mono ?_
      rintro e w6 ⟨rfl, hb6⟩
      have hW6 := hW5.below hb6
      have hB6 := hB5.trans (hb6.mono hB5.size)
      obtain ⟨hc0, hc1, hc2⟩ := hW6.cells
      clear hW5 hB5 hb6
      go_wp2
      go_ret
      exact ⟨rfl, hB6⟩
    | true =>
      have hk := kB_ok HVB.out
      have hVV := HV.out.trans (kV_yes hk)
      obtain ⟨-, hk1, hk2⟩ := id hk
      have hrb := rB_yes hk.1
      have hrv := rV_yes hk.1
      obtain ⟨x, hx⟩ : ∃ x, x = recd L ⟨xa, xj, xs⟩ l := ⟨_, rfl⟩
      have hxl : x.length = l.length := by rw [hx, recd_length]
      have hZ : kV l L ⟨xa, xj, xs⟩ 1 = x := by rw [kV_yes ⟨hk.1, by omega, by omega⟩, kept_one, hx]
      have hB1 : kB l L ⟨xa, xj, xs⟩ 1 = true := kB_yes ⟨hk.1, by omega, by omega⟩
      rw [← hx] at hrv hVV
      have hsub : V.Sublist x := by rw [hVV]; exact kept_sub x k
      have hx10 : x.length ≤ 10 := by omega
      have Hrb := Lib.hid hrb; clear hrb
      have Hrv := Lib.hid hrv; clear hrv
      have HZ := Lib.hid hZ; clear hZ
      have HB1 := Lib.hid hB1; clear hB1
      have HSUB := Lib.hid hsub
      have HXL := Lib.hid hxl
      clear hk hVV hx hxl hsub
      go_wp2_with fail
      refine (implRecX _ _ _ _ l L ⟨xa, xj, xs⟩ _ hW5.1).mono ?_
      rw [Hrv.out, Hrb.out]
      rintro e w6 ⟨AX, cX, rfl, hPX, -, -, hb6⟩
      have hW6 := hW5.below hb6
      have hB6 := hB5.trans (hb6.mono hB5.size)
      obtain ⟨hc0, hc1, hc2⟩ := hW6.cells
      clear hW5 hB5 hb6
      go_wp2_with fail
      refine (implKeepX _ _ _ _ l L ⟨xa, xj, xs⟩ 1 _ hW6.1).mono ?_
      rw [HZ.out, HB1.out]
      rintro e w7 ⟨AZ, cZ, rfl, hPZ, -, -, hb7⟩
      have hPX7 := (hPX.below hb7).more hb7.size
      have hW7 := hW6.below hb7
      have hB7 := hB6.trans (hb7.mono hB6.size)
      obtain ⟨hc0, hc1, hc2⟩ := hW7.cells
      clear hW6 hB6 hb7
      clear hPX
      have HW7 := Lib.hid hW7
      have HPX := Lib.hid hPX7
      have HPZ := Lib.hid hPZ
      clear hW7 hPX7 hPZ hc0 hc1 hc2
      go_wp2
      go_loopw [15, 16] (fun s t wr => ∃ i at_ : Nat, i ≤ x.length ∧ at_ ≤ V.length ∧ t = .int .i64 i ∧ s = .int .i64 at_ ∧ Hid ((V.drop at_).Sublist (x.drop i)) ∧ Below w7.heap.size w7 wr) (fun _ t _ => x.length - (intOf t).toNat)
      case atStart => exact ⟨0, 0, by omega, by omega, rfl, rfl, HSUB.out, Below.refl _ _⟩
      case round =>
        obtain ⟨i, at_, hi, hat, rfl, rfl, HS, hbel⟩ := hrel
        have hBr := hB7.trans (hbel.mono hB7.size)
        by_cases hlt : i < x.length ∧ at_ < V.length
        · obtain ⟨hl1, hl2⟩ := hlt
          obtain ⟨b, off, rfl, hb, hd0, hd1, hd2, hd3⟩ := (HPX.out.below hbel).at_ (nth_at hl1)
          obtain ⟨b2, off2, rfl, hb2, hf0, hf1, hf2, hf3⟩ := (HW7.out.2.2.1.below hbel).at_ (nth_at hl2)
          have hi0 : (0 : Int) ≤ (i : Int) := by omega
          have hi1 : (i : Int) < (x.length : Int) := by omega
          have ha0 : (0 : Int) ≤ (at_ : Int) := by omega
          have ha1 : (at_ : Int) < (V.length : Int) := by omega
          have HST := Lib.hid (sub_step HS.out hl1 hl2)
          generalize nth x i = p at *
          generalize nth V at_ = q at *
          by_cases hpq : p.a = q.a ∧ p.j = q.j ∧ p.s = q.s ∧ p.p = q.p
          · obtain ⟨h1, h2, h3, h4⟩ := hpq
            have HS2 := Lib.hid (HST.out.1 (by cases p; cases q; simp_all))
            rw [h1] at hd0
            rw [h2] at hd1
            rw [h3] at hd2
            rw [h4] at hd3
            clear h1 h2 h3 h4
            go_wp2_with fail
            go_region
            go_wp2
            go_roundw
            case rel => exact ⟨i + 1, at_ + 1, by omega, by omega, by go_num, by go_num, HS2.out, hbel.drew⟩
            case measure => simp [intOf]; omega
          · have HS2 := Lib.hid (HST.out.2 (fun h => hpq (by rw [h]; exact ⟨rfl, rfl, rfl, rfl⟩)))
            rcases (show p.a ≠ q.a ∨ (p.a = q.a ∧ p.j ≠ q.j) ∨ (p.a = q.a ∧ p.j = q.j ∧ p.s ≠ q.s) ∨ (p.a = q.a ∧ p.j = q.j ∧ p.s = q.s ∧ p.p ≠ q.p) by omega) with h1 | ⟨h1, h2⟩ | ⟨h1, h2, h3⟩ | ⟨h1, h2, h3, h4⟩
            case' inl => have g1 : (p.a == q.a) = false := beq_eq_false_iff_ne.2 h1
            case' inr.inl =>
              rw [h1] at hd0
              have g1 : (p.j == q.j) = false := beq_eq_false_iff_ne.2 h2
            case' inr.inr.inl =>
              rw [h1] at hd0
              rw [h2] at hd1
              have g1 : (p.s == q.s) = false := beq_eq_false_iff_ne.2 h3
            case' inr.inr.inr =>
              rw [h1] at hd0
              rw [h2] at hd1
              rw [h3] at hd2
              have g1 : (p.p == q.p) = false := beq_eq_false_iff_ne.2 h4
            all_goals
              clear hpq
              try clear h1
              try clear h2
              try clear h3
              go_wp2_with fail
              go_region
              go_wp2
              go_roundw
              case rel => exact ⟨i + 1, at_, by omega, by omega, by go_num, rfl, HS2.out, hbel.drew⟩
              case measure => simp [intOf]; omega
        · have hend : at_ = V.length := by
            rcases Nat.lt_or_ge i x.length with h1 | h1
            · omega
            · have := HS.out.length_le
              rw [List.length_drop, List.length_drop] at this
              omega
          have HE := Lib.hid hend
          have e1 : ((at_ : Int) == (V.length : Int)) = true := by simp [hend]
          have e2 : (at_ == V.length) = true := by simp [hend]
          have hge : V.length ≤ at_ := by omega
          have hPX9 := (HPX.out.below hbel).more hbel.size
          have hPZ9 := (HPZ.out.below hbel).more hbel.size
          clear hend hlt
          by_cases hl1 : i < x.length
          all_goals
            go_wp2_with fail
            refine (sameS _ _ _ _ x _ hPX9 hPZ9 (by omega)).mono ?_
            rintro e w8 ⟨rfl, hb8⟩
            have hB8 := hBr.trans (hb8.mono hBr.size)
            go_wp2
            go_ret
            exact ⟨rfl, hB8⟩
  · have hbig2 : 1048576 < bs.length := by omega
    go_enter Try.func4, Try.ntmps4
    go_wp2
    go_ret
    exact ⟨rfl, Below.refl _ _⟩
end Go.Proofs.Ytaojjlhlahoocaa.WFnKeepPeople
