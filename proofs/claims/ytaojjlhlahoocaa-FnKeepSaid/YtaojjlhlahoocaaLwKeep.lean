/- FnKeep, walked. -/
import Derived.Test.YtaojjlhlahoocaaLawKit
import Derived.Test.YtaojjlhlahoocaaPlain2
import Derived.Test.YtaojjlhlahoocaaLawKit3
import Derived.Test.YtaojjlhlahoocaaAnonOk
import Derived.Test.YtaojjlhlahoocaaDrwAnonKeep
import Derived.IntWalk
namespace Go.Proofs.Ytaojjlhlahoocaa.WFnKeep
open Go.RowKit
set_option linter.unusedVariables false

set_option maxRecDepth 100000 in
set_option maxHeartbeats 4000000 in
theorem walk (w : World) (A : Option Addr) (c : Nat) (bs : List Int) (hn : bs.length ≤ 9223372036854775807) (hec : bs.length ≤ c ∧ c ≤ 9223372036854775807) (hg : Rds w w.heap.size 1 A bs.length (bs.map (Value.int .u8))) (hb : ∀ z ∈ bs, 0 ≤ z ∧ z ≤ 255) : Calls Try.prog 8 #[.slice A bs.length c] w fun e w' => e = .returned (.bool true) ∧ Below w.heap.size w w' := by
  have hB : Byt w A c bs := ⟨hg, hec.1, hec.2, hb⟩
  clear hg hb
  by_cases hbig : bs.length ≤ 1048576
  · go_enter Try.func8, Try.ntmps8
    go_wp2_with fail
    refine (specDrawAnonKeep A c bs w hB).mono ?_
    rintro e w1 ⟨A1, c1, l, A2, c2, L, ⟨xa, xj, xs⟩, k, rfl, hA, hD, hkb, hb1⟩
    have hD0 := Lib.hid hD
    obtain ⟨hl10, hL4, hxs, hps, hrs, hlc, hcm, hLc, hcm2⟩ := hD
    clear hps hrs hxs hB
    have hW2 : LW (w1.alloc (.cells #[.int .i64 xa, .int .i64 xj, .int .i64 xs] 26)) A1 l A2 L w1.heap.size xa xj xs := ⟨hA.below ((Below.refl _ _).alloc (Nat.le_refl _) _), Blk.new w1 _ _⟩
    have hB2 := hb1.alloc hb1.size (.cells #[.int .i64 xa, .int .i64 xj, .int .i64 xs] 26)
    clear hA hb1
    obtain ⟨V, hV⟩ : ∃ V, V = kV l L ⟨xa, xj, xs⟩ k := ⟨_, rfl⟩
    obtain ⟨B, hB⟩ : ∃ B, B = kB l L ⟨xa, xj, xs⟩ k := ⟨_, rfl⟩
    have hVl : V.length ≤ l.length := by rw [hV]; exact kV_len l L ⟨xa, xj, xs⟩ k
    have HV := Lib.hid hV
    have HVB := Lib.hid hB
    clear hV hB
    go_wp2_with fail
    refine (implKeepX _ _ _ _ l L ⟨xa, xj, xs⟩ k _ hW2.1).mono ?_
    rw [← HV.out, ← HVB.out]
    rintro e w3 ⟨AV, cV, rfl, hPV, hcV1, hcV2, hb3⟩
    have hW3 : LW2 w3 A1 l A2 L w1.heap.size xa xj xs AV V := LW.more hW2 hb3 hPV (by omega)
    have hB3 := hB2.trans (hb3.mono hB2.size)
    obtain ⟨hc0, hc1, hc2⟩ := hW3.cells
    clear hW2 hB2 hb3 hPV
    go_wp2_with fail
    refine (specKeepX _ _ _ _ l L ⟨xa, xj, xs⟩ k _ hW3.1).mono ?_
    rw [← HV.out, ← HVB.out]
    rintro e w4 ⟨AS, cS, rfl, hPS, hcS1, hcS2, hb4⟩
    have hW4 := hW3.below hb4
    have hB4 := hB3.trans (hb4.mono hB3.size)
    obtain ⟨hc0, hc1, hc2⟩ := hW4.cells
    clear hW3 hB3 hb4
    go_wp2_with fail
    refine (sameS AV AS cV cS V _ hW4.2.2.1 hPS (by omega)).mono ?_
    rintro e w5 ⟨rfl, hb5⟩
    have hPS5 := Lib.hid ((hPS.below hb5).more hb5.size)
    have hW5 := hW4.below hb5
    have hB5 := hB4.trans (hb5.mono hB4.size)
    obtain ⟨hc0, hc1, hc2⟩ := hW5.cells
    clear hW4 hB4 hb5
    clear hPS
    cases B with
    | false =>
      go_wp2_with fail
      refine (sameS AV AS cV cS V _ hW5.2.2.1 hPS5.out (by omega)).mono ?_
      rintro e w6 ⟨rfl, hb6⟩
      have hW6 := hW5.below hb6
      have hB6 := hB5.trans (hb6.mono hB5.size)
      obtain ⟨hc0, hc1, hc2⟩ := hW6.cells
      clear hW5 hB5 hb6
      go_wp2
      go_ret
      exact ⟨rfl, hB6⟩
    | true =>
      have hk := kB_ok HVB.out
      have hVV := HV.out.trans (kV_yes hk)
      obtain ⟨-, hk1, hk2⟩ := id hk
      have hZ : kV V L zeroR k = V := by rw [hVV, kV_kept hk (Int.le_refl _) hk2]
      have hB2 : kB V L zeroR k = true := by rw [hVV]; exact kB_yes (okK_kept hk hk1 hk2)
      obtain ⟨D, hD⟩ : ∃ D, D = aDrop l L ⟨xa, xj, xs⟩ k := ⟨_, rfl⟩
      have hD1 : (V.length : Int) = l.length - D := by
        rw [hD, aDrop_yes hk.1 rfl hk1 hk2, hVV]
        have := kept_drop (recd L ⟨xa, xj, xs⟩ l) k
        rw [recd_length] at this
        omega
      have hO : (aDrop V L zeroR k == 0) = true := by rw [hVV, drop_kept hk]; rfl
      have e1 : ((V.length : Int) == (l.length : Int) - D) = true := by simp [hD1]
      have hDa : 0 ≤ D := by omega
      have hDb : D ≤ l.length := by omega
      have HZ := Lib.hid hZ; clear hZ
      have HB2 := Lib.hid hB2; clear hB2
      have HD := Lib.hid hD; clear hD
      have HO := Lib.hid hO; clear hO
      clear hk hVV hD1
      go_wp2_with fail
      refine (implKeepX _ _ _ _ V L zeroR k _ hW5.yarg).mono ?_
      rw [HZ.out, HB2.out]
      rintro e w6 ⟨AZ, cZ, rfl, hPZ, -, -, hb6⟩
      have hW6 := hW5.below hb6
      have hB6 := hB5.trans (hb6.mono hB5.size)
      obtain ⟨hc0, hc1, hc2⟩ := hW6.cells
      clear hW5 hB5 hb6
      go_wp2_with fail
      refine (sameS _ _ _ _ V _ hPZ hW6.2.2.1 (by omega)).mono ?_
      rintro e w7 ⟨rfl, hb7⟩
      have hW7 := hW6.below hb7
      have hB7 := hB6.trans (hb7.mono hB6.size)
      obtain ⟨hc0, hc1, hc2⟩ := hW7.cells
      clear hW6 hB6 hb7
      go_wp2_with fail
      refine (implAnonDrop _ _ _ _ l L ⟨xa, xj, xs⟩ k _ hW7.1).mono ?_
      rw [← HD.out]
      rintro e w8 ⟨rfl, hb8⟩
      have hW8 := hW7.below hb8
      have hB8 := hB7.trans (hb8.mono hB7.size)
      obtain ⟨hc0, hc1, hc2⟩ := hW8.cells
      clear hW7 hB7 hb8
      go_wp2_with fail
      refine (implAnonOk _ _ _ _ V L zeroR k _ hW8.yarg).mono ?_
      rw [HO.out]
      rintro e w9 ⟨rfl, hb9⟩
      have hW9 := hW8.below hb9
      have hB9 := hB8.trans (hb9.mono hB8.size)
      obtain ⟨hc0, hc1, hc2⟩ := hW9.cells
      clear hW8 hB8 hb9
      go_wp2
      go_ret
      exact ⟨rfl, hB9⟩
  · have hbig2 : 1048576 < bs.length := by omega
    go_enter Try.func8, Try.ntmps8
    go_wp2
    go_ret
    exact ⟨rfl, Below.refl _ _⟩
end Go.Proofs.Ytaojjlhlahoocaa.WFnKeep
