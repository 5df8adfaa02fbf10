/- FnDiverse, walked. -/
import Derived.Test.YtaojjlhlahoocaaLawKit
import Derived.Test.YtaojjlhlahoocaaPlain2
import Derived.Test.YtaojjlhlahoocaaDivSize
import Derived.Test.YtaojjlhlahoocaaGrpI
import Derived.Test.YtaojjlhlahoocaaDrwDiverseSize
import Derived.Test.YtaojjlhlahoocaaPlain5
import Derived.IntWalk
namespace Go.Proofs.Ytaojjlhlahoocaa.WFnDiverse
open Go.RowKit
set_option linter.unusedVariables false

set_option maxRecDepth 100000 in
set_option maxHeartbeats 4000000 in
theorem walk (w : World) (A : Option Addr) (c : Nat) (bs : List Int) (hn : bs.length ≤ 9223372036854775807) (hec : bs.length ≤ c ∧ c ≤ 9223372036854775807) (hg : Rds w w.heap.size 1 A bs.length (bs.map (Value.int .u8))) (hb : ∀ z ∈ bs, 0 ≤ z ∧ z ≤ 255) : Calls Try.prog 9 #[.slice A bs.length c] w fun e w' => e = .returned (.bool true) ∧ Below w.heap.size w w' := by
  have hB : Byt w A c bs := ⟨hg, hec.1, hec.2, hb⟩
  clear hg hb
  by_cases hbig : bs.length ≤ 1048576
  · go_enter Try.func9, Try.ntmps9
    go_wp2_with fail
    refine (specDrawDiverseSize A c bs w hB).mono ?_
    rintro e w1 ⟨A1, c1, l, A2, c2, L, ⟨xa, xj, xs⟩, k, rfl, hA, hD, hkb, hb1⟩
    have hD0 := Lib.hid hD
    obtain ⟨hl10, hL4, hxs, hps, hrs, hlc, hcm, hLc, hcm2⟩ := hD
    clear hps hrs hxs hB
    have hW2 : LW (w1.alloc (.cells #[.int .i64 xa, .int .i64 xj, .int .i64 xs] 26)) A1 l A2 L w1.heap.size xa xj xs := ⟨hA.below ((Below.refl _ _).alloc (Nat.le_refl _) _), Blk.new w1 _ _⟩
    have hB2 := hb1.alloc hb1.size (.cells #[.int .i64 xa, .int .i64 xj, .int .i64 xs] 26)
    clear hA hb1
    obtain ⟨V, hV⟩ : ∃ V, V = dSize l L ⟨xa, xj, xs⟩ k := ⟨_, rfl⟩
    have HV := Lib.hid hV
    clear hV
    go_wp2_with fail
    refine (implDiverseSize _ _ _ _ l L ⟨xa, xj, xs⟩ k _ hW2.1).mono ?_
    rw [← HV.out]
    rintro e w3 ⟨rfl, hb3⟩
    have hW3 := hW2.below hb3
    have hB3 := hB2.trans (hb3.mono hB2.size)
    obtain ⟨hc0, hc1, hc2⟩ := hW3.cells
    clear hW2 hB2 hb3
    go_wp2_with fail
    refine (specDiverseSize _ _ _ _ l L ⟨xa, xj, xs⟩ k _ hW3.1).mono ?_
    rw [← HV.out]
    rintro e w4 ⟨rfl, hb4⟩
    have hW4 := hW3.below hb4
    have hB4 := hB3.trans (hb4.mono hB3.size)
    obtain ⟨hc0, hc1, hc2⟩ := hW4.cells
    clear hW3 hB3 hb4
    by_cases hok : 0 ≤ V
    · obtain ⟨ho, hk0, hk1⟩ := dSize_ok (by rw [← HV.out]; exact hok)
      have hf := size_facts ho hk0 hk1
      rw [← HV.out] at hf
      obtain ⟨T, hT⟩ : ∃ T, T = dSize l L (topR L) k := ⟨_, rfl⟩
      obtain ⟨G, hG⟩ : ∃ G, G = gSize l L ⟨xa, xj, xs⟩ k := ⟨_, rfl⟩
      rw [← hT, ← hG] at hf
      obtain ⟨f1, f2, f3, f4⟩ := hf
      have HT := Lib.hid hT; clear hT
      have HG := Lib.hid hG; clear hG
      clear ho
      go_wp2_with fail
      refine (implDiverseSize _ _ _ _ l L (topR L) k _ hW4.1).mono ?_
      rw [← HT.out]
      rintro e w5 ⟨rfl, hb5⟩
      have hW5 := hW4.below hb5
      have hB5 := hB4.trans (hb5.mono hB4.size)
      obtain ⟨hc0, hc1, hc2⟩ := hW5.cells
      clear hW4 hB4 hb5
      go_wp2_with fail
      refine (implGroupSize _ _ _ _ l L ⟨xa, xj, xs⟩ k _ hW5.1).mono ?_
      rw [← HG.out]
      rintro e w6 ⟨rfl, hb6⟩
      have hW6 := hW5.below hb6
      have hB6 := hB5.trans (hb6.mono hB5.size)
      obtain ⟨hc0, hc1, hc2⟩ := hW6.cells
      clear hW5 hB5 hb6
      go_wp2
      go_ret
      exact ⟨rfl, hB6⟩
    · have hV1 : V < 0 := by omega
      go_wp2
      go_ret
      exact ⟨rfl, hB4⟩
  · have hbig2 : 1048576 < bs.length := by omega
    go_enter Try.func9, Try.ntmps9
    go_wp2
    go_ret
    exact ⟨rfl, Below.refl _ _⟩
end Go.Proofs.Ytaojjlhlahoocaa.WFnDiverse
