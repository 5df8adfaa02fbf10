/- FnDiverseLess, walked. -/
import Derived.Test.YtiheheapghjpbaaLawKit
import Derived.Test.YtiheheapghjpbaaPlain2
import Derived.Test.YtiheheapghjpbaaDivOk
import Derived.Test.YtiheheapghjpbaaDrwDiverseOk
import Derived.Test.YtiheheapghjpbaaPlain3
namespace Go.Proofs.Ytiheheapghjpbaa.WFnDiverseLess
open Go.RowKit
set_option linter.unusedVariables false

theorem dOk_less {l : List Pn} {L : List (List Int)} {r : Rc} {k m a b : Int} (h : dOk l L r k m) (a1 : 1 ≤ a) (ak : a ≤ k) (b1 : 1 ≤ b) (bm : b ≤ m) : dOk l L r a b := by
  obtain ⟨hm, hd, hl⟩ := h
  obtain ⟨ho, hk1, hk2⟩ := aDrop_k hd
  refine ⟨⟨b1, by omega⟩, ?_, hl.imp id (fun h => by omega)⟩
  rw [aDrop_yes ho rfl hk1 hk2] at hd
  rw [aDrop_yes ho rfl a1 (by omega)]
  have := drp_mono (x := recd L r l) ak
  omega
set_option maxRecDepth 100000 in
set_option maxHeartbeats 4000000 in
theorem walk (w : World) (A : Option Addr) (c : Nat) (bs : List Int) (hn : bs.length ≤ 9223372036854775807) (hec : bs.length ≤ c ∧ c ≤ 9223372036854775807) (hg : Rds w w.heap.size 1 A bs.length (bs.map (Value.int .u8))) (hb : ∀ z ∈ bs, 0 ≤ z ∧ z ≤ 255) (A9 : Option Addr) (c9 : Nat) (ms : List Int) (hn9 : ms.length ≤ 9223372036854775807) (hec9 : ms.length ≤ c9 ∧ c9 ≤ 9223372036854775807) (hg9 : Rds w w.heap.size 1 A9 ms.length (ms.map (Value.int .u8))) (hb9 : ∀ z ∈ ms, 0 ≤ z ∧ z ≤ 255) : Calls Try.prog 5 #[.slice A bs.length c, .slice A9 ms.length c9] w fun e w' => e = .returned (.bool true) ∧ Below w.heap.size w w' := by
  have hB : Byt w A c bs := ⟨hg, hec.1, hec.2, hb⟩
  clear hg hb
  by_cases hbig : bs.length ≤ 1048576 ∧ ms.length ≤ 1048576
  · obtain ⟨hbig, hbm⟩ := hbig
    go_enter Try.func5, Try.ntmps5
    go_wp2_with fail
    refine (specDrawDiverseOk A c bs w hB).mono ?_
    rintro e w1 ⟨A1, c1, l, A2, c2, L, ⟨xa, xj, xs⟩, k, m, rfl, hA, hD, hkb, hmb, hb1⟩
    have hD0 := Lib.hid hD
    obtain ⟨hl10, hL4, hxs, hps, hrs, hlc, hcm, hLc, hcm2⟩ := hD
    clear hps hrs hxs hB
    have hW2 : LW (w1.alloc (.cells #[.int .i64 xa, .int .i64 xj, .int .i64 xs] 26)) A1 l A2 L w1.heap.size xa xj xs := ⟨hA.below ((Below.refl _ _).alloc (Nat.le_refl _) _), Blk.new w1 _ _⟩
    have hB2 := hb1.alloc hb1.size (.cells #[.int .i64 xa, .int .i64 xj, .int .i64 xs] 26)
    clear hA hb1
    obtain ⟨V, hV⟩ : ∃ V, V = dOkB l L ⟨xa, xj, xs⟩ k m := ⟨_, rfl⟩
    have HV := Lib.hid hV
    clear hV
    go_wp2_with fail
    refine (implDiverseOk _ _ _ _ l L ⟨xa, xj, xs⟩ k m _ hW2.1).mono ?_
    rw [← HV.out]
    rintro e w3 ⟨rfl, hb3⟩
    have hW3 := hW2.below hb3
    have hB3 := hB2.trans (hb3.mono hB2.size)
    obtain ⟨hc0, hc1, hc2⟩ := hW3.cells
    clear hW2 hB2 hb3
    go_wp2_with fail
    refine (specDiverseOk _ _ _ _ l L ⟨xa, xj, xs⟩ k m _ hW3.1).mono ?_
    rw [← HV.out]
    rintro e w4 ⟨rfl, hb4⟩
    have hW4 := hW3.below hb4
    have hB4 := hB3.trans (hb4.mono hB3.size)
    obtain ⟨hc0, hc1, hc2⟩ := hW4.cells
    clear hW3 hB3 hb4
    cases V with
    | false =>
      go_wp2
      go_ret
      exact ⟨rfl, hB4⟩
    | true =>
      have hd := dOkB_iff.1 HV.out.symm
      have hk := dOk_k hd
      have hm := dOk_m hd
      have HT := Lib.hid (fun (a b : Int) (a1 : 1 ≤ a) (ak : a ≤ k) (b1 : 1 ≤ b) (bm : b ≤ m) => dOkB_iff.2 (dOk_less hd a1 ak b1 bm))
      clear hd
      obtain ⟨hk1, hk2⟩ := hk
      obtain ⟨hm1, hm2⟩ := hm
      have p1 := Int.emod_nonneg (ms.length : Int) (show k ≠ 0 by omega)
      have p2 := Int.emod_lt_of_pos (ms.length : Int) (show 0 < k by omega)
      have q1 := Int.emod_nonneg ((ms.length : Int) / 7) (show m ≠ 0 by omega)
      have q2 := Int.emod_lt_of_pos ((ms.length : Int) / 7) (show 0 < m by omega)
      go_wp2_with fail
      refine (implDiverseOk _ _ _ _ l L ⟨xa, xj, xs⟩ _ _ _ hW4.1).mono ?_
      rw [HT.out _ _ (by omega) (by omega) (by omega) (by omega)]
      rintro e w5 ⟨rfl, hb5⟩
      have hW5 := hW4.below hb5
      have hB5 := hB4.trans (hb5.mono hB4.size)
      obtain ⟨hc0, hc1, hc2⟩ := hW5.cells
      clear hW4 hB4 hb5
      go_wp2
      go_ret
      exact ⟨rfl, hB5⟩
  · rcases (show 1048576 < bs.length ∨ (bs.length ≤ 1048576 ∧ 1048576 < ms.length) by omega) with hx1 | ⟨hx1, hx2⟩
    all_goals
      go_enter Try.func5, Try.ntmps5
      go_wp2
      go_ret
      exact ⟨rfl, Below.refl _ _⟩
end Go.Proofs.Ytiheheapghjpbaa.WFnDiverseLess
