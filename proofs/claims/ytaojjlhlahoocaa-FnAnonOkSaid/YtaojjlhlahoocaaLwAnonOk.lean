/- FnAnonOk, walked. -/
import Derived.Test.YtaojjlhlahoocaaLawKit
import Derived.Test.YtaojjlhlahoocaaPlain2
import Derived.Test.YtaojjlhlahoocaaAnonOk
import Derived.Test.YtaojjlhlahoocaaGrpI
import Derived.Test.YtaojjlhlahoocaaDrwAnonOk
import Derived.IntWalk
namespace Go.Proofs.Ytaojjlhlahoocaa.WFnAnonOk
open Go.RowKit
set_option linter.unusedVariables false

theorem ok_less {l : List Pn} {L : List (List Int)} {r : Rc} {k a : Int} (h : aDrop l L r k = 0) (a1 : 1 ≤ a) (ak : a ≤ k) : (aDrop l L r a == 0) = true := by
  obtain ⟨ho, hk1, hk2⟩ := aDrop_ok (show 0 ≤ aDrop l L r k by omega)
  rw [aDrop_yes ho rfl hk1 hk2] at h
  rw [aDrop_yes ho rfl a1 (by omega)]
  have := drp_mono (x := recd L r l) ak
  have h2 : drp (recd L r l) a = 0 := by omega
  rw [h2]; rfl
set_option maxRecDepth 100000 in
set_option maxHeartbeats 4000000 in
theorem walk (w : World) (A : Option Addr) (c : Nat) (bs : List Int) (hn : bs.length ≤ 9223372036854775807) (hec : bs.length ≤ c ∧ c ≤ 9223372036854775807) (hg : Rds w w.heap.size 1 A bs.length (bs.map (Value.int .u8))) (hb : ∀ z ∈ bs, 0 ≤ z ∧ z ≤ 255) (A9 : Option Addr) (c9 : Nat) (ms : List Int) (hn9 : ms.length ≤ 9223372036854775807) (hec9 : ms.length ≤ c9 ∧ c9 ≤ 9223372036854775807) (hg9 : Rds w w.heap.size 1 A9 ms.length (ms.map (Value.int .u8))) (hb9 : ∀ z ∈ ms, 0 ≤ z ∧ z ≤ 255) : Calls Try.prog 6 #[.slice A bs.length c, .slice A9 ms.length c9] w fun e w' => e = .returned (.bool true) ∧ Below w.heap.size w w' := by
  have hB : Byt w A c bs := ⟨hg, hec.1, hec.2, hb⟩
  clear hg hb
  by_cases hbig : bs.length ≤ 1048576 ∧ ms.length ≤ 1048576
  · obtain ⟨hbig, hbm⟩ := hbig
    go_enter Try.func6, Try.ntmps6
    go_wp2_with fail
    refine (specDrawAnonOk A c bs w hB).mono ?_
    rintro e w1 ⟨A1, c1, l, A2, c2, L, ⟨xa, xj, xs⟩, k, rfl, hA, hD, hkb, hb1⟩
    have hD0 := Lib.hid hD
    obtain ⟨hl10, hL4, hxs, hps, hrs, hlc, hcm, hLc, hcm2⟩ := hD
    clear hps hrs hxs hB
    have hW2 : LW (w1.alloc (.cells #[.int .i64 xa, .int .i64 xj, .int .i64 xs] 26)) A1 l A2 L w1.heap.size xa xj xs := ⟨hA.below ((Below.refl _ _).alloc (Nat.le_refl _) _), Blk.new w1 _ _⟩
    have hB2 := hb1.alloc hb1.size (.cells #[.int .i64 xa, .int .i64 xj, .int .i64 xs] 26)
    clear hA hb1
    obtain ⟨V, hV⟩ : ∃ V, V = (aDrop l L ⟨xa, xj, xs⟩ k == 0) := ⟨_, rfl⟩
    have HV := Lib.hid hV
    clear hV
    go_wp2_with fail
    refine (implAnonOk _ _ _ _ l L ⟨xa, xj, xs⟩ k _ hW2.1).mono ?_
    rw [← HV.out]
    rintro e w3 ⟨rfl, hb3⟩
    have hW3 := hW2.below hb3
    have hB3 := hB2.trans (hb3.mono hB2.size)
    obtain ⟨hc0, hc1, hc2⟩ := hW3.cells
    clear hW2 hB2 hb3
    go_wp2_with fail
    refine (specAnonOk _ _ _ _ l L ⟨xa, xj, xs⟩ k _ hW3.1).mono ?_
    rw [← HV.out]
    rintro e w4 ⟨rfl, hb4⟩
    have hW4 := hW3.below hb4
    have hB4 := hB3.trans (hb4.mono hB3.size)
    obtain ⟨hc0, hc1, hc2⟩ := hW4.cells
    clear hW3 hB3 hb4
    cases V with
    | false =>
      go_wp2
      go_ret
      exact ⟨rfl, hB4⟩
    | true =>
      have hd : aDrop l L ⟨xa, xj, xs⟩ k = 0 := by have := HV.out; simpa using this.symm
      obtain ⟨ho, hk1, hk2⟩ := aDrop_ok (show 0 ≤ aDrop l L ⟨xa, xj, xs⟩ k by omega)
      have HT := Lib.hid (fun (a : Int) (a1 : 1 ≤ a) (ak : a ≤ k) => ok_less hd a1 ak)
      obtain ⟨S, hS⟩ : ∃ S, S = gLeast l L ⟨xa, xj, xs⟩ := ⟨_, rfl⟩
      have hS1 : l.length = 0 ∨ k ≤ S := by
        rcases Nat.eq_zero_or_pos l.length with e | e
        · exact .inl e
        · right
          rw [hS, gLeast_yes ho rfl]
          rw [aDrop_yes ho rfl hk1 hk2] at hd
          exact lst_ge (by omega) (by rw [recd_length]; exact e)
      have HS := Lib.hid hS; clear hS
      clear hd ho
      have p1 := Int.emod_nonneg (ms.length : Int) (show k ≠ 0 by omega)
      have p2 := Int.emod_lt_of_pos (ms.length : Int) (show 0 < k by omega)
      by_cases hl0 : l.length = 0
      · have e1 : ((l.length : Int) == 0) = true := by simp [hl0]
        have e2 : (l.length == 0) = true := by simp [hl0]
        clear hl0 hS1
        go_wp2_with fail
        refine (implAnonOk _ _ _ _ l L ⟨xa, xj, xs⟩ _ _ hW4.1).mono ?_
        rw [HT.out _ (by omega) (by omega)]
        rintro e w5 ⟨rfl, hb5⟩
        have hW5 := hW4.below hb5
        have hB5 := hB4.trans (hb5.mono hB4.size)
        obtain ⟨hc0, hc1, hc2⟩ := hW5.cells
        clear hW4 hB4 hb5
        go_wp2
        go_ret
        exact ⟨rfl, hB5⟩
      · have e1 : ((l.length : Int) == 0) = false := beq_eq_false_iff_ne.2 (by omega)
        have e2 : (l.length == 0) = false := beq_eq_false_iff_ne.2 (by omega)
        have hS2 : k ≤ S := by omega
        clear hl0 hS1
        go_wp2_with fail
        refine (implGroupLeast _ _ _ _ l L ⟨xa, xj, xs⟩  _ hW4.1).mono ?_
        rw [← HS.out]
        rintro e w5 ⟨rfl, hb5⟩
        have hW5 := hW4.below hb5
        have hB5 := hB4.trans (hb5.mono hB4.size)
        obtain ⟨hc0, hc1, hc2⟩ := hW5.cells
        clear hW4 hB4 hb5
        go_wp2_with fail
        refine (implAnonOk _ _ _ _ l L ⟨xa, xj, xs⟩ _ _ hW5.1).mono ?_
        rw [HT.out _ (by omega) (by omega)]
        rintro e w6 ⟨rfl, hb6⟩
        have hW6 := hW5.below hb6
        have hB6 := hB5.trans (hb6.mono hB5.size)
        obtain ⟨hc0, hc1, hc2⟩ := hW6.cells
        clear hW5 hB5 hb6
        go_wp2
        go_ret
        exact ⟨rfl, hB6⟩
  · rcases (show 1048576 < bs.length ∨ (bs.length ≤ 1048576 ∧ 1048576 < ms.length) by omega) with hx1 | ⟨hx1, hx2⟩
    all_goals
      go_enter Try.func6, Try.ntmps6
      go_wp2
      go_ret
      exact ⟨rfl, Below.refl _ _⟩
end Go.Proofs.Ytaojjlhlahoocaa.WFnAnonOk
