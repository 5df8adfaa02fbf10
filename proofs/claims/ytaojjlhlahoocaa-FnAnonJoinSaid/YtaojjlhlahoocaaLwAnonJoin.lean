/- FnAnonJoin, walked. -/
import Derived.Test.YtaojjlhlahoocaaLawKit
import Derived.Test.YtaojjlhlahoocaaPlain2
import Derived.Test.YtaojjlhlahoocaaAnonOk
import Derived.Test.YtaojjlhlahoocaaLawKit2
import Derived.Test.YtaojjlhlahoocaaDrwAnonOk
import Derived.IntWalk
namespace Go.Proofs.Ytaojjlhlahoocaa.WFnAnonJoin
open Go.RowKit
set_option linter.unusedVariables false

theorem drp_two0 {x : List Pn} {k : Int} (h : drp x k = 0) : drp (x ++ x) k = 0 := drp_zero.2 (fun p hp => by
  have := drp_zero.1 h p (by simpa using hp)
  rw [gsz_two]; omega)
theorem ok_two {l : List Pn} {L : List (List Int)} {r : Rc} {k : Int} (h : aDrop l L r k = 0) (h2 : 2 * l.length ≤ 40) : (aDrop (l ++ l) L r k == 0) = true ∧ (2 * k ≤ 40 → (aDrop (l ++ l) L r (2 * k) == 0) = true) := by
  obtain ⟨ho, hk1, hk2⟩ := aDrop_ok (show 0 ≤ aDrop l L r k by omega)
  rw [aDrop_yes ho rfl hk1 hk2] at h
  have h0 : drp (recd L r l) k = 0 := by omega
  refine ⟨?_, fun hk => ?_⟩
  · rw [aDrop_yes (okA_two ho h2) rfl hk1 hk2, recd_append, drp_two0 h0]; rfl
  · rw [aDrop_yes (okA_two ho h2) rfl (by omega) hk, recd_append, drp_two, h0]; rfl
set_option maxRecDepth 100000 in
set_option maxHeartbeats 4000000 in
theorem walk (w : World) (A : Option Addr) (c : Nat) (bs : List Int) (hn : bs.length ≤ 9223372036854775807) (hec : bs.length ≤ c ∧ c ≤ 9223372036854775807) (hg : Rds w w.heap.size 1 A bs.length (bs.map (Value.int .u8))) (hb : ∀ z ∈ bs, 0 ≤ z ∧ z ≤ 255) : Calls Try.prog 5 #[.slice A bs.length c] w fun e w' => e = .returned (.bool true) ∧ Below w.heap.size w w' := by
  have hB : Byt w A c bs := ⟨hg, hec.1, hec.2, hb⟩
  clear hg hb
  by_cases hbig : bs.length ≤ 1048576
  · go_enter Try.func5, Try.ntmps5
    go_wp2_with fail
    refine (specDrawAnonOk A c bs w hB).mono ?_
    rintro e w1 ⟨A1, c1, l, A2, c2, L, ⟨xa, xj, xs⟩, k, rfl, hA, hD, hkb, hb1⟩
    have hD0 := Lib.hid hD
    obtain ⟨hl10, hL4, hxs, hps, hrs, hlc, hcm, hLc, hcm2⟩ := hD
    clear hps hrs hxs hB
    have hW2 : LW (w1.alloc (.cells #[.int .i64 xa, .int .i64 xj, .int .i64 xs] 26)) A1 l A2 L w1.heap.size xa xj xs := ⟨hA.below ((Below.refl _ _).alloc (Nat.le_refl _) _), Blk.new w1 _ _⟩
    have hB2 := hb1.alloc hb1.size (.cells #[.int .i64 xa, .int .i64 xj, .int .i64 xs] 26)
    clear hA hb1
    obtain ⟨V, hV⟩ : ∃ V, V = (aDrop l L ⟨xa, xj, xs⟩ k == 0) := ⟨_, rfl⟩
    have HV := Lib.hid hV
    clear hV
    go_wp2_with fail
    refine (implAnonOk _ _ _ _ l L ⟨xa, xj, xs⟩ k _ hW2.1).mono ?_
    rw [← HV.out]
    rintro e w3 ⟨rfl, hb3⟩
    have hW3 := hW2.below hb3
    have hB3 := hB2.trans (hb3.mono hB2.size)
    obtain ⟨hc0, hc1, hc2⟩ := hW3.cells
    clear hW2 hB2 hb3
    go_wp2_with fail
    refine (specAnonOk _ _ _ _ l L ⟨xa, xj, xs⟩ k _ hW3.1).mono ?_
    rw [← HV.out]
    rintro e w4 ⟨rfl, hb4⟩
    have hW4 := hW3.below hb4
    have hB4 := hB3.trans (hb4.mono hB3.size)
    obtain ⟨hc0, hc1, hc2⟩ := hW4.cells
    clear hW3 hB3 hb4
    cases V with
    | false =>
      go_wp2
      go_ret
      exact ⟨rfl, hB4⟩
    | true =>
      have hd : aDrop l L ⟨xa, xj, xs⟩ k = 0 := by have := HV.out; simpa using this.symm
      obtain ⟨-, hk1, hk2⟩ := aDrop_ok (show 0 ≤ aDrop l L ⟨xa, xj, xs⟩ k by omega)
      have ht := ok_two hd (by omega)
      obtain ⟨T, hT⟩ : ∃ T, T = (aDrop (l ++ l) L ⟨xa, xj, xs⟩ k == 0) := ⟨_, rfl⟩
      obtain ⟨S, hS⟩ : ∃ S, S = (aDrop (l ++ l) L ⟨xa, xj, xs⟩ (2 * k) == 0) := ⟨_, rfl⟩
      have hT1 : T = true := hT.trans ht.1
      have hS1 : k ≤ 20 → S = true := fun hk => hS.trans (ht.2 (by omega))
      have HT := Lib.hid hT; clear hT
      have HS := Lib.hid hS; clear hS
      clear hd ht
      subst hT1
      have hPA := hW4.1.1
      have hPB := hPA.below (((Below.refl _ _).alloc (Nat.le_refl _) _) : Below w4.heap.size w4 (w4.alloc (.cells #[] 35)))
      go_wp2_with (at_builtin; go_must (refine wpList_append_ppl rfl _ _ rfl w4.heap.size w4.heap.size _ [] l rfl (OPpl.empty w4 35) _ _ _ rfl rfl hPB (by simp; omega) (by simp) ?_))
      intro v9 w9 hown9 hgr9
      have HOW9 := Lib.hid hown9
      clear hown9
      have hb9 : Below w4.heap.size w4 w9 := ((Below.refl _ _).alloc (Nat.le_refl _) _).grown hgr9 (by simp) (own_base (OPpl.empty w4 35))
      clear hgr9 hPB
      have hPC := hPA.below hb9
      go_wp2_with (at_builtin; go_must (refine wpList_append_ppl rfl _ _ rfl w4.heap.size w4.heap.size _ l l rfl HOW9.out _ _ _ rfl rfl hPC (by omega) hb9.size ?_))
      intro v10 w5 hown10 hgr10
      obtain ⟨A9, cY, rfl, hW5, hcYa, hcYb, hB5⟩ := join_end hW4 hB4 hown10 (hb9.grown hgr10 hb9.size (own_base HOW9.out)) (by simp; omega)
      have hYl : (l ++ l).length = l.length + l.length := List.length_append
      generalize l ++ l = Y at *
      have hYb : Y.length ≤ 20 := by omega
      have HYL := Lib.hid hYl
      clear hYl
      obtain ⟨hc0, hc1, hc2⟩ := hW5.cells
      clear hPA hPC HOW9 hb9 hown10 hgr10 hW4 hB4
      go_wp2_with fail
      refine (implAnonOk _ _ _ _ Y L ⟨xa, xj, xs⟩ k _ hW5.yarg).mono ?_
      rw [← HT.out]
      rintro e w6 ⟨rfl, hb6⟩
      have hW6 := hW5.below hb6
      have hB6 := hB5.trans (hb6.mono hB5.size)
      obtain ⟨hc0, hc1, hc2⟩ := hW6.cells
      clear hW5 hB5 hb6
      by_cases hk : k ≤ 20
      · have hS2 := hS1 hk
        clear hS1
        subst hS2
        go_wp2_with fail
        refine (implAnonOk _ _ _ _ Y L ⟨xa, xj, xs⟩ (2 * k) _ hW6.yarg).mono ?_
        rw [← HS.out]
        rintro e w7 ⟨rfl, hb7⟩
        have hW7 := hW6.below hb7
        have hB7 := hB6.trans (hb7.mono hB6.size)
        obtain ⟨hc0, hc1, hc2⟩ := hW7.cells
        clear hW6 hB6 hb7
        go_wp2
        go_ret
        exact ⟨rfl, hB7⟩
      · have hk3 : 20 < k := by omega
        clear hS1 hk
        go_wp2
        go_ret
        exact ⟨rfl, hB6⟩
  · have hbig2 : 1048576 < bs.length := by omega
    go_enter Try.func5, Try.ntmps5
    go_wp2
    go_ret
    exact ⟨rfl, Below.refl _ _⟩
end Go.Proofs.Ytaojjlhlahoocaa.WFnAnonJoin
