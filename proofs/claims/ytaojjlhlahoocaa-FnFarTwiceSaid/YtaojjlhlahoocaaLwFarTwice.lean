/- FnFarTwice, walked. -/
import Derived.Test.YtaojjlhlahoocaaLawKit
import Derived.Test.YtaojjlhlahoocaaPlain2
import Derived.Test.YtaojjlhlahoocaaFar
import Derived.Test.YtaojjlhlahoocaaLawKit2
import Derived.Test.YtaojjlhlahoocaaDrwDiverseFar
import Derived.Test.YtaojjlhlahoocaaPlain5
import Derived.IntWalk
namespace Go.Proofs.Ytaojjlhlahoocaa.WFnFarTwice
open Go.RowKit
set_option linter.unusedVariables false

set_option maxRecDepth 100000 in
set_option maxHeartbeats 4000000 in
theorem walk (w : World) (A : Option Addr) (c : Nat) (bs : List Int) (hn : bs.length ≤ 9223372036854775807) (hec : bs.length ≤ c ∧ c ≤ 9223372036854775807) (hg : Rds w w.heap.size 1 A bs.length (bs.map (Value.int .u8))) (hb : ∀ z ∈ bs, 0 ≤ z ∧ z ≤ 255) : Calls Try.prog 7 #[.slice A bs.length c] w fun e w' => e = .returned (.bool true) ∧ Below w.heap.size w w' := by
  have hB : Byt w A c bs := ⟨hg, hec.1, hec.2, hb⟩
  clear hg hb
  by_cases hbig : bs.length ≤ 1048576
  · go_enter Try.func7, Try.ntmps7
    go_wp2_with fail
    refine (specDrawDiverseFar A c bs w hB).mono ?_
    rintro e w1 ⟨A1, c1, l, A2, c2, L, ⟨xa, xj, xs⟩, k, rfl, hA, hD, hkb, hb1⟩
    have hD0 := Lib.hid hD
    obtain ⟨hl10, hL4, hxs, hps, hrs, hlc, hcm, hLc, hcm2⟩ := hD
    clear hps hrs hxs hB
    have hW2 : LW (w1.alloc (.cells #[.int .i64 xa, .int .i64 xj, .int .i64 xs] 26)) A1 l A2 L w1.heap.size xa xj xs := ⟨hA.below ((Below.refl _ _).alloc (Nat.le_refl _) _), Blk.new w1 _ _⟩
    have hB2 := hb1.alloc hb1.size (.cells #[.int .i64 xa, .int .i64 xj, .int .i64 xs] 26)
    clear hA hb1
    obtain ⟨V, hV⟩ : ∃ V, V = dFar l L ⟨xa, xj, xs⟩ k := ⟨_, rfl⟩
    have HV := Lib.hid hV
    clear hV
    go_wp2_with fail
    refine (implDiverseFar _ _ _ _ l L ⟨xa, xj, xs⟩ k _ hW2.1).mono ?_
    rw [← HV.out]
    rintro e w3 ⟨rfl, hb3⟩
    have hW3 := hW2.below hb3
    have hB3 := hB2.trans (hb3.mono hB2.size)
    obtain ⟨hc0, hc1, hc2⟩ := hW3.cells
    clear hW2 hB2 hb3
    go_wp2_with fail
    refine (specDiverseFar _ _ _ _ l L ⟨xa, xj, xs⟩ k _ hW3.1).mono ?_
    rw [← HV.out]
    rintro e w4 ⟨rfl, hb4⟩
    have hW4 := hW3.below hb4
    have hB4 := hB3.trans (hb4.mono hB3.size)
    obtain ⟨hc0, hc1, hc2⟩ := hW4.cells
    clear hW3 hB3 hb4
    by_cases hok : 0 ≤ V
    · obtain ⟨ho, hk0, hk1⟩ := dFar_ok (by rw [← HV.out]; exact hok)
      obtain ⟨T, hT⟩ : ∃ T, T = dFar (l ++ l) L ⟨xa, xj, xs⟩ k := ⟨_, rfl⟩
      have hT1 : T = 4 * V := by rw [hT, HV.out, dFar_two ho hk0 hk1 (by omega)]
      have hVb : V ≤ 16000 := by
        rw [HV.out, dFar_yes ho rfl hk0 hk1]
        have hx : (recd L ⟨xa, xj, xs⟩ l).length ≤ 40 := by rw [recd_length]; omega
        have := farTo_bd (f := grpOf (nth (recd L ⟨xa, xj, xs⟩ l) k.toNat)) (x := recd L ⟨xa, xj, xs⟩ l) (s := gsz (recd L ⟨xa, xj, xs⟩ l) (nth (recd L ⟨xa, xj, xs⟩ l) k.toNat)) hx (Nat.le_trans (gsz_le _ _) hx) 10
        omega
      have HT := Lib.hid hT; clear hT
      clear ho
      subst hT1
      have hPA := hW4.1.1
      have hPB := hPA.below (((Below.refl _ _).alloc (Nat.le_refl _) _) : Below w4.heap.size w4 (w4.alloc (.cells #[] 35)))
      go_wp2_with (at_builtin; go_must (refine wpList_append_ppl rfl _ _ rfl w4.heap.size w4.heap.size _ [] l rfl (OPpl.empty w4 35) _ _ _ rfl rfl hPB (by simp; omega) (by simp) ?_))
      intro v9 w9 hown9 hgr9
      have HOW9 := Lib.hid hown9
      clear hown9
      have hb9 : Below w4.heap.size w4 w9 := ((Below.refl _ _).alloc (Nat.le_refl _) _).grown hgr9 (by simp) (own_base (OPpl.empty w4 35))
      clear hgr9 hPB
      have hPC := hPA.below hb9
      go_wp2_with (at_builtin; go_must (refine wpList_append_ppl rfl _ _ rfl w4.heap.size w4.heap.size _ l l rfl HOW9.out _ _ _ rfl rfl hPC (by omega) hb9.size ?_))
      intro v10 w5 hown10 hgr10
      obtain ⟨A9, cY, rfl, hW5, hcYa, hcYb, hB5⟩ := join_end hW4 hB4 hown10 (hb9.grown hgr10 hb9.size (own_base HOW9.out)) (by simp; omega)
      have hYl : (l ++ l).length = l.length + l.length := List.length_append
      generalize l ++ l = Y at *
      have hYb : Y.length ≤ 20 := by omega
      have HYL := Lib.hid hYl
      clear hYl
      obtain ⟨hc0, hc1, hc2⟩ := hW5.cells
      clear hPA hPC HOW9 hb9 hown10 hgr10 hW4 hB4
      go_wp2_with fail
      refine (implDiverseFar _ _ _ _ Y L ⟨xa, xj, xs⟩ k _ hW5.yarg).mono ?_
      rw [← HT.out]
      rintro e w6 ⟨rfl, hb6⟩
      have hW6 := hW5.below hb6
      have hB6 := hB5.trans (hb6.mono hB5.size)
      obtain ⟨hc0, hc1, hc2⟩ := hW6.cells
      clear hW5 hB5 hb6
      go_wp2
      go_ret
      exact ⟨rfl, hB6⟩
    · have hV1 : V < 0 := by omega
      go_wp2
      go_ret
      exact ⟨rfl, hB4⟩
  · have hbig2 : 1048576 < bs.length := by omega
    go_enter Try.func7, Try.ntmps7
    go_wp2
    go_ret
    exact ⟨rfl, Below.refl _ _⟩
end Go.Proofs.Ytaojjlhlahoocaa.WFnFarTwice
