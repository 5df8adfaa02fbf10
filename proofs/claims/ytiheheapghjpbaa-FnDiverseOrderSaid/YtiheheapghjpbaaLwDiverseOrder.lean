/- FnDiverseOrder, walked. -/
import Derived.Test.YtiheheapghjpbaaLawKit
import Derived.Test.YtiheheapghjpbaaPlain2
import Derived.Test.YtiheheapghjpbaaDivLeastI
import Derived.Test.YtiheheapghjpbaaDivLeastS
import Derived.Test.YtiheheapghjpbaaLawKit2
import Derived.Test.YtiheheapghjpbaaDrwDiverseLeast
import Derived.Test.YtiheheapghjpbaaPlain3
namespace Go.Proofs.Ytiheheapghjpbaa.WFnDiverseOrder
open Go.RowKit
set_option linter.unusedVariables false

set_option maxRecDepth 100000 in
set_option maxHeartbeats 4000000 in
theorem walk (w : World) (A : Option Addr) (c : Nat) (bs : List Int) (hn : bs.length ≤ 9223372036854775807) (hec : bs.length ≤ c ∧ c ≤ 9223372036854775807) (hg : Rds w w.heap.size 1 A bs.length (bs.map (Value.int .u8))) (hb : ∀ z ∈ bs, 0 ≤ z ∧ z ≤ 255) (A9 : Option Addr) (c9 : Nat) (ms : List Int) (hn9 : ms.length ≤ 9223372036854775807) (hec9 : ms.length ≤ c9 ∧ c9 ≤ 9223372036854775807) (hg9 : Rds w w.heap.size 1 A9 ms.length (ms.map (Value.int .u8))) (hb9 : ∀ z ∈ ms, 0 ≤ z ∧ z ≤ 255) : Calls Try.prog 13 #[.slice A bs.length c, .slice A9 ms.length c9] w fun e w' => e = .returned (.bool true) ∧ Below w.heap.size w w' := by
  have hB : Byt w A c bs := ⟨hg, hec.1, hec.2, hb⟩
  clear hg hb
  by_cases hbig : bs.length ≤ 1048576 ∧ ms.length ≤ 1048576
  · obtain ⟨hbig, hbm⟩ := hbig
    go_enter Try.func13, Try.ntmps13
    go_wp2_with fail
    refine (specDrawDiverseLeast A c bs w hB).mono ?_
    rintro e w1 ⟨A1, c1, l, A2, c2, L, ⟨xa, xj, xs⟩, rfl, hA, hD, hb1⟩
    have hD0 := Lib.hid hD
    obtain ⟨hl10, hL4, hxs, hps, hrs, hlc, hcm, hLc, hcm2⟩ := hD
    clear hps hrs hxs hB
    have hW2 : LW (w1.alloc (.cells #[.int .i64 xa, .int .i64 xj, .int .i64 xs] 26)) A1 l A2 L w1.heap.size xa xj xs := ⟨hA.below ((Below.refl _ _).alloc (Nat.le_refl _) _), Blk.new w1 _ _⟩
    have hB2 := hb1.alloc hb1.size (.cells #[.int .i64 xa, .int .i64 xj, .int .i64 xs] 26)
    clear hA hb1
    obtain ⟨V, hV⟩ : ∃ V, V = dLeast l L ⟨xa, xj, xs⟩ := ⟨_, rfl⟩
    have HV := Lib.hid hV
    clear hV
    go_wp2_with fail
    refine (implDiverseLeast _ _ _ _ l L ⟨xa, xj, xs⟩  _ hW2.1).mono ?_
    rw [← HV.out]
    rintro e w3 ⟨rfl, hb3⟩
    have hW3 := hW2.below hb3
    have hB3 := hB2.trans (hb3.mono hB2.size)
    obtain ⟨hc0, hc1, hc2⟩ := hW3.cells
    clear hW2 hB2 hb3
    go_wp2_with fail
    refine (specDiverseLeast _ _ _ _ l L ⟨xa, xj, xs⟩  _ hW3.1).mono ?_
    rw [← HV.out]
    rintro e w4 ⟨rfl, hb4⟩
    have hW4 := hW3.below hb4
    have hB4 := hB3.trans (hb4.mono hB3.size)
    obtain ⟨hc0, hc1, hc2⟩ := hW4.cells
    clear hW3 hB3 hb4
    by_cases hok : 0 ≤ V
    · have ho := dLeast_ok (by rw [← HV.out]; exact hok)
      obtain ⟨m, hm, hml⟩ : ∃ m : Nat, (ms.length : Int) % ((l.length : Int) + 1) = m ∧ m ≤ l.length := ⟨ms.length % (l.length + 1), by simp, by have := Nat.mod_lt ms.length (show 0 < l.length + 1 by omega); omega⟩
      obtain ⟨T, hT⟩ : ∃ T, T = dLeast (l.drop m ++ l.take m) L ⟨xa, xj, xs⟩ := ⟨_, rfl⟩
      have hT1 : T = V := by rw [hT, HV.out, dLeast_perm (turn_perm l m)]
      obtain ⟨Z, hZ⟩ : ∃ Z, Z = dLeast (l ++ l) L ⟨xa, xj, xs⟩ := ⟨_, rfl⟩
      have hZ1 : Z = V := by rw [hZ, HV.out, dLeast_two ho (by omega)]
      have HT := Lib.hid hT; clear hT
      have HZ := Lib.hid hZ; clear hZ
      clear ho
      subst hT1 hZ1
      have hPA := hW4.1.1
      have hPB := hPA.cut (k := m) (cap := c1) hml hlc
      obtain ⟨AD, hAD⟩ : ∃ AD, (if c1 = m then A1 else Option.map (fun x => x.add (m * 4)) A1) = AD := ⟨_, rfl⟩
      rw [hAD] at hPB
      have hPD := hPA.take m
      have hdl : (l.drop m).length = l.length - m := List.length_drop
      have htl : (l.take m).length = m := by rw [List.length_take]; omega
      have HPA := Lib.hid hPA
      have HPB := Lib.hid hPB
      have HPD := Lib.hid hPD
      have HDL := Lib.hid hdl
      have HTL := Lib.hid htl
      clear hPA hPB hPD hdl htl
      have hm0 : (0 : Int) ≤ (m : Int) := by omega
      have hm1 : (m : Int) ≤ (l.length : Int) := by omega
      have hm2 : (l.length : Int) ≤ (c1 : Int) := by omega
      have hm3 : (m : Int) ≤ (c1 : Int) := by omega
      go_wp2_with fail
      rw [hm]
      go_region_held3 (fun _ => True) (trivial)
        (first
          | (refine step_append_ppl (by rfl) _ _ (by rfl) w4.heap.size w4.heap.size _ [] (l.drop m) (by rfl) (by exact OPpl.empty _ _) _ _ _ (by rfl) HDL.out.symm (Ppl.below HPB.out ((Below.refl _ _).drew.alloc (Nat.le_refl _) _)) (by simp; omega) (by simp) ?_; intro v9 w9 hown9 hgr9; rw [List.nil_append] at hown9; have hb9 : Hid (Below w4.heap.size w4 w9) := ((Below.refl _ _).drew.alloc (Nat.le_refl _) _).grown hgr9 (by simp) (own_base (OPpl.empty _ 50)); have HOW9 := Lib.hid hown9; clear hown9 hgr9)
          | (refine step_append_ppl (by rfl) _ _ (by rfl) w4.heap.size w4.heap.size _ (l.drop m) (l.take m) (by rfl) HOW9.out _ _ _ (by rfl) HTL.out.symm (Ppl.below HPD.out hb9.out) (by rw [HDL.out, HTL.out]; omega) hb9.out.size ?_; intro v10 w5 hown10 hgr10; have HO10 := Lib.hid hown10; have HG10 := Lib.hid hgr10; clear hown10 hgr10)
          | fail)
      obtain ⟨A9, cY, rfl, hW5, hcYa, hcYb, hB5⟩ := join_end hW4 hB4 HO10.out (hb9.out.grown HG10.out hb9.out.size (own_base HOW9.out)) (by rw [List.length_append, HDL.out, HTL.out]; omega)
      have hYl : (l.drop m ++ l.take m).length = l.length := (turn_perm l m).length_eq
      clear HPA HPB HPD HDL HTL HOW9 HO10 HG10 hb9
      generalize l.drop m ++ l.take m = Y at *
      have hYb : Y.length ≤ 10 := by omega
      have HYL := Lib.hid hYl
      clear hYl
      obtain ⟨hc0, hc1, hc2⟩ := hW5.cells
      clear hW4 hB4
      have hPA := hW5.1.1
      have hPB := hPA.below (((Below.refl _ _).alloc (Nat.le_refl _) _) : Below w5.heap.size w5 (w5.alloc (.cells #[] 50)))
      go_wp2_with (at_builtin; go_must (refine wpList_append_ppl rfl _ _ rfl w5.heap.size w5.heap.size _ [] l rfl (OPpl.empty w5 50) _ _ _ rfl rfl hPB (by simp; omega) (by simp) ?_))
      intro v9 w9 hown9 hgr9
      have HOW9 := Lib.hid hown9
      clear hown9
      have hb9 : Below w5.heap.size w5 w9 := ((Below.refl _ _).alloc (Nat.le_refl _) _).grown hgr9 (by simp) (own_base (OPpl.empty w5 50))
      clear hgr9 hPB
      have hPC := hPA.below hb9
      go_wp2_with (at_builtin; go_must (refine wpList_append_ppl rfl _ _ rfl w5.heap.size w5.heap.size _ l l rfl HOW9.out _ _ _ rfl rfl hPC (by omega) hb9.size ?_))
      intro v10 w6 hown10 hgr10
      obtain ⟨A8, cZ, rfl, hW6, hcZa, hcZb, hB6⟩ := join_end2 hW5 hB5 hown10 (hb9.grown hgr10 hb9.size (own_base HOW9.out)) (by simp; omega)
      have hZl : (l ++ l).length = l.length + l.length := List.length_append
      generalize l ++ l = Z at *
      have hZb : Z.length ≤ 20 := by omega
      have HZL := Lib.hid hZl
      clear hZl
      obtain ⟨hc0, hc1, hc2⟩ := hW6.cells
      clear hPA hPC HOW9 hb9 hown10 hgr10 hW5 hB5
      go_wp2_with fail
      refine (implDiverseLeast _ _ _ _ Y L ⟨xa, xj, xs⟩  _ hW6.yarg).mono ?_
      rw [← HT.out]
      rintro e w7 ⟨rfl, hb7⟩
      have hW7 := hW6.below hb7
      have hB7 := hB6.trans (hb7.mono hB6.size)
      obtain ⟨hc0, hc1, hc2⟩ := hW7.cells
      clear hW6 hB6 hb7
      go_wp2_with fail
      refine (implDiverseLeast _ _ _ _ Z L ⟨xa, xj, xs⟩  _ hW7.zarg).mono ?_
      rw [← HZ.out]
      rintro e w8 ⟨rfl, hb8⟩
      have hW8 := hW7.below hb8
      have hB8 := hB7.trans (hb8.mono hB7.size)
      obtain ⟨hc0, hc1, hc2⟩ := hW8.cells
      clear hW7 hB7 hb8
      go_wp2
      go_ret
      exact ⟨rfl, hB8⟩
    · have hV1 : V < 0 := by omega
      go_wp2
      go_ret
      exact ⟨rfl, hB4⟩
  · rcases (show 1048576 < bs.length ∨ (bs.length ≤ 1048576 ∧ 1048576 < ms.length) by omega) with hx1 | ⟨hx1, hx2⟩
    all_goals
      go_enter Try.func13, Try.ntmps13
      go_wp2
      go_ret
      exact ⟨rfl, Below.refl _ _⟩
end Go.Proofs.Ytiheheapghjpbaa.WFnDiverseOrder
