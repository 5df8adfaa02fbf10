/- FnUniquesTwice, walked. -/
import Derived.Test.YtljjaanohcibcaaLawKit
import Derived.Test.YtljjaanohcibcaaPlain2
import Derived.Test.YtljjaanohcibcaaGrpI
import Derived.Test.YtljjaanohcibcaaAnonI
import Derived.Test.YtljjaanohcibcaaLawKit2
import Derived.Test.YtljjaanohcibcaaDrwGroupUniques
import Derived.IntWalk
namespace Go.Proofs.Ytljjaanohcibcaa.WFnUniquesTwice
open Go.RowKit
set_option linter.unusedVariables false

set_option maxRecDepth 100000 in
set_option maxHeartbeats 4000000 in
theorem walk (w : World) (A : Option Addr) (c : Nat) (bs : List Int) (hn : bs.length ≤ 9223372036854775807) (hec : bs.length ≤ c ∧ c ≤ 9223372036854775807) (hg : Rds w w.heap.size 1 A bs.length (bs.map (Value.int .u8))) (hb : ∀ z ∈ bs, 0 ≤ z ∧ z ≤ 255) : Calls Try.prog 9 #[.slice A bs.length c] w fun e w' => e = .returned (.bool true) ∧ Below w.heap.size w w' := by
  have hB : Byt w A c bs := ⟨hg, hec.1, hec.2, hb⟩
  clear hg hb
  by_cases hbig : bs.length ≤ 1048576
  · go_enter Try.func9, Try.ntmps9
    go_wp2_with fail
    refine (specDrawGroupUniques A c bs w hB).mono ?_
    rintro e w1 ⟨A1, c1, l, A2, c2, L, ⟨xa, xj, xs⟩, rfl, hA, hD, hb1⟩
    have hD0 := Lib.hid hD
    obtain ⟨hl10, hL4, hxs, hps, hrs, hlc, hcm, hLc, hcm2⟩ := hD
    clear hps hrs hxs hB
    have hW2 : LW (w1.alloc (.cells #[.int .i64 xa, .int .i64 xj, .int .i64 xs] 26)) A1 l A2 L w1.heap.size xa xj xs := ⟨hA.below ((Below.refl _ _).alloc (Nat.le_refl _) _), Blk.new w1 _ _⟩
    have hB2 := hb1.alloc hb1.size (.cells #[.int .i64 xa, .int .i64 xj, .int .i64 xs] 26)
    clear hA hb1
    obtain ⟨V, hV⟩ : ∃ V, V = aDrop l L ⟨xa, xj, xs⟩ 2 := ⟨_, rfl⟩
    have HV := Lib.hid hV
    clear hV
    go_wp2_with fail
    refine (implGroupUniques _ _ _ _ l L ⟨xa, xj, xs⟩  _ hW2.1).mono ?_
    rw [← HV.out]
    rintro e w3 ⟨rfl, hb3⟩
    have hW3 := hW2.below hb3
    have hB3 := hB2.trans (hb3.mono hB2.size)
    obtain ⟨hc0, hc1, hc2⟩ := hW3.cells
    clear hW2 hB2 hb3
    go_wp2_with fail
    refine (specGroupUniques _ _ _ _ l L ⟨xa, xj, xs⟩  _ hW3.1).mono ?_
    rw [← HV.out]
    rintro e w4 ⟨rfl, hb4⟩
    have hW4 := hW3.below hb4
    have hB4 := hB3.trans (hb4.mono hB3.size)
    obtain ⟨hc0, hc1, hc2⟩ := hW4.cells
    clear hW3 hB3 hb4
    by_cases hok : 0 ≤ V
    · obtain ⟨ho, -, -⟩ := aDrop_ok (by rw [← HV.out]; exact hok)
      obtain ⟨T, hT⟩ : ∃ T, T = aDrop (l ++ l) L ⟨xa, xj, xs⟩ 2 := ⟨_, rfl⟩
      have hT1 : T = 0 := by
        have h2 : drp (recd L ⟨xa, xj, xs⟩ l ++ recd L ⟨xa, xj, xs⟩ l) 2 = 0 := by
          have := drp_two (recd L ⟨xa, xj, xs⟩ l) 1
          rw [drp_one] at this
          exact this
        rw [hT, aDrop_yes (okA_two ho (by omega)) rfl (by decide) (by decide), recd_append, h2]
        rfl
      obtain ⟨M, hM⟩ : ∃ M, M = gMany l L ⟨xa, xj, xs⟩ := ⟨_, rfl⟩
      obtain ⟨N, hN⟩ : ∃ N, N = gMany (l ++ l) L ⟨xa, xj, xs⟩ := ⟨_, rfl⟩
      have hN1 : N = M := by rw [hN, hM, gMany_yes (okA_two ho (by omega)) rfl, gMany_yes ho rfl, recd_append, gmany_two]
      obtain ⟨U, hU⟩ : ∃ U, U = gLeast l L ⟨xa, xj, xs⟩ := ⟨_, rfl⟩
      obtain ⟨X, hX⟩ : ∃ X, X = gLeast (l ++ l) L ⟨xa, xj, xs⟩ := ⟨_, rfl⟩
      have hX1 : X = 2 * U := by rw [hX, hU, gLeast_yes (okA_two ho (by omega)) rfl, gLeast_yes ho rfl, recd_append, lst_two]; push_cast; rfl
      have hU0 : 0 ≤ U ∧ U ≤ 10 := by rw [hU, gLeast_yes ho rfl]; have := lst_len (recd L ⟨xa, xj, xs⟩ l); rw [recd_length] at this; omega
      obtain ⟨hU1, hU2⟩ := hU0
      have HT := Lib.hid hT; clear hT
      have HM := Lib.hid hM; clear hM
      have HN := Lib.hid hN; clear hN
      have HU := Lib.hid hU; clear hU
      have HX := Lib.hid hX; clear hX
      clear ho
      subst hT1 hN1 hX1
      have hPA := hW4.1.1
      have hPB := hPA.below (((Below.refl _ _).alloc (Nat.le_refl _) _) : Below w4.heap.size w4 (w4.alloc (.cells #[] 50)))
      go_wp2_with (at_builtin; go_must (refine wpList_append_ppl rfl _ _ rfl w4.heap.size w4.heap.size _ [] l rfl (OPpl.empty w4 50) _ _ _ rfl rfl hPB (by simp; omega) (by simp) ?_))
      intro v9 w9 hown9 hgr9
      have HOW9 := Lib.hid hown9
      clear hown9
      have hb9 : Below w4.heap.size w4 w9 := ((Below.refl _ _).alloc (Nat.le_refl _) _).grown hgr9 (by simp) (own_base (OPpl.empty w4 50))
      clear hgr9 hPB
      have hPC := hPA.below hb9
      go_wp2_with (at_builtin; go_must (refine wpList_append_ppl rfl _ _ rfl w4.heap.size w4.heap.size _ l l rfl HOW9.out _ _ _ rfl rfl hPC (by omega) hb9.size ?_))
      intro v10 w5 hown10 hgr10
      obtain ⟨A9, cY, rfl, hW5, hcYa, hcYb, hB5⟩ := join_end hW4 hB4 hown10 (hb9.grown hgr10 hb9.size (own_base HOW9.out)) (by simp; omega)
      have hYl : (l ++ l).length = l.length + l.length := List.length_append
      generalize l ++ l = Y at *
      have hYb : Y.length ≤ 20 := by omega
      have HYL := Lib.hid hYl
      clear hYl
      obtain ⟨hc0, hc1, hc2⟩ := hW5.cells
      clear hPA hPC HOW9 hb9 hown10 hgr10 hW4 hB4
      obtain ⟨hc0, hc1, hc2⟩ := hW5.cells
      have hbx : w1.heap.size < w5.heap.size := hW5.2.1.lt
      have HW5 := Lib.hid hW5
      clear hW5
      go_wp2_with fail
      have hwr : IntKind.i64.wrap (2 * U) = 2 * U := IntWalk.i64_in _ (by omega)
      go_region_held3 (fun w' => w'.cell? ⟨w1.heap.size, 0, none⟩ = some (.int .i64 xa) ∧ w'.cell? ⟨w1.heap.size, 1, none⟩ = some (.int .i64 xj) ∧ w'.cell? ⟨w1.heap.size, 2, none⟩ = some (.int .i64 xs))
        (go_keep)
        (first
          | (have HQ := HT; clear HT; go_at_call 38; refine (implGroupUniques _ _ _ _ Y L ⟨xa, xj, xs⟩ _ (Arg.below (HW5.out.yarg) ((Below.refl w5.heap.size w5).drew))).mono ?_; rw [← HQ.out]; clear HQ; rintro e v1 ⟨rfl, hq'⟩; have HV1 : Hid (Below w5.heap.size w5 v1) := ((Below.refl w5.heap.size w5).drew).trans hq'; clear hq'; have hcl0 : ∀ i o, i < w5.heap.size → v1.cell? ⟨i, o, none⟩ = w5.cell? ⟨i, o, none⟩ := (fun i o hi => HV1.out.cell (p := ⟨i, o, none⟩) hi))
          | (have HQ := HX; clear HX; go_at_call 35; refine (implGroupLeast _ _ _ _ Y L ⟨xa, xj, xs⟩ v1 (Arg.below (HW5.out.yarg) HV1.out)).mono ?_; rw [← HQ.out]; clear HQ; rintro e v2 ⟨rfl, hq'⟩; have HV2 : Hid (Below w5.heap.size w5 v2) := HV1.out.trans (hq'.mono HV1.out.size); clear hq'; have hcl1 : ∀ i o, i < w5.heap.size → v2.cell? ⟨i, o, none⟩ = w5.cell? ⟨i, o, none⟩ := (fun i o hi => HV2.out.cell (p := ⟨i, o, none⟩) hi))
          | (have HQ := HU; clear HU; go_at_call 35; refine (implGroupLeast _ _ _ _ l L ⟨xa, xj, xs⟩ v2 (Arg.below (HW5.out.1) HV2.out)).mono ?_; rw [← HQ.out]; clear HQ; rintro e v3 ⟨rfl, hq'⟩; have HV3 : Hid (Below w5.heap.size w5 v3) := HV2.out.trans (hq'.mono HV2.out.size); clear hq'; have hcl2 : ∀ i o, i < w5.heap.size → v3.cell? ⟨i, o, none⟩ = w5.cell? ⟨i, o, none⟩ := (fun i o hi => HV3.out.cell (p := ⟨i, o, none⟩) hi))
          | (have HQ := HN; clear HN; go_at_call 37; refine (implGroupMany _ _ _ _ Y L ⟨xa, xj, xs⟩ v3 (Arg.below (HW5.out.yarg) HV3.out)).mono ?_; rw [← HQ.out]; clear HQ; rintro e v4 ⟨rfl, hq'⟩; have HV4 : Hid (Below w5.heap.size w5 v4) := HV3.out.trans (hq'.mono HV3.out.size); clear hq'; have hcl3 : ∀ i o, i < w5.heap.size → v4.cell? ⟨i, o, none⟩ = w5.cell? ⟨i, o, none⟩ := (fun i o hi => HV4.out.cell (p := ⟨i, o, none⟩) hi))
          | (have HQ := HM; clear HM; go_at_call 37; refine (implGroupMany _ _ _ _ l L ⟨xa, xj, xs⟩ v4 (Arg.below (HW5.out.1) HV4.out)).mono ?_; rw [← HQ.out]; clear HQ; rintro e v5 ⟨rfl, hq'⟩; have HV5 : Hid (Below w5.heap.size w5 v5) := HV4.out.trans (hq'.mono HV4.out.size); clear hq'; have hcl4 : ∀ i o, i < w5.heap.size → v5.cell? ⟨i, o, none⟩ = w5.cell? ⟨i, o, none⟩ := (fun i o hi => HV5.out.cell (p := ⟨i, o, none⟩) hi))
          | fail)
      have hB6 := hB5.trans (HV5.out.mono hB5.size)
      clear hwr hcl0 hcl1 hcl2 hcl3 hcl4
      go_wp2
      go_ret
      exact ⟨rfl, hB6⟩
    · have hV1 : V < 0 := by omega
      go_wp2
      go_ret
      exact ⟨rfl, hB4⟩
  · have hbig2 : 1048576 < bs.length := by omega
    go_enter Try.func9, Try.ntmps9
    go_wp2
    go_ret
    exact ⟨rfl, Below.refl _ _⟩
end Go.Proofs.Ytljjaanohcibcaa.WFnUniquesTwice
