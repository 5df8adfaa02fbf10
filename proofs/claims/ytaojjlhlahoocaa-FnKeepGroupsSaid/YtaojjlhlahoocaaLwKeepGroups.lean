/- FnKeepGroups, walked. -/
import Derived.Test.YtaojjlhlahoocaaLawKit
import Derived.Test.YtaojjlhlahoocaaPlain2
import Derived.Test.YtaojjlhlahoocaaLawKit3
import Derived.Test.YtaojjlhlahoocaaGrpI
import Derived.Test.YtaojjlhlahoocaaDrwAnonKeep
import Derived.IntWalk
namespace Go.Proofs.Ytaojjlhlahoocaa.WFnKeepGroups
open Go.RowKit
set_option linter.unusedVariables false
set_option linter.unusedSimpArgs false

set_option maxRecDepth 100000 in
set_option maxHeartbeats 4000000 in
theorem walk (w : World) (A : Option Addr) (c : Nat) (bs : List Int) (hn : bs.length ≤ 9223372036854775807) (hec : bs.length ≤ c ∧ c ≤ 9223372036854775807) (hg : Rds w w.heap.size 1 A bs.length (bs.map (Value.int .u8))) (hb : ∀ z ∈ bs, 0 ≤ z ∧ z ≤ 255) : Calls Try.prog 11 #[.slice A bs.length c] w fun e w' => e = .returned (.bool true) ∧ Below w.heap.size w w' := by
  have hB : Byt w A c bs := ⟨hg, hec.1, hec.2, hb⟩
  clear hg hb
  by_cases hbig : bs.length ≤ 1048576
  · go_enter Try.func11, Try.ntmps11
    go_wp2_with fail
    refine (specDrawAnonKeep A c bs w hB).mono ?_
    rintro e w1 ⟨A1, c1, l, A2, c2, L, ⟨xa, xj, xs⟩, k, rfl, hA, hD, hkb, hb1⟩
    have hD0 := Lib.hid hD
    obtain ⟨hl10, hL4, hxs, hps, hrs, hlc, hcm, hLc, hcm2⟩ := hD
    clear hps hrs hxs hB
    have hW2 : LW (w1.alloc (.cells #[.int .i64 xa, .int .i64 xj, .int .i64 xs] 26)) A1 l A2 L w1.heap.size xa xj xs := ⟨hA.below ((Below.refl _ _).alloc (Nat.le_refl _) _), Blk.new w1 _ _⟩
    have hB2 := hb1.alloc hb1.size (.cells #[.int .i64 xa, .int .i64 xj, .int .i64 xs] 26)
    clear hA hb1
    obtain ⟨V, hV⟩ : ∃ V, V = kV l L ⟨xa, xj, xs⟩ k := ⟨_, rfl⟩
    obtain ⟨B, hB⟩ : ∃ B, B = kB l L ⟨xa, xj, xs⟩ k := ⟨_, rfl⟩
    have hVl : V.length ≤ l.length := by rw [hV]; exact kV_len l L ⟨xa, xj, xs⟩ k
    have HV := Lib.hid hV
    have HVB := Lib.hid hB
    clear hV hB
    go_wp2_with fail
    refine (implKeepX _ _ _ _ l L ⟨xa, xj, xs⟩ k _ hW2.1).mono ?_
    rw [← HV.out, ← HVB.out]
    rintro e w3 ⟨AV, cV, rfl, hPV, hcV1, hcV2, hb3⟩
    have hW3 : LW2 w3 A1 l A2 L w1.heap.size xa xj xs AV V := LW.more hW2 hb3 hPV (by omega)
    have hB3 := hB2.trans (hb3.mono hB2.size)
    obtain ⟨hc0, hc1, hc2⟩ := hW3.cells
    clear hW2 hB2 hb3 hPV
    go_wp2_with fail
    refine (specKeepX _ _ _ _ l L ⟨xa, xj, xs⟩ k _ hW3.1).mono ?_
    rw [← HV.out, ← HVB.out]
    rintro e w4 ⟨AS, cS, rfl, hPS, hcS1, hcS2, hb4⟩
    have hW4 := hW3.below hb4
    have hB4 := hB3.trans (hb4.mono hB3.size)
    obtain ⟨hc0, hc1, hc2⟩ := hW4.cells
    clear hW3 hB3 hb4
    go_wp2_with fail
    refine (sameS AV AS cV cS V _ hW4.2.2.1 hPS (by omega)).mono ?_
    rintro e w5 ⟨rfl, hb5⟩
    have hPS5 := Lib.hid ((hPS.below hb5).more hb5.size)
    have hW5 := hW4.below hb5
    have hB5 := hB4.trans (hb5.mono hB4.size)
    obtain ⟨hc0, hc1, hc2⟩ := hW5.cells
    clear hW4 hB4 hb5
    clear hPS
    cases B with
    | false =>
      go_wp2_with fail
      refine (sameS AV AS cV cS V _ hW5.2.2.1 hPS5.out (by omega)).mono ?_
      rintro e w6 ⟨rfl, hb6⟩
      have hW6 := hW5.below hb6
      have hB6 := hB5.trans (hb6.mono hB5.size)
      obtain ⟨hc0, hc1, hc2⟩ := hW6.cells
      clear hW5 hB5 hb6
      go_wp2
      go_ret
      exact ⟨rfl, hB6⟩
    | true =>
      have hk := kB_ok HVB.out
      have hVV := HV.out.trans (kV_yes hk)
      obtain ⟨-, hk1, hk2⟩ := id hk
      obtain ⟨M, hM⟩ : ∃ M, M = gMany V L zeroR := ⟨_, rfl⟩
      obtain ⟨N, hN⟩ : ∃ N, N = gMany l L ⟨xa, xj, xs⟩ := ⟨_, rfl⟩
      obtain ⟨U, hU⟩ : ∃ U, U = aDrop V L zeroR 2 := ⟨_, rfl⟩
      have hMN : M ≤ N := by
        rw [hM, hN, hVV, gMany_yes (okA_kept hk) rfl, gMany_yes hk.1 rfl, recd_zero]
        have := kept_many (recd L ⟨xa, xj, xs⟩ l) k
        omega
      have hU1 : k = 1 ∨ U = 0 := by
        by_cases e : k = 1
        · exact .inl e
        · right
          rw [hU, hVV, aDrop_yes (okA_kept hk) rfl (by decide) (by decide), recd_zero]
          have h1 := drp_mono (x := kept (recd L ⟨xa, xj, xs⟩ l) k) (show (2 : Int) ≤ k by omega)
          rw [kept_drp0] at h1
          have : drp (kept (recd L ⟨xa, xj, xs⟩ l) k) 2 = 0 := by omega
          rw [this]; rfl
      have HM := Lib.hid hM; clear hM
      have HN := Lib.hid hN; clear hN
      have HU := Lib.hid hU; clear hU
      clear hk hVV
      have hM0 : decide (M ≤ N) = true := decide_eq_true hMN
      have hz5 : Below w5.heap.size w5 (w5.alloc (.cells #[.int .i64 0, .int .i64 0, .int .i64 0] 26)) := ((Below.refl _ _).alloc (Nat.le_refl _) _)
      have hN5 := Blk.new w5 26 #[.int .i64 0, .int .i64 0, .int .i64 0]
      have hW6 := hW5.below hz5
      have hB6 := hB5.trans (hz5.mono hB5.size)
      clear hc0 hc1 hc2 hW5 hB5 hz5
      by_cases hk1' : k = 1
      · subst hk1'
        clear hU1
        go_wp2_with fail
        generalize w5.alloc (.cells #[.int .i64 0, .int .i64 0, .int .i64 0] 26) = w6 at *
        obtain ⟨hc0, hc1, hc2⟩ := hW6.cells
        have hz0 := hN5.cell 0
        have hz1 := hN5.cell 1
        have hz2 := hN5.cell 2
        simp only [List.getElem?_cons_zero, List.getElem?_cons_succ] at hz0 hz1 hz2
        have hbx : w1.heap.size < w6.heap.size := hW6.2.1.lt
        have hbz : w5.heap.size < w6.heap.size := hN5.lt
        have HW6 := Lib.hid hW6
        clear hW6 hN5
        have HS : Hid (∀ W : World, Below w6.heap.size w6 W → (W.cell? ⟨w5.heap.size, 0, none⟩ = some (.int .i64 0) ∧ W.cell? ⟨w5.heap.size, 1, none⟩ = some (.int .i64 0) ∧ W.cell? ⟨w5.heap.size, 2, none⟩ = some (.int .i64 0) ∧ W.cell? ⟨w1.heap.size, 0, none⟩ = some (.int .i64 xa) ∧ W.cell? ⟨w1.heap.size, 1, none⟩ = some (.int .i64 xj) ∧ W.cell? ⟨w1.heap.size, 2, none⟩ = some (.int .i64 xs))) := fun W hW =>
          ⟨(hW.cell (p := ⟨w5.heap.size, _, none⟩) hbz).trans hz0, (hW.cell (p := ⟨w5.heap.size, _, none⟩) hbz).trans hz1, (hW.cell (p := ⟨w5.heap.size, _, none⟩) hbz).trans hz2, (hW.cell (p := ⟨w1.heap.size, _, none⟩) hbx).trans hc0, (hW.cell (p := ⟨w1.heap.size, _, none⟩) hbx).trans hc1, (hW.cell (p := ⟨w1.heap.size, _, none⟩) hbx).trans hc2⟩
        clear hz0 hz1 hz2 hc0 hc1 hc2
        refine wp_region_held_drew (S := fun w' => w'.cell? ⟨w5.heap.size, 0, none⟩ = some (.int .i64 0) ∧ w'.cell? ⟨w5.heap.size, 1, none⟩ = some (.int .i64 0) ∧ w'.cell? ⟨w5.heap.size, 2, none⟩ = some (.int .i64 0) ∧ w'.cell? ⟨w1.heap.size, 0, none⟩ = some (.int .i64 xa) ∧ w'.cell? ⟨w1.heap.size, 1, none⟩ = some (.int .i64 xj) ∧ w'.cell? ⟨w1.heap.size, 2, none⟩ = some (.int .i64 xs)) (by kernel_rfl) (HS.out _ (Below.refl _ _).drew) (fun hHeld => ?_)
        refine wpAnyH_take (i := 0) (v := ?vv1) rfl (by kernel_rfl) (by kernel_rfl) (by kernel_rfl) (fun _ _ _ h => h) (Or.inl ⟨by rfl, ?hy1⟩) (by assumption) ?rest1
        case hy1 => (intro w hSw; (try dsimp only at hSw); (try simp only [List.getElem_toArray, List.getElem_cons_zero, List.getElem_cons_succ]); go_simp <;> with_reducible rfl)
        try simp only [List.getElem_toArray, List.getElem_cons_zero, List.getElem_cons_succ, Act.put, List.setIfInBounds_toArray, List.set_cons_zero, List.set_cons_succ]
        refine wpAnyH_take (i := 1) (v := ?vv2) rfl (by kernel_rfl) (by kernel_rfl) (by kernel_rfl) (fun _ _ _ h => h) (Or.inl ⟨by rfl, ?hy2⟩) (by assumption) ?rest2
        case hy2 => (intro w hSw; (try dsimp only at hSw); (try simp only [List.getElem_toArray, List.getElem_cons_zero, List.getElem_cons_succ]); go_simp <;> with_reducible rfl)
        try simp only [List.getElem_toArray, List.getElem_cons_zero, List.getElem_cons_succ, Act.put, List.setIfInBounds_toArray, List.set_cons_zero, List.set_cons_succ]
        refine wpAnyH_take (i := 2) (v := ?vv3) rfl (by kernel_rfl) (by kernel_rfl) (by kernel_rfl) (fun _ _ _ h => h) (Or.inl ⟨by rfl, ?hy3⟩) (by assumption) ?rest3
        case hy3 => (intro w hSw; (try dsimp only at hSw); (try simp only [List.getElem_toArray, List.getElem_cons_zero, List.getElem_cons_succ]); go_simp <;> with_reducible rfl)
        try simp only [List.getElem_toArray, List.getElem_cons_zero, List.getElem_cons_succ, Act.put, List.setIfInBounds_toArray, List.set_cons_zero, List.set_cons_succ]
        refine wpAnyH_take (i := 4) (v := ?vv4) rfl (by kernel_rfl) (by kernel_rfl) (by kernel_rfl) (fun _ _ _ h => h) (Or.inl ⟨by rfl, ?hy4⟩) (by assumption) ?rest4
        case hy4 => (intro w hSw; (try dsimp only at hSw); (try simp only [List.getElem_toArray, List.getElem_cons_zero, List.getElem_cons_succ]); go_simp <;> with_reducible rfl)
        try simp only [List.getElem_toArray, List.getElem_cons_zero, List.getElem_cons_succ, Act.put, List.setIfInBounds_toArray, List.set_cons_zero, List.set_cons_succ]
        refine wpAnyH_take (i := 5) (v := ?vv5) rfl (by kernel_rfl) (by kernel_rfl) (by kernel_rfl) (fun _ _ _ h => h) (Or.inl ⟨by rfl, ?hy5⟩) (by assumption) ?rest5
        case hy5 => (intro w hSw; (try dsimp only at hSw); (try simp only [List.getElem_toArray, List.getElem_cons_zero, List.getElem_cons_succ]); go_simp <;> with_reducible rfl)
        try simp only [List.getElem_toArray, List.getElem_cons_zero, List.getElem_cons_succ, Act.put, List.setIfInBounds_toArray, List.set_cons_zero, List.set_cons_succ]
        refine wpAnyH_take (i := 6) (v := ?vv6) rfl (by kernel_rfl) (by kernel_rfl) (by kernel_rfl) (fun _ _ _ h => h) (Or.inl ⟨by rfl, ?hy6⟩) (by assumption) ?rest6
        case hy6 => (intro w hSw; (try dsimp only at hSw); (try simp only [List.getElem_toArray, List.getElem_cons_zero, List.getElem_cons_succ]); go_simp <;> with_reducible rfl)
        try simp only [List.getElem_toArray, List.getElem_cons_zero, List.getElem_cons_succ, Act.put, List.setIfInBounds_toArray, List.set_cons_zero, List.set_cons_succ]
        refine wpAnyH_ready (rs := [3]) (by kernel_rfl) (by simp) ?_
        refine AllReadyH.cons rfl (fun K hK => ?_) AllReadyH.nil
        go_simp
        refine (implGroupMany _ _ _ _ V L zeroR _ (HW6.out.yarg.below (Below.refl _ _).drew)).mono ?_
        rw [← HM.out]
        rintro e v1 ⟨rfl, hq1⟩
        have hb1 : Below w6.heap.size w6 v1 := (Below.refl _ _).drew.trans hq1
        clear hq1
        dsimp only
        refine hK.out _ _ (HS.out _ hb1) (fun hHeld => ?_)
        clear hK K
        try simp only [List.getElem_toArray, List.getElem_cons_zero, List.getElem_cons_succ, Act.put, List.setIfInBounds_toArray, List.set_cons_zero, List.set_cons_succ]
        refine wpAnyH_ready (rs := [7]) (by kernel_rfl) (by simp) ?_
        refine AllReadyH.cons rfl (fun K hK => ?_) AllReadyH.nil
        go_simp
        refine (implGroupMany _ _ _ _ l L ⟨xa, xj, xs⟩ _ (HW6.out.1.below hb1)).mono ?_
        rw [← HN.out]
        rintro e v2 ⟨rfl, hq2⟩
        have hb2 : Below w6.heap.size w6 v2 := hb1.trans (hq2.mono hb1.size)
        clear hq2
        dsimp only
        refine hK.out _ _ (HS.out _ hb2) (fun hHeld => ?_)
        clear hK K
        try simp only [List.getElem_toArray, List.getElem_cons_zero, List.getElem_cons_succ, Act.put, List.setIfInBounds_toArray, List.set_cons_zero, List.set_cons_succ]
        refine wpAnyH_take (i := 8) (v := ?vv7) rfl (by kernel_rfl) (by kernel_rfl) (by kernel_rfl) (fun _ _ _ h => h) (Or.inl ⟨by rfl, ?hy7⟩) (by assumption) ?rest7
        case hy7 => (intro w hSw; (try dsimp only at hSw); (try simp only [List.getElem_toArray, List.getElem_cons_zero, List.getElem_cons_succ]); go_simp <;> with_reducible rfl)
        try simp only [List.getElem_toArray, List.getElem_cons_zero, List.getElem_cons_succ, Act.put, List.setIfInBounds_toArray, List.set_cons_zero, List.set_cons_succ]
        refine wpAnyH_take (i := 9) (v := ?vv8) rfl (by kernel_rfl) (by kernel_rfl) (by kernel_rfl) (fun _ _ _ h => h) (Or.inl ⟨by rfl, ?hy8⟩) (by assumption) ?rest8
        case hy8 => (intro w hSw; (try dsimp only at hSw); (try simp only [List.getElem_toArray, List.getElem_cons_zero, List.getElem_cons_succ]); go_simp <;> with_reducible rfl)
        try simp only [List.getElem_toArray, List.getElem_cons_zero, List.getElem_cons_succ, Act.put, List.setIfInBounds_toArray, List.set_cons_zero, List.set_cons_succ]
        refine wpAnyH_take (i := 10) (v := ?vv9) rfl (by kernel_rfl) (by kernel_rfl) (by kernel_rfl) (fun _ _ _ h => h) (Or.inl ⟨by rfl, ?hy9⟩) (by assumption) ?rest9
        case hy9 => (intro w hSw; (try dsimp only at hSw); (try simp only [List.getElem_toArray, List.getElem_cons_zero, List.getElem_cons_succ]); go_simp <;> with_reducible rfl)
        try simp only [List.getElem_toArray, List.getElem_cons_zero, List.getElem_cons_succ, Act.put, List.setIfInBounds_toArray, List.set_cons_zero, List.set_cons_succ]
        refine wpAnyH_take (i := 11) (v := ?vv10) rfl (by kernel_rfl) (by kernel_rfl) (by kernel_rfl) (fun _ _ _ h => h) (Or.inl ⟨by rfl, ?hy10⟩) (by assumption) ?rest10
        case hy10 => (intro w hSw; (try dsimp only at hSw); (try simp only [List.getElem_toArray, List.getElem_cons_zero, List.getElem_cons_succ]); go_simp <;> with_reducible rfl)
        try simp only [List.getElem_toArray, List.getElem_cons_zero, List.getElem_cons_succ, Act.put, List.setIfInBounds_toArray, List.set_cons_zero, List.set_cons_succ]
        refine wpAnyH_take (i := 12) (v := ?vv11) rfl (by kernel_rfl) (by kernel_rfl) (by kernel_rfl) (fun _ _ _ h => h) (Or.inl ⟨by rfl, ?hy11⟩) (by assumption) ?rest11
        case hy11 => (intro w hSw; (try dsimp only at hSw); (try simp only [List.getElem_toArray, List.getElem_cons_zero, List.getElem_cons_succ]); go_simp <;> with_reducible rfl)
        try simp only [List.getElem_toArray, List.getElem_cons_zero, List.getElem_cons_succ, Act.put, List.setIfInBounds_toArray, List.set_cons_zero, List.set_cons_succ]
        refine wpAnyH_take (i := 13) (v := undef) rfl (by kernel_rfl) (by kernel_rfl) (by kernel_rfl) (fun _ _ _ h => h) (Or.inr ⟨by rfl, rfl⟩) (by assumption) ?_
        try simp only [List.getElem_toArray, List.getElem_cons_zero, List.getElem_cons_succ, Act.put, List.setIfInBounds_toArray, List.set_cons_zero, List.set_cons_succ]
        refine wpAnyH_take (i := 14) (v := undef) rfl (by kernel_rfl) (by kernel_rfl) (by kernel_rfl) (fun _ _ _ h => h) (Or.inr ⟨by rfl, rfl⟩) (by assumption) ?_
        try simp only [List.getElem_toArray, List.getElem_cons_zero, List.getElem_cons_succ, Act.put, List.setIfInBounds_toArray, List.set_cons_zero, List.set_cons_succ]
        refine wpAnyH_take (i := 15) (v := undef) rfl (by kernel_rfl) (by kernel_rfl) (by kernel_rfl) (fun _ _ _ h => h) (Or.inr ⟨by rfl, rfl⟩) (by assumption) ?_
        try simp only [List.getElem_toArray, List.getElem_cons_zero, List.getElem_cons_succ, Act.put, List.setIfInBounds_toArray, List.set_cons_zero, List.set_cons_succ]
        refine wpAnyH_take (i := 16) (v := undef) rfl (by kernel_rfl) (by kernel_rfl) (by kernel_rfl) (fun _ _ _ h => h) (Or.inr ⟨by rfl, rfl⟩) (by assumption) ?_
        try simp only [List.getElem_toArray, List.getElem_cons_zero, List.getElem_cons_succ, Act.put, List.setIfInBounds_toArray, List.set_cons_zero, List.set_cons_succ]
        refine wpAnyH_take (i := 17) (v := undef) rfl (by kernel_rfl) (by kernel_rfl) (by kernel_rfl) (fun _ _ _ h => h) (Or.inr ⟨by rfl, rfl⟩) (by assumption) ?_
        try simp only [List.getElem_toArray, List.getElem_cons_zero, List.getElem_cons_succ, Act.put, List.setIfInBounds_toArray, List.set_cons_zero, List.set_cons_succ]
        refine wpAnyH_take (i := 18) (v := ?vv12) rfl (by kernel_rfl) (by kernel_rfl) (by kernel_rfl) (fun _ _ _ h => h) (Or.inl ⟨by rfl, ?hy12⟩) (by assumption) ?rest12
        case hy12 => (intro w hSw; (try dsimp only at hSw); (try simp only [List.getElem_toArray, List.getElem_cons_zero, List.getElem_cons_succ]); go_simp <;> with_reducible rfl)
        try simp only [List.getElem_toArray, List.getElem_cons_zero, List.getElem_cons_succ, Act.put, List.setIfInBounds_toArray, List.set_cons_zero, List.set_cons_succ]
        refine wpAnyH_take (i := 19) (v := ?vv13) rfl (by kernel_rfl) (by kernel_rfl) (by kernel_rfl) (fun _ _ _ h => h) (Or.inl ⟨by rfl, ?hy13⟩) (by assumption) ?rest13
        case hy13 => (intro w hSw; (try dsimp only at hSw); (try simp only [List.getElem_toArray, List.getElem_cons_zero, List.getElem_cons_succ]); go_simp <;> with_reducible rfl)
        try simp only [List.getElem_toArray, List.getElem_cons_zero, List.getElem_cons_succ, Act.put, List.setIfInBounds_toArray, List.set_cons_zero, List.set_cons_succ]
        refine wpAnyH_take (i := 20) (v := ?vv14) rfl (by kernel_rfl) (by kernel_rfl) (by kernel_rfl) (fun _ _ _ h => h) (Or.inl ⟨by rfl, ?hy14⟩) (by assumption) ?rest14
        case hy14 => (intro w hSw; (try dsimp only at hSw); (try simp only [List.getElem_toArray, List.getElem_cons_zero, List.getElem_cons_succ]); go_simp <;> with_reducible rfl)
        try simp only [List.getElem_toArray, List.getElem_cons_zero, List.getElem_cons_succ, Act.put, List.setIfInBounds_toArray, List.set_cons_zero, List.set_cons_succ]
        refine wpAnyH_done (by kernel_rfl) ?_ _
        clear hHeld
        have hB7 := hB6.trans (hb2.mono hB6.size)
        go_wp2
        go_ret
        exact ⟨rfl, hB7⟩
      · have ek : (k == 1) = false := beq_eq_false_iff_ne.2 hk1'
        obtain rfl : U = 0 := by omega
        clear hk1' hU1
        go_wp2_with fail
        generalize w5.alloc (.cells #[.int .i64 0, .int .i64 0, .int .i64 0] 26) = w6 at *
        obtain ⟨hc0, hc1, hc2⟩ := hW6.cells
        have hz0 := hN5.cell 0
        have hz1 := hN5.cell 1
        have hz2 := hN5.cell 2
        simp only [List.getElem?_cons_zero, List.getElem?_cons_succ] at hz0 hz1 hz2
        have hbx : w1.heap.size < w6.heap.size := hW6.2.1.lt
        have hbz : w5.heap.size < w6.heap.size := hN5.lt
        have HW6 := Lib.hid hW6
        clear hW6 hN5
        go_region_held3 (fun w' => w'.cell? ⟨w5.heap.size, 0, none⟩ = some (.int .i64 0) ∧ w'.cell? ⟨w5.heap.size, 1, none⟩ = some (.int .i64 0) ∧ w'.cell? ⟨w5.heap.size, 2, none⟩ = some (.int .i64 0) ∧ w'.cell? ⟨w1.heap.size, 0, none⟩ = some (.int .i64 xa) ∧ w'.cell? ⟨w1.heap.size, 1, none⟩ = some (.int .i64 xj) ∧ w'.cell? ⟨w1.heap.size, 2, none⟩ = some (.int .i64 xs))
          (go_keep)
          (first
          | (have HQ := HM; clear HM; go_at_call 32; refine (implGroupMany _ _ _ _ V L zeroR  _ (Arg.below (HW6.out.yarg) ((Below.refl w6.heap.size w6).drew))).mono ?_; rw [← HQ.out]; clear HQ; rintro e v1 ⟨rfl, hq'⟩; have HV1 : Hid (Below w6.heap.size w6 v1) := ((Below.refl w6.heap.size w6).drew).trans hq'; clear hq'; have hcl0 : ∀ i o, i < w6.heap.size → v1.cell? ⟨i, o, none⟩ = w6.cell? ⟨i, o, none⟩ := (fun i o hi => HV1.out.cell (p := ⟨i, o, none⟩) hi))
          | (have HQ := HN; clear HN; go_at_call 32; refine (implGroupMany _ _ _ _ l L ⟨xa, xj, xs⟩  v1 (Arg.below (HW6.out.1) HV1.out)).mono ?_; rw [← HQ.out]; clear HQ; rintro e v2 ⟨rfl, hq'⟩; have HV2 : Hid (Below w6.heap.size w6 v2) := HV1.out.trans (hq'.mono HV1.out.size); clear hq'; have hcl1 : ∀ i o, i < w6.heap.size → v2.cell? ⟨i, o, none⟩ = w6.cell? ⟨i, o, none⟩ := (fun i o hi => HV2.out.cell (p := ⟨i, o, none⟩) hi))
          | (have HQ := HU; clear HU; go_at_call 33; refine (implGroupUniques _ _ _ _ V L zeroR  v2 (Arg.below (HW6.out.yarg) HV2.out)).mono ?_; rw [← HQ.out]; clear HQ; rintro e v3 ⟨rfl, hq'⟩; have HV3 : Hid (Below w6.heap.size w6 v3) := HV2.out.trans (hq'.mono HV2.out.size); clear hq'; have hcl2 : ∀ i o, i < w6.heap.size → v3.cell? ⟨i, o, none⟩ = w6.cell? ⟨i, o, none⟩ := (fun i o hi => HV3.out.cell (p := ⟨i, o, none⟩) hi))
            | fail)
        have hB7 := hB6.trans (HV3.out.mono hB6.size)
        clear hcl0 hcl1 hcl2
        go_wp2
        go_ret
        exact ⟨rfl, hB7⟩
  · have hbig2 : 1048576 < bs.length := by omega
    go_enter Try.func11, Try.ntmps11
    go_wp2
    go_ret
    exact ⟨rfl, Below.refl _ _⟩
end Go.Proofs.Ytaojjlhlahoocaa.WFnKeepGroups
