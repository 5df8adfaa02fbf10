/- spec.l92Table: a drawn table, of the draw's own. -/
import Derived.Test.YtfhidimmaeiiaaaTab1
namespace Go.Proofs.Ytfhidimmaeiiaaa
open Go.RowKit
set_option linter.unusedSimpArgs false
attribute [local go_sem ↓] Go.wp_at_zero Go.wp_at_succ

set_option maxRecDepth 100000 in
set_option maxHeartbeats 8000000 in
theorem specDTable (g N most : Nat) (w : World) (h : Rdr w g N) (hN : N ≤ 10000) (hmost : most ≤ 1000) : Calls Try.prog 18 #[.pointer (some ⟨g, 0, none⟩), .int .i64 most] w (DTb g N w) := by
  have HGB := Lib.hid h.lt
  obtain ⟨k0, hk, hx0, hx1, hx2⟩ := info_parts infoIn
  go_enter Try.func18, Try.ntmps18
  go_wp2_with fail
  refine (specPick g N 3 w h (by omega) (by omega)).mono ?_
  rintro e w1 ⟨z1, rfl, ⟨a0, a1, -⟩, hr1, hgr1, -⟩
  have a1 := a1 (by omega)
  go_wp2_with fail
  refine (specPick g (N + 1) 3 w1 hr1 (by omega) (by omega)).mono ?_
  rintro e w2 ⟨z2, rfl, ⟨b0, b1, -⟩, hr2, hgr2, -⟩
  have b1 := b1 (by omega)
  have hg2 := hgr1.trans hgr2
  clear hr1 hgr1 hgr2 h
  go_wp2_with fail
  refine (specPick g (N + 1 + 1) 3 w2 hr2 (by omega) (by omega)).mono ?_
  rintro e w3 ⟨z3, rfl, -, hr3, hgr3, -⟩
  have hg3 := hg2.trans hgr3
  clear hr2 hg2 hgr3
  have hH0 : (1 : Int) ≤ 1 + z1 := by omega
  have hH1 : (1 : Int) + z1 ≤ 4 := by omega
  have hM0 : (1 : Int) ≤ 1 + z2 := by omega
  have hM1 : (1 : Int) + z2 ≤ 3 := by omega
  clear a0 a1 b0 b1
  by_cases hz3 : z3 = 0
  case' pos =>
    subst hz3
    clear hH0 hH1
    go_wp2_with fail
    refine (specPick g (N + 1 + 1 + 1) 3 w3 hr3 (by omega) (by omega)).mono ?_
    rintro e w4 ⟨z4, rfl, ⟨c0, c1, -⟩, hr4, hgr4, -⟩
    have c1 := c1 (by omega)
    have HR := Lib.hid hr4
    have HG := Lib.hid (hg3.trans hgr4)
    clear hr3 hg3 hgr4 hr4
    go_wp2_with fail
    have hH0 : (1 : Int) ≤ 2 + z4 := by omega
    have hH1 : (2 : Int) + z4 ≤ 4 := by omega
    generalize 2 + z4 = H at *
  case' neg =>
    have hz3b : (z3 == 0) = false := by simp [hz3]
    have HR := Lib.hid (hr3.mono (show N + 1 + 1 + 1 ≤ N + 1 + 1 + 1 + 1 by omega))
    have HG := Lib.hid hg3
    clear hr3 hg3
    go_wp2_with fail
    generalize 1 + z1 = H at *
    clear hz3 hz3b
    obtain ⟨w4, hw4⟩ : ∃ w4, w4 = w3 := ⟨_, rfl⟩
    subst hw4
  · generalize 1 + z2 = M at *
    obtain ⟨h, rfl⟩ : ∃ h : Nat, H = h := ⟨H.toNat, by omega⟩
    obtain ⟨m, rfl⟩ : ∃ m : Nat, M = m := ⟨M.toNat, by omega⟩
    have hh4 : h ≤ 4 := by omega
    have hm3 : m ≤ 3 := by omega
    have hh1 : 1 ≤ h := by omega
    have hm1 : 1 ≤ m := by omega
    clear hH0 hH1 hM0 hM1
    refine (specBlank h m _ (by omega) (by omega)).mono ?_
    rintro e w5 ⟨v, rfl, hV, hb5⟩
    obtain ⟨gb, c, rfl, hhc, hcm, hT⟩ := TG.of (w := w) (g := g) (N := N + 4) ⟨hV.weaken HG.out.size, HR.out.below hb5, HG.out.trans (belGrown hb5 _)⟩ hh1
    have HT5 := Lib.hid hT
    clear hV hb5 hT HR HG
    go_wp2
    go_loopw [8] (fun x wr => ∃ i, i ≤ h ∧ x = .int .i64 (i : Nat) ∧ Hid (TG w g (N + 4 + 3 * i) gb c h m wr)) (fun x _ => h - (intOf x).toNat)
    case atStart => exact ⟨0, by omega, rfl, HT5⟩
    case round =>
      clear HT5
      obtain ⟨i, hih, rfl, HT⟩ := hrel
      by_cases hlt : i < h
      · have HI := Lib.hid hih
        clear hih
        go_wp2
        go_loopw [9] (fun y wr => ∃ j, j ≤ m ∧ y = .int .i64 (j : Nat) ∧ Hid (TG w g (N + 4 + 3 * i + j) gb c h m wr)) (fun y _ => m - (intOf y).toNat)
        case atStart => exact ⟨0, by omega, rfl, HT⟩
        case round =>
          clear HT
          obtain ⟨j, hjm, rfl, HT⟩ := hrel
          by_cases hlt2 : j < m
          · obtain ⟨b, c', hrow, -, hmc, hcm', hbb, hne, hcs⟩ := HT.out.row hlt hm1
            have HNE := Lib.hid hne
            have HBB := Lib.hid hbb
            clear hcs hne hbb
            have HTD := Lib.hid HT.out.drew
            clear HT
            have hwr : IntKind.i64.wrap ((most : Int) + 1) = (most : Int) + 1 := IntWalk.i64_in _ (by omega)
            go_wp2_with fail
            refine wp_region_held_drew (S := fun w' => w'.cell? ⟨gb, i, none⟩ = some (.slice (some ⟨b, 0, none⟩) m c')) (by kernel_rfl) hrow (fun hHeld => ?_)
            refine wpAnyH_take (i := 0) (v := ?vv1) rfl (by kernel_rfl) (by kernel_rfl) (by kernel_rfl) (fun _ _ _ h => h) (Or.inl ⟨by rfl, ?hy1⟩) (by assumption) ?rest1
            case hy1 => (intro w hSw; (try dsimp only at hSw); (try simp only [List.getElem_toArray, List.getElem_cons_zero, List.getElem_cons_succ]); go_simp <;> with_reducible rfl)
            try simp only [List.getElem_toArray, List.getElem_cons_zero, List.getElem_cons_succ, Act.put, List.setIfInBounds_toArray, List.set_cons_zero, List.set_cons_succ]
            refine wpAnyH_take (i := 1) (v := ?vv2) rfl (by kernel_rfl) (by kernel_rfl) (by kernel_rfl) (fun _ _ _ h => h) (Or.inl ⟨by rfl, ?hy2⟩) (by assumption) ?rest2
            case hy2 => (intro w hSw; (try dsimp only at hSw); (try simp only [List.getElem_toArray, List.getElem_cons_zero, List.getElem_cons_succ]); go_simp <;> with_reducible rfl)
            try simp only [List.getElem_toArray, List.getElem_cons_zero, List.getElem_cons_succ, Act.put, List.setIfInBounds_toArray, List.set_cons_zero, List.set_cons_succ]
            refine wpAnyH_take (i := 2) (v := ?vv3) rfl (by kernel_rfl) (by kernel_rfl) (by kernel_rfl) (fun _ _ _ h => h) (Or.inl ⟨by rfl, ?hy3⟩) (by assumption) ?rest3
            case hy3 => (intro w hSw; (try dsimp only at hSw); (try simp only [List.getElem_toArray, List.getElem_cons_zero, List.getElem_cons_succ]); go_simp <;> with_reducible rfl)
            try simp only [List.getElem_toArray, List.getElem_cons_zero, List.getElem_cons_succ, Act.put, List.setIfInBounds_toArray, List.set_cons_zero, List.set_cons_succ]
            refine wpAnyH_take (i := 3) (v := ?vv4) rfl (by kernel_rfl) (by kernel_rfl) (by kernel_rfl) (fun _ _ _ h => h) (Or.inl ⟨by rfl, ?hy4⟩) (by assumption) ?rest4
            case hy4 => (intro w hSw; (try dsimp only at hSw); (try simp only [List.getElem_toArray, List.getElem_cons_zero, List.getElem_cons_succ]); go_simp <;> with_reducible rfl)
            try simp only [List.getElem_toArray, List.getElem_cons_zero, List.getElem_cons_succ, Act.put, List.setIfInBounds_toArray, List.set_cons_zero, List.set_cons_succ]
            refine wpAnyH_take (i := 4) (v := ?vv5) rfl (by kernel_rfl) (by kernel_rfl) (by kernel_rfl) (fun _ _ _ h => h) (Or.inl ⟨by rfl, ?hy5⟩) (by assumption) ?rest5
            case hy5 => (intro w hSw; (try dsimp only at hSw); (try simp only [List.getElem_toArray, List.getElem_cons_zero, List.getElem_cons_succ]); go_simp <;> with_reducible rfl)
            try simp only [List.getElem_toArray, List.getElem_cons_zero, List.getElem_cons_succ, Act.put, List.setIfInBounds_toArray, List.set_cons_zero, List.set_cons_succ]
            refine wpAnyH_take (i := 5) (v := ?vv6) rfl (by kernel_rfl) (by kernel_rfl) (by kernel_rfl) (fun _ _ _ h => h) (Or.inl ⟨by rfl, ?hy6⟩) (by assumption) ?rest6
            case hy6 => (intro w hSw; (try dsimp only at hSw); (try simp only [List.getElem_toArray, List.getElem_cons_zero, List.getElem_cons_succ]); go_simp <;> with_reducible rfl)
            try simp only [List.getElem_toArray, List.getElem_cons_zero, List.getElem_cons_succ, Act.put, List.setIfInBounds_toArray, List.set_cons_zero, List.set_cons_succ]
            refine wpAnyH_take (i := 6) (v := ?vv7) rfl (by kernel_rfl) (by kernel_rfl) (by kernel_rfl) (fun _ _ _ h => h) (Or.inl ⟨by rfl, ?hy7⟩) (by assumption) ?rest7
            case hy7 => (intro w hSw; (try dsimp only at hSw); (try simp only [List.getElem_toArray, List.getElem_cons_zero, List.getElem_cons_succ]); go_simp <;> with_reducible rfl)
            try simp only [List.getElem_toArray, List.getElem_cons_zero, List.getElem_cons_succ, Act.put, List.setIfInBounds_toArray, List.set_cons_zero, List.set_cons_succ]
            refine wpAnyH_take (i := 7) (v := ?vv8) rfl (by kernel_rfl) (by kernel_rfl) (by kernel_rfl) (fun _ _ _ h => h) (Or.inl ⟨by rfl, ?hy8⟩) (by assumption) ?rest8
            case hy8 => (intro w hSw; (try dsimp only at hSw); (try simp only [List.getElem_toArray, List.getElem_cons_zero, List.getElem_cons_succ]); go_simp <;> with_reducible rfl)
            try simp only [List.getElem_toArray, List.getElem_cons_zero, List.getElem_cons_succ, Act.put, List.setIfInBounds_toArray, List.set_cons_zero, List.set_cons_succ]
            refine wpAnyH_ready (rs := [8]) (by kernel_rfl) (by simp) ?_
            refine AllReadyH.cons rfl (fun K hK => ?_) AllReadyH.nil
            go_simp
            refine (specPick g (N + 4 + 3 * i + j) ((most : Int) + 1) _ HTD.out.rdr (by omega) (by omega)).mono ?_
            rintro e w6 ⟨z6, rfl, -, hr6, hgr6, -⟩
            have HT6 := Lib.hid (HTD.out.pick HGB.out hgr6 hr6)
            have hrow6 := hgr6.cell hrow (by have := HTD.out.lt; have := HGB.out; simp; omega)
            clear hr6 hgr6 HTD
            dsimp only
            refine hK.out _ _ (hrow6) (fun hHeld => ?_)
            clear hK K
            try simp only [List.getElem_toArray, List.getElem_cons_zero, List.getElem_cons_succ, Act.put, List.setIfInBounds_toArray, List.set_cons_zero, List.set_cons_succ]
            obtain ⟨⟨x9, hx9⟩, hf9⟩ := HT6.out.at_ hlt hlt2 hrow6
            clear hrow
            refine wpAnyH_take (i := 9) (v := ?vv9) rfl (by kernel_rfl) (by kernel_rfl) (by kernel_rfl) (fun _ _ _ h => h) (Or.inl ⟨by rfl, ?hy9⟩) (by assumption) ?rest9
            case hy9 => (intro w hSw; (try dsimp only at hSw); (try simp only [List.getElem_toArray, List.getElem_cons_zero, List.getElem_cons_succ]); go_simp <;> with_reducible rfl)
            try simp only [List.getElem_toArray, List.getElem_cons_zero, List.getElem_cons_succ, Act.put, List.setIfInBounds_toArray, List.set_cons_zero, List.set_cons_succ]
            refine wpAnyH_ready (rs := [10]) (by kernel_rfl) (by simp) ?_
            refine AllReadyH.cons rfl (fun K hK => ?_) AllReadyH.nil
            go_simp
            refine hK.out _ _ ((by rw [World.cell?_setCell_far _ _ _ _ (by simpa using Ne.symm HNE.out)]; exact hrow6)) (fun hHeld => ?_)
            clear hK K
            try simp only [List.getElem_toArray, List.getElem_cons_zero, List.getElem_cons_succ, Act.put, List.setIfInBounds_toArray, List.set_cons_zero, List.set_cons_succ]
            refine wpAnyH_done (by kernel_rfl) ?_ _
            clear hHeld
            have HT7 := Lib.hid (HT6.out.store (x := z6) hlt hrow6 hlt2 HBB.out HGB.out)
            clear hrow6 hx9 hf9 HT6
            generalize w6.setCell ⟨b, j, none⟩ (.int .i64 z6) = w7 at *
            go_wp2
            go_roundw
            case rel => exact ⟨j + 1, by omega, by go_num, HT7⟩
            case measure => simp [intOf]; omega
          · have hjm2 : j = m := by omega
            clear hlt2 hjm
            subst hjm2
            go_wp2
            go_roundw
            case rel => exact ⟨i + 1, by omega, by go_num, Lib.hid (HT.out.mono (by omega))⟩
            case measure => simp [intOf]; omega
      · have hih2 : i = h := by omega
        clear hlt hih
        subst hih2
        go_wp2_with fail
        refine (specPick g (N + 4 + 3 * i) 40 _ HT.out.rdr (by omega) (by omega)).mono ?_
        rintro e w6 ⟨z, rfl, -, hr6, hgr6, -⟩
        have HT6 := Lib.hid ((HT.out.pick HGB.out hgr6 hr6).mono (show N + 4 + 3 * i + 1 ≤ N + 19 by omega))
        clear hr6 hgr6 HT
        obtain ⟨b, c', hrow, hfz, hmc, hcm', hbb, hne, hcs⟩ := HT6.out.row (i := 0) (by omega) hm1
        have HNE := Lib.hid hne
        have HBB := Lib.hid hbb
        clear hne hbb
        have hp1 : 0 < i := by omega
        have hp2 : 0 < m := by omega
        have hgl := HT6.out.lt
        have hws : w.heap.size ≤ w6.heap.size := HT6.out.2.2.size
        have hgw := HGB.out
        by_cases hz0 : z = 0
        · subst hz0
          have HTD := Lib.hid HT6.out.drew
          have HGN := Lib.hid (show w6.heap.size ≠ g by omega)
          have HGL := Lib.hid (show gb < w6.heap.size by omega)
          have HGG := Lib.hid (show gb ≠ g by omega)
          clear hcs hfz HT6 hws hgw hgl
          go_wp2_with fail
          refine wp_region_held_drew (S := fun w' => w'.cell? ⟨gb, 0, none⟩ = some (.slice (some ⟨b, 0, none⟩) m c')) (by kernel_rfl) hrow (fun hHeld => ?_)
          refine wpAnyH_take (i := 0) (v := ?vv10) rfl (by kernel_rfl) (by kernel_rfl) (by kernel_rfl) (fun _ _ _ h => h) (Or.inl ⟨by rfl, ?hy10⟩) (by assumption) ?rest10
          case hy10 => (intro w hSw; (try dsimp only at hSw); (try simp only [List.getElem_toArray, List.getElem_cons_zero, List.getElem_cons_succ]); go_simp <;> with_reducible rfl)
          try simp only [List.getElem_toArray, List.getElem_cons_zero, List.getElem_cons_succ, Act.put, List.setIfInBounds_toArray, List.set_cons_zero, List.set_cons_succ]
          refine wpAnyH_take (i := 1) (v := ?vv11) rfl (by kernel_rfl) (by kernel_rfl) (by kernel_rfl) (fun _ _ _ h => h) (Or.inl ⟨by rfl, ?hy11⟩) (by assumption) ?rest11
          case hy11 => (intro w hSw; (try dsimp only at hSw); (try simp only [List.getElem_toArray, List.getElem_cons_zero, List.getElem_cons_succ]); go_simp <;> with_reducible rfl)
          try simp only [List.getElem_toArray, List.getElem_cons_zero, List.getElem_cons_succ, Act.put, List.setIfInBounds_toArray, List.set_cons_zero, List.set_cons_succ]
          refine wpAnyH_take (i := 2) (v := ?vv12) rfl (by kernel_rfl) (by kernel_rfl) (by kernel_rfl) (fun _ _ _ h => h) (Or.inl ⟨by rfl, ?hy12⟩) (by assumption) ?rest12
          case hy12 => (intro w hSw; (try dsimp only at hSw); (try simp only [List.getElem_toArray, List.getElem_cons_zero, List.getElem_cons_succ]); go_simp <;> with_reducible rfl)
          try simp only [List.getElem_toArray, List.getElem_cons_zero, List.getElem_cons_succ, Act.put, List.setIfInBounds_toArray, List.set_cons_zero, List.set_cons_succ]
          refine wpAnyH_take (i := 4) (v := ?vv13) rfl (by kernel_rfl) (by kernel_rfl) (by kernel_rfl) (fun _ _ _ h => h) (Or.inl ⟨by rfl, ?hy13⟩) (by assumption) ?rest13
          case hy13 => (intro w hSw; (try dsimp only at hSw); (try simp only [List.getElem_toArray, List.getElem_cons_zero, List.getElem_cons_succ]); go_simp <;> with_reducible rfl)
          try simp only [List.getElem_toArray, List.getElem_cons_zero, List.getElem_cons_succ, Act.put, List.setIfInBounds_toArray, List.set_cons_zero, List.set_cons_succ]
          refine wpAnyH_ready (rs := [3,5]) (by kernel_rfl) (by simp) ?_
          refine AllReadyH.cons rfl (fun K hK => ?_) ?_
          · go_simp
            have hrowA : (w6.drew.alloc (.cells #[.int .i64 (-1), .int .i64 100, .int .i64 99] 3)).cell? ⟨gb, 0, none⟩ = some (.slice (some ⟨b, 0, none⟩) m c') := (World.cell?_of_block (Below.heap_alloc _ _ gb HGL.out)).trans hrow
            refine hK.out _ _ (hrowA) (fun hHeld => ?_)
            clear hK K
            try simp only [List.getElem_toArray, List.getElem_cons_zero, List.getElem_cons_succ, Act.put, List.setIfInBounds_toArray, List.set_cons_zero, List.set_cons_succ]
            have hn1 : Blk (w6.drew.alloc (.cells #[.int .i64 (-1), .int .i64 100, .int .i64 99] 3)) w6.heap.size 3 [.int .i64 (-1), .int .i64 100, .int .i64 99] := Blk.new w6.drew _ _
            refine wpAnyH_ready (rs := [5]) (by kernel_rfl) (by simp) ?_
            refine AllReadyH.cons rfl (fun K hK => ?_) AllReadyH.nil
            go_simp
            refine (specPick g (N + 19) 3 _ (HTD.out.alloc _).rdr (by omega) (by omega)).mono ?_
            rintro e w8 ⟨y, rfl, ⟨y0, y1, -⟩, hr8, hgr8, -⟩
            have y1 := y1 (by omega)
            have HT8 := Lib.hid ((HTD.out.alloc _).pick HGB.out hgr8 hr8)
            have hrow8 := hgr8.cell hrowA (by simpa using HGG.out)
            have hn8 := hn1.grownN hgr8 HGN.out
            have HBL := Lib.hid (show b < w6.heap.size from HTD.out.blt hh1 hm1 hrow)
            clear hr8 hgr8 HTD hrowA hn1 hrow
            dsimp only
            refine hK.out _ _ (hrow8) (fun hHeld => ?_)
            clear hK K
            try simp only [List.getElem_toArray, List.getElem_cons_zero, List.getElem_cons_succ, Act.put, List.setIfInBounds_toArray, List.set_cons_zero, List.set_cons_succ]
            obtain ⟨kk, hck⟩ := three_of hn8 y0 y1
            clear hn8
            obtain ⟨⟨x9, hx9⟩, hf9⟩ := HT8.out.at_ hh1 hm1 hrow8
            refine heldAnd (T := fun w' => w'.cell? ⟨w6.heap.size, y.toNat, none⟩ = some (.int .i64 kk)) ?_
            have hHeld := And.intro hck hHeld
            refine wpAnyH_take (i := 6) (v := ?vv14) rfl (by kernel_rfl) (by kernel_rfl) (by kernel_rfl) (fun _ _ _ h => h) (Or.inl ⟨by rfl, ?hy14⟩) (by assumption) ?rest14
            case hy14 => (intro w hSw; (try dsimp only at hSw); (try simp only [List.getElem_toArray, List.getElem_cons_zero, List.getElem_cons_succ]); go_simp <;> with_reducible rfl)
            try simp only [List.getElem_toArray, List.getElem_cons_zero, List.getElem_cons_succ, Act.put, List.setIfInBounds_toArray, List.set_cons_zero, List.set_cons_succ]
            refine wpAnyH_take (i := 7) (v := ?vv15) rfl (by kernel_rfl) (by kernel_rfl) (by kernel_rfl) (fun _ _ _ h => h) (Or.inl ⟨by rfl, ?hy15⟩) (by assumption) ?rest15
            case hy15 => (intro w hSw; (try dsimp only at hSw); (try simp only [List.getElem_toArray, List.getElem_cons_zero, List.getElem_cons_succ]); go_simp <;> with_reducible rfl)
            try simp only [List.getElem_toArray, List.getElem_cons_zero, List.getElem_cons_succ, Act.put, List.setIfInBounds_toArray, List.set_cons_zero, List.set_cons_succ]
            refine wpAnyH_take (i := 8) (v := ?vv16) rfl (by kernel_rfl) (by kernel_rfl) (by kernel_rfl) (fun _ _ _ h => h) (Or.inl ⟨by rfl, ?hy16⟩) (by assumption) ?rest16
            case hy16 => (intro w hSw; (try dsimp only at hSw); (try simp only [List.getElem_toArray, List.getElem_cons_zero, List.getElem_cons_succ]); go_simp <;> with_reducible rfl)
            try simp only [List.getElem_toArray, List.getElem_cons_zero, List.getElem_cons_succ, Act.put, List.setIfInBounds_toArray, List.set_cons_zero, List.set_cons_succ]
            refine wpAnyH_ready (rs := [9]) (by kernel_rfl) (by simp) ?_
            refine AllReadyH.cons rfl (fun K hK => ?_) AllReadyH.nil
            go_simp
            refine hK.out _ _ (⟨by rw [World.cell?_setCell_far _ _ _ _ (by have := HBL.out; simp; omega)]; exact hck, by rw [World.cell?_setCell_far _ _ _ _ (by simpa using Ne.symm HNE.out)]; exact hrow8⟩) (fun hHeld => ?_)
            clear hK K
            try simp only [List.getElem_toArray, List.getElem_cons_zero, List.getElem_cons_succ, Act.put, List.setIfInBounds_toArray, List.set_cons_zero, List.set_cons_succ]
            refine wpAnyH_done (by kernel_rfl) ?_ _
            clear hHeld
            have HT9 := Lib.hid (HT8.out.store (x := kk) hh1 hrow8 hm1 HBB.out HGB.out)
            clear hrow8 hx9 hf9 HT8 hck
            generalize w8.setCell ⟨b, 0, none⟩ (.int .i64 kk) = w9 at *
            go_wp2
            go_ret
            exact DTb.fin HT9.out hh4 hm3
          refine AllReadyH.cons rfl (fun K hK => ?_) AllReadyH.nil
          · go_simp
            refine (specPick g (N + 19) 3 _ HTD.out.rdr (by omega) (by omega)).mono ?_
            rintro e w8 ⟨y, rfl, ⟨y0, y1, -⟩, hr8, hgr8, -⟩
            have y1 := y1 (by omega)
            have HT7 := Lib.hid (HTD.out.pick HGB.out hgr8 hr8)
            have hrow7 := hgr8.cell hrow (by simpa using HGG.out)
            have hbl := World.block_lt_of_cell? _ _ hrow7
            clear hr8 hgr8 HTD hrow
            dsimp only
            refine hK.out _ _ (hrow7) (fun hHeld => ?_)
            clear hK K
            try simp only [List.getElem_toArray, List.getElem_cons_zero, List.getElem_cons_succ, Act.put, List.setIfInBounds_toArray, List.set_cons_zero, List.set_cons_succ]
            refine wpAnyH_ready (rs := [3]) (by kernel_rfl) (by simp) ?_
            refine AllReadyH.cons rfl (fun K hK => ?_) AllReadyH.nil
            go_simp
            have hrow8 : (w8.alloc (.cells #[.int .i64 (-1), .int .i64 100, .int .i64 99] 3)).cell? ⟨gb, 0, none⟩ = some (.slice (some ⟨b, 0, none⟩) m c') := (World.cell?_of_block (Below.heap_alloc _ _ gb hbl)).trans hrow7
            refine hK.out _ _ (hrow8) (fun hHeld => ?_)
            clear hK K
            try simp only [List.getElem_toArray, List.getElem_cons_zero, List.getElem_cons_succ, Act.put, List.setIfInBounds_toArray, List.set_cons_zero, List.set_cons_succ]
            have HT8 := Lib.hid (HT7.out.alloc (.cells #[.int .i64 (-1), .int .i64 100, .int .i64 99] 3))
            have hn8 : Blk (w8.alloc (.cells #[.int .i64 (-1), .int .i64 100, .int .i64 99] 3)) w8.heap.size 3 [.int .i64 (-1), .int .i64 100, .int .i64 99] := Blk.new w8 _ _
            have HBL := Lib.hid (HT7.out.blt hh1 hm1 hrow7)
            obtain ⟨⟨x9, hx9⟩, hf9⟩ := HT8.out.at_ hh1 hm1 hrow8
            obtain ⟨kk, hck⟩ := three_of hn8 y0 y1
            clear hbl hrow7 hn8 HT7
            generalize w8.alloc (.cells #[.int .i64 (-1), .int .i64 100, .int .i64 99] 3) = w9 at *
            refine heldAnd (T := fun w' => w'.cell? ⟨w8.heap.size, y.toNat, none⟩ = some (.int .i64 kk)) ?_
            have hHeld := And.intro hck hHeld
            refine wpAnyH_take (i := 6) (v := ?vv17) rfl (by kernel_rfl) (by kernel_rfl) (by kernel_rfl) (fun _ _ _ h => h) (Or.inl ⟨by rfl, ?hy17⟩) (by assumption) ?rest17
            case hy17 => (intro w hSw; (try dsimp only at hSw); (try simp only [List.getElem_toArray, List.getElem_cons_zero, List.getElem_cons_succ]); go_simp <;> with_reducible rfl)
            try simp only [List.getElem_toArray, List.getElem_cons_zero, List.getElem_cons_succ, Act.put, List.setIfInBounds_toArray, List.set_cons_zero, List.set_cons_succ]
            refine wpAnyH_take (i := 7) (v := ?vv18) rfl (by kernel_rfl) (by kernel_rfl) (by kernel_rfl) (fun _ _ _ h => h) (Or.inl ⟨by rfl, ?hy18⟩) (by assumption) ?rest18
            case hy18 => (intro w hSw; (try dsimp only at hSw); (try simp only [List.getElem_toArray, List.getElem_cons_zero, List.getElem_cons_succ]); go_simp <;> with_reducible rfl)
            try simp only [List.getElem_toArray, List.getElem_cons_zero, List.getElem_cons_succ, Act.put, List.setIfInBounds_toArray, List.set_cons_zero, List.set_cons_succ]
            refine wpAnyH_take (i := 8) (v := ?vv19) rfl (by kernel_rfl) (by kernel_rfl) (by kernel_rfl) (fun _ _ _ h => h) (Or.inl ⟨by rfl, ?hy19⟩) (by assumption) ?rest19
            case hy19 => (intro w hSw; (try dsimp only at hSw); (try simp only [List.getElem_toArray, List.getElem_cons_zero, List.getElem_cons_succ]); go_simp <;> with_reducible rfl)
            try simp only [List.getElem_toArray, List.getElem_cons_zero, List.getElem_cons_succ, Act.put, List.setIfInBounds_toArray, List.set_cons_zero, List.set_cons_succ]
            refine wpAnyH_ready (rs := [9]) (by kernel_rfl) (by simp) ?_
            refine AllReadyH.cons rfl (fun K hK => ?_) AllReadyH.nil
            go_simp
            refine hK.out _ _ (⟨by rw [World.cell?_setCell_far _ _ _ _ (by have := HBL.out; simp; omega)]; exact hck, by rw [World.cell?_setCell_far _ _ _ _ (by simpa using Ne.symm HNE.out)]; exact hrow8⟩) (fun hHeld => ?_)
            clear hK K
            try simp only [List.getElem_toArray, List.getElem_cons_zero, List.getElem_cons_succ, Act.put, List.setIfInBounds_toArray, List.set_cons_zero, List.set_cons_succ]
            refine wpAnyH_done (by kernel_rfl) ?_ _
            clear hHeld
            have HT9 := Lib.hid (HT8.out.store (x := kk) hh1 hrow8 hm1 HBB.out HGB.out)
            clear hrow8 hx9 hf9 HT8 hck
            generalize w9.setCell ⟨b, 0, none⟩ (.int .i64 kk) = w10 at *
            go_wp2
            go_ret
            exact DTb.fin HT9.out hh4 hm3
        have hz0b : (z == 0) = false := by simp [hz0]
        by_cases hz1 : z = 1
        · subst hz1
          obtain ⟨s0, hown0, hfirst⟩ := HT6.out.first hh1 hrow HGB.out
          have HFIRST := Lib.hid hfirst
          have HSW := Lib.hid hws
          have HGL := Lib.hid hgl
          clear hfirst hcs hws hgl hgw
          go_wp2_with (at_builtin; go_must (refine wpList_append_own_at _ rfl _ _ 31 rfl w.heap.size 3 k0 _ 1 8 Try.underlying31 hk hx0 hx1 hx2 rfl (by decide) _ _ _ rfl (World.ownsRow.alloc hown0 _) ⟨w6.heap.size, 0, none⟩ 1 1 [_] rfl rfl (cellN _ _ _ _ rfl) (by simp [Value.oneCell']) (by unfold maxLen; omega) (by omega) (by have := HSW.out; simp; omega) ?_))
          intro v' w7 hown' hgrow _ hloc
          have hblk : w7.heap[gb]? = w6.heap[gb]? := (hgrow.block gb (by have := HGL.out; simp; omega) (fun e => HNE.out (by simpa [Value.ownBlock] using e))).trans (Below.heap_alloc w6 _ gb HGL.out.2)
          have hc7 := (World.cell?_of_block (a := ⟨gb, 0, none⟩) hblk).trans hrow
          have hf7 := (World.frozen?_of_block (a := ⟨gb, 0, none⟩) hblk).trans hfz
          have HT7 := Lib.hid (HFIRST.out w7 v' _ (s0 ++ [1]) (by rw [List.map_append]; exact hown') hgrow (by simpa [Value.ownBlock] using hloc))
          have hown2 : w7.ownsRow w.heap.size 3 1 v' (m + 1) ((s0 ++ [1]).map (Value.int .i64)) := by rw [List.map_append]; exact hown'
          obtain ⟨A7, c7, rfl, -, -, -⟩ := own_rds hown2 (by have := hown2.1; simp at this; simp; omega)
          clear hblk hown2 hown' hgrow hloc HFIRST HT6 hown0 hrow hfz
          go_wp2
          go_ret
          exact ⟨_, _, rfl, ⟨by simp; omega, fun n hn => by rcases List.mem_or_eq_of_mem_set hn with h1 | h1; (· rw [List.eq_of_mem_replicate h1]; omega); (· omega)⟩, HT7.out.mono (by omega)⟩
        have hz1b : (z == 1) = false := by simp [hz1]
        clear hrow hfz hmc hcm' HNE HBB hcs hgl hws hgw
        by_cases hz2 : z = 2
        · subst hz2
          go_wp2
          go_ret
          exact DTb.emp (HT6.out.mono (show N + 19 ≤ N + 20 by omega))
        have hz2b : (z == 2) = false := by simp [hz2]
        clear hz0 hz1 hz2
        go_wp2
        go_ret
        exact DTb.fin (HT6.out.mono (show N + 19 ≤ N + 20 by omega)) hh4 hm3
  · generalize 1 + z2 = M at *
    obtain ⟨h, rfl⟩ : ∃ h : Nat, H = h := ⟨H.toNat, by omega⟩
    obtain ⟨m, rfl⟩ : ∃ m : Nat, M = m := ⟨M.toNat, by omega⟩
    have hh4 : h ≤ 4 := by omega
    have hm3 : m ≤ 3 := by omega
    have hh1 : 1 ≤ h := by omega
    have hm1 : 1 ≤ m := by omega
    clear hH0 hH1 hM0 hM1
    refine (specBlank h m _ (by omega) (by omega)).mono ?_
    rintro e w5 ⟨v, rfl, hV, hb5⟩
    obtain ⟨gb, c, rfl, hhc, hcm, hT⟩ := TG.of (w := w) (g := g) (N := N + 4) ⟨hV.weaken HG.out.size, HR.out.below hb5, HG.out.trans (belGrown hb5 _)⟩ hh1
    have HT5 := Lib.hid hT
    clear hV hb5 hT HR HG
    go_wp2
    go_loopw [8] (fun x wr => ∃ i, i ≤ h ∧ x = .int .i64 (i : Nat) ∧ Hid (TG w g (N + 4 + 3 * i) gb c h m wr)) (fun x _ => h - (intOf x).toNat)
    case atStart => exact ⟨0, by omega, rfl, HT5⟩
    case round =>
      clear HT5
      obtain ⟨i, hih, rfl, HT⟩ := hrel
      by_cases hlt : i < h
      · have HI := Lib.hid hih
        clear hih
        go_wp2
        go_loopw [9] (fun y wr => ∃ j, j ≤ m ∧ y = .int .i64 (j : Nat) ∧ Hid (TG w g (N + 4 + 3 * i + j) gb c h m wr)) (fun y _ => m - (intOf y).toNat)
        case atStart => exact ⟨0, by omega, rfl, HT⟩
        case round =>
          clear HT
          obtain ⟨j, hjm, rfl, HT⟩ := hrel
          by_cases hlt2 : j < m
          · obtain ⟨b, c', hrow, -, hmc, hcm', hbb, hne, hcs⟩ := HT.out.row hlt hm1
            have HNE := Lib.hid hne
            have HBB := Lib.hid hbb
            clear hcs hne hbb
            have HTD := Lib.hid HT.out.drew
            clear HT
            have hwr : IntKind.i64.wrap ((most : Int) + 1) = (most : Int) + 1 := IntWalk.i64_in _ (by omega)
            go_wp2_with fail
            refine wp_region_held_drew (S := fun w' => w'.cell? ⟨gb, i, none⟩ = some (.slice (some ⟨b, 0, none⟩) m c')) (by kernel_rfl) hrow (fun hHeld => ?_)
            refine wpAnyH_take (i := 0) (v := ?vv20) rfl (by kernel_rfl) (by kernel_rfl) (by kernel_rfl) (fun _ _ _ h => h) (Or.inl ⟨by rfl, ?hy20⟩) (by assumption) ?rest20
            case hy20 => (intro w hSw; (try dsimp only at hSw); (try simp only [List.getElem_toArray, List.getElem_cons_zero, List.getElem_cons_succ]); go_simp <;> with_reducible rfl)
            try simp only [List.getElem_toArray, List.getElem_cons_zero, List.getElem_cons_succ, Act.put, List.setIfInBounds_toArray, List.set_cons_zero, List.set_cons_succ]
            refine wpAnyH_take (i := 1) (v := ?vv21) rfl (by kernel_rfl) (by kernel_rfl) (by kernel_rfl) (fun _ _ _ h => h) (Or.inl ⟨by rfl, ?hy21⟩) (by assumption) ?rest21
            case hy21 => (intro w hSw; (try dsimp only at hSw); (try simp only [List.getElem_toArray, List.getElem_cons_zero, List.getElem_cons_succ]); go_simp <;> with_reducible rfl)
            try simp only [List.getElem_toArray, List.getElem_cons_zero, List.getElem_cons_succ, Act.put, List.setIfInBounds_toArray, List.set_cons_zero, List.set_cons_succ]
            refine wpAnyH_take (i := 2) (v := ?vv22) rfl (by kernel_rfl) (by kernel_rfl) (by kernel_rfl) (fun _ _ _ h => h) (Or.inl ⟨by rfl, ?hy22⟩) (by assumption) ?rest22
            case hy22 => (intro w hSw; (try dsimp only at hSw); (try simp only [List.getElem_toArray, List.getElem_cons_zero, List.getElem_cons_succ]); go_simp <;> with_reducible rfl)
            try simp only [List.getElem_toArray, List.getElem_cons_zero, List.getElem_cons_succ, Act.put, List.setIfInBounds_toArray, List.set_cons_zero, List.set_cons_succ]
            refine wpAnyH_take (i := 3) (v := ?vv23) rfl (by kernel_rfl) (by kernel_rfl) (by kernel_rfl) (fun _ _ _ h => h) (Or.inl ⟨by rfl, ?hy23⟩) (by assumption) ?rest23
            case hy23 => (intro w hSw; (try dsimp only at hSw); (try simp only [List.getElem_toArray, List.getElem_cons_zero, List.getElem_cons_succ]); go_simp <;> with_reducible rfl)
            try simp only [List.getElem_toArray, List.getElem_cons_zero, List.getElem_cons_succ, Act.put, List.setIfInBounds_toArray, List.set_cons_zero, List.set_cons_succ]
            refine wpAnyH_take (i := 4) (v := ?vv24) rfl (by kernel_rfl) (by kernel_rfl) (by kernel_rfl) (fun _ _ _ h => h) (Or.inl ⟨by rfl, ?hy24⟩) (by assumption) ?rest24
            case hy24 => (intro w hSw; (try dsimp only at hSw); (try simp only [List.getElem_toArray, List.getElem_cons_zero, List.getElem_cons_succ]); go_simp <;> with_reducible rfl)
            try simp only [List.getElem_toArray, List.getElem_cons_zero, List.getElem_cons_succ, Act.put, List.setIfInBounds_toArray, List.set_cons_zero, List.set_cons_succ]
            refine wpAnyH_take (i := 5) (v := ?vv25) rfl (by kernel_rfl) (by kernel_rfl) (by kernel_rfl) (fun _ _ _ h => h) (Or.inl ⟨by rfl, ?hy25⟩) (by assumption) ?rest25
            case hy25 => (intro w hSw; (try dsimp only at hSw); (try simp only [List.getElem_toArray, List.getElem_cons_zero, List.getElem_cons_succ]); go_simp <;> with_reducible rfl)
            try simp only [List.getElem_toArray, List.getElem_cons_zero, List.getElem_cons_succ, Act.put, List.setIfInBounds_toArray, List.set_cons_zero, List.set_cons_succ]
            refine wpAnyH_take (i := 6) (v := ?vv26) rfl (by kernel_rfl) (by kernel_rfl) (by kernel_rfl) (fun _ _ _ h => h) (Or.inl ⟨by rfl, ?hy26⟩) (by assumption) ?rest26
            case hy26 => (intro w hSw; (try dsimp only at hSw); (try simp only [List.getElem_toArray, List.getElem_cons_zero, List.getElem_cons_succ]); go_simp <;> with_reducible rfl)
            try simp only [List.getElem_toArray, List.getElem_cons_zero, List.getElem_cons_succ, Act.put, List.setIfInBounds_toArray, List.set_cons_zero, List.set_cons_succ]
            refine wpAnyH_take (i := 7) (v := ?vv27) rfl (by kernel_rfl) (by kernel_rfl) (by kernel_rfl) (fun _ _ _ h => h) (Or.inl ⟨by rfl, ?hy27⟩) (by assumption) ?rest27
            case hy27 => (intro w hSw; (try dsimp only at hSw); (try simp only [List.getElem_toArray, List.getElem_cons_zero, List.getElem_cons_succ]); go_simp <;> with_reducible rfl)
            try simp only [List.getElem_toArray, List.getElem_cons_zero, List.getElem_cons_succ, Act.put, List.setIfInBounds_toArray, List.set_cons_zero, List.set_cons_succ]
            refine wpAnyH_ready (rs := [8]) (by kernel_rfl) (by simp) ?_
            refine AllReadyH.cons rfl (fun K hK => ?_) AllReadyH.nil
            go_simp
            refine (specPick g (N + 4 + 3 * i + j) ((most : Int) + 1) _ HTD.out.rdr (by omega) (by omega)).mono ?_
            rintro e w6 ⟨z6, rfl, -, hr6, hgr6, -⟩
            have HT6 := Lib.hid (HTD.out.pick HGB.out hgr6 hr6)
            have hrow6 := hgr6.cell hrow (by have := HTD.out.lt; have := HGB.out; simp; omega)
            clear hr6 hgr6 HTD
            dsimp only
            refine hK.out _ _ (hrow6) (fun hHeld => ?_)
            clear hK K
            try simp only [List.getElem_toArray, List.getElem_cons_zero, List.getElem_cons_succ, Act.put, List.setIfInBounds_toArray, List.set_cons_zero, List.set_cons_succ]
            obtain ⟨⟨x9, hx9⟩, hf9⟩ := HT6.out.at_ hlt hlt2 hrow6
            clear hrow
            refine wpAnyH_take (i := 9) (v := ?vv28) rfl (by kernel_rfl) (by kernel_rfl) (by kernel_rfl) (fun _ _ _ h => h) (Or.inl ⟨by rfl, ?hy28⟩) (by assumption) ?rest28
            case hy28 => (intro w hSw; (try dsimp only at hSw); (try simp only [List.getElem_toArray, List.getElem_cons_zero, List.getElem_cons_succ]); go_simp <;> with_reducible rfl)
            try simp only [List.getElem_toArray, List.getElem_cons_zero, List.getElem_cons_succ, Act.put, List.setIfInBounds_toArray, List.set_cons_zero, List.set_cons_succ]
            refine wpAnyH_ready (rs := [10]) (by kernel_rfl) (by simp) ?_
            refine AllReadyH.cons rfl (fun K hK => ?_) AllReadyH.nil
            go_simp
            refine hK.out _ _ ((by rw [World.cell?_setCell_far _ _ _ _ (by simpa using Ne.symm HNE.out)]; exact hrow6)) (fun hHeld => ?_)
            clear hK K
            try simp only [List.getElem_toArray, List.getElem_cons_zero, List.getElem_cons_succ, Act.put, List.setIfInBounds_toArray, List.set_cons_zero, List.set_cons_succ]
            refine wpAnyH_done (by kernel_rfl) ?_ _
            clear hHeld
            have HT7 := Lib.hid (HT6.out.store (x := z6) hlt hrow6 hlt2 HBB.out HGB.out)
            clear hrow6 hx9 hf9 HT6
            generalize w6.setCell ⟨b, j, none⟩ (.int .i64 z6) = w7 at *
            go_wp2
            go_roundw
            case rel => exact ⟨j + 1, by omega, by go_num, HT7⟩
            case measure => simp [intOf]; omega
          · have hjm2 : j = m := by omega
            clear hlt2 hjm
            subst hjm2
            go_wp2
            go_roundw
            case rel => exact ⟨i + 1, by omega, by go_num, Lib.hid (HT.out.mono (by omega))⟩
            case measure => simp [intOf]; omega
      · have hih2 : i = h := by omega
        clear hlt hih
        subst hih2
        go_wp2_with fail
        refine (specPick g (N + 4 + 3 * i) 40 _ HT.out.rdr (by omega) (by omega)).mono ?_
        rintro e w6 ⟨z, rfl, -, hr6, hgr6, -⟩
        have HT6 := Lib.hid ((HT.out.pick HGB.out hgr6 hr6).mono (show N + 4 + 3 * i + 1 ≤ N + 19 by omega))
        clear hr6 hgr6 HT
        obtain ⟨b, c', hrow, hfz, hmc, hcm', hbb, hne, hcs⟩ := HT6.out.row (i := 0) (by omega) hm1
        have HNE := Lib.hid hne
        have HBB := Lib.hid hbb
        clear hne hbb
        have hp1 : 0 < i := by omega
        have hp2 : 0 < m := by omega
        have hgl := HT6.out.lt
        have hws : w.heap.size ≤ w6.heap.size := HT6.out.2.2.size
        have hgw := HGB.out
        by_cases hz0 : z = 0
        · subst hz0
          have HTD := Lib.hid HT6.out.drew
          have HGN := Lib.hid (show w6.heap.size ≠ g by omega)
          have HGL := Lib.hid (show gb < w6.heap.size by omega)
          have HGG := Lib.hid (show gb ≠ g by omega)
          clear hcs hfz HT6 hws hgw hgl
          go_wp2_with fail
          refine wp_region_held_drew (S := fun w' => w'.cell? ⟨gb, 0, none⟩ = some (.slice (some ⟨b, 0, none⟩) m c')) (by kernel_rfl) hrow (fun hHeld => ?_)
          refine wpAnyH_take (i := 0) (v := ?vv29) rfl (by kernel_rfl) (by kernel_rfl) (by kernel_rfl) (fun _ _ _ h => h) (Or.inl ⟨by rfl, ?hy29⟩) (by assumption) ?rest29
          case hy29 => (intro w hSw; (try dsimp only at hSw); (try simp only [List.getElem_toArray, List.getElem_cons_zero, List.getElem_cons_succ]); go_simp <;> with_reducible rfl)
          try simp only [List.getElem_toArray, List.getElem_cons_zero, List.getElem_cons_succ, Act.put, List.setIfInBounds_toArray, List.set_cons_zero, List.set_cons_succ]
          refine wpAnyH_take (i := 1) (v := ?vv30) rfl (by kernel_rfl) (by kernel_rfl) (by kernel_rfl) (fun _ _ _ h => h) (Or.inl ⟨by rfl, ?hy30⟩) (by assumption) ?rest30
          case hy30 => (intro w hSw; (try dsimp only at hSw); (try simp only [List.getElem_toArray, List.getElem_cons_zero, List.getElem_cons_succ]); go_simp <;> with_reducible rfl)
          try simp only [List.getElem_toArray, List.getElem_cons_zero, List.getElem_cons_succ, Act.put, List.setIfInBounds_toArray, List.set_cons_zero, List.set_cons_succ]
          refine wpAnyH_take (i := 2) (v := ?vv31) rfl (by kernel_rfl) (by kernel_rfl) (by kernel_rfl) (fun _ _ _ h => h) (Or.inl ⟨by rfl, ?hy31⟩) (by assumption) ?rest31
          case hy31 => (intro w hSw; (try dsimp only at hSw); (try simp only [List.getElem_toArray, List.getElem_cons_zero, List.getElem_cons_succ]); go_simp <;> with_reducible rfl)
          try simp only [List.getElem_toArray, List.getElem_cons_zero, List.getElem_cons_succ, Act.put, List.setIfInBounds_toArray, List.set_cons_zero, List.set_cons_succ]
          refine wpAnyH_take (i := 4) (v := ?vv32) rfl (by kernel_rfl) (by kernel_rfl) (by kernel_rfl) (fun _ _ _ h => h) (Or.inl ⟨by rfl, ?hy32⟩) (by assumption) ?rest32
          case hy32 => (intro w hSw; (try dsimp only at hSw); (try simp only [List.getElem_toArray, List.getElem_cons_zero, List.getElem_cons_succ]); go_simp <;> with_reducible rfl)
          try simp only [List.getElem_toArray, List.getElem_cons_zero, List.getElem_cons_succ, Act.put, List.setIfInBounds_toArray, List.set_cons_zero, List.set_cons_succ]
          refine wpAnyH_ready (rs := [3,5]) (by kernel_rfl) (by simp) ?_
          refine AllReadyH.cons rfl (fun K hK => ?_) ?_
          · go_simp
            have hrowA : (w6.drew.alloc (.cells #[.int .i64 (-1), .int .i64 100, .int .i64 99] 3)).cell? ⟨gb, 0, none⟩ = some (.slice (some ⟨b, 0, none⟩) m c') := (World.cell?_of_block (Below.heap_alloc _ _ gb HGL.out)).trans hrow
            refine hK.out _ _ (hrowA) (fun hHeld => ?_)
            clear hK K
            try simp only [List.getElem_toArray, List.getElem_cons_zero, List.getElem_cons_succ, Act.put, List.setIfInBounds_toArray, List.set_cons_zero, List.set_cons_succ]
            have hn1 : Blk (w6.drew.alloc (.cells #[.int .i64 (-1), .int .i64 100, .int .i64 99] 3)) w6.heap.size 3 [.int .i64 (-1), .int .i64 100, .int .i64 99] := Blk.new w6.drew _ _
            refine wpAnyH_ready (rs := [5]) (by kernel_rfl) (by simp) ?_
            refine AllReadyH.cons rfl (fun K hK => ?_) AllReadyH.nil
            go_simp
            refine (specPick g (N + 19) 3 _ (HTD.out.alloc _).rdr (by omega) (by omega)).mono ?_
            rintro e w8 ⟨y, rfl, ⟨y0, y1, -⟩, hr8, hgr8, -⟩
            have y1 := y1 (by omega)
            have HT8 := Lib.hid ((HTD.out.alloc _).pick HGB.out hgr8 hr8)
            have hrow8 := hgr8.cell hrowA (by simpa using HGG.out)
            have hn8 := hn1.grownN hgr8 HGN.out
            have HBL := Lib.hid (show b < w6.heap.size from HTD.out.blt hh1 hm1 hrow)
            clear hr8 hgr8 HTD hrowA hn1 hrow
            dsimp only
            refine hK.out _ _ (hrow8) (fun hHeld => ?_)
            clear hK K
            try simp only [List.getElem_toArray, List.getElem_cons_zero, List.getElem_cons_succ, Act.put, List.setIfInBounds_toArray, List.set_cons_zero, List.set_cons_succ]
            obtain ⟨kk, hck⟩ := three_of hn8 y0 y1
            clear hn8
            obtain ⟨⟨x9, hx9⟩, hf9⟩ := HT8.out.at_ hh1 hm1 hrow8
            refine heldAnd (T := fun w' => w'.cell? ⟨w6.heap.size, y.toNat, none⟩ = some (.int .i64 kk)) ?_
            have hHeld := And.intro hck hHeld
            refine wpAnyH_take (i := 6) (v := ?vv33) rfl (by kernel_rfl) (by kernel_rfl) (by kernel_rfl) (fun _ _ _ h => h) (Or.inl ⟨by rfl, ?hy33⟩) (by assumption) ?rest33
            case hy33 => (intro w hSw; (try dsimp only at hSw); (try simp only [List.getElem_toArray, List.getElem_cons_zero, List.getElem_cons_succ]); go_simp <;> with_reducible rfl)
            try simp only [List.getElem_toArray, List.getElem_cons_zero, List.getElem_cons_succ, Act.put, List.setIfInBounds_toArray, List.set_cons_zero, List.set_cons_succ]
            refine wpAnyH_take (i := 7) (v := ?vv34) rfl (by kernel_rfl) (by kernel_rfl) (by kernel_rfl) (fun _ _ _ h => h) (Or.inl ⟨by rfl, ?hy34⟩) (by assumption) ?rest34
            case hy34 => (intro w hSw; (try dsimp only at hSw); (try simp only [List.getElem_toArray, List.getElem_cons_zero, List.getElem_cons_succ]); go_simp <;> with_reducible rfl)
            try simp only [List.getElem_toArray, List.getElem_cons_zero, List.getElem_cons_succ, Act.put, List.setIfInBounds_toArray, List.set_cons_zero, List.set_cons_succ]
            refine wpAnyH_take (i := 8) (v := ?vv35) rfl (by kernel_rfl) (by kernel_rfl) (by kernel_rfl) (fun _ _ _ h => h) (Or.inl ⟨by rfl, ?hy35⟩) (by assumption) ?rest35
            case hy35 => (intro w hSw; (try dsimp only at hSw); (try simp only [List.getElem_toArray, List.getElem_cons_zero, List.getElem_cons_succ]); go_simp <;> with_reducible rfl)
            try simp only [List.getElem_toArray, List.getElem_cons_zero, List.getElem_cons_succ, Act.put, List.setIfInBounds_toArray, List.set_cons_zero, List.set_cons_succ]
            refine wpAnyH_ready (rs := [9]) (by kernel_rfl) (by simp) ?_
            refine AllReadyH.cons rfl (fun K hK => ?_) AllReadyH.nil
            go_simp
            refine hK.out _ _ (⟨by rw [World.cell?_setCell_far _ _ _ _ (by have := HBL.out; simp; omega)]; exact hck, by rw [World.cell?_setCell_far _ _ _ _ (by simpa using Ne.symm HNE.out)]; exact hrow8⟩) (fun hHeld => ?_)
            clear hK K
            try simp only [List.getElem_toArray, List.getElem_cons_zero, List.getElem_cons_succ, Act.put, List.setIfInBounds_toArray, List.set_cons_zero, List.set_cons_succ]
            refine wpAnyH_done (by kernel_rfl) ?_ _
            clear hHeld
            have HT9 := Lib.hid (HT8.out.store (x := kk) hh1 hrow8 hm1 HBB.out HGB.out)
            clear hrow8 hx9 hf9 HT8 hck
            generalize w8.setCell ⟨b, 0, none⟩ (.int .i64 kk) = w9 at *
            go_wp2
            go_ret
            exact DTb.fin HT9.out hh4 hm3
          refine AllReadyH.cons rfl (fun K hK => ?_) AllReadyH.nil
          · go_simp
            refine (specPick g (N + 19) 3 _ HTD.out.rdr (by omega) (by omega)).mono ?_
            rintro e w8 ⟨y, rfl, ⟨y0, y1, -⟩, hr8, hgr8, -⟩
            have y1 := y1 (by omega)
            have HT7 := Lib.hid (HTD.out.pick HGB.out hgr8 hr8)
            have hrow7 := hgr8.cell hrow (by simpa using HGG.out)
            have hbl := World.block_lt_of_cell? _ _ hrow7
            clear hr8 hgr8 HTD hrow
            dsimp only
            refine hK.out _ _ (hrow7) (fun hHeld => ?_)
            clear hK K
            try simp only [List.getElem_toArray, List.getElem_cons_zero, List.getElem_cons_succ, Act.put, List.setIfInBounds_toArray, List.set_cons_zero, List.set_cons_succ]
            refine wpAnyH_ready (rs := [3]) (by kernel_rfl) (by simp) ?_
            refine AllReadyH.cons rfl (fun K hK => ?_) AllReadyH.nil
            go_simp
            have hrow8 : (w8.alloc (.cells #[.int .i64 (-1), .int .i64 100, .int .i64 99] 3)).cell? ⟨gb, 0, none⟩ = some (.slice (some ⟨b, 0, none⟩) m c') := (World.cell?_of_block (Below.heap_alloc _ _ gb hbl)).trans hrow7
            refine hK.out _ _ (hrow8) (fun hHeld => ?_)
            clear hK K
            try simp only [List.getElem_toArray, List.getElem_cons_zero, List.getElem_cons_succ, Act.put, List.setIfInBounds_toArray, List.set_cons_zero, List.set_cons_succ]
            have HT8 := Lib.hid (HT7.out.alloc (.cells #[.int .i64 (-1), .int .i64 100, .int .i64 99] 3))
            have hn8 : Blk (w8.alloc (.cells #[.int .i64 (-1), .int .i64 100, .int .i64 99] 3)) w8.heap.size 3 [.int .i64 (-1), .int .i64 100, .int .i64 99] := Blk.new w8 _ _
            have HBL := Lib.hid (HT7.out.blt hh1 hm1 hrow7)
            obtain ⟨⟨x9, hx9⟩, hf9⟩ := HT8.out.at_ hh1 hm1 hrow8
            obtain ⟨kk, hck⟩ := three_of hn8 y0 y1
            clear hbl hrow7 hn8 HT7
            generalize w8.alloc (.cells #[.int .i64 (-1), .int .i64 100, .int .i64 99] 3) = w9 at *
            refine heldAnd (T := fun w' => w'.cell? ⟨w8.heap.size, y.toNat, none⟩ = some (.int .i64 kk)) ?_
            have hHeld := And.intro hck hHeld
            refine wpAnyH_take (i := 6) (v := ?vv36) rfl (by kernel_rfl) (by kernel_rfl) (by kernel_rfl) (fun _ _ _ h => h) (Or.inl ⟨by rfl, ?hy36⟩) (by assumption) ?rest36
            case hy36 => (intro w hSw; (try dsimp only at hSw); (try simp only [List.getElem_toArray, List.getElem_cons_zero, List.getElem_cons_succ]); go_simp <;> with_reducible rfl)
            try simp only [List.getElem_toArray, List.getElem_cons_zero, List.getElem_cons_succ, Act.put, List.setIfInBounds_toArray, List.set_cons_zero, List.set_cons_succ]
            refine wpAnyH_take (i := 7) (v := ?vv37) rfl (by kernel_rfl) (by kernel_rfl) (by kernel_rfl) (fun _ _ _ h => h) (Or.inl ⟨by rfl, ?hy37⟩) (by assumption) ?rest37
            case hy37 => (intro w hSw; (try dsimp only at hSw); (try simp only [List.getElem_toArray, List.getElem_cons_zero, List.getElem_cons_succ]); go_simp <;> with_reducible rfl)
            try simp only [List.getElem_toArray, List.getElem_cons_zero, List.getElem_cons_succ, Act.put, List.setIfInBounds_toArray, List.set_cons_zero, List.set_cons_succ]
            refine wpAnyH_take (i := 8) (v := ?vv38) rfl (by kernel_rfl) (by kernel_rfl) (by kernel_rfl) (fun _ _ _ h => h) (Or.inl ⟨by rfl, ?hy38⟩) (by assumption) ?rest38
            case hy38 => (intro w hSw; (try dsimp only at hSw); (try simp only [List.getElem_toArray, List.getElem_cons_zero, List.getElem_cons_succ]); go_simp <;> with_reducible rfl)
            try simp only [List.getElem_toArray, List.getElem_cons_zero, List.getElem_cons_succ, Act.put, List.setIfInBounds_toArray, List.set_cons_zero, List.set_cons_succ]
            refine wpAnyH_ready (rs := [9]) (by kernel_rfl) (by simp) ?_
            refine AllReadyH.cons rfl (fun K hK => ?_) AllReadyH.nil
            go_simp
            refine hK.out _ _ (⟨by rw [World.cell?_setCell_far _ _ _ _ (by have := HBL.out; simp; omega)]; exact hck, by rw [World.cell?_setCell_far _ _ _ _ (by simpa using Ne.symm HNE.out)]; exact hrow8⟩) (fun hHeld => ?_)
            clear hK K
            try simp only [List.getElem_toArray, List.getElem_cons_zero, List.getElem_cons_succ, Act.put, List.setIfInBounds_toArray, List.set_cons_zero, List.set_cons_succ]
            refine wpAnyH_done (by kernel_rfl) ?_ _
            clear hHeld
            have HT9 := Lib.hid (HT8.out.store (x := kk) hh1 hrow8 hm1 HBB.out HGB.out)
            clear hrow8 hx9 hf9 HT8 hck
            generalize w9.setCell ⟨b, 0, none⟩ (.int .i64 kk) = w10 at *
            go_wp2
            go_ret
            exact DTb.fin HT9.out hh4 hm3
        have hz0b : (z == 0) = false := by simp [hz0]
        by_cases hz1 : z = 1
        · subst hz1
          obtain ⟨s0, hown0, hfirst⟩ := HT6.out.first hh1 hrow HGB.out
          have HFIRST := Lib.hid hfirst
          have HSW := Lib.hid hws
          have HGL := Lib.hid hgl
          clear hfirst hcs hws hgl hgw
          go_wp2_with (at_builtin; go_must (refine wpList_append_own_at _ rfl _ _ 31 rfl w.heap.size 3 k0 _ 1 8 Try.underlying31 hk hx0 hx1 hx2 rfl (by decide) _ _ _ rfl (World.ownsRow.alloc hown0 _) ⟨w6.heap.size, 0, none⟩ 1 1 [_] rfl rfl (cellN _ _ _ _ rfl) (by simp [Value.oneCell']) (by unfold maxLen; omega) (by omega) (by have := HSW.out; simp; omega) ?_))
          intro v' w7 hown' hgrow _ hloc
          have hblk : w7.heap[gb]? = w6.heap[gb]? := (hgrow.block gb (by have := HGL.out; simp; omega) (fun e => HNE.out (by simpa [Value.ownBlock] using e))).trans (Below.heap_alloc w6 _ gb HGL.out.2)
          have hc7 := (World.cell?_of_block (a := ⟨gb, 0, none⟩) hblk).trans hrow
          have hf7 := (World.frozen?_of_block (a := ⟨gb, 0, none⟩) hblk).trans hfz
          have HT7 := Lib.hid (HFIRST.out w7 v' _ (s0 ++ [1]) (by rw [List.map_append]; exact hown') hgrow (by simpa [Value.ownBlock] using hloc))
          have hown2 : w7.ownsRow w.heap.size 3 1 v' (m + 1) ((s0 ++ [1]).map (Value.int .i64)) := by rw [List.map_append]; exact hown'
          obtain ⟨A7, c7, rfl, -, -, -⟩ := own_rds hown2 (by have := hown2.1; simp at this; simp; omega)
          clear hblk hown2 hown' hgrow hloc HFIRST HT6 hown0 hrow hfz
          go_wp2
          go_ret
          exact ⟨_, _, rfl, ⟨by simp; omega, fun n hn => by rcases List.mem_or_eq_of_mem_set hn with h1 | h1; (· rw [List.eq_of_mem_replicate h1]; omega); (· omega)⟩, HT7.out.mono (by omega)⟩
        have hz1b : (z == 1) = false := by simp [hz1]
        clear hrow hfz hmc hcm' HNE HBB hcs hgl hws hgw
        by_cases hz2 : z = 2
        · subst hz2
          go_wp2
          go_ret
          exact DTb.emp (HT6.out.mono (show N + 19 ≤ N + 20 by omega))
        have hz2b : (z == 2) = false := by simp [hz2]
        clear hz0 hz1 hz2
        go_wp2
        go_ret
        exact DTb.fin (HT6.out.mono (show N + 19 ≤ N + 20 by omega)) hh4 hm3
end Go.Proofs.Ytfhidimmaeiiaaa
