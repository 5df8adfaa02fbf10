/- FnMask, walked. -/
import Derived.Test.YtfhidimmaeiiaaaDrwMask
import Derived.Test.YtfhidimmaeiiaaaCopyB
import Derived.Test.YtfhidimmaeiiaaaCutG
import Derived.Test.YtfhidimmaeiiaaaOnto
import Derived.Test.YtfhidimmaeiiaaaMaskV
namespace Go.Proofs.Ytfhidimmaeiiaaa.WFnMask
open Go.RowKit
set_option linter.unusedVariables false
set_option linter.unusedSimpArgs false

theorem own_shape {w : World} {base T n : Nat} {v : Value} {xs : List Value} (h : w.ownsRow base T 1 v n xs) : ∃ A c, v = .slice A n c := by
  rcases h.2 with ⟨rfl, h0⟩ | ⟨g, cap, cur, rfl, _⟩
  · exact ⟨none, 0, by rw [h0]⟩
  · exact ⟨_, _, rfl⟩

set_option maxRecDepth 100000 in
set_option maxHeartbeats 8000000 in
theorem walk (w : World) (A : Option Addr) (c : Nat) (bs : List Int) (hn : bs.length ≤ 9223372036854775807) (hec : bs.length ≤ c ∧ c ≤ 9223372036854775807) (hg : Rds w w.heap.size 1 A bs.length (bs.map (Value.int .u8))) (hb : ∀ z ∈ bs, 0 ≤ z ∧ z ≤ 255) : Calls Try.prog 5 #[.slice A bs.length c] w fun e w' => e = .returned (.bool true) ∧ Below w.heap.size w w' := by
  have hB : Byt w A c bs := ⟨hg, hec.1, hec.2, hb⟩
  clear hg hb
  by_cases hbig : bs.length ≤ 1048576
  · go_enter Try.func5, Try.ntmps5
    go_wp2_with fail
    refine (specDrawMaskValid A c bs w hB).mono ?_
    rintro e w1 ⟨tv, ns, mv, mms, rfl, ⟨hn4, hnn⟩, ⟨hm5, hmm⟩, hT, hM, hb1⟩
    obtain ⟨tA, tc, L, rfl, hGT, hLn, hlc, hcm⟩ := hT.form
    obtain ⟨mA, mc, R, rfl, hGM, hRn, hmc, hmc2⟩ := hM.form
    have hl4 : L.length ≤ 4 := by rw [← hLn, List.length_map] at hn4; exact hn4
    have hr5 : R.length ≤ 5 := by rw [← hRn, List.length_map] at hm5; exact hm5
    have HGT := Lib.hid hGT
    have HGM := Lib.hid hGM
    have HB1 := Lib.hid hb1
    clear hB hT hM hGT hGM hb1 hLn hRn hnn hmm hn4 hm5
    go_wp2_with fail
    refine (implMaskValid tA tc L mA mc R w1 HGT.out (by omega) HGM.out).mono ?_
    rintro e w' ⟨hrb, rfl⟩
    rcases hrb.split with ⟨rfl, HGD⟩ | ⟨rfl, HGD⟩
    · clear hrb
      go_wp2_with fail
      refine (specMaskValid tA tc L mA mc R w1 HGT.out (by omega) HGM.out (by omega)).mono ?_
      rintro e w2 ⟨hrb2, hb2⟩
      obtain rfl := hrb2.isTrue HGD.out
      have HG2 := Lib.hid ((HGT.out.below hb2).more hb2.size)
      have HM2 := Lib.hid ((HGM.out.below hb2).more hb2.size)
      have HB2 := Lib.hid (HB1.out.trans (hb2.mono HB1.out.size))
      clear hrb2 hb2 HGT HGM HB1
      obtain ⟨r0, hr0, hL1, hr1, hr4, hRL, hRr⟩ : ∃ r0, L[0]? = some r0 ∧ 1 ≤ L.length ∧ 1 ≤ r0.length ∧ r0.length ≤ 4 ∧ R.length = L.length ∧ ∀ r ∈ R, r.length = r0.length := by
        obtain ⟨⟨r0, rest, rfl, h1, h2, h3⟩, h4, h5⟩ := HGD.out
        exact ⟨r0, rfl, by simp, h2.1, h2.2, h4, h5 r0 rfl⟩
      have hR1 : 1 ≤ R.length := by omega
      obtain ⟨q0, hq0⟩ : ∃ q0, R[0]? = some q0 := ⟨_, List.getElem?_eq_getElem (by omega)⟩
      have HRR : Hid (∀ r ∈ R, 1 ≤ r.length ∧ r.length ≤ 1000) := fun r hr => by rw [hRr r hr]; omega
      obtain ⟨M, hMl⟩ : ∃ M, M = L.length * r0.length := ⟨_, rfl⟩
      obtain ⟨V, hV⟩ : ∃ V, V = cntBB R := ⟨_, rfl⟩
      have hVM : V ≤ M := by
        have := cntBB_len R r0.length (fun r hr => by rw [hRr r hr]; exact Nat.le_refl _)
        rw [hV, hMl, ← hRL]; exact this
      have hM16 : M ≤ 16 := by rw [hMl]; exact Nat.mul_le_mul hl4 hr4
      have hmul : IntKind.i64.wrap ((L.length : Int) * (r0.length : Int)) = (M : Int) := by rw [hMl, IntWalk.i64_in _ (by rw [← Int.natCast_mul, ← hMl]; omega), Int.natCast_mul]
      have HV := Lib.hid hV
      have hle : (V : Int) ≤ (M : Int) := by omega
      have hge : (0 : Int) ≤ (V : Int) := Int.natCast_nonneg _
      obtain ⟨tb, toff, t0, tc0, rfl, htb, htc, htl, htm, -⟩ := HG2.out.at_ (k := 0) (r := r0.map (Value.int .i64)) (by rw [List.getElem?_map, hr0]; rfl)
      obtain ⟨mb, moff, m0, mc0, rfl, hmb, hmcell, hml, hmm, -⟩ := HM2.out.at_ (k := 0) (r := q0.map Value.bool) (by rw [List.getElem?_map, hq0]; rfl)
      simp only [List.length_map, Nat.add_zero] at htc htl hmcell hml
      unfold maxLen at htm hmm
      have HTB := Lib.hid htb
      have HTC := Lib.hid htc
      have HMB := Lib.hid hmb
      have HMC := Lib.hid hmcell
      have HRL := Lib.hid hRL
      have hL0 : 0 < L.length := by omega
      have hR0 : 0 < R.length := by omega
      have hm1 : (1 : Int) ≤ (R.length : Int) := by omega
      have hm2 : (R.length : Int) ≤ (mc : Int) := by omega
      have hm3 : (1 : Int) ≤ (mc : Int) := by omega
      have hS : w2.drew.cell? ⟨tb, toff, none⟩ = some (.slice t0 r0.length tc0) ∧ w2.drew.cell? ⟨mb, moff, none⟩ = some (.slice m0 q0.length mc0) := ⟨htc, hmcell⟩
      have HNE1 := Lib.hid (show R.length - 1 ≠ L.length by omega)
      have HNE2 := Lib.hid (show R.length + 1 ≠ L.length by omega)
      obtain ⟨j0, hj, hy0, hy1, hy2⟩ := info_parts infoBs
      clear htb htc hmb hmcell hV hMl hVM hRr hRL hr0 hq0
      go_wp2_with fail
      refine wp_region_held_drew (S := fun w' => w'.cell? ⟨tb, toff, none⟩ = some (.slice t0 r0.length tc0) ∧ w'.cell? ⟨mb, moff, none⟩ = some (.slice m0 q0.length mc0)) (by kernel_rfl) hS (fun hHeld => ?_)
      have HBL3 : Hid (Below w2.heap.size w2 w2.drew) := (Below.refl _ _).drew
      generalize w2.drew = w3 at *
      clear hS
      refine wpAnyH_take (i := 0) (v := ?vv1) rfl (by kernel_rfl) (by kernel_rfl) (by kernel_rfl) (fun _ _ _ h => h) (Or.inl ⟨by rfl, ?hy1⟩) (by assumption) ?rest1
      case hy1 => (intro w hSw; (try dsimp only at hSw); (try simp only [List.getElem_toArray, List.getElem_cons_zero, List.getElem_cons_succ]); go_simp <;> with_reducible rfl)
      try simp only [List.getElem_toArray, List.getElem_cons_zero, List.getElem_cons_succ, Act.put, List.setIfInBounds_toArray, List.set_cons_zero, List.set_cons_succ]
      refine wpAnyH_take (i := 2) (v := ?vv2) rfl (by kernel_rfl) (by kernel_rfl) (by kernel_rfl) (fun _ _ _ h => h) (Or.inl ⟨by rfl, ?hy2⟩) (by assumption) ?rest2
      case hy2 => (intro w hSw; (try dsimp only at hSw); (try simp only [List.getElem_toArray, List.getElem_cons_zero, List.getElem_cons_succ]); go_simp <;> with_reducible rfl)
      try simp only [List.getElem_toArray, List.getElem_cons_zero, List.getElem_cons_succ, Act.put, List.setIfInBounds_toArray, List.set_cons_zero, List.set_cons_succ]
      refine wpAnyH_take (i := 3) (v := ?vv3) rfl (by kernel_rfl) (by kernel_rfl) (by kernel_rfl) (fun _ _ _ h => h) (Or.inl ⟨by rfl, ?hy3⟩) (by assumption) ?rest3
      case hy3 => (intro w hSw; (try dsimp only at hSw); (try simp only [List.getElem_toArray, List.getElem_cons_zero, List.getElem_cons_succ]); go_simp <;> with_reducible rfl)
      try simp only [List.getElem_toArray, List.getElem_cons_zero, List.getElem_cons_succ, Act.put, List.setIfInBounds_toArray, List.set_cons_zero, List.set_cons_succ]
      refine wpAnyH_take (i := 4) (v := ?vv4) rfl (by kernel_rfl) (by kernel_rfl) (by kernel_rfl) (fun _ _ _ h => h) (Or.inl ⟨by rfl, ?hy4⟩) (by assumption) ?rest4
      case hy4 => (intro w hSw; (try dsimp only at hSw); (try simp only [List.getElem_toArray, List.getElem_cons_zero, List.getElem_cons_succ]); go_simp <;> with_reducible rfl)
      try simp only [List.getElem_toArray, List.getElem_cons_zero, List.getElem_cons_succ, Act.put, List.setIfInBounds_toArray, List.set_cons_zero, List.set_cons_succ]
      refine wpAnyH_take (i := 5) (v := ?vv5) rfl (by kernel_rfl) (by kernel_rfl) (by kernel_rfl) (fun _ _ _ h => h) (Or.inl ⟨by rfl, ?hy5⟩) (by assumption) ?rest5
      case hy5 => (intro w hSw; (try dsimp only at hSw); (try simp only [List.getElem_toArray, List.getElem_cons_zero, List.getElem_cons_succ]); go_simp <;> with_reducible rfl)
      try simp only [List.getElem_toArray, List.getElem_cons_zero, List.getElem_cons_succ, Act.put, List.setIfInBounds_toArray, List.set_cons_zero, List.set_cons_succ]
      refine wpAnyH_take (i := 6) (v := ?vv6) rfl (by kernel_rfl) (by kernel_rfl) (by kernel_rfl) (fun _ _ _ h => h) (Or.inl ⟨by rfl, ?hy6⟩) (by assumption) ?rest6
      case hy6 => (intro w hSw; (try dsimp only at hSw); (try simp only [List.getElem_toArray, List.getElem_cons_zero, List.getElem_cons_succ]); go_simp <;> with_reducible rfl)
      try simp only [List.getElem_toArray, List.getElem_cons_zero, List.getElem_cons_succ, Act.put, List.setIfInBounds_toArray, List.set_cons_zero, List.set_cons_succ]
      refine wpAnyH_take (i := 7) (v := ?vv7) rfl (by kernel_rfl) (by kernel_rfl) (by kernel_rfl) (fun _ _ _ h => h) (Or.inl ⟨by rfl, ?hy7⟩) (by assumption) ?rest7
      case hy7 => (intro w hSw; (try dsimp only at hSw); (try simp only [List.getElem_toArray, List.getElem_cons_zero, List.getElem_cons_succ]); go_simp <;> with_reducible rfl)
      try simp only [List.getElem_toArray, List.getElem_cons_zero, List.getElem_cons_succ, Act.put, List.setIfInBounds_toArray, List.set_cons_zero, List.set_cons_succ]
      refine wpAnyH_take (i := 8) (v := ?vv8) rfl (by kernel_rfl) (by kernel_rfl) (by kernel_rfl) (fun _ _ _ h => h) (Or.inl ⟨by rfl, ?hy8⟩) (by assumption) ?rest8
      case hy8 => (intro w hSw; (try dsimp only at hSw); (try simp only [List.getElem_toArray, List.getElem_cons_zero, List.getElem_cons_succ]); go_simp <;> with_reducible rfl)
      try simp only [List.getElem_toArray, List.getElem_cons_zero, List.getElem_cons_succ, Act.put, List.setIfInBounds_toArray, List.set_cons_zero, List.set_cons_succ]
      refine wpAnyH_ready (rs := [1]) (by kernel_rfl) (by simp) ?_
      refine AllReadyH.cons rfl (fun K hK => ?_) AllReadyH.nil
      go_simp
      refine (implMaskManyN _ _ _ R w3 ((HM2.out.below HBL3.out).more HBL3.out.size) rfl (by omega) (by rw [← HV.out]; omega)).mono ?_
      rw [← HV.out]
      rintro e w9 ⟨rfl, rfl⟩
      dsimp only
      refine hK.out _ _ (hHeld) (fun hHeld => ?_)
      clear hK K
      try simp only [List.getElem_toArray, List.getElem_cons_zero, List.getElem_cons_succ, Act.put, List.setIfInBounds_toArray, List.set_cons_zero, List.set_cons_succ]
      refine wpAnyH_take (i := 9) (v := ?vv9) rfl (by kernel_rfl) (by kernel_rfl) (by kernel_rfl) (fun _ _ _ h => h) (Or.inl ⟨by rfl, ?hy9⟩) (by assumption) ?rest9
      case hy9 => (intro w hSw; (try dsimp only at hSw); (try simp only [List.getElem_toArray, List.getElem_cons_zero, List.getElem_cons_succ]); go_simp <;> with_reducible rfl)
      try simp only [List.getElem_toArray, List.getElem_cons_zero, List.getElem_cons_succ, Act.put, List.setIfInBounds_toArray, List.set_cons_zero, List.set_cons_succ]
      refine wpAnyH_take (i := 10) (v := ?vv10) rfl (by kernel_rfl) (by kernel_rfl) (by kernel_rfl) (fun _ _ _ h => h) (Or.inl ⟨by rfl, ?hy10⟩) (by assumption) ?rest10
      case hy10 => (intro w hSw; (try dsimp only at hSw); (try simp only [List.getElem_toArray, List.getElem_cons_zero, List.getElem_cons_succ]); go_simp <;> with_reducible rfl)
      try simp only [List.getElem_toArray, List.getElem_cons_zero, List.getElem_cons_succ, Act.put, List.setIfInBounds_toArray, List.set_cons_zero, List.set_cons_succ]
      refine wpAnyH_take (i := 11) (v := ?vv11) rfl (by kernel_rfl) (by kernel_rfl) (by kernel_rfl) (fun _ _ _ h => h) (Or.inl ⟨by rfl, ?hy11⟩) (by assumption) ?rest11
      case hy11 => (intro w hSw; (try dsimp only at hSw); (try simp only [List.getElem_toArray, List.getElem_cons_zero, List.getElem_cons_succ]); go_simp <;> with_reducible rfl)
      try simp only [List.getElem_toArray, List.getElem_cons_zero, List.getElem_cons_succ, Act.put, List.setIfInBounds_toArray, List.set_cons_zero, List.set_cons_succ]
      refine wpAnyH_ready (rs := [12]) (by kernel_rfl) (by simp) ?_
      refine AllReadyH.cons rfl (fun K hK => ?_) AllReadyH.nil
      go_simp
      refine (implMaskManyN _ _ _ R w3 ((HM2.out.below HBL3.out).more HBL3.out.size) rfl (by omega) (by rw [← HV.out]; omega)).mono ?_
      rw [← HV.out]
      rintro e w9 ⟨rfl, rfl⟩
      dsimp only
      refine hK.out _ _ (hHeld) (fun hHeld => ?_)
      clear hK K
      try simp only [List.getElem_toArray, List.getElem_cons_zero, List.getElem_cons_succ, Act.put, List.setIfInBounds_toArray, List.set_cons_zero, List.set_cons_succ]
      refine wpAnyH_take (i := 13) (v := ?vv12) rfl (by kernel_rfl) (by kernel_rfl) (by kernel_rfl) (fun _ _ _ h => h) (Or.inl ⟨by rfl, ?hy12⟩) (by assumption) ?rest12
      case hy12 => (intro w hSw; (try dsimp only at hSw); (try simp only [List.getElem_toArray, List.getElem_cons_zero, List.getElem_cons_succ]); go_simp <;> with_reducible rfl)
      try simp only [List.getElem_toArray, List.getElem_cons_zero, List.getElem_cons_succ, Act.put, List.setIfInBounds_toArray, List.set_cons_zero, List.set_cons_succ]
      refine wpAnyH_take (i := 14) (v := ?vv13) rfl (by kernel_rfl) (by kernel_rfl) (by kernel_rfl) (fun _ _ _ h => h) (Or.inl ⟨by rfl, ?hy13⟩) (by assumption) ?rest13
      case hy13 => (intro w hSw; (try dsimp only at hSw); (try simp only [List.getElem_toArray, List.getElem_cons_zero, List.getElem_cons_succ]); go_simp <;> with_reducible rfl)
      try simp only [List.getElem_toArray, List.getElem_cons_zero, List.getElem_cons_succ, Act.put, List.setIfInBounds_toArray, List.set_cons_zero, List.set_cons_succ]
      refine wpAnyH_take (i := 15) (v := ?vv14) rfl (by kernel_rfl) (by kernel_rfl) (by kernel_rfl) (fun _ _ _ h => h) (Or.inl ⟨by rfl, ?hy14⟩) (by assumption) ?rest14
      case hy14 => (intro w hSw; (try dsimp only at hSw); (try simp only [List.getElem_toArray, List.getElem_cons_zero, List.getElem_cons_succ]); go_simp <;> with_reducible rfl)
      try simp only [List.getElem_toArray, List.getElem_cons_zero, List.getElem_cons_succ, Act.put, List.setIfInBounds_toArray, List.set_cons_zero, List.set_cons_succ]
      refine wpAnyH_take (i := 16) (v := ?vv15) rfl (by kernel_rfl) (by kernel_rfl) (by kernel_rfl) (fun _ _ _ h => h) (Or.inl ⟨by rfl, ?hy15⟩) (by assumption) ?rest15
      case hy15 => (intro w hSw; (try dsimp only at hSw); (try simp only [List.getElem_toArray, List.getElem_cons_zero, List.getElem_cons_succ]); go_simp <;> with_reducible rfl)
      try simp only [List.getElem_toArray, List.getElem_cons_zero, List.getElem_cons_succ, Act.put, List.setIfInBounds_toArray, List.set_cons_zero, List.set_cons_succ]
      refine wpAnyH_take (i := 17) (v := ?vv16) rfl (by kernel_rfl) (by kernel_rfl) (by kernel_rfl) (fun _ _ _ h => h) (Or.inl ⟨by rfl, ?hy16⟩) (by assumption) ?rest16
      case hy16 => (intro w hSw; (try dsimp only at hSw); (try simp only [List.getElem_toArray, List.getElem_cons_zero, List.getElem_cons_succ]); go_simp <;> with_reducible rfl)
      try simp only [List.getElem_toArray, List.getElem_cons_zero, List.getElem_cons_succ, Act.put, List.setIfInBounds_toArray, List.set_cons_zero, List.set_cons_succ]
      refine wpAnyH_take (i := 18) (v := ?vv17) rfl (by kernel_rfl) (by kernel_rfl) (by kernel_rfl) (fun _ _ _ h => h) (Or.inl ⟨by rfl, ?hy17⟩) (by assumption) ?rest17
      case hy17 => (intro w hSw; (try dsimp only at hSw); (try simp only [List.getElem_toArray, List.getElem_cons_zero, List.getElem_cons_succ]); go_simp <;> with_reducible rfl)
      try simp only [List.getElem_toArray, List.getElem_cons_zero, List.getElem_cons_succ, Act.put, List.setIfInBounds_toArray, List.set_cons_zero, List.set_cons_succ]
      refine wpAnyH_ready (rs := [19]) (by kernel_rfl) (by simp) ?_
      refine AllReadyH.cons rfl (fun K hK => ?_) AllReadyH.nil
      go_simp
      refine (implMaskValidNo _ tc L _ (R.length - 1) _ w3 ((HG2.out.below HBL3.out).more HBL3.out.size) (by omega) HNE1.out).mono ?_
      rintro e w9 ⟨rfl, rfl⟩
      dsimp only
      refine hK.out _ _ (hHeld) (fun hHeld => ?_)
      clear hK K
      try simp only [List.getElem_toArray, List.getElem_cons_zero, List.getElem_cons_succ, Act.put, List.setIfInBounds_toArray, List.set_cons_zero, List.set_cons_succ]
      generalize (if mc = 1 then _ else _) = AD at *
      refine wpAnyH_take (i := 20) (v := ?vv18) rfl (by kernel_rfl) (by kernel_rfl) (by kernel_rfl) (fun _ _ _ h => h) (Or.inl ⟨by rfl, ?hy18⟩) (by assumption) ?rest18
      case hy18 => (intro w hSw; (try dsimp only at hSw); (try simp only [List.getElem_toArray, List.getElem_cons_zero, List.getElem_cons_succ]); go_simp <;> with_reducible rfl)
      try simp only [List.getElem_toArray, List.getElem_cons_zero, List.getElem_cons_succ, Act.put, List.setIfInBounds_toArray, List.set_cons_zero, List.set_cons_succ]
      refine wpAnyH_take (i := 21) (v := ?vv19) rfl (by kernel_rfl) (by kernel_rfl) (by kernel_rfl) (fun _ _ _ h => h) (Or.inl ⟨by rfl, ?hy19⟩) (by assumption) ?rest19
      case hy19 => (intro w hSw; (try dsimp only at hSw); (try simp only [List.getElem_toArray, List.getElem_cons_zero, List.getElem_cons_succ]); go_simp <;> with_reducible rfl)
      try simp only [List.getElem_toArray, List.getElem_cons_zero, List.getElem_cons_succ, Act.put, List.setIfInBounds_toArray, List.set_cons_zero, List.set_cons_succ]
      refine wpAnyH_take (i := 22) (v := ?vv20) rfl (by kernel_rfl) (by kernel_rfl) (by kernel_rfl) (fun _ _ _ h => h) (Or.inl ⟨by rfl, ?hy20⟩) (by assumption) ?rest20
      case hy20 => (intro w hSw; (try dsimp only at hSw); (try simp only [List.getElem_toArray, List.getElem_cons_zero, List.getElem_cons_succ]); go_simp <;> with_reducible rfl)
      try simp only [List.getElem_toArray, List.getElem_cons_zero, List.getElem_cons_succ, Act.put, List.setIfInBounds_toArray, List.set_cons_zero, List.set_cons_succ]
      refine wpAnyH_take (i := 23) (v := ?vv21) rfl (by kernel_rfl) (by kernel_rfl) (by kernel_rfl) (fun _ _ _ h => h) (Or.inl ⟨by rfl, ?hy21⟩) (by assumption) ?rest21
      case hy21 => (intro w hSw; (try dsimp only at hSw); (try simp only [List.getElem_toArray, List.getElem_cons_zero, List.getElem_cons_succ]); go_simp <;> with_reducible rfl)
      try simp only [List.getElem_toArray, List.getElem_cons_zero, List.getElem_cons_succ, Act.put, List.setIfInBounds_toArray, List.set_cons_zero, List.set_cons_succ]
      refine wpAnyH_take (i := 24) (v := ?vv22) rfl (by kernel_rfl) (by kernel_rfl) (by kernel_rfl) (fun _ _ _ h => h) (Or.inl ⟨by rfl, ?hy22⟩) (by assumption) ?rest22
      case hy22 => (intro w hSw; (try dsimp only at hSw); (try simp only [List.getElem_toArray, List.getElem_cons_zero, List.getElem_cons_succ]); go_simp <;> with_reducible rfl)
      try simp only [List.getElem_toArray, List.getElem_cons_zero, List.getElem_cons_succ, Act.put, List.setIfInBounds_toArray, List.set_cons_zero, List.set_cons_succ]
      refine wpAnyH_take (i := 26) (v := ?vv23) rfl (by kernel_rfl) (by kernel_rfl) (by kernel_rfl) (fun _ _ _ h => h) (Or.inl ⟨by rfl, ?hy23⟩) (by assumption) ?rest23
      case hy23 => (intro w hSw; (try dsimp only at hSw); (try simp only [List.getElem_toArray, List.getElem_cons_zero, List.getElem_cons_succ]); go_simp <;> with_reducible rfl)
      try simp only [List.getElem_toArray, List.getElem_cons_zero, List.getElem_cons_succ, Act.put, List.setIfInBounds_toArray, List.set_cons_zero, List.set_cons_succ]
      refine wpAnyH_take (i := 27) (v := ?vv24) rfl (by kernel_rfl) (by kernel_rfl) (by kernel_rfl) (fun _ _ _ h => h) (Or.inl ⟨by rfl, ?hy24⟩) (by assumption) ?rest24
      case hy24 => (intro w hSw; (try dsimp only at hSw); (try simp only [List.getElem_toArray, List.getElem_cons_zero, List.getElem_cons_succ]); go_simp <;> with_reducible rfl)
      try simp only [List.getElem_toArray, List.getElem_cons_zero, List.getElem_cons_succ, Act.put, List.setIfInBounds_toArray, List.set_cons_zero, List.set_cons_succ]
      refine wpAnyH_take (i := 28) (v := ?vv25) rfl (by kernel_rfl) (by kernel_rfl) (by kernel_rfl) (fun _ _ _ h => h) (Or.inl ⟨by rfl, ?hy25⟩) (by assumption) ?rest25
      case hy25 => (intro w hSw; (try dsimp only at hSw); (try simp only [List.getElem_toArray, List.getElem_cons_zero, List.getElem_cons_succ]); go_simp <;> with_reducible rfl)
      try simp only [List.getElem_toArray, List.getElem_cons_zero, List.getElem_cons_succ, Act.put, List.setIfInBounds_toArray, List.set_cons_zero, List.set_cons_succ]
      refine wpAnyH_ready (rs := [25,29]) (by kernel_rfl) (by simp) ?_
      refine AllReadyH.cons rfl (fun K hK => ?_) ?_
      · skip
        go_simp
        refine (lawCopyB _ mc R w3 ((HM2.out.below HBL3.out).more HBL3.out.size) (by omega) HRR.out).mono ?_
        rintro e w4 ⟨v56, rfl, hv56, hb56⟩
        obtain ⟨hs, hho, -⟩ := hv56
        rw [List.length_map] at hho
        have HHO := Lib.hid hho
        have HBL4 := Lib.hid (HBL3.out.trans (hb56.mono HBL3.out.size))
        have HS4 := Lib.hid hb56.size
        clear hho hb56
        dsimp only
        refine hK.out _ _ (⟨(HBL4.out.cell (p := ⟨tb, toff, none⟩) HTB.out).trans HTC.out, (HBL4.out.cell (p := ⟨mb, moff, none⟩) HMB.out).trans HMC.out⟩) (fun hHeld => ?_)
        clear hK K
        try simp only [List.getElem_toArray, List.getElem_cons_zero, List.getElem_cons_succ, Act.put, List.setIfInBounds_toArray, List.set_cons_zero, List.set_cons_succ]
        refine wpAnyH_ready (rs := [29]) (by kernel_rfl) (by simp) ?_
        refine AllReadyH.cons rfl (fun K hK => ?_) AllReadyH.nil
        go_simp
        have HBA := Lib.hid (HBL4.out.alloc HBL4.out.size (.cells #[.slice m0 q0.length mc0] 36))
        refine hK.out _ _ (⟨(HBA.out.cell (p := ⟨tb, toff, none⟩) HTB.out).trans HTC.out, (HBA.out.cell (p := ⟨mb, moff, none⟩) HMB.out).trans HMC.out⟩) (fun hHeld => ?_)
        clear hK K
        try simp only [List.getElem_toArray, List.getElem_cons_zero, List.getElem_cons_succ, Act.put, List.setIfInBounds_toArray, List.set_cons_zero, List.set_cons_succ]
        refine wpAnyH_ready (rs := [30]) (by kernel_rfl) (by simp) ?_
        refine AllReadyH.cons rfl (fun K hK => ?_) AllReadyH.nil
        refine step_append_atG (by rfl) _ _ 23 (by rfl) w3.heap.size 36 j0 _ 1 24 Try.underlying23 hj hy0 hy1 hy2 rfl (by decide) _ _ _ (by rfl) (World.ownsRow.alloc HHO.out _) ⟨w4.heap.size, 0, none⟩ 1 1 [_] (by rfl) rfl (cellN _ _ _ _ rfl) (by simp [Value.oneCell']) (by unfold maxLen; omega) (by omega) (by simp; have := HS4.out; omega) ?_
        intro v61 w5 hown hgr _
        obtain ⟨A61, c61, rfl⟩ := own_shape hown
        have HBLE : Hid (Below w2.heap.size w2 w5) := HBA.out.grown hgr (by have := HBA.out.size; simpa using this) (fun q e => by have := own_base HHO.out q e; have := HBL3.out.size; have := HS4.out; omega)
        clear hown hgr HHO
        refine hK.out _ _ (⟨(HBLE.out.cell (p := ⟨tb, toff, none⟩) HTB.out).trans HTC.out, (HBLE.out.cell (p := ⟨mb, moff, none⟩) HMB.out).trans HMC.out⟩) (fun hHeld => ?_)
        clear hK K
        try simp only [List.getElem_toArray, List.getElem_cons_zero, List.getElem_cons_succ, Act.put, List.setIfInBounds_toArray, List.set_cons_zero, List.set_cons_succ]
        refine wpAnyH_ready (rs := [31]) (by kernel_rfl) (by simp) ?_
        refine AllReadyH.cons rfl (fun K hK => ?_) AllReadyH.nil
        go_simp
        refine (implMaskValidNo _ tc L A61 (R.length + 1) c61 w5 ((HG2.out.below HBLE.out).more HBLE.out.size) (by omega) HNE2.out).mono ?_
        rintro e w9 ⟨rfl, rfl⟩
        dsimp only
        refine hK.out _ _ (hHeld) (fun hHeld => ?_)
        clear hK K
        try simp only [List.getElem_toArray, List.getElem_cons_zero, List.getElem_cons_succ, Act.put, List.setIfInBounds_toArray, List.set_cons_zero, List.set_cons_succ]
        refine wpAnyH_take (i := 32) (v := ?vv26) rfl (by kernel_rfl) (by kernel_rfl) (by kernel_rfl) (fun _ _ _ h => h) (Or.inl ⟨by rfl, ?hy26⟩) (by assumption) ?rest26
        case hy26 => (intro w hSw; (try dsimp only at hSw); (try simp only [List.getElem_toArray, List.getElem_cons_zero, List.getElem_cons_succ]); go_simp <;> with_reducible rfl)
        try simp only [List.getElem_toArray, List.getElem_cons_zero, List.getElem_cons_succ, Act.put, List.setIfInBounds_toArray, List.set_cons_zero, List.set_cons_succ]
        refine wpAnyH_take (i := 33) (v := ?vv27) rfl (by kernel_rfl) (by kernel_rfl) (by kernel_rfl) (fun _ _ _ h => h) (Or.inl ⟨by rfl, ?hy27⟩) (by assumption) ?rest27
        case hy27 => (intro w hSw; (try dsimp only at hSw); (try simp only [List.getElem_toArray, List.getElem_cons_zero, List.getElem_cons_succ]); go_simp <;> with_reducible rfl)
        try simp only [List.getElem_toArray, List.getElem_cons_zero, List.getElem_cons_succ, Act.put, List.setIfInBounds_toArray, List.set_cons_zero, List.set_cons_succ]
        refine wpAnyH_take (i := 34) (v := ?vv28) rfl (by kernel_rfl) (by kernel_rfl) (by kernel_rfl) (fun _ _ _ h => h) (Or.inl ⟨by rfl, ?hy28⟩) (by assumption) ?rest28
        case hy28 => (intro w hSw; (try dsimp only at hSw); (try simp only [List.getElem_toArray, List.getElem_cons_zero, List.getElem_cons_succ]); go_simp <;> with_reducible rfl)
        try simp only [List.getElem_toArray, List.getElem_cons_zero, List.getElem_cons_succ, Act.put, List.setIfInBounds_toArray, List.set_cons_zero, List.set_cons_succ]
        refine wpAnyH_done (by kernel_rfl) ?_ _
        clear hHeld
        go_wp2
        go_ret
        exact ⟨rfl, HB2.out.trans (HBLE.out.mono HB2.out.size)⟩
      refine AllReadyH.cons rfl (fun K hK => ?_) AllReadyH.nil
      · skip
        go_simp
        have HBL4 : Hid (Below w2.heap.size w2 (w3.alloc (.cells #[.slice m0 q0.length mc0] 36))) := HBL3.out.alloc HBL3.out.size _
        have HS4 : Hid (w3.heap.size + 1 = (w3.alloc (.cells #[.slice m0 q0.length mc0] 36)).heap.size) := (World.size_alloc _ _).symm
        have HZ4 : Hid (Blk (w3.alloc (.cells #[.slice m0 q0.length mc0] 36)) w3.heap.size 36 [.slice m0 q0.length mc0]) := Blk.new w3 _ _
        refine hK.out _ _ (⟨(HBL4.out.cell (p := ⟨tb, toff, none⟩) HTB.out).trans HTC.out, (HBL4.out.cell (p := ⟨mb, moff, none⟩) HMB.out).trans HMC.out⟩) (fun hHeld => ?_)
        clear hK K
        try simp only [List.getElem_toArray, List.getElem_cons_zero, List.getElem_cons_succ, Act.put, List.setIfInBounds_toArray, List.set_cons_zero, List.set_cons_succ]
        generalize w3.alloc (.cells #[.slice m0 q0.length mc0] 36) = w4 at *
        refine wpAnyH_ready (rs := [25]) (by kernel_rfl) (by simp) ?_
        refine AllReadyH.cons rfl (fun K hK => ?_) AllReadyH.nil
        go_simp
        refine (lawCopyB _ mc R w4 ((HM2.out.below HBL4.out).more HBL4.out.size) (by omega) HRR.out).mono ?_
        rintro e w5 ⟨v56, rfl, hv56, hb56⟩
        obtain ⟨hs, hho, -⟩ := hv56
        rw [List.length_map] at hho
        have HHO := Lib.hid hho
        have HBL5 := Lib.hid (HBL4.out.trans (hb56.mono HBL4.out.size))
        have HS5 := Lib.hid hb56.size
        have HZ5 := Lib.hid (HZ4.out.below hb56 HZ4.out.lt)
        clear hho hb56
        dsimp only
        refine hK.out _ _ (⟨(HBL5.out.cell (p := ⟨tb, toff, none⟩) HTB.out).trans HTC.out, (HBL5.out.cell (p := ⟨mb, moff, none⟩) HMB.out).trans HMC.out⟩) (fun hHeld => ?_)
        clear hK K
        try simp only [List.getElem_toArray, List.getElem_cons_zero, List.getElem_cons_succ, Act.put, List.setIfInBounds_toArray, List.set_cons_zero, List.set_cons_succ]
        refine wpAnyH_ready (rs := [30]) (by kernel_rfl) (by simp) ?_
        refine AllReadyH.cons rfl (fun K hK => ?_) AllReadyH.nil
        refine step_append_atG (by rfl) _ _ 23 (by rfl) w4.heap.size 36 j0 _ 1 24 Try.underlying23 hj hy0 hy1 hy2 rfl (by decide) _ _ _ (by rfl) HHO.out ⟨w3.heap.size, 0, none⟩ 1 1 [_] (by rfl) rfl (newsBlk HZ5.out) (by simp [Value.oneCell']) (by unfold maxLen; omega) (by omega) (by have := HS5.out; omega) ?_
        intro v61 w6 hown hgr _
        obtain ⟨A61, c61, rfl⟩ := own_shape hown
        have HBLE : Hid (Below w2.heap.size w2 w6) := HBL5.out.grown hgr (by have := HBL5.out.size; simpa using this) (fun q e => by have := own_base HHO.out q e; have := HBL3.out.size; have := HS4.out; omega)
        clear hown hgr HHO
        refine hK.out _ _ (⟨(HBLE.out.cell (p := ⟨tb, toff, none⟩) HTB.out).trans HTC.out, (HBLE.out.cell (p := ⟨mb, moff, none⟩) HMB.out).trans HMC.out⟩) (fun hHeld => ?_)
        clear hK K
        try simp only [List.getElem_toArray, List.getElem_cons_zero, List.getElem_cons_succ, Act.put, List.setIfInBounds_toArray, List.set_cons_zero, List.set_cons_succ]
        refine wpAnyH_ready (rs := [31]) (by kernel_rfl) (by simp) ?_
        refine AllReadyH.cons rfl (fun K hK => ?_) AllReadyH.nil
        go_simp
        refine (implMaskValidNo _ tc L A61 (R.length + 1) c61 w6 ((HG2.out.below HBLE.out).more HBLE.out.size) (by omega) HNE2.out).mono ?_
        rintro e w9 ⟨rfl, rfl⟩
        dsimp only
        refine hK.out _ _ (hHeld) (fun hHeld => ?_)
        clear hK K
        try simp only [List.getElem_toArray, List.getElem_cons_zero, List.getElem_cons_succ, Act.put, List.setIfInBounds_toArray, List.set_cons_zero, List.set_cons_succ]
        refine wpAnyH_take (i := 32) (v := ?vv29) rfl (by kernel_rfl) (by kernel_rfl) (by kernel_rfl) (fun _ _ _ h => h) (Or.inl ⟨by rfl, ?hy29⟩) (by assumption) ?rest29
        case hy29 => (intro w hSw; (try dsimp only at hSw); (try simp only [List.getElem_toArray, List.getElem_cons_zero, List.getElem_cons_succ]); go_simp <;> with_reducible rfl)
        try simp only [List.getElem_toArray, List.getElem_cons_zero, List.getElem_cons_succ, Act.put, List.setIfInBounds_toArray, List.set_cons_zero, List.set_cons_succ]
        refine wpAnyH_take (i := 33) (v := ?vv30) rfl (by kernel_rfl) (by kernel_rfl) (by kernel_rfl) (fun _ _ _ h => h) (Or.inl ⟨by rfl, ?hy30⟩) (by assumption) ?rest30
        case hy30 => (intro w hSw; (try dsimp only at hSw); (try simp only [List.getElem_toArray, List.getElem_cons_zero, List.getElem_cons_succ]); go_simp <;> with_reducible rfl)
        try simp only [List.getElem_toArray, List.getElem_cons_zero, List.getElem_cons_succ, Act.put, List.setIfInBounds_toArray, List.set_cons_zero, List.set_cons_succ]
        refine wpAnyH_take (i := 34) (v := ?vv31) rfl (by kernel_rfl) (by kernel_rfl) (by kernel_rfl) (fun _ _ _ h => h) (Or.inl ⟨by rfl, ?hy31⟩) (by assumption) ?rest31
        case hy31 => (intro w hSw; (try dsimp only at hSw); (try simp only [List.getElem_toArray, List.getElem_cons_zero, List.getElem_cons_succ]); go_simp <;> with_reducible rfl)
        try simp only [List.getElem_toArray, List.getElem_cons_zero, List.getElem_cons_succ, Act.put, List.setIfInBounds_toArray, List.set_cons_zero, List.set_cons_succ]
        refine wpAnyH_done (by kernel_rfl) ?_ _
        clear hHeld
        go_wp2
        go_ret
        exact ⟨rfl, HB2.out.trans (HBLE.out.mono HB2.out.size)⟩
    · clear hrb
      go_wp2_with fail
      refine (specMaskValid tA tc L mA mc R w1 HGT.out (by omega) HGM.out (by omega)).mono ?_
      rintro e w2 ⟨hrb2, hb2⟩
      obtain rfl := hrb2.isFalse HGD.out
      go_wp2
      go_ret
      exact ⟨rfl, HB1.out.trans (hb2.mono HB1.out.size)⟩
  · have hbig2 : 1048576 < bs.length := by omega
    go_enter Try.func5, Try.ntmps5
    go_wp2
    go_ret
    exact ⟨rfl, Below.refl _ _⟩
end Go.Proofs.Ytfhidimmaeiiaaa.WFnMask
