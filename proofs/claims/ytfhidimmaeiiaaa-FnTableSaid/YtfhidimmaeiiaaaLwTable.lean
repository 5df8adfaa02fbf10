/- FnTable, walked. -/
import Derived.Test.YtfhidimmaeiiaaaDrwTable
import Derived.Test.YtfhidimmaeiiaaaCopyI
import Derived.Test.YtfhidimmaeiiaaaCutG
import Derived.Test.YtfhidimmaeiiaaaOnto
namespace Go.Proofs.Ytfhidimmaeiiaaa.WFnTable
open Go.RowKit
set_option linter.unusedVariables false
set_option linter.unusedSimpArgs false

set_option maxRecDepth 100000 in
set_option maxHeartbeats 8000000 in
theorem walk (w : World) (A : Option Addr) (c : Nat) (bs : List Int) (hn : bs.length ≤ 9223372036854775807) (hec : bs.length ≤ c ∧ c ≤ 9223372036854775807) (hg : Rds w w.heap.size 1 A bs.length (bs.map (Value.int .u8))) (hb : ∀ z ∈ bs, 0 ≤ z ∧ z ≤ 255) (A9 : Option Addr) (c9 : Nat) (ms : List Int) (hn9 : ms.length ≤ 9223372036854775807) (hec9 : ms.length ≤ c9 ∧ c9 ≤ 9223372036854775807) (hg9 : Rds w w.heap.size 1 A9 ms.length (ms.map (Value.int .u8))) (hb9 : ∀ z ∈ ms, 0 ≤ z ∧ z ≤ 255) : Calls Try.prog 4 #[.slice A bs.length c, .slice A9 ms.length c9] w fun e w' => e = .returned (.bool true) ∧ Below w.heap.size w w' := by
  have hB : Byt w A c bs := ⟨hg, hec.1, hec.2, hb⟩
  clear hg hb
  by_cases hbig : bs.length ≤ 1048576 ∧ ms.length ≤ 1048576
  · obtain ⟨hbig, hbm⟩ := hbig
    go_enter Try.func4, Try.ntmps4
    go_wp2_with fail
    refine (specDrawTableValid A c bs w hB).mono ?_
    rintro e w1 ⟨A1, c1, L, rfl, hl8, hl4, hG, hlc, hcm, hb1⟩
    have HG := Lib.hid hG
    have HB1 := Lib.hid hb1
    have HL4 := Lib.hid hl4
    clear hB hG hb1 hl4
    go_wp2_with fail
    refine (implTableValid _ _ L w1 HG.out (by omega)).mono ?_
    rintro e w' ⟨hrb, rfl⟩
    rcases hrb.split with ⟨rfl, HGD⟩ | ⟨rfl, HGD⟩
    · clear hrb
      go_wp2_with fail
      refine (specTableValid _ _ L w1 HG.out (by omega)).mono ?_
      rintro e w2 ⟨hrb2, hb2⟩
      obtain rfl := hrb2.isTrue HGD.out
      have HG2 := Lib.hid ((HG.out.below hb2).more hb2.size)
      have HB2 := Lib.hid (HB1.out.trans (hb2.mono HB1.out.size))
      clear hrb2 hb2 HG HB1
      obtain ⟨r0, hr0, hL1, hL4, hr1, hr4, hrl⟩ : ∃ r0, L[0]? = some r0 ∧ 1 ≤ L.length ∧ L.length ≤ 4 ∧ 1 ≤ r0.length ∧ r0.length ≤ 4 ∧ ∀ r ∈ L, r.length = r0.length := by
        obtain ⟨r0, rest, rfl, h1, h2, h3⟩ := HGD.out
        exact ⟨r0, rfl, by simp, h1, h2.1, h2.2, fun r hr => (h3 r hr).1⟩
      have HRL := Lib.hid hrl
      have HR0 := Lib.hid hr0
      obtain ⟨q, hq, hql⟩ : ∃ q : Nat, (ms.length : Int) % (L.length : Int) = q ∧ q < L.length := ⟨ms.length % L.length, by simp, Nat.mod_lt _ (by omega)⟩
      clear hrl hr0
      obtain ⟨j0, hj, hy0, hy1, hy2⟩ := info_parts infoIs
      obtain ⟨k0, hk, hx0, hx1, hx2⟩ := info_parts infoIn
      have HLL : Hid (∀ r ∈ L, 1 ≤ r.length ∧ r.length ≤ 1000) := fun r hr => by rw [HRL.out r hr]; omega
      obtain ⟨tb, toff, A', c6, rfl, htb, htc, hlc6, hcm6, hR⟩ := HG2.out.at_ (k := 0) (r := r0.map (Value.int .i64)) (by rw [List.getElem?_map, HR0.out]; rfl)
      simp only [List.length_map, Nat.add_zero] at htc hlc6 hR
      unfold maxLen at hcm6
      obtain ⟨b6, off6, rfl, hb6, -⟩ := hR.2 (by omega)
      have HR6 := Lib.hid hR
      have HTB := Lib.hid htb
      have HTC := Lib.hid htc
      have hL0 : 0 < L.length := by omega
      have hS : w2.drew.cell? ⟨tb, toff, none⟩ = some (.slice (some ⟨b6, off6, none⟩) r0.length c6) := htc
      clear hR htb htc hb6
      go_wp2_with fail
      refine wp_region_held_drew (S := fun w' => w'.cell? ⟨tb, toff, none⟩ = some (.slice (some ⟨b6, off6, none⟩) r0.length c6)) (by kernel_rfl) hS (fun hHeld => ?_)
      have HBL3 : Hid (Below w2.heap.size w2 w2.drew) := (Below.refl _ _).drew
      have HS3 : Hid (w2.heap.size ≤ w2.drew.heap.size) := HBL3.out.size
      generalize w2.drew = w3 at *
      clear hS
      refine wpAnyH_take (i := 0) (v := ?vv1) rfl (by kernel_rfl) (by kernel_rfl) (by kernel_rfl) (fun _ _ _ h => h) (Or.inl ⟨by rfl, ?hy1⟩) (by assumption) ?rest1
      case hy1 => (intro w hSw; (try dsimp only at hSw); (try simp only [List.getElem_toArray, List.getElem_cons_zero, List.getElem_cons_succ]); go_simp <;> with_reducible rfl)
      try simp only [List.getElem_toArray, List.getElem_cons_zero, List.getElem_cons_succ, Act.put, List.setIfInBounds_toArray, List.set_cons_zero, List.set_cons_succ]
      refine wpAnyH_take (i := 3) (v := ?vv2) rfl (by kernel_rfl) (by kernel_rfl) (by kernel_rfl) (fun _ _ _ h => h) (Or.inl ⟨by rfl, ?hy2⟩) (by assumption) ?rest2
      case hy2 => (intro w hSw; (try dsimp only at hSw); (try simp only [List.getElem_toArray, List.getElem_cons_zero, List.getElem_cons_succ]); go_simp <;> with_reducible rfl)
      try simp only [List.getElem_toArray, List.getElem_cons_zero, List.getElem_cons_succ, Act.put, List.setIfInBounds_toArray, List.set_cons_zero, List.set_cons_succ]
      refine wpAnyH_take (i := 4) (v := ?vv3) rfl (by kernel_rfl) (by kernel_rfl) (by kernel_rfl) (fun _ _ _ h => h) (Or.inl ⟨by rfl, ?hy3⟩) (by assumption) ?rest3
      case hy3 => (intro w hSw; (try dsimp only at hSw); (try simp only [List.getElem_toArray, List.getElem_cons_zero, List.getElem_cons_succ]); go_simp <;> with_reducible rfl)
      try simp only [List.getElem_toArray, List.getElem_cons_zero, List.getElem_cons_succ, Act.put, List.setIfInBounds_toArray, List.set_cons_zero, List.set_cons_succ]
      refine wpAnyH_take (i := 5) (v := ?vv4) rfl (by kernel_rfl) (by kernel_rfl) (by kernel_rfl) (fun _ _ _ h => h) (Or.inl ⟨by rfl, ?hy4⟩) (by assumption) ?rest4
      case hy4 => (intro w hSw; (try dsimp only at hSw); (try simp only [List.getElem_toArray, List.getElem_cons_zero, List.getElem_cons_succ]); go_simp <;> with_reducible rfl)
      try simp only [List.getElem_toArray, List.getElem_cons_zero, List.getElem_cons_succ, Act.put, List.setIfInBounds_toArray, List.set_cons_zero, List.set_cons_succ]
      refine wpAnyH_ready (rs := [1,2,7]) (by kernel_rfl) (by simp) ?_
      refine AllReadyH.cons rfl (fun K hK => ?_) ?_
      · go_simp
        refine (lawCopyI _ c1 L w3 ((HG2.out.below HBL3.out).more HBL3.out.size) (by omega) HLL.out).mono ?_
        rintro e w4 ⟨v42, rfl, hv42, hb42⟩
        have HC4 := Lib.hid (CP.mk hv42)
        have HBL4 := Lib.hid (HBL3.out.trans (hb42.mono HBL3.out.size))
        have HS4 := Lib.hid hb42.size
        clear hv42 hb42 HBL3
        dsimp only
        refine hK.out _ _ (((HBL4.out.cell (p := ⟨tb, toff, none⟩) HTB.out).trans HTC.out)) (fun hHeld => ?_)
        clear hK K
        try simp only [List.getElem_toArray, List.getElem_cons_zero, List.getElem_cons_succ, Act.put, List.setIfInBounds_toArray, List.set_cons_zero, List.set_cons_succ]
        refine wpAnyH_ready (rs := [2,7]) (by kernel_rfl) (by simp) ?_
        refine AllReadyH.cons rfl (fun K hK => ?_) ?_
        · go_simp
          have HBL5 : Hid (Below w2.heap.size w2 (w4.alloc (.cells #[] 3))) := HBL4.out.alloc HBL4.out.size _
          have HS5 : Hid (w4.heap.size + 1 = (w4.alloc (.cells #[] 3)).heap.size) := (World.size_alloc _ _).symm
          have HE5 : Hid ((w4.alloc (.cells #[] 3)).ownsRow w2.heap.size 3 1 (.slice (some ⟨w4.heap.size, 0, none⟩) 0 0) 0 []) := ownBlkN (Blk.new w4 _ #[]) rfl HBL4.out.size (by unfold maxLen; omega)
          have HC5 := Lib.hid (HC4.out.alloc (.cells #[] 3))
          refine hK.out _ _ (((HBL5.out.cell (p := ⟨tb, toff, none⟩) HTB.out).trans HTC.out)) (fun hHeld => ?_)
          clear hK K
          try simp only [List.getElem_toArray, List.getElem_cons_zero, List.getElem_cons_succ, Act.put, List.setIfInBounds_toArray, List.set_cons_zero, List.set_cons_succ]
          clear HBL4 HC4
          generalize w4.alloc (.cells #[] 3) = w5 at *
          refine wpAnyH_ready (rs := [6,7]) (by kernel_rfl) (by simp) ?_
          refine AllReadyH.cons rfl (fun K hK => ?_) ?_
          · refine step_append_at (by rfl) _ _ 31 (by rfl) w2.heap.size 3 k0 _ 1 8 Try.underlying31 hk hx0 hx1 hx2 rfl (by decide) _ _ _ (by rfl) HE5.out ⟨b6, off6, none⟩ r0.length c6 (r0.map (Value.int .i64)) (by rfl) (by simp) (newsCopyI HR6.out (fun b o hb => HBL5.out.cell (p := ⟨b, o, none⟩) hb)) (by simp [Value.oneCell']) (by unfold maxLen; omega) (by omega) HBL5.out.size ?_
            intro v47 w6 hown hgr hl
            have HF6 : Hid (w6.ownsRow w2.heap.size 3 1 v47 r0.length (r0.map (Value.int .i64))) := by unfold Hid; simpa using hown
            have HQ6 : Hid (∀ q, v47.ownBlock = some q → q = w4.heap.size ∨ q = w5.heap.size) := fun q e => by rcases hl with h | h <;> rw [h] at e <;> simp [Value.ownBlock] at e <;> omega
            have hrow : ∀ q, (Value.slice (some ⟨w4.heap.size, 0, none⟩) 0 0).ownBlock = some q → q = w4.heap.size := fun q e => by simp [Value.ownBlock] at e; exact e.symm
            have HS6 := Lib.hid hgr.size
            have HC6 := Lib.hid (HC5.out.grown hgr (fun q e => by have := hrow q e; have := HS3.out; have := HS4.out; have := HS5.out; omega))
            have HBL6 := Lib.hid (HBL5.out.grown hgr HBL5.out.size (fun q e => by have := hrow q e; have := HS3.out; have := HS4.out; have := HS5.out; omega))
            clear hown hgr hl hrow HBL5 HC5 HE5
            refine hK.out _ _ (((HBL6.out.cell (p := ⟨tb, toff, none⟩) HTB.out).trans HTC.out)) (fun hHeld => ?_)
            clear hK K
            try simp only [List.getElem_toArray, List.getElem_cons_zero, List.getElem_cons_succ, Act.put, List.setIfInBounds_toArray, List.set_cons_zero, List.set_cons_succ]
            refine wpAnyH_ready (rs := [7]) (by kernel_rfl) (by simp) ?_
            refine AllReadyH.cons rfl (fun K hK => ?_) AllReadyH.nil
            go_simp
            have HBL7 : Hid (Below w2.heap.size w2 (w6.alloc (.cells #[.int .i64 0] 3))) := HBL6.out.alloc HBL6.out.size _
            have HS7 : Hid (w6.heap.size + 1 = (w6.alloc (.cells #[.int .i64 0] 3)).heap.size) := (World.size_alloc _ _).symm
            have HZ7 : Hid (Blk (w6.alloc (.cells #[.int .i64 0] 3)) w6.heap.size 3 [.int .i64 0]) := Blk.new w6 _ _
            have HC7 := Lib.hid (HC6.out.alloc (.cells #[.int .i64 0] 3))
            have HF7 := Lib.hid (World.ownsRow.alloc HF6.out (.cells #[.int .i64 0] 3))
            refine hK.out _ _ (((HBL7.out.cell (p := ⟨tb, toff, none⟩) HTB.out).trans HTC.out)) (fun hHeld => ?_)
            clear hK K
            try simp only [List.getElem_toArray, List.getElem_cons_zero, List.getElem_cons_succ, Act.put, List.setIfInBounds_toArray, List.set_cons_zero, List.set_cons_succ]
            clear HBL6 HC6 HF6
            generalize w6.alloc (.cells #[.int .i64 0] 3) = w7 at *
            refine wpAnyH_ready (rs := [8]) (by kernel_rfl) (by simp) ?_
            refine AllReadyH.cons rfl (fun K hK => ?_) AllReadyH.nil
            refine step_append_at (by rfl) _ _ 31 (by rfl) w2.heap.size 3 k0 _ 1 8 Try.underlying31 hk hx0 hx1 hx2 rfl (by decide) _ _ _ (by rfl) HF7.out ⟨w6.heap.size, 0, none⟩ 1 1 [.int .i64 0] (by rfl) rfl (newsBlk HZ7.out) (by simp [Value.oneCell']) (by unfold maxLen; omega) (by omega) HBL7.out.size ?_
            intro v49 w8 hown hgr hl
            have HF8 : Hid (w8.ownsRow w2.heap.size 3 1 v49 (r0.length + 1) ((r0 ++ [0]).map (Value.int .i64))) := by unfold Hid; rw [List.map_append]; exact hown
            have HQ8 : Hid (∀ q, v49.ownBlock = some q → q = w4.heap.size ∨ q = w5.heap.size ∨ q = w7.heap.size) := fun q e => by (rcases hl with h | h); (· rw [h] at e; rcases HQ6.out q e with h1 | h1 <;> omega); (· rw [h] at e; cases e; omega)
            have HS8 := Lib.hid hgr.size
            have HC8 := Lib.hid (HC7.out.grown hgr (fun q e => by rcases HQ6.out q e with h1 | h1 <;> (have := HS3.out; have := HS4.out; have := HS5.out; have := HS6.out; have := HS7.out; omega)))
            have HBL8 := Lib.hid (HBL7.out.grown hgr HBL7.out.size (fun q e => by rcases HQ6.out q e with h1 | h1 <;> (have := HS3.out; have := HS4.out; have := HS5.out; have := HS6.out; have := HS7.out; omega)))
            obtain ⟨A49, c49, rfl, -, -, -⟩ := own_rds HF8.out (by simp)
            clear hown hgr hl HBL7 HC7 HF7 HZ7 HQ6
            refine hK.out _ _ (((HBL8.out.cell (p := ⟨tb, toff, none⟩) HTB.out).trans HTC.out)) (fun hHeld => ?_)
            clear hK K
            try simp only [List.getElem_toArray, List.getElem_cons_zero, List.getElem_cons_succ, Act.put, List.setIfInBounds_toArray, List.set_cons_zero, List.set_cons_succ]
            refine wpAnyH_ready (rs := [9]) (by kernel_rfl) (by simp) ?_
            refine AllReadyH.cons rfl (fun K hK => ?_) AllReadyH.nil
            go_simp
            refine hK.out _ _ ((((HBL8.out.alloc HBL8.out.size _).cell (p := ⟨tb, toff, none⟩) HTB.out).trans HTC.out)) (fun hHeld => ?_)
            clear hK K
            try simp only [List.getElem_toArray, List.getElem_cons_zero, List.getElem_cons_succ, Act.put, List.setIfInBounds_toArray, List.set_cons_zero, List.set_cons_succ]
            obtain ⟨hs, hho, honto⟩ := HC8.out.onto HF8.out (by simp) (fun q e => by rcases HQ8.out q e with h1 | h1 | h1 <;> (have := HS3.out; have := HS4.out; have := HS5.out; have := HS6.out; have := HS7.out; have := HS8.out; omega))
            have HON := Lib.hid honto
            clear honto
            refine wpAnyH_ready (rs := [10]) (by kernel_rfl) (by simp) ?_
            refine AllReadyH.cons rfl (fun K hK => ?_) AllReadyH.nil
            refine step_append_at (by rfl) _ _ 27 (by rfl) w3.heap.size 31 j0 _ 1 24 Try.underlying27 hj hy0 hy1 hy2 rfl (by decide) _ _ _ (by rfl) (World.ownsRow.alloc hho _) ⟨w8.heap.size, 0, none⟩ 1 1 [_] (by rfl) rfl (cellN _ _ _ _ rfl) (by simp [Value.oneCell']) (by unfold maxLen; simp; omega) (by simp; omega) (by simp; have := HS3.out; have := HS4.out; have := HS5.out; have := HS6.out; have := HS7.out; have := HS8.out; omega) ?_
            intro v51 w9 hown hgr _
            obtain ⟨A5, c5, L5, rfl, hG5, hL5, hl5, hm5⟩ := HON.out w9 v51 _ hown hgr
            have HG5 := Lib.hid hG5
            have HL5 := Lib.hid hL5
            have HBL9 := Lib.hid ((HBL8.out.alloc HBL8.out.size _).grown hgr (by have := HBL8.out.size; simp; omega) (fun q e => by have := HC8.out.base_le q e; have := HS3.out; have := HS4.out; have := HS5.out; have := HS6.out; have := HS7.out; have := HS8.out; omega))
            clear hown hgr hho HON HC8 HF8 HQ8 hG5 hL5 HBL8
            refine hK.out _ _ (((HBL9.out.cell (p := ⟨tb, toff, none⟩) HTB.out).trans HTC.out)) (fun hHeld => ?_)
            clear hK K
            try simp only [List.getElem_toArray, List.getElem_cons_zero, List.getElem_cons_succ, Act.put, List.setIfInBounds_toArray, List.set_cons_zero, List.set_cons_succ]
            refine wpAnyH_take (i := 11) (v := ?vv5) rfl (by kernel_rfl) (by kernel_rfl) (by kernel_rfl) (fun _ _ _ h => h) (Or.inl ⟨by rfl, ?hy5⟩) (by assumption) ?rest5
            case hy5 => (intro w hSw; (try dsimp only at hSw); (try simp only [List.getElem_toArray, List.getElem_cons_zero, List.getElem_cons_succ]); go_simp <;> with_reducible rfl)
            try simp only [List.getElem_toArray, List.getElem_cons_zero, List.getElem_cons_succ, Act.put, List.setIfInBounds_toArray, List.set_cons_zero, List.set_cons_succ]
            refine wpAnyH_done (by kernel_rfl) ?_ _
            clear hHeld
            have HB5 := HBL9
            clear HBL9
            go_wp2_with fail
            refine (lawCopyI _ c1 L w9 ((HG2.out.below HB5.out).more HB5.out.size) (by omega) HLL.out).mono ?_
            rintro e w20 ⟨v20, rfl, hv20, hb20⟩
            have hni : (L.map List.length)[q]? = some r0.length := by rw [List.getElem?_map, List.getElem?_eq_getElem hql, Option.map_some, HRL.out _ (List.getElem_mem hql)]
            obtain ⟨yg, yc, rfl, hyb, hyl, hyc, hym, hyf⟩ := hv20.head (by rw [List.length_map]; omega)
            obtain ⟨yr, hyr, hrv⟩ := hv20.cell hni
            obtain ⟨yb, yc2, rfl, hyb1, hyb2, hyl1, hym1, hyne, hycs⟩ := hrv.at_ hr1
            obtain ⟨⟨y0, hcy⟩, hfy⟩ := hycs 0 hr1
            have hyn : yb ≠ yg := fun e => hyne (by rw [e]; rfl)
            have hb21 : Below (w9).heap.size w9 (w20.setCell ⟨yb, 0, none⟩ (.int .i64 (-1))) := hb20.grown (grown_set w20 yb 0 (.int .i64 (-1))) hb20.size (fun k e => by cases e; exact hyb1)
            have HB21 := Lib.hid (HB5.out.trans (hb21.mono HB5.out.size))
            have HX21 := Lib.hid ((HG5.out.below hb21).more hb21.size)
            have HT21 := Lib.hid ((HG2.out.below HB21.out).more HB21.out.size)
            have hcy21 : (w20.setCell ⟨yb, 0, none⟩ (.int .i64 (-1))).cell? ⟨yg, q, none⟩ = some (.slice (some ⟨yb, 0, none⟩) r0.length yc2) := (World.cell?_setCell_far _ _ _ _ (by simpa using hyn)).trans hyr
            obtain ⟨Ly, ry, hlyn, hGy, hLyq, hry0⟩ := VG.stored (f := Value.int .i64) (z := -1) (fun x y h => by cases h; rfl) (hv20.store (x := -1) hni hyr hr1) hni hcy21 hr1 (World.cell?_setCell_same _ _ _ hcy)
            have HGY := Lib.hid hGy
            have HBAD := Lib.hid (badT_neg hLyq hry0 (by decide))
            rw [List.length_map] at hlyn hyc ⊢
            have HLY := Lib.hid hlyn
            clear hlyn hGy hLyq hry0 hcy21 hb21 hv20 hrv hycs hyb hyl hyf hyb1 hyb2 hyne hb20 hni
            unfold maxLen at hym hym1
            have hq0 : (0 : Int) ≤ (q : Int) := Int.natCast_nonneg _
            have hq1 : (q : Int) < (L.length : Int) := by omega
            have hr00 : 0 < r0.length := by omega
            go_wp2_with fail
            have hGT := HT21.out.takeN (1 + q)
            rw [← List.map_take] at hGT
            have HGT := Lib.hid hGT
            have HTL := Lib.hid (show 1 + q = (L.take (1 + q)).length by rw [List.length_take]; omega)
            have HL5N := Lib.hid (show L5.length = L.length + 1 by have := congrArg List.length HL5.out; simpa using this)
            clear hGT hcy hfy hyr
            generalize w20.setCell ⟨yb, 0, none⟩ (.int .i64 (-1)) = w21 at *
            refine (implTableValidN _ _ _ (L.take (1 + q)) w21 HGT.out HTL.out (by omega)).mono ?_
            rintro e w9x ⟨hrb, rfl⟩
            obtain rfl := hrb.isTrue (goodT_take HGD.out (by omega))
            clear hrb
            go_wp2_with fail
            refine (implTableValidN _ _ _ L5 w21 HX21.out rfl (by rw [HL5N.out]; omega)).mono ?_
            rintro e w9x ⟨hrb, rfl⟩
            obtain rfl := hrb.isFalse (badT_len HR0.out HL5.out (by omega))
            clear hrb
            go_wp2_with fail
            refine (implTableValidN _ _ _ Ly w21 HGY.out HLY.out.symm (by omega)).mono ?_
            rintro e w9x ⟨hrb, rfl⟩
            obtain rfl := hrb.isFalse HBAD.out
            clear hrb
            go_wp2
            go_ret
            exact ⟨rfl, HB2.out.trans (HB21.out.mono HB2.out.size)⟩
          refine AllReadyH.cons rfl (fun K hK => ?_) AllReadyH.nil
          · go_simp
            have HBL10 : Hid (Below w2.heap.size w2 (w5.alloc (.cells #[.int .i64 0] 3))) := HBL5.out.alloc HBL5.out.size _
            have HS10 : Hid (w5.heap.size + 1 = (w5.alloc (.cells #[.int .i64 0] 3)).heap.size) := (World.size_alloc _ _).symm
            have HE10 := Lib.hid (World.ownsRow.alloc HE5.out (.cells #[.int .i64 0] 3))
            have HZ10 : Hid (Blk (w5.alloc (.cells #[.int .i64 0] 3)) w5.heap.size 3 [.int .i64 0]) := Blk.new w5 _ _
            have HC10 := Lib.hid (HC5.out.alloc (.cells #[.int .i64 0] 3))
            refine hK.out _ _ (((HBL10.out.cell (p := ⟨tb, toff, none⟩) HTB.out).trans HTC.out)) (fun hHeld => ?_)
            clear hK K
            try simp only [List.getElem_toArray, List.getElem_cons_zero, List.getElem_cons_succ, Act.put, List.setIfInBounds_toArray, List.set_cons_zero, List.set_cons_succ]
            clear HBL5 HE5 HC5
            generalize w5.alloc (.cells #[.int .i64 0] 3) = w10 at *
            refine wpAnyH_ready (rs := [6]) (by kernel_rfl) (by simp) ?_
            refine AllReadyH.cons rfl (fun K hK => ?_) AllReadyH.nil
            refine step_append_at (by rfl) _ _ 31 (by rfl) w2.heap.size 3 k0 _ 1 8 Try.underlying31 hk hx0 hx1 hx2 rfl (by decide) _ _ _ (by rfl) HE10.out ⟨b6, off6, none⟩ r0.length c6 (r0.map (Value.int .i64)) (by rfl) (by simp) (newsCopyI HR6.out (fun b o hb => HBL10.out.cell (p := ⟨b, o, none⟩) hb)) (by simp [Value.oneCell']) (by unfold maxLen; omega) (by omega) HBL10.out.size ?_
            intro v47 w11 hown hgr hl
            have HF11 : Hid (w11.ownsRow w2.heap.size 3 1 v47 r0.length (r0.map (Value.int .i64))) := by unfold Hid; simpa using hown
            have HQ11 : Hid (∀ q, v47.ownBlock = some q → q = w4.heap.size ∨ q = w10.heap.size) := fun q e => by rcases hl with h | h <;> rw [h] at e <;> simp [Value.ownBlock] at e <;> omega
            have hrow : ∀ q, (Value.slice (some ⟨w4.heap.size, 0, none⟩) 0 0).ownBlock = some q → q = w4.heap.size := fun q e => by simp [Value.ownBlock] at e; exact e.symm
            have HS11 := Lib.hid hgr.size
            have HC11 := Lib.hid (HC10.out.grown hgr (fun q e => by have := hrow q e; have := HS3.out; have := HS4.out; have := HS5.out; have := HS10.out; omega))
            have HZ11 := Lib.hid (HZ10.out.of (hgr.block _ HZ10.out.lt (fun e => by have := hrow _ e.symm; have := HS3.out; have := HS4.out; have := HS5.out; have := HS10.out; omega)))
            have HBL11 := Lib.hid (HBL10.out.grown hgr HBL10.out.size (fun q e => by have := hrow q e; have := HS3.out; have := HS4.out; have := HS5.out; have := HS10.out; omega))
            clear hown hgr hl hrow HBL10 HC10 HE10 HZ10
            refine hK.out _ _ (((HBL11.out.cell (p := ⟨tb, toff, none⟩) HTB.out).trans HTC.out)) (fun hHeld => ?_)
            clear hK K
            try simp only [List.getElem_toArray, List.getElem_cons_zero, List.getElem_cons_succ, Act.put, List.setIfInBounds_toArray, List.set_cons_zero, List.set_cons_succ]
            refine wpAnyH_ready (rs := [8]) (by kernel_rfl) (by simp) ?_
            refine AllReadyH.cons rfl (fun K hK => ?_) AllReadyH.nil
            refine step_append_at (by rfl) _ _ 31 (by rfl) w2.heap.size 3 k0 _ 1 8 Try.underlying31 hk hx0 hx1 hx2 rfl (by decide) _ _ _ (by rfl) HF11.out ⟨w5.heap.size, 0, none⟩ 1 1 [.int .i64 0] (by rfl) rfl (newsBlk HZ11.out) (by simp [Value.oneCell']) (by unfold maxLen; omega) (by omega) HBL11.out.size ?_
            intro v49 w12 hown hgr hl
            have HF12 : Hid (w12.ownsRow w2.heap.size 3 1 v49 (r0.length + 1) ((r0 ++ [0]).map (Value.int .i64))) := by unfold Hid; rw [List.map_append]; exact hown
            have HQ12 : Hid (∀ q, v49.ownBlock = some q → q = w4.heap.size ∨ q = w10.heap.size ∨ q = w11.heap.size) := fun q e => by (rcases hl with h | h); (· rw [h] at e; rcases HQ11.out q e with h1 | h1 <;> omega); (· rw [h] at e; cases e; omega)
            have HS12 := Lib.hid hgr.size
            have HC12 := Lib.hid (HC11.out.grown hgr (fun q e => by rcases HQ11.out q e with h1 | h1 <;> (have := HS3.out; have := HS4.out; have := HS5.out; have := HS10.out; have := HS11.out; omega)))
            have HBL12 := Lib.hid (HBL11.out.grown hgr HBL11.out.size (fun q e => by rcases HQ11.out q e with h1 | h1 <;> (have := HS3.out; have := HS4.out; have := HS5.out; have := HS10.out; have := HS11.out; omega)))
            obtain ⟨A49, c49, rfl, -, -, -⟩ := own_rds HF12.out (by simp)
            clear hown hgr hl HBL11 HC11 HF11 HZ11 HQ11
            refine hK.out _ _ (((HBL12.out.cell (p := ⟨tb, toff, none⟩) HTB.out).trans HTC.out)) (fun hHeld => ?_)
            clear hK K
            try simp only [List.getElem_toArray, List.getElem_cons_zero, List.getElem_cons_succ, Act.put, List.setIfInBounds_toArray, List.set_cons_zero, List.set_cons_succ]
            refine wpAnyH_ready (rs := [9]) (by kernel_rfl) (by simp) ?_
            refine AllReadyH.cons rfl (fun K hK => ?_) AllReadyH.nil
            go_simp
            refine hK.out _ _ ((((HBL12.out.alloc HBL12.out.size _).cell (p := ⟨tb, toff, none⟩) HTB.out).trans HTC.out)) (fun hHeld => ?_)
            clear hK K
            try simp only [List.getElem_toArray, List.getElem_cons_zero, List.getElem_cons_succ, Act.put, List.setIfInBounds_toArray, List.set_cons_zero, List.set_cons_succ]
            obtain ⟨hs, hho, honto⟩ := HC12.out.onto HF12.out (by simp) (fun q e => by rcases HQ12.out q e with h1 | h1 | h1 <;> (have := HS3.out; have := HS4.out; have := HS5.out; have := HS10.out; have := HS11.out; have := HS12.out; omega))
            have HON := Lib.hid honto
            clear honto
            refine wpAnyH_ready (rs := [10]) (by kernel_rfl) (by simp) ?_
            refine AllReadyH.cons rfl (fun K hK => ?_) AllReadyH.nil
            refine step_append_at (by rfl) _ _ 27 (by rfl) w3.heap.size 31 j0 _ 1 24 Try.underlying27 hj hy0 hy1 hy2 rfl (by decide) _ _ _ (by rfl) (World.ownsRow.alloc hho _) ⟨w12.heap.size, 0, none⟩ 1 1 [_] (by rfl) rfl (cellN _ _ _ _ rfl) (by simp [Value.oneCell']) (by unfold maxLen; simp; omega) (by simp; omega) (by simp; have := HS3.out; have := HS4.out; have := HS5.out; have := HS10.out; have := HS11.out; have := HS12.out; omega) ?_
            intro v51 w13 hown hgr _
            obtain ⟨A5, c5, L5, rfl, hG5, hL5, hl5, hm5⟩ := HON.out w13 v51 _ hown hgr
            have HG5 := Lib.hid hG5
            have HL5 := Lib.hid hL5
            have HBL13 := Lib.hid ((HBL12.out.alloc HBL12.out.size _).grown hgr (by have := HBL12.out.size; simp; omega) (fun q e => by have := HC12.out.base_le q e; have := HS3.out; have := HS4.out; have := HS5.out; have := HS10.out; have := HS11.out; have := HS12.out; omega))
            clear hown hgr hho HON HC12 HF12 HQ12 hG5 hL5 HBL12
            refine hK.out _ _ (((HBL13.out.cell (p := ⟨tb, toff, none⟩) HTB.out).trans HTC.out)) (fun hHeld => ?_)
            clear hK K
            try simp only [List.getElem_toArray, List.getElem_cons_zero, List.getElem_cons_succ, Act.put, List.setIfInBounds_toArray, List.set_cons_zero, List.set_cons_succ]
            refine wpAnyH_take (i := 11) (v := ?vv6) rfl (by kernel_rfl) (by kernel_rfl) (by kernel_rfl) (fun _ _ _ h => h) (Or.inl ⟨by rfl, ?hy6⟩) (by assumption) ?rest6
            case hy6 => (intro w hSw; (try dsimp only at hSw); (try simp only [List.getElem_toArray, List.getElem_cons_zero, List.getElem_cons_succ]); go_simp <;> with_reducible rfl)
            try simp only [List.getElem_toArray, List.getElem_cons_zero, List.getElem_cons_succ, Act.put, List.setIfInBounds_toArray, List.set_cons_zero, List.set_cons_succ]
            refine wpAnyH_done (by kernel_rfl) ?_ _
            clear hHeld
            have HB5 := HBL13
            clear HBL13
            go_wp2_with fail
            refine (lawCopyI _ c1 L w13 ((HG2.out.below HB5.out).more HB5.out.size) (by omega) HLL.out).mono ?_
            rintro e w20 ⟨v20, rfl, hv20, hb20⟩
            have hni : (L.map List.length)[q]? = some r0.length := by rw [List.getElem?_map, List.getElem?_eq_getElem hql, Option.map_some, HRL.out _ (List.getElem_mem hql)]
            obtain ⟨yg, yc, rfl, hyb, hyl, hyc, hym, hyf⟩ := hv20.head (by rw [List.length_map]; omega)
            obtain ⟨yr, hyr, hrv⟩ := hv20.cell hni
            obtain ⟨yb, yc2, rfl, hyb1, hyb2, hyl1, hym1, hyne, hycs⟩ := hrv.at_ hr1
            obtain ⟨⟨y0, hcy⟩, hfy⟩ := hycs 0 hr1
            have hyn : yb ≠ yg := fun e => hyne (by rw [e]; rfl)
            have hb21 : Below (w13).heap.size w13 (w20.setCell ⟨yb, 0, none⟩ (.int .i64 (-1))) := hb20.grown (grown_set w20 yb 0 (.int .i64 (-1))) hb20.size (fun k e => by cases e; exact hyb1)
            have HB21 := Lib.hid (HB5.out.trans (hb21.mono HB5.out.size))
            have HX21 := Lib.hid ((HG5.out.below hb21).more hb21.size)
            have HT21 := Lib.hid ((HG2.out.below HB21.out).more HB21.out.size)
            have hcy21 : (w20.setCell ⟨yb, 0, none⟩ (.int .i64 (-1))).cell? ⟨yg, q, none⟩ = some (.slice (some ⟨yb, 0, none⟩) r0.length yc2) := (World.cell?_setCell_far _ _ _ _ (by simpa using hyn)).trans hyr
            obtain ⟨Ly, ry, hlyn, hGy, hLyq, hry0⟩ := VG.stored (f := Value.int .i64) (z := -1) (fun x y h => by cases h; rfl) (hv20.store (x := -1) hni hyr hr1) hni hcy21 hr1 (World.cell?_setCell_same _ _ _ hcy)
            have HGY := Lib.hid hGy
            have HBAD := Lib.hid (badT_neg hLyq hry0 (by decide))
            rw [List.length_map] at hlyn hyc ⊢
            have HLY := Lib.hid hlyn
            clear hlyn hGy hLyq hry0 hcy21 hb21 hv20 hrv hycs hyb hyl hyf hyb1 hyb2 hyne hb20 hni
            unfold maxLen at hym hym1
            have hq0 : (0 : Int) ≤ (q : Int) := Int.natCast_nonneg _
            have hq1 : (q : Int) < (L.length : Int) := by omega
            have hr00 : 0 < r0.length := by omega
            go_wp2_with fail
            have hGT := HT21.out.takeN (1 + q)
            rw [← List.map_take] at hGT
            have HGT := Lib.hid hGT
            have HTL := Lib.hid (show 1 + q = (L.take (1 + q)).length by rw [List.length_take]; omega)
            have HL5N := Lib.hid (show L5.length = L.length + 1 by have := congrArg List.length HL5.out; simpa using this)
            clear hGT hcy hfy hyr
            generalize w20.setCell ⟨yb, 0, none⟩ (.int .i64 (-1)) = w21 at *
            refine (implTableValidN _ _ _ (L.take (1 + q)) w21 HGT.out HTL.out (by omega)).mono ?_
            rintro e w9x ⟨hrb, rfl⟩
            obtain rfl := hrb.isTrue (goodT_take HGD.out (by omega))
            clear hrb
            go_wp2_with fail
            refine (implTableValidN _ _ _ L5 w21 HX21.out rfl (by rw [HL5N.out]; omega)).mono ?_
            rintro e w9x ⟨hrb, rfl⟩
            obtain rfl := hrb.isFalse (badT_len HR0.out HL5.out (by omega))
            clear hrb
            go_wp2_with fail
            refine (implTableValidN _ _ _ Ly w21 HGY.out HLY.out.symm (by omega)).mono ?_
            rintro e w9x ⟨hrb, rfl⟩
            obtain rfl := hrb.isFalse HBAD.out
            clear hrb
            go_wp2
            go_ret
            exact ⟨rfl, HB2.out.trans (HB21.out.mono HB2.out.size)⟩
        refine AllReadyH.cons rfl (fun K hK => ?_) AllReadyH.nil
        · go_simp
          have HBL14 : Hid (Below w2.heap.size w2 (w4.alloc (.cells #[.int .i64 0] 3))) := HBL4.out.alloc HBL4.out.size _
          have HS14 : Hid (w4.heap.size + 1 = (w4.alloc (.cells #[.int .i64 0] 3)).heap.size) := (World.size_alloc _ _).symm
          have HZ14 : Hid (Blk (w4.alloc (.cells #[.int .i64 0] 3)) w4.heap.size 3 [.int .i64 0]) := Blk.new w4 _ _
          have HC14 := Lib.hid (HC4.out.alloc (.cells #[.int .i64 0] 3))
          refine hK.out _ _ (((HBL14.out.cell (p := ⟨tb, toff, none⟩) HTB.out).trans HTC.out)) (fun hHeld => ?_)
          clear hK K
          try simp only [List.getElem_toArray, List.getElem_cons_zero, List.getElem_cons_succ, Act.put, List.setIfInBounds_toArray, List.set_cons_zero, List.set_cons_succ]
          clear HBL4 HC4
          generalize w4.alloc (.cells #[.int .i64 0] 3) = w14 at *
          refine wpAnyH_ready (rs := [2]) (by kernel_rfl) (by simp) ?_
          refine AllReadyH.cons rfl (fun K hK => ?_) AllReadyH.nil
          go_simp
          have HBL15 : Hid (Below w2.heap.size w2 (w14.alloc (.cells #[] 3))) := HBL14.out.alloc HBL14.out.size _
          have HS15 : Hid (w14.heap.size + 1 = (w14.alloc (.cells #[] 3)).heap.size) := (World.size_alloc _ _).symm
          have HE15 : Hid ((w14.alloc (.cells #[] 3)).ownsRow w2.heap.size 3 1 (.slice (some ⟨w14.heap.size, 0, none⟩) 0 0) 0 []) := ownBlkN (Blk.new w14 _ #[]) rfl HBL14.out.size (by unfold maxLen; omega)
          have HZ15 := Lib.hid (HZ14.out.alloc (.cells #[] 3))
          have HC15 := Lib.hid (HC14.out.alloc (.cells #[] 3))
          refine hK.out _ _ (((HBL15.out.cell (p := ⟨tb, toff, none⟩) HTB.out).trans HTC.out)) (fun hHeld => ?_)
          clear hK K
          try simp only [List.getElem_toArray, List.getElem_cons_zero, List.getElem_cons_succ, Act.put, List.setIfInBounds_toArray, List.set_cons_zero, List.set_cons_succ]
          clear HBL14 HZ14 HC14
          generalize w14.alloc (.cells #[] 3) = w15 at *
          refine wpAnyH_ready (rs := [6]) (by kernel_rfl) (by simp) ?_
          refine AllReadyH.cons rfl (fun K hK => ?_) AllReadyH.nil
          refine step_append_at (by rfl) _ _ 31 (by rfl) w2.heap.size 3 k0 _ 1 8 Try.underlying31 hk hx0 hx1 hx2 rfl (by decide) _ _ _ (by rfl) HE15.out ⟨b6, off6, none⟩ r0.length c6 (r0.map (Value.int .i64)) (by rfl) (by simp) (newsCopyI HR6.out (fun b o hb => HBL15.out.cell (p := ⟨b, o, none⟩) hb)) (by simp [Value.oneCell']) (by unfold maxLen; omega) (by omega) HBL15.out.size ?_
          intro v47 w16 hown hgr hl
          have HF16 : Hid (w16.ownsRow w2.heap.size 3 1 v47 r0.length (r0.map (Value.int .i64))) := by unfold Hid; simpa using hown
          have HQ16 : Hid (∀ q, v47.ownBlock = some q → q = w14.heap.size ∨ q = w15.heap.size) := fun q e => by rcases hl with h | h <;> rw [h] at e <;> simp [Value.ownBlock] at e <;> omega
          have hrow : ∀ q, (Value.slice (some ⟨w14.heap.size, 0, none⟩) 0 0).ownBlock = some q → q = w14.heap.size := fun q e => by simp [Value.ownBlock] at e; exact e.symm
          have HS16 := Lib.hid hgr.size
          have HC16 := Lib.hid (HC15.out.grown hgr (fun q e => by have := hrow q e; have := HS3.out; have := HS4.out; have := HS14.out; have := HS15.out; omega))
          have HZ16 := Lib.hid (HZ15.out.of (hgr.block _ HZ15.out.lt (fun e => by have := hrow _ e.symm; have := HS3.out; have := HS4.out; have := HS14.out; have := HS15.out; omega)))
          have HBL16 := Lib.hid (HBL15.out.grown hgr HBL15.out.size (fun q e => by have := hrow q e; have := HS3.out; have := HS4.out; have := HS14.out; have := HS15.out; omega))
          clear hown hgr hl hrow HBL15 HC15 HE15 HZ15
          refine hK.out _ _ (((HBL16.out.cell (p := ⟨tb, toff, none⟩) HTB.out).trans HTC.out)) (fun hHeld => ?_)
          clear hK K
          try simp only [List.getElem_toArray, List.getElem_cons_zero, List.getElem_cons_succ, Act.put, List.setIfInBounds_toArray, List.set_cons_zero, List.set_cons_succ]
          refine wpAnyH_ready (rs := [8]) (by kernel_rfl) (by simp) ?_
          refine AllReadyH.cons rfl (fun K hK => ?_) AllReadyH.nil
          refine step_append_at (by rfl) _ _ 31 (by rfl) w2.heap.size 3 k0 _ 1 8 Try.underlying31 hk hx0 hx1 hx2 rfl (by decide) _ _ _ (by rfl) HF16.out ⟨w4.heap.size, 0, none⟩ 1 1 [.int .i64 0] (by rfl) rfl (newsBlk HZ16.out) (by simp [Value.oneCell']) (by unfold maxLen; omega) (by omega) HBL16.out.size ?_
          intro v49 w17 hown hgr hl
          have HF17 : Hid (w17.ownsRow w2.heap.size 3 1 v49 (r0.length + 1) ((r0 ++ [0]).map (Value.int .i64))) := by unfold Hid; rw [List.map_append]; exact hown
          have HQ17 : Hid (∀ q, v49.ownBlock = some q → q = w14.heap.size ∨ q = w15.heap.size ∨ q = w16.heap.size) := fun q e => by (rcases hl with h | h); (· rw [h] at e; rcases HQ16.out q e with h1 | h1 <;> omega); (· rw [h] at e; cases e; omega)
          have HS17 := Lib.hid hgr.size
          have HC17 := Lib.hid (HC16.out.grown hgr (fun q e => by rcases HQ16.out q e with h1 | h1 <;> (have := HS3.out; have := HS4.out; have := HS14.out; have := HS15.out; have := HS16.out; omega)))
          have HBL17 := Lib.hid (HBL16.out.grown hgr HBL16.out.size (fun q e => by rcases HQ16.out q e with h1 | h1 <;> (have := HS3.out; have := HS4.out; have := HS14.out; have := HS15.out; have := HS16.out; omega)))
          obtain ⟨A49, c49, rfl, -, -, -⟩ := own_rds HF17.out (by simp)
          clear hown hgr hl HBL16 HC16 HF16 HZ16 HQ16
          refine hK.out _ _ (((HBL17.out.cell (p := ⟨tb, toff, none⟩) HTB.out).trans HTC.out)) (fun hHeld => ?_)
          clear hK K
          try simp only [List.getElem_toArray, List.getElem_cons_zero, List.getElem_cons_succ, Act.put, List.setIfInBounds_toArray, List.set_cons_zero, List.set_cons_succ]
          refine wpAnyH_ready (rs := [9]) (by kernel_rfl) (by simp) ?_
          refine AllReadyH.cons rfl (fun K hK => ?_) AllReadyH.nil
          go_simp
          refine hK.out _ _ ((((HBL17.out.alloc HBL17.out.size _).cell (p := ⟨tb, toff, none⟩) HTB.out).trans HTC.out)) (fun hHeld => ?_)
          clear hK K
          try simp only [List.getElem_toArray, List.getElem_cons_zero, List.getElem_cons_succ, Act.put, List.setIfInBounds_toArray, List.set_cons_zero, List.set_cons_succ]
          obtain ⟨hs, hho, honto⟩ := HC17.out.onto HF17.out (by simp) (fun q e => by rcases HQ17.out q e with h1 | h1 | h1 <;> (have := HS3.out; have := HS4.out; have := HS14.out; have := HS15.out; have := HS16.out; have := HS17.out; omega))
          have HON := Lib.hid honto
          clear honto
          refine wpAnyH_ready (rs := [10]) (by kernel_rfl) (by simp) ?_
          refine AllReadyH.cons rfl (fun K hK => ?_) AllReadyH.nil
          refine step_append_at (by rfl) _ _ 27 (by rfl) w3.heap.size 31 j0 _ 1 24 Try.underlying27 hj hy0 hy1 hy2 rfl (by decide) _ _ _ (by rfl) (World.ownsRow.alloc hho _) ⟨w17.heap.size, 0, none⟩ 1 1 [_] (by rfl) rfl (cellN _ _ _ _ rfl) (by simp [Value.oneCell']) (by unfold maxLen; simp; omega) (by simp; omega) (by simp; have := HS3.out; have := HS4.out; have := HS14.out; have := HS15.out; have := HS16.out; have := HS17.out; omega) ?_
          intro v51 w18 hown hgr _
          obtain ⟨A5, c5, L5, rfl, hG5, hL5, hl5, hm5⟩ := HON.out w18 v51 _ hown hgr
          have HG5 := Lib.hid hG5
          have HL5 := Lib.hid hL5
          have HBL18 := Lib.hid ((HBL17.out.alloc HBL17.out.size _).grown hgr (by have := HBL17.out.size; simp; omega) (fun q e => by have := HC17.out.base_le q e; have := HS3.out; have := HS4.out; have := HS14.out; have := HS15.out; have := HS16.out; have := HS17.out; omega))
          clear hown hgr hho HON HC17 HF17 HQ17 hG5 hL5 HBL17
          refine hK.out _ _ (((HBL18.out.cell (p := ⟨tb, toff, none⟩) HTB.out).trans HTC.out)) (fun hHeld => ?_)
          clear hK K
          try simp only [List.getElem_toArray, List.getElem_cons_zero, List.getElem_cons_succ, Act.put, List.setIfInBounds_toArray, List.set_cons_zero, List.set_cons_succ]
          refine wpAnyH_take (i := 11) (v := ?vv7) rfl (by kernel_rfl) (by kernel_rfl) (by kernel_rfl) (fun _ _ _ h => h) (Or.inl ⟨by rfl, ?hy7⟩) (by assumption) ?rest7
          case hy7 => (intro w hSw; (try dsimp only at hSw); (try simp only [List.getElem_toArray, List.getElem_cons_zero, List.getElem_cons_succ]); go_simp <;> with_reducible rfl)
          try simp only [List.getElem_toArray, List.getElem_cons_zero, List.getElem_cons_succ, Act.put, List.setIfInBounds_toArray, List.set_cons_zero, List.set_cons_succ]
          refine wpAnyH_done (by kernel_rfl) ?_ _
          clear hHeld
          have HB5 := HBL18
          clear HBL18
          go_wp2_with fail
          refine (lawCopyI _ c1 L w18 ((HG2.out.below HB5.out).more HB5.out.size) (by omega) HLL.out).mono ?_
          rintro e w20 ⟨v20, rfl, hv20, hb20⟩
          have hni : (L.map List.length)[q]? = some r0.length := by rw [List.getElem?_map, List.getElem?_eq_getElem hql, Option.map_some, HRL.out _ (List.getElem_mem hql)]
          obtain ⟨yg, yc, rfl, hyb, hyl, hyc, hym, hyf⟩ := hv20.head (by rw [List.length_map]; omega)
          obtain ⟨yr, hyr, hrv⟩ := hv20.cell hni
          obtain ⟨yb, yc2, rfl, hyb1, hyb2, hyl1, hym1, hyne, hycs⟩ := hrv.at_ hr1
          obtain ⟨⟨y0, hcy⟩, hfy⟩ := hycs 0 hr1
          have hyn : yb ≠ yg := fun e => hyne (by rw [e]; rfl)
          have hb21 : Below (w18).heap.size w18 (w20.setCell ⟨yb, 0, none⟩ (.int .i64 (-1))) := hb20.grown (grown_set w20 yb 0 (.int .i64 (-1))) hb20.size (fun k e => by cases e; exact hyb1)
          have HB21 := Lib.hid (HB5.out.trans (hb21.mono HB5.out.size))
          have HX21 := Lib.hid ((HG5.out.below hb21).more hb21.size)
          have HT21 := Lib.hid ((HG2.out.below HB21.out).more HB21.out.size)
          have hcy21 : (w20.setCell ⟨yb, 0, none⟩ (.int .i64 (-1))).cell? ⟨yg, q, none⟩ = some (.slice (some ⟨yb, 0, none⟩) r0.length yc2) := (World.cell?_setCell_far _ _ _ _ (by simpa using hyn)).trans hyr
          obtain ⟨Ly, ry, hlyn, hGy, hLyq, hry0⟩ := VG.stored (f := Value.int .i64) (z := -1) (fun x y h => by cases h; rfl) (hv20.store (x := -1) hni hyr hr1) hni hcy21 hr1 (World.cell?_setCell_same _ _ _ hcy)
          have HGY := Lib.hid hGy
          have HBAD := Lib.hid (badT_neg hLyq hry0 (by decide))
          rw [List.length_map] at hlyn hyc ⊢
          have HLY := Lib.hid hlyn
          clear hlyn hGy hLyq hry0 hcy21 hb21 hv20 hrv hycs hyb hyl hyf hyb1 hyb2 hyne hb20 hni
          unfold maxLen at hym hym1
          have hq0 : (0 : Int) ≤ (q : Int) := Int.natCast_nonneg _
          have hq1 : (q : Int) < (L.length : Int) := by omega
          have hr00 : 0 < r0.length := by omega
          go_wp2_with fail
          have hGT := HT21.out.takeN (1 + q)
          rw [← List.map_take] at hGT
          have HGT := Lib.hid hGT
          have HTL := Lib.hid (show 1 + q = (L.take (1 + q)).length by rw [List.length_take]; omega)
          have HL5N := Lib.hid (show L5.length = L.length + 1 by have := congrArg List.length HL5.out; simpa using this)
          clear hGT hcy hfy hyr
          generalize w20.setCell ⟨yb, 0, none⟩ (.int .i64 (-1)) = w21 at *
          refine (implTableValidN _ _ _ (L.take (1 + q)) w21 HGT.out HTL.out (by omega)).mono ?_
          rintro e w9x ⟨hrb, rfl⟩
          obtain rfl := hrb.isTrue (goodT_take HGD.out (by omega))
          clear hrb
          go_wp2_with fail
          refine (implTableValidN _ _ _ L5 w21 HX21.out rfl (by rw [HL5N.out]; omega)).mono ?_
          rintro e w9x ⟨hrb, rfl⟩
          obtain rfl := hrb.isFalse (badT_len HR0.out HL5.out (by omega))
          clear hrb
          go_wp2_with fail
          refine (implTableValidN _ _ _ Ly w21 HGY.out HLY.out.symm (by omega)).mono ?_
          rintro e w9x ⟨hrb, rfl⟩
          obtain rfl := hrb.isFalse HBAD.out
          clear hrb
          go_wp2
          go_ret
          exact ⟨rfl, HB2.out.trans (HB21.out.mono HB2.out.size)⟩
      refine AllReadyH.cons rfl (fun K hK => ?_) ?_
      · go_simp
        have HBL19 : Hid (Below w2.heap.size w2 (w3.alloc (.cells #[] 3))) := HBL3.out.alloc HBL3.out.size _
        have HS19 : Hid (w3.heap.size + 1 = (w3.alloc (.cells #[] 3)).heap.size) := (World.size_alloc _ _).symm
        have HE19 : Hid ((w3.alloc (.cells #[] 3)).ownsRow w2.heap.size 3 1 (.slice (some ⟨w3.heap.size, 0, none⟩) 0 0) 0 []) := ownBlkN (Blk.new w3 _ #[]) rfl HBL3.out.size (by unfold maxLen; omega)
        refine hK.out _ _ (((HBL19.out.cell (p := ⟨tb, toff, none⟩) HTB.out).trans HTC.out)) (fun hHeld => ?_)
        clear hK K
        try simp only [List.getElem_toArray, List.getElem_cons_zero, List.getElem_cons_succ, Act.put, List.setIfInBounds_toArray, List.set_cons_zero, List.set_cons_succ]
        clear HBL3
        generalize w3.alloc (.cells #[] 3) = w19 at *
        refine wpAnyH_ready (rs := [1,7]) (by kernel_rfl) (by simp) ?_
        refine AllReadyH.cons rfl (fun K hK => ?_) ?_
        · go_simp
          refine (lawCopyI _ c1 L w19 ((HG2.out.below HBL19.out).more HBL19.out.size) (by omega) HLL.out).mono ?_
          rintro e w20 ⟨v42, rfl, hv42, hb42⟩
          have HC20 := Lib.hid (CP.mk hv42)
          have HBL20 := Lib.hid (HBL19.out.trans (hb42.mono HBL19.out.size))
          have HS20 := Lib.hid hb42.size
          have HE20 := Lib.hid (World.ownsRow.kept HE19.out (belGrown hb42 none) (.inr (by simp [Value.ownBlock])))
          clear hv42 hb42 HBL19 HE19
          dsimp only
          refine hK.out _ _ (((HBL20.out.cell (p := ⟨tb, toff, none⟩) HTB.out).trans HTC.out)) (fun hHeld => ?_)
          clear hK K
          try simp only [List.getElem_toArray, List.getElem_cons_zero, List.getElem_cons_succ, Act.put, List.setIfInBounds_toArray, List.set_cons_zero, List.set_cons_succ]
          refine wpAnyH_ready (rs := [6,7]) (by kernel_rfl) (by simp) ?_
          refine AllReadyH.cons rfl (fun K hK => ?_) ?_
          · refine step_append_at (by rfl) _ _ 31 (by rfl) w2.heap.size 3 k0 _ 1 8 Try.underlying31 hk hx0 hx1 hx2 rfl (by decide) _ _ _ (by rfl) HE20.out ⟨b6, off6, none⟩ r0.length c6 (r0.map (Value.int .i64)) (by rfl) (by simp) (newsCopyI HR6.out (fun b o hb => HBL20.out.cell (p := ⟨b, o, none⟩) hb)) (by simp [Value.oneCell']) (by unfold maxLen; omega) (by omega) HBL20.out.size ?_
            intro v47 w21 hown hgr hl
            have HF21 : Hid (w21.ownsRow w2.heap.size 3 1 v47 r0.length (r0.map (Value.int .i64))) := by unfold Hid; simpa using hown
            have HQ21 : Hid (∀ q, v47.ownBlock = some q → q = w3.heap.size ∨ q = w20.heap.size) := fun q e => by rcases hl with h | h <;> rw [h] at e <;> simp [Value.ownBlock] at e <;> omega
            have hrow : ∀ q, (Value.slice (some ⟨w3.heap.size, 0, none⟩) 0 0).ownBlock = some q → q = w3.heap.size := fun q e => by simp [Value.ownBlock] at e; exact e.symm
            have HS21 := Lib.hid hgr.size
            have HC21 := Lib.hid (HC20.out.grown hgr (fun q e => by have := hrow q e; have := HS3.out; have := HS19.out; have := HS20.out; omega))
            have HBL21 := Lib.hid (HBL20.out.grown hgr HBL20.out.size (fun q e => by have := hrow q e; have := HS3.out; have := HS19.out; have := HS20.out; omega))
            clear hown hgr hl hrow HBL20 HC20 HE20
            refine hK.out _ _ (((HBL21.out.cell (p := ⟨tb, toff, none⟩) HTB.out).trans HTC.out)) (fun hHeld => ?_)
            clear hK K
            try simp only [List.getElem_toArray, List.getElem_cons_zero, List.getElem_cons_succ, Act.put, List.setIfInBounds_toArray, List.set_cons_zero, List.set_cons_succ]
            refine wpAnyH_ready (rs := [7]) (by kernel_rfl) (by simp) ?_
            refine AllReadyH.cons rfl (fun K hK => ?_) AllReadyH.nil
            go_simp
            have HBL22 : Hid (Below w2.heap.size w2 (w21.alloc (.cells #[.int .i64 0] 3))) := HBL21.out.alloc HBL21.out.size _
            have HS22 : Hid (w21.heap.size + 1 = (w21.alloc (.cells #[.int .i64 0] 3)).heap.size) := (World.size_alloc _ _).symm
            have HZ22 : Hid (Blk (w21.alloc (.cells #[.int .i64 0] 3)) w21.heap.size 3 [.int .i64 0]) := Blk.new w21 _ _
            have HC22 := Lib.hid (HC21.out.alloc (.cells #[.int .i64 0] 3))
            have HF22 := Lib.hid (World.ownsRow.alloc HF21.out (.cells #[.int .i64 0] 3))
            refine hK.out _ _ (((HBL22.out.cell (p := ⟨tb, toff, none⟩) HTB.out).trans HTC.out)) (fun hHeld => ?_)
            clear hK K
            try simp only [List.getElem_toArray, List.getElem_cons_zero, List.getElem_cons_succ, Act.put, List.setIfInBounds_toArray, List.set_cons_zero, List.set_cons_succ]
            clear HBL21 HC21 HF21
            generalize w21.alloc (.cells #[.int .i64 0] 3) = w22 at *
            refine wpAnyH_ready (rs := [8]) (by kernel_rfl) (by simp) ?_
            refine AllReadyH.cons rfl (fun K hK => ?_) AllReadyH.nil
            refine step_append_at (by rfl) _ _ 31 (by rfl) w2.heap.size 3 k0 _ 1 8 Try.underlying31 hk hx0 hx1 hx2 rfl (by decide) _ _ _ (by rfl) HF22.out ⟨w21.heap.size, 0, none⟩ 1 1 [.int .i64 0] (by rfl) rfl (newsBlk HZ22.out) (by simp [Value.oneCell']) (by unfold maxLen; omega) (by omega) HBL22.out.size ?_
            intro v49 w23 hown hgr hl
            have HF23 : Hid (w23.ownsRow w2.heap.size 3 1 v49 (r0.length + 1) ((r0 ++ [0]).map (Value.int .i64))) := by unfold Hid; rw [List.map_append]; exact hown
            have HQ23 : Hid (∀ q, v49.ownBlock = some q → q = w3.heap.size ∨ q = w20.heap.size ∨ q = w22.heap.size) := fun q e => by (rcases hl with h | h); (· rw [h] at e; rcases HQ21.out q e with h1 | h1 <;> omega); (· rw [h] at e; cases e; omega)
            have HS23 := Lib.hid hgr.size
            have HC23 := Lib.hid (HC22.out.grown hgr (fun q e => by rcases HQ21.out q e with h1 | h1 <;> (have := HS3.out; have := HS19.out; have := HS20.out; have := HS21.out; have := HS22.out; omega)))
            have HBL23 := Lib.hid (HBL22.out.grown hgr HBL22.out.size (fun q e => by rcases HQ21.out q e with h1 | h1 <;> (have := HS3.out; have := HS19.out; have := HS20.out; have := HS21.out; have := HS22.out; omega)))
            obtain ⟨A49, c49, rfl, -, -, -⟩ := own_rds HF23.out (by simp)
            clear hown hgr hl HBL22 HC22 HF22 HZ22 HQ21
            refine hK.out _ _ (((HBL23.out.cell (p := ⟨tb, toff, none⟩) HTB.out).trans HTC.out)) (fun hHeld => ?_)
            clear hK K
            try simp only [List.getElem_toArray, List.getElem_cons_zero, List.getElem_cons_succ, Act.put, List.setIfInBounds_toArray, List.set_cons_zero, List.set_cons_succ]
            refine wpAnyH_ready (rs := [9]) (by kernel_rfl) (by simp) ?_
            refine AllReadyH.cons rfl (fun K hK => ?_) AllReadyH.nil
            go_simp
            refine hK.out _ _ ((((HBL23.out.alloc HBL23.out.size _).cell (p := ⟨tb, toff, none⟩) HTB.out).trans HTC.out)) (fun hHeld => ?_)
            clear hK K
            try simp only [List.getElem_toArray, List.getElem_cons_zero, List.getElem_cons_succ, Act.put, List.setIfInBounds_toArray, List.set_cons_zero, List.set_cons_succ]
            obtain ⟨hs, hho, honto⟩ := HC23.out.onto HF23.out (by simp) (fun q e => by rcases HQ23.out q e with h1 | h1 | h1 <;> (have := HS3.out; have := HS19.out; have := HS20.out; have := HS21.out; have := HS22.out; have := HS23.out; omega))
            have HON := Lib.hid honto
            clear honto
            refine wpAnyH_ready (rs := [10]) (by kernel_rfl) (by simp) ?_
            refine AllReadyH.cons rfl (fun K hK => ?_) AllReadyH.nil
            refine step_append_at (by rfl) _ _ 27 (by rfl) w19.heap.size 31 j0 _ 1 24 Try.underlying27 hj hy0 hy1 hy2 rfl (by decide) _ _ _ (by rfl) (World.ownsRow.alloc hho _) ⟨w23.heap.size, 0, none⟩ 1 1 [_] (by rfl) rfl (cellN _ _ _ _ rfl) (by simp [Value.oneCell']) (by unfold maxLen; simp; omega) (by simp; omega) (by simp; have := HS3.out; have := HS19.out; have := HS20.out; have := HS21.out; have := HS22.out; have := HS23.out; omega) ?_
            intro v51 w24 hown hgr _
            obtain ⟨A5, c5, L5, rfl, hG5, hL5, hl5, hm5⟩ := HON.out w24 v51 _ hown hgr
            have HG5 := Lib.hid hG5
            have HL5 := Lib.hid hL5
            have HBL24 := Lib.hid ((HBL23.out.alloc HBL23.out.size _).grown hgr (by have := HBL23.out.size; simp; omega) (fun q e => by have := HC23.out.base_le q e; have := HS3.out; have := HS19.out; have := HS20.out; have := HS21.out; have := HS22.out; have := HS23.out; omega))
            clear hown hgr hho HON HC23 HF23 HQ23 hG5 hL5 HBL23
            refine hK.out _ _ (((HBL24.out.cell (p := ⟨tb, toff, none⟩) HTB.out).trans HTC.out)) (fun hHeld => ?_)
            clear hK K
            try simp only [List.getElem_toArray, List.getElem_cons_zero, List.getElem_cons_succ, Act.put, List.setIfInBounds_toArray, List.set_cons_zero, List.set_cons_succ]
            refine wpAnyH_take (i := 11) (v := ?vv8) rfl (by kernel_rfl) (by kernel_rfl) (by kernel_rfl) (fun _ _ _ h => h) (Or.inl ⟨by rfl, ?hy8⟩) (by assumption) ?rest8
            case hy8 => (intro w hSw; (try dsimp only at hSw); (try simp only [List.getElem_toArray, List.getElem_cons_zero, List.getElem_cons_succ]); go_simp <;> with_reducible rfl)
            try simp only [List.getElem_toArray, List.getElem_cons_zero, List.getElem_cons_succ, Act.put, List.setIfInBounds_toArray, List.set_cons_zero, List.set_cons_succ]
            refine wpAnyH_done (by kernel_rfl) ?_ _
            clear hHeld
            have HB5 := HBL24
            clear HBL24
            go_wp2_with fail
            refine (lawCopyI _ c1 L w24 ((HG2.out.below HB5.out).more HB5.out.size) (by omega) HLL.out).mono ?_
            rintro e w20 ⟨v20, rfl, hv20, hb20⟩
            have hni : (L.map List.length)[q]? = some r0.length := by rw [List.getElem?_map, List.getElem?_eq_getElem hql, Option.map_some, HRL.out _ (List.getElem_mem hql)]
            obtain ⟨yg, yc, rfl, hyb, hyl, hyc, hym, hyf⟩ := hv20.head (by rw [List.length_map]; omega)
            obtain ⟨yr, hyr, hrv⟩ := hv20.cell hni
            obtain ⟨yb, yc2, rfl, hyb1, hyb2, hyl1, hym1, hyne, hycs⟩ := hrv.at_ hr1
            obtain ⟨⟨y0, hcy⟩, hfy⟩ := hycs 0 hr1
            have hyn : yb ≠ yg := fun e => hyne (by rw [e]; rfl)
            have hb21 : Below (w24).heap.size w24 (w20.setCell ⟨yb, 0, none⟩ (.int .i64 (-1))) := hb20.grown (grown_set w20 yb 0 (.int .i64 (-1))) hb20.size (fun k e => by cases e; exact hyb1)
            have HB21 := Lib.hid (HB5.out.trans (hb21.mono HB5.out.size))
            have HX21 := Lib.hid ((HG5.out.below hb21).more hb21.size)
            have HT21 := Lib.hid ((HG2.out.below HB21.out).more HB21.out.size)
            have hcy21 : (w20.setCell ⟨yb, 0, none⟩ (.int .i64 (-1))).cell? ⟨yg, q, none⟩ = some (.slice (some ⟨yb, 0, none⟩) r0.length yc2) := (World.cell?_setCell_far _ _ _ _ (by simpa using hyn)).trans hyr
            obtain ⟨Ly, ry, hlyn, hGy, hLyq, hry0⟩ := VG.stored (f := Value.int .i64) (z := -1) (fun x y h => by cases h; rfl) (hv20.store (x := -1) hni hyr hr1) hni hcy21 hr1 (World.cell?_setCell_same _ _ _ hcy)
            have HGY := Lib.hid hGy
            have HBAD := Lib.hid (badT_neg hLyq hry0 (by decide))
            rw [List.length_map] at hlyn hyc ⊢
            have HLY := Lib.hid hlyn
            clear hlyn hGy hLyq hry0 hcy21 hb21 hv20 hrv hycs hyb hyl hyf hyb1 hyb2 hyne hb20 hni
            unfold maxLen at hym hym1
            have hq0 : (0 : Int) ≤ (q : Int) := Int.natCast_nonneg _
            have hq1 : (q : Int) < (L.length : Int) := by omega
            have hr00 : 0 < r0.length := by omega
            go_wp2_with fail
            have hGT := HT21.out.takeN (1 + q)
            rw [← List.map_take] at hGT
            have HGT := Lib.hid hGT
            have HTL := Lib.hid (show 1 + q = (L.take (1 + q)).length by rw [List.length_take]; omega)
            have HL5N := Lib.hid (show L5.length = L.length + 1 by have := congrArg List.length HL5.out; simpa using this)
            clear hGT hcy hfy hyr
            generalize w20.setCell ⟨yb, 0, none⟩ (.int .i64 (-1)) = w21 at *
            refine (implTableValidN _ _ _ (L.take (1 + q)) w21 HGT.out HTL.out (by omega)).mono ?_
            rintro e w9x ⟨hrb, rfl⟩
            obtain rfl := hrb.isTrue (goodT_take HGD.out (by omega))
            clear hrb
            go_wp2_with fail
            refine (implTableValidN _ _ _ L5 w21 HX21.out rfl (by rw [HL5N.out]; omega)).mono ?_
            rintro e w9x ⟨hrb, rfl⟩
            obtain rfl := hrb.isFalse (badT_len HR0.out HL5.out (by omega))
            clear hrb
            go_wp2_with fail
            refine (implTableValidN _ _ _ Ly w21 HGY.out HLY.out.symm (by omega)).mono ?_
            rintro e w9x ⟨hrb, rfl⟩
            obtain rfl := hrb.isFalse HBAD.out
            clear hrb
            go_wp2
            go_ret
            exact ⟨rfl, HB2.out.trans (HB21.out.mono HB2.out.size)⟩
          refine AllReadyH.cons rfl (fun K hK => ?_) AllReadyH.nil
          · go_simp
            have HBL25 : Hid (Below w2.heap.size w2 (w20.alloc (.cells #[.int .i64 0] 3))) := HBL20.out.alloc HBL20.out.size _
            have HS25 : Hid (w20.heap.size + 1 = (w20.alloc (.cells #[.int .i64 0] 3)).heap.size) := (World.size_alloc _ _).symm
            have HE25 := Lib.hid (World.ownsRow.alloc HE20.out (.cells #[.int .i64 0] 3))
            have HZ25 : Hid (Blk (w20.alloc (.cells #[.int .i64 0] 3)) w20.heap.size 3 [.int .i64 0]) := Blk.new w20 _ _
            have HC25 := Lib.hid (HC20.out.alloc (.cells #[.int .i64 0] 3))
            refine hK.out _ _ (((HBL25.out.cell (p := ⟨tb, toff, none⟩) HTB.out).trans HTC.out)) (fun hHeld => ?_)
            clear hK K
            try simp only [List.getElem_toArray, List.getElem_cons_zero, List.getElem_cons_succ, Act.put, List.setIfInBounds_toArray, List.set_cons_zero, List.set_cons_succ]
            clear HBL20 HE20 HC20
            generalize w20.alloc (.cells #[.int .i64 0] 3) = w25 at *
            refine wpAnyH_ready (rs := [6]) (by kernel_rfl) (by simp) ?_
            refine AllReadyH.cons rfl (fun K hK => ?_) AllReadyH.nil
            refine step_append_at (by rfl) _ _ 31 (by rfl) w2.heap.size 3 k0 _ 1 8 Try.underlying31 hk hx0 hx1 hx2 rfl (by decide) _ _ _ (by rfl) HE25.out ⟨b6, off6, none⟩ r0.length c6 (r0.map (Value.int .i64)) (by rfl) (by simp) (newsCopyI HR6.out (fun b o hb => HBL25.out.cell (p := ⟨b, o, none⟩) hb)) (by simp [Value.oneCell']) (by unfold maxLen; omega) (by omega) HBL25.out.size ?_
            intro v47 w26 hown hgr hl
            have HF26 : Hid (w26.ownsRow w2.heap.size 3 1 v47 r0.length (r0.map (Value.int .i64))) := by unfold Hid; simpa using hown
            have HQ26 : Hid (∀ q, v47.ownBlock = some q → q = w3.heap.size ∨ q = w25.heap.size) := fun q e => by rcases hl with h | h <;> rw [h] at e <;> simp [Value.ownBlock] at e <;> omega
            have hrow : ∀ q, (Value.slice (some ⟨w3.heap.size, 0, none⟩) 0 0).ownBlock = some q → q = w3.heap.size := fun q e => by simp [Value.ownBlock] at e; exact e.symm
            have HS26 := Lib.hid hgr.size
            have HC26 := Lib.hid (HC25.out.grown hgr (fun q e => by have := hrow q e; have := HS3.out; have := HS19.out; have := HS20.out; have := HS25.out; omega))
            have HZ26 := Lib.hid (HZ25.out.of (hgr.block _ HZ25.out.lt (fun e => by have := hrow _ e.symm; have := HS3.out; have := HS19.out; have := HS20.out; have := HS25.out; omega)))
            have HBL26 := Lib.hid (HBL25.out.grown hgr HBL25.out.size (fun q e => by have := hrow q e; have := HS3.out; have := HS19.out; have := HS20.out; have := HS25.out; omega))
            clear hown hgr hl hrow HBL25 HC25 HE25 HZ25
            refine hK.out _ _ (((HBL26.out.cell (p := ⟨tb, toff, none⟩) HTB.out).trans HTC.out)) (fun hHeld => ?_)
            clear hK K
            try simp only [List.getElem_toArray, List.getElem_cons_zero, List.getElem_cons_succ, Act.put, List.setIfInBounds_toArray, List.set_cons_zero, List.set_cons_succ]
            refine wpAnyH_ready (rs := [8]) (by kernel_rfl) (by simp) ?_
            refine AllReadyH.cons rfl (fun K hK => ?_) AllReadyH.nil
            refine step_append_at (by rfl) _ _ 31 (by rfl) w2.heap.size 3 k0 _ 1 8 Try.underlying31 hk hx0 hx1 hx2 rfl (by decide) _ _ _ (by rfl) HF26.out ⟨w20.heap.size, 0, none⟩ 1 1 [.int .i64 0] (by rfl) rfl (newsBlk HZ26.out) (by simp [Value.oneCell']) (by unfold maxLen; omega) (by omega) HBL26.out.size ?_
            intro v49 w27 hown hgr hl
            have HF27 : Hid (w27.ownsRow w2.heap.size 3 1 v49 (r0.length + 1) ((r0 ++ [0]).map (Value.int .i64))) := by unfold Hid; rw [List.map_append]; exact hown
            have HQ27 : Hid (∀ q, v49.ownBlock = some q → q = w3.heap.size ∨ q = w25.heap.size ∨ q = w26.heap.size) := fun q e => by (rcases hl with h | h); (· rw [h] at e; rcases HQ26.out q e with h1 | h1 <;> omega); (· rw [h] at e; cases e; omega)
            have HS27 := Lib.hid hgr.size
            have HC27 := Lib.hid (HC26.out.grown hgr (fun q e => by rcases HQ26.out q e with h1 | h1 <;> (have := HS3.out; have := HS19.out; have := HS20.out; have := HS25.out; have := HS26.out; omega)))
            have HBL27 := Lib.hid (HBL26.out.grown hgr HBL26.out.size (fun q e => by rcases HQ26.out q e with h1 | h1 <;> (have := HS3.out; have := HS19.out; have := HS20.out; have := HS25.out; have := HS26.out; omega)))
            obtain ⟨A49, c49, rfl, -, -, -⟩ := own_rds HF27.out (by simp)
            clear hown hgr hl HBL26 HC26 HF26 HZ26 HQ26
            refine hK.out _ _ (((HBL27.out.cell (p := ⟨tb, toff, none⟩) HTB.out).trans HTC.out)) (fun hHeld => ?_)
            clear hK K
            try simp only [List.getElem_toArray, List.getElem_cons_zero, List.getElem_cons_succ, Act.put, List.setIfInBounds_toArray, List.set_cons_zero, List.set_cons_succ]
            refine wpAnyH_ready (rs := [9]) (by kernel_rfl) (by simp) ?_
            refine AllReadyH.cons rfl (fun K hK => ?_) AllReadyH.nil
            go_simp
            refine hK.out _ _ ((((HBL27.out.alloc HBL27.out.size _).cell (p := ⟨tb, toff, none⟩) HTB.out).trans HTC.out)) (fun hHeld => ?_)
            clear hK K
            try simp only [List.getElem_toArray, List.getElem_cons_zero, List.getElem_cons_succ, Act.put, List.setIfInBounds_toArray, List.set_cons_zero, List.set_cons_succ]
            obtain ⟨hs, hho, honto⟩ := HC27.out.onto HF27.out (by simp) (fun q e => by rcases HQ27.out q e with h1 | h1 | h1 <;> (have := HS3.out; have := HS19.out; have := HS20.out; have := HS25.out; have := HS26.out; have := HS27.out; omega))
            have HON := Lib.hid honto
            clear honto
            refine wpAnyH_ready (rs := [10]) (by kernel_rfl) (by simp) ?_
            refine AllReadyH.cons rfl (fun K hK => ?_) AllReadyH.nil
            refine step_append_at (by rfl) _ _ 27 (by rfl) w19.heap.size 31 j0 _ 1 24 Try.underlying27 hj hy0 hy1 hy2 rfl (by decide) _ _ _ (by rfl) (World.ownsRow.alloc hho _) ⟨w27.heap.size, 0, none⟩ 1 1 [_] (by rfl) rfl (cellN _ _ _ _ rfl) (by simp [Value.oneCell']) (by unfold maxLen; simp; omega) (by simp; omega) (by simp; have := HS3.out; have := HS19.out; have := HS20.out; have := HS25.out; have := HS26.out; have := HS27.out; omega) ?_
            intro v51 w28 hown hgr _
            obtain ⟨A5, c5, L5, rfl, hG5, hL5, hl5, hm5⟩ := HON.out w28 v51 _ hown hgr
            have HG5 := Lib.hid hG5
            have HL5 := Lib.hid hL5
            have HBL28 := Lib.hid ((HBL27.out.alloc HBL27.out.size _).grown hgr (by have := HBL27.out.size; simp; omega) (fun q e => by have := HC27.out.base_le q e; have := HS3.out; have := HS19.out; have := HS20.out; have := HS25.out; have := HS26.out; have := HS27.out; omega))
            clear hown hgr hho HON HC27 HF27 HQ27 hG5 hL5 HBL27
            refine hK.out _ _ (((HBL28.out.cell (p := ⟨tb, toff, none⟩) HTB.out).trans HTC.out)) (fun hHeld => ?_)
            clear hK K
            try simp only [List.getElem_toArray, List.getElem_cons_zero, List.getElem_cons_succ, Act.put, List.setIfInBounds_toArray, List.set_cons_zero, List.set_cons_succ]
            refine wpAnyH_take (i := 11) (v := ?vv9) rfl (by kernel_rfl) (by kernel_rfl) (by kernel_rfl) (fun _ _ _ h => h) (Or.inl ⟨by rfl, ?hy9⟩) (by assumption) ?rest9
            case hy9 => (intro w hSw; (try dsimp only at hSw); (try simp only [List.getElem_toArray, List.getElem_cons_zero, List.getElem_cons_succ]); go_simp <;> with_reducible rfl)
            try simp only [List.getElem_toArray, List.getElem_cons_zero, List.getElem_cons_succ, Act.put, List.setIfInBounds_toArray, List.set_cons_zero, List.set_cons_succ]
            refine wpAnyH_done (by kernel_rfl) ?_ _
            clear hHeld
            have HB5 := HBL28
            clear HBL28
            go_wp2_with fail
            refine (lawCopyI _ c1 L w28 ((HG2.out.below HB5.out).more HB5.out.size) (by omega) HLL.out).mono ?_
            rintro e w20 ⟨v20, rfl, hv20, hb20⟩
            have hni : (L.map List.length)[q]? = some r0.length := by rw [List.getElem?_map, List.getElem?_eq_getElem hql, Option.map_some, HRL.out _ (List.getElem_mem hql)]
            obtain ⟨yg, yc, rfl, hyb, hyl, hyc, hym, hyf⟩ := hv20.head (by rw [List.length_map]; omega)
            obtain ⟨yr, hyr, hrv⟩ := hv20.cell hni
            obtain ⟨yb, yc2, rfl, hyb1, hyb2, hyl1, hym1, hyne, hycs⟩ := hrv.at_ hr1
            obtain ⟨⟨y0, hcy⟩, hfy⟩ := hycs 0 hr1
            have hyn : yb ≠ yg := fun e => hyne (by rw [e]; rfl)
            have hb21 : Below (w28).heap.size w28 (w20.setCell ⟨yb, 0, none⟩ (.int .i64 (-1))) := hb20.grown (grown_set w20 yb 0 (.int .i64 (-1))) hb20.size (fun k e => by cases e; exact hyb1)
            have HB21 := Lib.hid (HB5.out.trans (hb21.mono HB5.out.size))
            have HX21 := Lib.hid ((HG5.out.below hb21).more hb21.size)
            have HT21 := Lib.hid ((HG2.out.below HB21.out).more HB21.out.size)
            have hcy21 : (w20.setCell ⟨yb, 0, none⟩ (.int .i64 (-1))).cell? ⟨yg, q, none⟩ = some (.slice (some ⟨yb, 0, none⟩) r0.length yc2) := (World.cell?_setCell_far _ _ _ _ (by simpa using hyn)).trans hyr
            obtain ⟨Ly, ry, hlyn, hGy, hLyq, hry0⟩ := VG.stored (f := Value.int .i64) (z := -1) (fun x y h => by cases h; rfl) (hv20.store (x := -1) hni hyr hr1) hni hcy21 hr1 (World.cell?_setCell_same _ _ _ hcy)
            have HGY := Lib.hid hGy
            have HBAD := Lib.hid (badT_neg hLyq hry0 (by decide))
            rw [List.length_map] at hlyn hyc ⊢
            have HLY := Lib.hid hlyn
            clear hlyn hGy hLyq hry0 hcy21 hb21 hv20 hrv hycs hyb hyl hyf hyb1 hyb2 hyne hb20 hni
            unfold maxLen at hym hym1
            have hq0 : (0 : Int) ≤ (q : Int) := Int.natCast_nonneg _
            have hq1 : (q : Int) < (L.length : Int) := by omega
            have hr00 : 0 < r0.length := by omega
            go_wp2_with fail
            have hGT := HT21.out.takeN (1 + q)
            rw [← List.map_take] at hGT
            have HGT := Lib.hid hGT
            have HTL := Lib.hid (show 1 + q = (L.take (1 + q)).length by rw [List.length_take]; omega)
            have HL5N := Lib.hid (show L5.length = L.length + 1 by have := congrArg List.length HL5.out; simpa using this)
            clear hGT hcy hfy hyr
            generalize w20.setCell ⟨yb, 0, none⟩ (.int .i64 (-1)) = w21 at *
            refine (implTableValidN _ _ _ (L.take (1 + q)) w21 HGT.out HTL.out (by omega)).mono ?_
            rintro e w9x ⟨hrb, rfl⟩
            obtain rfl := hrb.isTrue (goodT_take HGD.out (by omega))
            clear hrb
            go_wp2_with fail
            refine (implTableValidN _ _ _ L5 w21 HX21.out rfl (by rw [HL5N.out]; omega)).mono ?_
            rintro e w9x ⟨hrb, rfl⟩
            obtain rfl := hrb.isFalse (badT_len HR0.out HL5.out (by omega))
            clear hrb
            go_wp2_with fail
            refine (implTableValidN _ _ _ Ly w21 HGY.out HLY.out.symm (by omega)).mono ?_
            rintro e w9x ⟨hrb, rfl⟩
            obtain rfl := hrb.isFalse HBAD.out
            clear hrb
            go_wp2
            go_ret
            exact ⟨rfl, HB2.out.trans (HB21.out.mono HB2.out.size)⟩
        refine AllReadyH.cons rfl (fun K hK => ?_) AllReadyH.nil
        · go_simp
          have HBL29 : Hid (Below w2.heap.size w2 (w19.alloc (.cells #[.int .i64 0] 3))) := HBL19.out.alloc HBL19.out.size _
          have HS29 : Hid (w19.heap.size + 1 = (w19.alloc (.cells #[.int .i64 0] 3)).heap.size) := (World.size_alloc _ _).symm
          have HE29 := Lib.hid (World.ownsRow.alloc HE19.out (.cells #[.int .i64 0] 3))
          have HZ29 : Hid (Blk (w19.alloc (.cells #[.int .i64 0] 3)) w19.heap.size 3 [.int .i64 0]) := Blk.new w19 _ _
          refine hK.out _ _ (((HBL29.out.cell (p := ⟨tb, toff, none⟩) HTB.out).trans HTC.out)) (fun hHeld => ?_)
          clear hK K
          try simp only [List.getElem_toArray, List.getElem_cons_zero, List.getElem_cons_succ, Act.put, List.setIfInBounds_toArray, List.set_cons_zero, List.set_cons_succ]
          clear HBL19 HE19
          generalize w19.alloc (.cells #[.int .i64 0] 3) = w29 at *
          refine wpAnyH_ready (rs := [1]) (by kernel_rfl) (by simp) ?_
          refine AllReadyH.cons rfl (fun K hK => ?_) AllReadyH.nil
          go_simp
          refine (lawCopyI _ c1 L w29 ((HG2.out.below HBL29.out).more HBL29.out.size) (by omega) HLL.out).mono ?_
          rintro e w30 ⟨v42, rfl, hv42, hb42⟩
          have HC30 := Lib.hid (CP.mk hv42)
          have HBL30 := Lib.hid (HBL29.out.trans (hb42.mono HBL29.out.size))
          have HS30 := Lib.hid hb42.size
          have HE30 := Lib.hid (World.ownsRow.kept HE29.out (belGrown hb42 none) (.inr (by simp [Value.ownBlock])))
          have HZ30 := Lib.hid (HZ29.out.below hb42 HZ29.out.lt)
          clear hv42 hb42 HBL29 HE29 HZ29
          dsimp only
          refine hK.out _ _ (((HBL30.out.cell (p := ⟨tb, toff, none⟩) HTB.out).trans HTC.out)) (fun hHeld => ?_)
          clear hK K
          try simp only [List.getElem_toArray, List.getElem_cons_zero, List.getElem_cons_succ, Act.put, List.setIfInBounds_toArray, List.set_cons_zero, List.set_cons_succ]
          refine wpAnyH_ready (rs := [6]) (by kernel_rfl) (by simp) ?_
          refine AllReadyH.cons rfl (fun K hK => ?_) AllReadyH.nil
          refine step_append_at (by rfl) _ _ 31 (by rfl) w2.heap.size 3 k0 _ 1 8 Try.underlying31 hk hx0 hx1 hx2 rfl (by decide) _ _ _ (by rfl) HE30.out ⟨b6, off6, none⟩ r0.length c6 (r0.map (Value.int .i64)) (by rfl) (by simp) (newsCopyI HR6.out (fun b o hb => HBL30.out.cell (p := ⟨b, o, none⟩) hb)) (by simp [Value.oneCell']) (by unfold maxLen; omega) (by omega) HBL30.out.size ?_
          intro v47 w31 hown hgr hl
          have HF31 : Hid (w31.ownsRow w2.heap.size 3 1 v47 r0.length (r0.map (Value.int .i64))) := by unfold Hid; simpa using hown
          have HQ31 : Hid (∀ q, v47.ownBlock = some q → q = w3.heap.size ∨ q = w30.heap.size) := fun q e => by rcases hl with h | h <;> rw [h] at e <;> simp [Value.ownBlock] at e <;> omega
          have hrow : ∀ q, (Value.slice (some ⟨w3.heap.size, 0, none⟩) 0 0).ownBlock = some q → q = w3.heap.size := fun q e => by simp [Value.ownBlock] at e; exact e.symm
          have HS31 := Lib.hid hgr.size
          have HC31 := Lib.hid (HC30.out.grown hgr (fun q e => by have := hrow q e; have := HS3.out; have := HS19.out; have := HS29.out; have := HS30.out; omega))
          have HZ31 := Lib.hid (HZ30.out.of (hgr.block _ HZ30.out.lt (fun e => by have := hrow _ e.symm; have := HS3.out; have := HS19.out; have := HS29.out; have := HS30.out; omega)))
          have HBL31 := Lib.hid (HBL30.out.grown hgr HBL30.out.size (fun q e => by have := hrow q e; have := HS3.out; have := HS19.out; have := HS29.out; have := HS30.out; omega))
          clear hown hgr hl hrow HBL30 HC30 HE30 HZ30
          refine hK.out _ _ (((HBL31.out.cell (p := ⟨tb, toff, none⟩) HTB.out).trans HTC.out)) (fun hHeld => ?_)
          clear hK K
          try simp only [List.getElem_toArray, List.getElem_cons_zero, List.getElem_cons_succ, Act.put, List.setIfInBounds_toArray, List.set_cons_zero, List.set_cons_succ]
          refine wpAnyH_ready (rs := [8]) (by kernel_rfl) (by simp) ?_
          refine AllReadyH.cons rfl (fun K hK => ?_) AllReadyH.nil
          refine step_append_at (by rfl) _ _ 31 (by rfl) w2.heap.size 3 k0 _ 1 8 Try.underlying31 hk hx0 hx1 hx2 rfl (by decide) _ _ _ (by rfl) HF31.out ⟨w19.heap.size, 0, none⟩ 1 1 [.int .i64 0] (by rfl) rfl (newsBlk HZ31.out) (by simp [Value.oneCell']) (by unfold maxLen; omega) (by omega) HBL31.out.size ?_
          intro v49 w32 hown hgr hl
          have HF32 : Hid (w32.ownsRow w2.heap.size 3 1 v49 (r0.length + 1) ((r0 ++ [0]).map (Value.int .i64))) := by unfold Hid; rw [List.map_append]; exact hown
          have HQ32 : Hid (∀ q, v49.ownBlock = some q → q = w3.heap.size ∨ q = w30.heap.size ∨ q = w31.heap.size) := fun q e => by (rcases hl with h | h); (· rw [h] at e; rcases HQ31.out q e with h1 | h1 <;> omega); (· rw [h] at e; cases e; omega)
          have HS32 := Lib.hid hgr.size
          have HC32 := Lib.hid (HC31.out.grown hgr (fun q e => by rcases HQ31.out q e with h1 | h1 <;> (have := HS3.out; have := HS19.out; have := HS29.out; have := HS30.out; have := HS31.out; omega)))
          have HBL32 := Lib.hid (HBL31.out.grown hgr HBL31.out.size (fun q e => by rcases HQ31.out q e with h1 | h1 <;> (have := HS3.out; have := HS19.out; have := HS29.out; have := HS30.out; have := HS31.out; omega)))
          obtain ⟨A49, c49, rfl, -, -, -⟩ := own_rds HF32.out (by simp)
          clear hown hgr hl HBL31 HC31 HF31 HZ31 HQ31
          refine hK.out _ _ (((HBL32.out.cell (p := ⟨tb, toff, none⟩) HTB.out).trans HTC.out)) (fun hHeld => ?_)
          clear hK K
          try simp only [List.getElem_toArray, List.getElem_cons_zero, List.getElem_cons_succ, Act.put, List.setIfInBounds_toArray, List.set_cons_zero, List.set_cons_succ]
          refine wpAnyH_ready (rs := [9]) (by kernel_rfl) (by simp) ?_
          refine AllReadyH.cons rfl (fun K hK => ?_) AllReadyH.nil
          go_simp
          refine hK.out _ _ ((((HBL32.out.alloc HBL32.out.size _).cell (p := ⟨tb, toff, none⟩) HTB.out).trans HTC.out)) (fun hHeld => ?_)
          clear hK K
          try simp only [List.getElem_toArray, List.getElem_cons_zero, List.getElem_cons_succ, Act.put, List.setIfInBounds_toArray, List.set_cons_zero, List.set_cons_succ]
          obtain ⟨hs, hho, honto⟩ := HC32.out.onto HF32.out (by simp) (fun q e => by rcases HQ32.out q e with h1 | h1 | h1 <;> (have := HS3.out; have := HS19.out; have := HS29.out; have := HS30.out; have := HS31.out; have := HS32.out; omega))
          have HON := Lib.hid honto
          clear honto
          refine wpAnyH_ready (rs := [10]) (by kernel_rfl) (by simp) ?_
          refine AllReadyH.cons rfl (fun K hK => ?_) AllReadyH.nil
          refine step_append_at (by rfl) _ _ 27 (by rfl) w29.heap.size 31 j0 _ 1 24 Try.underlying27 hj hy0 hy1 hy2 rfl (by decide) _ _ _ (by rfl) (World.ownsRow.alloc hho _) ⟨w32.heap.size, 0, none⟩ 1 1 [_] (by rfl) rfl (cellN _ _ _ _ rfl) (by simp [Value.oneCell']) (by unfold maxLen; simp; omega) (by simp; omega) (by simp; have := HS3.out; have := HS19.out; have := HS29.out; have := HS30.out; have := HS31.out; have := HS32.out; omega) ?_
          intro v51 w33 hown hgr _
          obtain ⟨A5, c5, L5, rfl, hG5, hL5, hl5, hm5⟩ := HON.out w33 v51 _ hown hgr
          have HG5 := Lib.hid hG5
          have HL5 := Lib.hid hL5
          have HBL33 := Lib.hid ((HBL32.out.alloc HBL32.out.size _).grown hgr (by have := HBL32.out.size; simp; omega) (fun q e => by have := HC32.out.base_le q e; have := HS3.out; have := HS19.out; have := HS29.out; have := HS30.out; have := HS31.out; have := HS32.out; omega))
          clear hown hgr hho HON HC32 HF32 HQ32 hG5 hL5 HBL32
          refine hK.out _ _ (((HBL33.out.cell (p := ⟨tb, toff, none⟩) HTB.out).trans HTC.out)) (fun hHeld => ?_)
          clear hK K
          try simp only [List.getElem_toArray, List.getElem_cons_zero, List.getElem_cons_succ, Act.put, List.setIfInBounds_toArray, List.set_cons_zero, List.set_cons_succ]
          refine wpAnyH_take (i := 11) (v := ?vv10) rfl (by kernel_rfl) (by kernel_rfl) (by kernel_rfl) (fun _ _ _ h => h) (Or.inl ⟨by rfl, ?hy10⟩) (by assumption) ?rest10
          case hy10 => (intro w hSw; (try dsimp only at hSw); (try simp only [List.getElem_toArray, List.getElem_cons_zero, List.getElem_cons_succ]); go_simp <;> with_reducible rfl)
          try simp only [List.getElem_toArray, List.getElem_cons_zero, List.getElem_cons_succ, Act.put, List.setIfInBounds_toArray, List.set_cons_zero, List.set_cons_succ]
          refine wpAnyH_done (by kernel_rfl) ?_ _
          clear hHeld
          have HB5 := HBL33
          clear HBL33
          go_wp2_with fail
          refine (lawCopyI _ c1 L w33 ((HG2.out.below HB5.out).more HB5.out.size) (by omega) HLL.out).mono ?_
          rintro e w20 ⟨v20, rfl, hv20, hb20⟩
          have hni : (L.map List.length)[q]? = some r0.length := by rw [List.getElem?_map, List.getElem?_eq_getElem hql, Option.map_some, HRL.out _ (List.getElem_mem hql)]
          obtain ⟨yg, yc, rfl, hyb, hyl, hyc, hym, hyf⟩ := hv20.head (by rw [List.length_map]; omega)
          obtain ⟨yr, hyr, hrv⟩ := hv20.cell hni
          obtain ⟨yb, yc2, rfl, hyb1, hyb2, hyl1, hym1, hyne, hycs⟩ := hrv.at_ hr1
          obtain ⟨⟨y0, hcy⟩, hfy⟩ := hycs 0 hr1
          have hyn : yb ≠ yg := fun e => hyne (by rw [e]; rfl)
          have hb21 : Below (w33).heap.size w33 (w20.setCell ⟨yb, 0, none⟩ (.int .i64 (-1))) := hb20.grown (grown_set w20 yb 0 (.int .i64 (-1))) hb20.size (fun k e => by cases e; exact hyb1)
          have HB21 := Lib.hid (HB5.out.trans (hb21.mono HB5.out.size))
          have HX21 := Lib.hid ((HG5.out.below hb21).more hb21.size)
          have HT21 := Lib.hid ((HG2.out.below HB21.out).more HB21.out.size)
          have hcy21 : (w20.setCell ⟨yb, 0, none⟩ (.int .i64 (-1))).cell? ⟨yg, q, none⟩ = some (.slice (some ⟨yb, 0, none⟩) r0.length yc2) := (World.cell?_setCell_far _ _ _ _ (by simpa using hyn)).trans hyr
          obtain ⟨Ly, ry, hlyn, hGy, hLyq, hry0⟩ := VG.stored (f := Value.int .i64) (z := -1) (fun x y h => by cases h; rfl) (hv20.store (x := -1) hni hyr hr1) hni hcy21 hr1 (World.cell?_setCell_same _ _ _ hcy)
          have HGY := Lib.hid hGy
          have HBAD := Lib.hid (badT_neg hLyq hry0 (by decide))
          rw [List.length_map] at hlyn hyc ⊢
          have HLY := Lib.hid hlyn
          clear hlyn hGy hLyq hry0 hcy21 hb21 hv20 hrv hycs hyb hyl hyf hyb1 hyb2 hyne hb20 hni
          unfold maxLen at hym hym1
          have hq0 : (0 : Int) ≤ (q : Int) := Int.natCast_nonneg _
          have hq1 : (q : Int) < (L.length : Int) := by omega
          have hr00 : 0 < r0.length := by omega
          go_wp2_with fail
          have hGT := HT21.out.takeN (1 + q)
          rw [← List.map_take] at hGT
          have HGT := Lib.hid hGT
          have HTL := Lib.hid (show 1 + q = (L.take (1 + q)).length by rw [List.length_take]; omega)
          have HL5N := Lib.hid (show L5.length = L.length + 1 by have := congrArg List.length HL5.out; simpa using this)
          clear hGT hcy hfy hyr
          generalize w20.setCell ⟨yb, 0, none⟩ (.int .i64 (-1)) = w21 at *
          refine (implTableValidN _ _ _ (L.take (1 + q)) w21 HGT.out HTL.out (by omega)).mono ?_
          rintro e w9x ⟨hrb, rfl⟩
          obtain rfl := hrb.isTrue (goodT_take HGD.out (by omega))
          clear hrb
          go_wp2_with fail
          refine (implTableValidN _ _ _ L5 w21 HX21.out rfl (by rw [HL5N.out]; omega)).mono ?_
          rintro e w9x ⟨hrb, rfl⟩
          obtain rfl := hrb.isFalse (badT_len HR0.out HL5.out (by omega))
          clear hrb
          go_wp2_with fail
          refine (implTableValidN _ _ _ Ly w21 HGY.out HLY.out.symm (by omega)).mono ?_
          rintro e w9x ⟨hrb, rfl⟩
          obtain rfl := hrb.isFalse HBAD.out
          clear hrb
          go_wp2
          go_ret
          exact ⟨rfl, HB2.out.trans (HB21.out.mono HB2.out.size)⟩
      refine AllReadyH.cons rfl (fun K hK => ?_) AllReadyH.nil
      · go_simp
        have HBL34 : Hid (Below w2.heap.size w2 (w3.alloc (.cells #[.int .i64 0] 3))) := HBL3.out.alloc HBL3.out.size _
        have HS34 : Hid (w3.heap.size + 1 = (w3.alloc (.cells #[.int .i64 0] 3)).heap.size) := (World.size_alloc _ _).symm
        have HZ34 : Hid (Blk (w3.alloc (.cells #[.int .i64 0] 3)) w3.heap.size 3 [.int .i64 0]) := Blk.new w3 _ _
        refine hK.out _ _ (((HBL34.out.cell (p := ⟨tb, toff, none⟩) HTB.out).trans HTC.out)) (fun hHeld => ?_)
        clear hK K
        try simp only [List.getElem_toArray, List.getElem_cons_zero, List.getElem_cons_succ, Act.put, List.setIfInBounds_toArray, List.set_cons_zero, List.set_cons_succ]
        clear HBL3
        generalize w3.alloc (.cells #[.int .i64 0] 3) = w34 at *
        refine wpAnyH_ready (rs := [1,2]) (by kernel_rfl) (by simp) ?_
        refine AllReadyH.cons rfl (fun K hK => ?_) ?_
        · go_simp
          refine (lawCopyI _ c1 L w34 ((HG2.out.below HBL34.out).more HBL34.out.size) (by omega) HLL.out).mono ?_
          rintro e w35 ⟨v42, rfl, hv42, hb42⟩
          have HC35 := Lib.hid (CP.mk hv42)
          have HBL35 := Lib.hid (HBL34.out.trans (hb42.mono HBL34.out.size))
          have HS35 := Lib.hid hb42.size
          have HZ35 := Lib.hid (HZ34.out.below hb42 HZ34.out.lt)
          clear hv42 hb42 HBL34 HZ34
          dsimp only
          refine hK.out _ _ (((HBL35.out.cell (p := ⟨tb, toff, none⟩) HTB.out).trans HTC.out)) (fun hHeld => ?_)
          clear hK K
          try simp only [List.getElem_toArray, List.getElem_cons_zero, List.getElem_cons_succ, Act.put, List.setIfInBounds_toArray, List.set_cons_zero, List.set_cons_succ]
          refine wpAnyH_ready (rs := [2]) (by kernel_rfl) (by simp) ?_
          refine AllReadyH.cons rfl (fun K hK => ?_) AllReadyH.nil
          go_simp
          have HBL36 : Hid (Below w2.heap.size w2 (w35.alloc (.cells #[] 3))) := HBL35.out.alloc HBL35.out.size _
          have HS36 : Hid (w35.heap.size + 1 = (w35.alloc (.cells #[] 3)).heap.size) := (World.size_alloc _ _).symm
          have HE36 : Hid ((w35.alloc (.cells #[] 3)).ownsRow w2.heap.size 3 1 (.slice (some ⟨w35.heap.size, 0, none⟩) 0 0) 0 []) := ownBlkN (Blk.new w35 _ #[]) rfl HBL35.out.size (by unfold maxLen; omega)
          have HZ36 := Lib.hid (HZ35.out.alloc (.cells #[] 3))
          have HC36 := Lib.hid (HC35.out.alloc (.cells #[] 3))
          refine hK.out _ _ (((HBL36.out.cell (p := ⟨tb, toff, none⟩) HTB.out).trans HTC.out)) (fun hHeld => ?_)
          clear hK K
          try simp only [List.getElem_toArray, List.getElem_cons_zero, List.getElem_cons_succ, Act.put, List.setIfInBounds_toArray, List.set_cons_zero, List.set_cons_succ]
          clear HBL35 HZ35 HC35
          generalize w35.alloc (.cells #[] 3) = w36 at *
          refine wpAnyH_ready (rs := [6]) (by kernel_rfl) (by simp) ?_
          refine AllReadyH.cons rfl (fun K hK => ?_) AllReadyH.nil
          refine step_append_at (by rfl) _ _ 31 (by rfl) w2.heap.size 3 k0 _ 1 8 Try.underlying31 hk hx0 hx1 hx2 rfl (by decide) _ _ _ (by rfl) HE36.out ⟨b6, off6, none⟩ r0.length c6 (r0.map (Value.int .i64)) (by rfl) (by simp) (newsCopyI HR6.out (fun b o hb => HBL36.out.cell (p := ⟨b, o, none⟩) hb)) (by simp [Value.oneCell']) (by unfold maxLen; omega) (by omega) HBL36.out.size ?_
          intro v47 w37 hown hgr hl
          have HF37 : Hid (w37.ownsRow w2.heap.size 3 1 v47 r0.length (r0.map (Value.int .i64))) := by unfold Hid; simpa using hown
          have HQ37 : Hid (∀ q, v47.ownBlock = some q → q = w35.heap.size ∨ q = w36.heap.size) := fun q e => by rcases hl with h | h <;> rw [h] at e <;> simp [Value.ownBlock] at e <;> omega
          have hrow : ∀ q, (Value.slice (some ⟨w35.heap.size, 0, none⟩) 0 0).ownBlock = some q → q = w35.heap.size := fun q e => by simp [Value.ownBlock] at e; exact e.symm
          have HS37 := Lib.hid hgr.size
          have HC37 := Lib.hid (HC36.out.grown hgr (fun q e => by have := hrow q e; have := HS3.out; have := HS34.out; have := HS35.out; have := HS36.out; omega))
          have HZ37 := Lib.hid (HZ36.out.of (hgr.block _ HZ36.out.lt (fun e => by have := hrow _ e.symm; have := HS3.out; have := HS34.out; have := HS35.out; have := HS36.out; omega)))
          have HBL37 := Lib.hid (HBL36.out.grown hgr HBL36.out.size (fun q e => by have := hrow q e; have := HS3.out; have := HS34.out; have := HS35.out; have := HS36.out; omega))
          clear hown hgr hl hrow HBL36 HC36 HE36 HZ36
          refine hK.out _ _ (((HBL37.out.cell (p := ⟨tb, toff, none⟩) HTB.out).trans HTC.out)) (fun hHeld => ?_)
          clear hK K
          try simp only [List.getElem_toArray, List.getElem_cons_zero, List.getElem_cons_succ, Act.put, List.setIfInBounds_toArray, List.set_cons_zero, List.set_cons_succ]
          refine wpAnyH_ready (rs := [8]) (by kernel_rfl) (by simp) ?_
          refine AllReadyH.cons rfl (fun K hK => ?_) AllReadyH.nil
          refine step_append_at (by rfl) _ _ 31 (by rfl) w2.heap.size 3 k0 _ 1 8 Try.underlying31 hk hx0 hx1 hx2 rfl (by decide) _ _ _ (by rfl) HF37.out ⟨w3.heap.size, 0, none⟩ 1 1 [.int .i64 0] (by rfl) rfl (newsBlk HZ37.out) (by simp [Value.oneCell']) (by unfold maxLen; omega) (by omega) HBL37.out.size ?_
          intro v49 w38 hown hgr hl
          have HF38 : Hid (w38.ownsRow w2.heap.size 3 1 v49 (r0.length + 1) ((r0 ++ [0]).map (Value.int .i64))) := by unfold Hid; rw [List.map_append]; exact hown
          have HQ38 : Hid (∀ q, v49.ownBlock = some q → q = w35.heap.size ∨ q = w36.heap.size ∨ q = w37.heap.size) := fun q e => by (rcases hl with h | h); (· rw [h] at e; rcases HQ37.out q e with h1 | h1 <;> omega); (· rw [h] at e; cases e; omega)
          have HS38 := Lib.hid hgr.size
          have HC38 := Lib.hid (HC37.out.grown hgr (fun q e => by rcases HQ37.out q e with h1 | h1 <;> (have := HS3.out; have := HS34.out; have := HS35.out; have := HS36.out; have := HS37.out; omega)))
          have HBL38 := Lib.hid (HBL37.out.grown hgr HBL37.out.size (fun q e => by rcases HQ37.out q e with h1 | h1 <;> (have := HS3.out; have := HS34.out; have := HS35.out; have := HS36.out; have := HS37.out; omega)))
          obtain ⟨A49, c49, rfl, -, -, -⟩ := own_rds HF38.out (by simp)
          clear hown hgr hl HBL37 HC37 HF37 HZ37 HQ37
          refine hK.out _ _ (((HBL38.out.cell (p := ⟨tb, toff, none⟩) HTB.out).trans HTC.out)) (fun hHeld => ?_)
          clear hK K
          try simp only [List.getElem_toArray, List.getElem_cons_zero, List.getElem_cons_succ, Act.put, List.setIfInBounds_toArray, List.set_cons_zero, List.set_cons_succ]
          refine wpAnyH_ready (rs := [9]) (by kernel_rfl) (by simp) ?_
          refine AllReadyH.cons rfl (fun K hK => ?_) AllReadyH.nil
          go_simp
          refine hK.out _ _ ((((HBL38.out.alloc HBL38.out.size _).cell (p := ⟨tb, toff, none⟩) HTB.out).trans HTC.out)) (fun hHeld => ?_)
          clear hK K
          try simp only [List.getElem_toArray, List.getElem_cons_zero, List.getElem_cons_succ, Act.put, List.setIfInBounds_toArray, List.set_cons_zero, List.set_cons_succ]
          obtain ⟨hs, hho, honto⟩ := HC38.out.onto HF38.out (by simp) (fun q e => by rcases HQ38.out q e with h1 | h1 | h1 <;> (have := HS3.out; have := HS34.out; have := HS35.out; have := HS36.out; have := HS37.out; have := HS38.out; omega))
          have HON := Lib.hid honto
          clear honto
          refine wpAnyH_ready (rs := [10]) (by kernel_rfl) (by simp) ?_
          refine AllReadyH.cons rfl (fun K hK => ?_) AllReadyH.nil
          refine step_append_at (by rfl) _ _ 27 (by rfl) w34.heap.size 31 j0 _ 1 24 Try.underlying27 hj hy0 hy1 hy2 rfl (by decide) _ _ _ (by rfl) (World.ownsRow.alloc hho _) ⟨w38.heap.size, 0, none⟩ 1 1 [_] (by rfl) rfl (cellN _ _ _ _ rfl) (by simp [Value.oneCell']) (by unfold maxLen; simp; omega) (by simp; omega) (by simp; have := HS3.out; have := HS34.out; have := HS35.out; have := HS36.out; have := HS37.out; have := HS38.out; omega) ?_
          intro v51 w39 hown hgr _
          obtain ⟨A5, c5, L5, rfl, hG5, hL5, hl5, hm5⟩ := HON.out w39 v51 _ hown hgr
          have HG5 := Lib.hid hG5
          have HL5 := Lib.hid hL5
          have HBL39 := Lib.hid ((HBL38.out.alloc HBL38.out.size _).grown hgr (by have := HBL38.out.size; simp; omega) (fun q e => by have := HC38.out.base_le q e; have := HS3.out; have := HS34.out; have := HS35.out; have := HS36.out; have := HS37.out; have := HS38.out; omega))
          clear hown hgr hho HON HC38 HF38 HQ38 hG5 hL5 HBL38
          refine hK.out _ _ (((HBL39.out.cell (p := ⟨tb, toff, none⟩) HTB.out).trans HTC.out)) (fun hHeld => ?_)
          clear hK K
          try simp only [List.getElem_toArray, List.getElem_cons_zero, List.getElem_cons_succ, Act.put, List.setIfInBounds_toArray, List.set_cons_zero, List.set_cons_succ]
          refine wpAnyH_take (i := 11) (v := ?vv11) rfl (by kernel_rfl) (by kernel_rfl) (by kernel_rfl) (fun _ _ _ h => h) (Or.inl ⟨by rfl, ?hy11⟩) (by assumption) ?rest11
          case hy11 => (intro w hSw; (try dsimp only at hSw); (try simp only [List.getElem_toArray, List.getElem_cons_zero, List.getElem_cons_succ]); go_simp <;> with_reducible rfl)
          try simp only [List.getElem_toArray, List.getElem_cons_zero, List.getElem_cons_succ, Act.put, List.setIfInBounds_toArray, List.set_cons_zero, List.set_cons_succ]
          refine wpAnyH_done (by kernel_rfl) ?_ _
          clear hHeld
          have HB5 := HBL39
          clear HBL39
          go_wp2_with fail
          refine (lawCopyI _ c1 L w39 ((HG2.out.below HB5.out).more HB5.out.size) (by omega) HLL.out).mono ?_
          rintro e w20 ⟨v20, rfl, hv20, hb20⟩
          have hni : (L.map List.length)[q]? = some r0.length := by rw [List.getElem?_map, List.getElem?_eq_getElem hql, Option.map_some, HRL.out _ (List.getElem_mem hql)]
          obtain ⟨yg, yc, rfl, hyb, hyl, hyc, hym, hyf⟩ := hv20.head (by rw [List.length_map]; omega)
          obtain ⟨yr, hyr, hrv⟩ := hv20.cell hni
          obtain ⟨yb, yc2, rfl, hyb1, hyb2, hyl1, hym1, hyne, hycs⟩ := hrv.at_ hr1
          obtain ⟨⟨y0, hcy⟩, hfy⟩ := hycs 0 hr1
          have hyn : yb ≠ yg := fun e => hyne (by rw [e]; rfl)
          have hb21 : Below (w39).heap.size w39 (w20.setCell ⟨yb, 0, none⟩ (.int .i64 (-1))) := hb20.grown (grown_set w20 yb 0 (.int .i64 (-1))) hb20.size (fun k e => by cases e; exact hyb1)
          have HB21 := Lib.hid (HB5.out.trans (hb21.mono HB5.out.size))
          have HX21 := Lib.hid ((HG5.out.below hb21).more hb21.size)
          have HT21 := Lib.hid ((HG2.out.below HB21.out).more HB21.out.size)
          have hcy21 : (w20.setCell ⟨yb, 0, none⟩ (.int .i64 (-1))).cell? ⟨yg, q, none⟩ = some (.slice (some ⟨yb, 0, none⟩) r0.length yc2) := (World.cell?_setCell_far _ _ _ _ (by simpa using hyn)).trans hyr
          obtain ⟨Ly, ry, hlyn, hGy, hLyq, hry0⟩ := VG.stored (f := Value.int .i64) (z := -1) (fun x y h => by cases h; rfl) (hv20.store (x := -1) hni hyr hr1) hni hcy21 hr1 (World.cell?_setCell_same _ _ _ hcy)
          have HGY := Lib.hid hGy
          have HBAD := Lib.hid (badT_neg hLyq hry0 (by decide))
          rw [List.length_map] at hlyn hyc ⊢
          have HLY := Lib.hid hlyn
          clear hlyn hGy hLyq hry0 hcy21 hb21 hv20 hrv hycs hyb hyl hyf hyb1 hyb2 hyne hb20 hni
          unfold maxLen at hym hym1
          have hq0 : (0 : Int) ≤ (q : Int) := Int.natCast_nonneg _
          have hq1 : (q : Int) < (L.length : Int) := by omega
          have hr00 : 0 < r0.length := by omega
          go_wp2_with fail
          have hGT := HT21.out.takeN (1 + q)
          rw [← List.map_take] at hGT
          have HGT := Lib.hid hGT
          have HTL := Lib.hid (show 1 + q = (L.take (1 + q)).length by rw [List.length_take]; omega)
          have HL5N := Lib.hid (show L5.length = L.length + 1 by have := congrArg List.length HL5.out; simpa using this)
          clear hGT hcy hfy hyr
          generalize w20.setCell ⟨yb, 0, none⟩ (.int .i64 (-1)) = w21 at *
          refine (implTableValidN _ _ _ (L.take (1 + q)) w21 HGT.out HTL.out (by omega)).mono ?_
          rintro e w9x ⟨hrb, rfl⟩
          obtain rfl := hrb.isTrue (goodT_take HGD.out (by omega))
          clear hrb
          go_wp2_with fail
          refine (implTableValidN _ _ _ L5 w21 HX21.out rfl (by rw [HL5N.out]; omega)).mono ?_
          rintro e w9x ⟨hrb, rfl⟩
          obtain rfl := hrb.isFalse (badT_len HR0.out HL5.out (by omega))
          clear hrb
          go_wp2_with fail
          refine (implTableValidN _ _ _ Ly w21 HGY.out HLY.out.symm (by omega)).mono ?_
          rintro e w9x ⟨hrb, rfl⟩
          obtain rfl := hrb.isFalse HBAD.out
          clear hrb
          go_wp2
          go_ret
          exact ⟨rfl, HB2.out.trans (HB21.out.mono HB2.out.size)⟩
        refine AllReadyH.cons rfl (fun K hK => ?_) AllReadyH.nil
        · go_simp
          have HBL40 : Hid (Below w2.heap.size w2 (w34.alloc (.cells #[] 3))) := HBL34.out.alloc HBL34.out.size _
          have HS40 : Hid (w34.heap.size + 1 = (w34.alloc (.cells #[] 3)).heap.size) := (World.size_alloc _ _).symm
          have HE40 : Hid ((w34.alloc (.cells #[] 3)).ownsRow w2.heap.size 3 1 (.slice (some ⟨w34.heap.size, 0, none⟩) 0 0) 0 []) := ownBlkN (Blk.new w34 _ #[]) rfl HBL34.out.size (by unfold maxLen; omega)
          have HZ40 := Lib.hid (HZ34.out.alloc (.cells #[] 3))
          refine hK.out _ _ (((HBL40.out.cell (p := ⟨tb, toff, none⟩) HTB.out).trans HTC.out)) (fun hHeld => ?_)
          clear hK K
          try simp only [List.getElem_toArray, List.getElem_cons_zero, List.getElem_cons_succ, Act.put, List.setIfInBounds_toArray, List.set_cons_zero, List.set_cons_succ]
          clear HBL34 HZ34
          generalize w34.alloc (.cells #[] 3) = w40 at *
          refine wpAnyH_ready (rs := [1]) (by kernel_rfl) (by simp) ?_
          refine AllReadyH.cons rfl (fun K hK => ?_) AllReadyH.nil
          go_simp
          refine (lawCopyI _ c1 L w40 ((HG2.out.below HBL40.out).more HBL40.out.size) (by omega) HLL.out).mono ?_
          rintro e w41 ⟨v42, rfl, hv42, hb42⟩
          have HC41 := Lib.hid (CP.mk hv42)
          have HBL41 := Lib.hid (HBL40.out.trans (hb42.mono HBL40.out.size))
          have HS41 := Lib.hid hb42.size
          have HE41 := Lib.hid (World.ownsRow.kept HE40.out (belGrown hb42 none) (.inr (by simp [Value.ownBlock])))
          have HZ41 := Lib.hid (HZ40.out.below hb42 HZ40.out.lt)
          clear hv42 hb42 HBL40 HE40 HZ40
          dsimp only
          refine hK.out _ _ (((HBL41.out.cell (p := ⟨tb, toff, none⟩) HTB.out).trans HTC.out)) (fun hHeld => ?_)
          clear hK K
          try simp only [List.getElem_toArray, List.getElem_cons_zero, List.getElem_cons_succ, Act.put, List.setIfInBounds_toArray, List.set_cons_zero, List.set_cons_succ]
          refine wpAnyH_ready (rs := [6]) (by kernel_rfl) (by simp) ?_
          refine AllReadyH.cons rfl (fun K hK => ?_) AllReadyH.nil
          refine step_append_at (by rfl) _ _ 31 (by rfl) w2.heap.size 3 k0 _ 1 8 Try.underlying31 hk hx0 hx1 hx2 rfl (by decide) _ _ _ (by rfl) HE41.out ⟨b6, off6, none⟩ r0.length c6 (r0.map (Value.int .i64)) (by rfl) (by simp) (newsCopyI HR6.out (fun b o hb => HBL41.out.cell (p := ⟨b, o, none⟩) hb)) (by simp [Value.oneCell']) (by unfold maxLen; omega) (by omega) HBL41.out.size ?_
          intro v47 w42 hown hgr hl
          have HF42 : Hid (w42.ownsRow w2.heap.size 3 1 v47 r0.length (r0.map (Value.int .i64))) := by unfold Hid; simpa using hown
          have HQ42 : Hid (∀ q, v47.ownBlock = some q → q = w34.heap.size ∨ q = w41.heap.size) := fun q e => by rcases hl with h | h <;> rw [h] at e <;> simp [Value.ownBlock] at e <;> omega
          have hrow : ∀ q, (Value.slice (some ⟨w34.heap.size, 0, none⟩) 0 0).ownBlock = some q → q = w34.heap.size := fun q e => by simp [Value.ownBlock] at e; exact e.symm
          have HS42 := Lib.hid hgr.size
          have HC42 := Lib.hid (HC41.out.grown hgr (fun q e => by have := hrow q e; have := HS3.out; have := HS34.out; have := HS40.out; have := HS41.out; omega))
          have HZ42 := Lib.hid (HZ41.out.of (hgr.block _ HZ41.out.lt (fun e => by have := hrow _ e.symm; have := HS3.out; have := HS34.out; have := HS40.out; have := HS41.out; omega)))
          have HBL42 := Lib.hid (HBL41.out.grown hgr HBL41.out.size (fun q e => by have := hrow q e; have := HS3.out; have := HS34.out; have := HS40.out; have := HS41.out; omega))
          clear hown hgr hl hrow HBL41 HC41 HE41 HZ41
          refine hK.out _ _ (((HBL42.out.cell (p := ⟨tb, toff, none⟩) HTB.out).trans HTC.out)) (fun hHeld => ?_)
          clear hK K
          try simp only [List.getElem_toArray, List.getElem_cons_zero, List.getElem_cons_succ, Act.put, List.setIfInBounds_toArray, List.set_cons_zero, List.set_cons_succ]
          refine wpAnyH_ready (rs := [8]) (by kernel_rfl) (by simp) ?_
          refine AllReadyH.cons rfl (fun K hK => ?_) AllReadyH.nil
          refine step_append_at (by rfl) _ _ 31 (by rfl) w2.heap.size 3 k0 _ 1 8 Try.underlying31 hk hx0 hx1 hx2 rfl (by decide) _ _ _ (by rfl) HF42.out ⟨w3.heap.size, 0, none⟩ 1 1 [.int .i64 0] (by rfl) rfl (newsBlk HZ42.out) (by simp [Value.oneCell']) (by unfold maxLen; omega) (by omega) HBL42.out.size ?_
          intro v49 w43 hown hgr hl
          have HF43 : Hid (w43.ownsRow w2.heap.size 3 1 v49 (r0.length + 1) ((r0 ++ [0]).map (Value.int .i64))) := by unfold Hid; rw [List.map_append]; exact hown
          have HQ43 : Hid (∀ q, v49.ownBlock = some q → q = w34.heap.size ∨ q = w41.heap.size ∨ q = w42.heap.size) := fun q e => by (rcases hl with h | h); (· rw [h] at e; rcases HQ42.out q e with h1 | h1 <;> omega); (· rw [h] at e; cases e; omega)
          have HS43 := Lib.hid hgr.size
          have HC43 := Lib.hid (HC42.out.grown hgr (fun q e => by rcases HQ42.out q e with h1 | h1 <;> (have := HS3.out; have := HS34.out; have := HS40.out; have := HS41.out; have := HS42.out; omega)))
          have HBL43 := Lib.hid (HBL42.out.grown hgr HBL42.out.size (fun q e => by rcases HQ42.out q e with h1 | h1 <;> (have := HS3.out; have := HS34.out; have := HS40.out; have := HS41.out; have := HS42.out; omega)))
          obtain ⟨A49, c49, rfl, -, -, -⟩ := own_rds HF43.out (by simp)
          clear hown hgr hl HBL42 HC42 HF42 HZ42 HQ42
          refine hK.out _ _ (((HBL43.out.cell (p := ⟨tb, toff, none⟩) HTB.out).trans HTC.out)) (fun hHeld => ?_)
          clear hK K
          try simp only [List.getElem_toArray, List.getElem_cons_zero, List.getElem_cons_succ, Act.put, List.setIfInBounds_toArray, List.set_cons_zero, List.set_cons_succ]
          refine wpAnyH_ready (rs := [9]) (by kernel_rfl) (by simp) ?_
          refine AllReadyH.cons rfl (fun K hK => ?_) AllReadyH.nil
          go_simp
          refine hK.out _ _ ((((HBL43.out.alloc HBL43.out.size _).cell (p := ⟨tb, toff, none⟩) HTB.out).trans HTC.out)) (fun hHeld => ?_)
          clear hK K
          try simp only [List.getElem_toArray, List.getElem_cons_zero, List.getElem_cons_succ, Act.put, List.setIfInBounds_toArray, List.set_cons_zero, List.set_cons_succ]
          obtain ⟨hs, hho, honto⟩ := HC43.out.onto HF43.out (by simp) (fun q e => by rcases HQ43.out q e with h1 | h1 | h1 <;> (have := HS3.out; have := HS34.out; have := HS40.out; have := HS41.out; have := HS42.out; have := HS43.out; omega))
          have HON := Lib.hid honto
          clear honto
          refine wpAnyH_ready (rs := [10]) (by kernel_rfl) (by simp) ?_
          refine AllReadyH.cons rfl (fun K hK => ?_) AllReadyH.nil
          refine step_append_at (by rfl) _ _ 27 (by rfl) w40.heap.size 31 j0 _ 1 24 Try.underlying27 hj hy0 hy1 hy2 rfl (by decide) _ _ _ (by rfl) (World.ownsRow.alloc hho _) ⟨w43.heap.size, 0, none⟩ 1 1 [_] (by rfl) rfl (cellN _ _ _ _ rfl) (by simp [Value.oneCell']) (by unfold maxLen; simp; omega) (by simp; omega) (by simp; have := HS3.out; have := HS34.out; have := HS40.out; have := HS41.out; have := HS42.out; have := HS43.out; omega) ?_
          intro v51 w44 hown hgr _
          obtain ⟨A5, c5, L5, rfl, hG5, hL5, hl5, hm5⟩ := HON.out w44 v51 _ hown hgr
          have HG5 := Lib.hid hG5
          have HL5 := Lib.hid hL5
          have HBL44 := Lib.hid ((HBL43.out.alloc HBL43.out.size _).grown hgr (by have := HBL43.out.size; simp; omega) (fun q e => by have := HC43.out.base_le q e; have := HS3.out; have := HS34.out; have := HS40.out; have := HS41.out; have := HS42.out; have := HS43.out; omega))
          clear hown hgr hho HON HC43 HF43 HQ43 hG5 hL5 HBL43
          refine hK.out _ _ (((HBL44.out.cell (p := ⟨tb, toff, none⟩) HTB.out).trans HTC.out)) (fun hHeld => ?_)
          clear hK K
          try simp only [List.getElem_toArray, List.getElem_cons_zero, List.getElem_cons_succ, Act.put, List.setIfInBounds_toArray, List.set_cons_zero, List.set_cons_succ]
          refine wpAnyH_take (i := 11) (v := ?vv12) rfl (by kernel_rfl) (by kernel_rfl) (by kernel_rfl) (fun _ _ _ h => h) (Or.inl ⟨by rfl, ?hy12⟩) (by assumption) ?rest12
          case hy12 => (intro w hSw; (try dsimp only at hSw); (try simp only [List.getElem_toArray, List.getElem_cons_zero, List.getElem_cons_succ]); go_simp <;> with_reducible rfl)
          try simp only [List.getElem_toArray, List.getElem_cons_zero, List.getElem_cons_succ, Act.put, List.setIfInBounds_toArray, List.set_cons_zero, List.set_cons_succ]
          refine wpAnyH_done (by kernel_rfl) ?_ _
          clear hHeld
          have HB5 := HBL44
          clear HBL44
          go_wp2_with fail
          refine (lawCopyI _ c1 L w44 ((HG2.out.below HB5.out).more HB5.out.size) (by omega) HLL.out).mono ?_
          rintro e w20 ⟨v20, rfl, hv20, hb20⟩
          have hni : (L.map List.length)[q]? = some r0.length := by rw [List.getElem?_map, List.getElem?_eq_getElem hql, Option.map_some, HRL.out _ (List.getElem_mem hql)]
          obtain ⟨yg, yc, rfl, hyb, hyl, hyc, hym, hyf⟩ := hv20.head (by rw [List.length_map]; omega)
          obtain ⟨yr, hyr, hrv⟩ := hv20.cell hni
          obtain ⟨yb, yc2, rfl, hyb1, hyb2, hyl1, hym1, hyne, hycs⟩ := hrv.at_ hr1
          obtain ⟨⟨y0, hcy⟩, hfy⟩ := hycs 0 hr1
          have hyn : yb ≠ yg := fun e => hyne (by rw [e]; rfl)
          have hb21 : Below (w44).heap.size w44 (w20.setCell ⟨yb, 0, none⟩ (.int .i64 (-1))) := hb20.grown (grown_set w20 yb 0 (.int .i64 (-1))) hb20.size (fun k e => by cases e; exact hyb1)
          have HB21 := Lib.hid (HB5.out.trans (hb21.mono HB5.out.size))
          have HX21 := Lib.hid ((HG5.out.below hb21).more hb21.size)
          have HT21 := Lib.hid ((HG2.out.below HB21.out).more HB21.out.size)
          have hcy21 : (w20.setCell ⟨yb, 0, none⟩ (.int .i64 (-1))).cell? ⟨yg, q, none⟩ = some (.slice (some ⟨yb, 0, none⟩) r0.length yc2) := (World.cell?_setCell_far _ _ _ _ (by simpa using hyn)).trans hyr
          obtain ⟨Ly, ry, hlyn, hGy, hLyq, hry0⟩ := VG.stored (f := Value.int .i64) (z := -1) (fun x y h => by cases h; rfl) (hv20.store (x := -1) hni hyr hr1) hni hcy21 hr1 (World.cell?_setCell_same _ _ _ hcy)
          have HGY := Lib.hid hGy
          have HBAD := Lib.hid (badT_neg hLyq hry0 (by decide))
          rw [List.length_map] at hlyn hyc ⊢
          have HLY := Lib.hid hlyn
          clear hlyn hGy hLyq hry0 hcy21 hb21 hv20 hrv hycs hyb hyl hyf hyb1 hyb2 hyne hb20 hni
          unfold maxLen at hym hym1
          have hq0 : (0 : Int) ≤ (q : Int) := Int.natCast_nonneg _
          have hq1 : (q : Int) < (L.length : Int) := by omega
          have hr00 : 0 < r0.length := by omega
          go_wp2_with fail
          have hGT := HT21.out.takeN (1 + q)
          rw [← List.map_take] at hGT
          have HGT := Lib.hid hGT
          have HTL := Lib.hid (show 1 + q = (L.take (1 + q)).length by rw [List.length_take]; omega)
          have HL5N := Lib.hid (show L5.length = L.length + 1 by have := congrArg List.length HL5.out; simpa using this)
          clear hGT hcy hfy hyr
          generalize w20.setCell ⟨yb, 0, none⟩ (.int .i64 (-1)) = w21 at *
          refine (implTableValidN _ _ _ (L.take (1 + q)) w21 HGT.out HTL.out (by omega)).mono ?_
          rintro e w9x ⟨hrb, rfl⟩
          obtain rfl := hrb.isTrue (goodT_take HGD.out (by omega))
          clear hrb
          go_wp2_with fail
          refine (implTableValidN _ _ _ L5 w21 HX21.out rfl (by rw [HL5N.out]; omega)).mono ?_
          rintro e w9x ⟨hrb, rfl⟩
          obtain rfl := hrb.isFalse (badT_len HR0.out HL5.out (by omega))
          clear hrb
          go_wp2_with fail
          refine (implTableValidN _ _ _ Ly w21 HGY.out HLY.out.symm (by omega)).mono ?_
          rintro e w9x ⟨hrb, rfl⟩
          obtain rfl := hrb.isFalse HBAD.out
          clear hrb
          go_wp2
          go_ret
          exact ⟨rfl, HB2.out.trans (HB21.out.mono HB2.out.size)⟩
    · clear hrb
      go_wp2_with fail
      refine (specTableValid _ _ L w1 HG.out (by omega)).mono ?_
      rintro e w2 ⟨hrb2, hb2⟩
      obtain rfl := hrb2.isFalse HGD.out
      go_wp2
      go_ret
      exact ⟨rfl, HB1.out.trans (hb2.mono HB1.out.size)⟩
  · rcases (show 1048576 < bs.length ∨ (bs.length ≤ 1048576 ∧ 1048576 < ms.length) by omega) with hx1 | ⟨hx1, hx2⟩
    all_goals
      go_enter Try.func4, Try.ntmps4
      go_wp2
      go_ret
      exact ⟨rfl, Below.refl _ _⟩
end Go.Proofs.Ytfhidimmaeiiaaa.WFnTable
