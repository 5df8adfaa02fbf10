/- FnExactAnonKeep, walked: true, and nothing that was there has turned. -/
import Derived.Test.YtfpddhehdfckjaaSzeqInt
import Derived.Test.YtfpddhehdfckjaaSzeqPpl
import Derived.Test.YtfpddhehdfckjaaMark2
import Derived.Test.YtfpddhehdfckjaaPV
import Derived.Test.YtfpddhehdfckjaaKeepS
namespace Go.Proofs.Ytfpddhehdfckjaa.WFnExactAnonKeep
open Go.RowKit
set_option linter.unusedVariables false

theorem OGrd.pick {w w' : World} {N tr te g : Nat} {rs : List (List Value)} (h : OGrd w N tr te rs) (hg : w.grownBy w' (some g)) (hgn : g < N) : OGrd w' N tr te rs :=
  ⟨h.1.of (hg.block N h.1.lt (fun e => by simp at e; omega)), h.2.keep fun b hb _ => hg.block b (by have := h.lt; omega) (fun e => by simp at e; omega)⟩
set_option maxRecDepth 100000 in
set_option maxHeartbeats 4000000 in
theorem walk (w : World) (A : Option Addr) (c : Nat) (l : List Pn) (hn : l.length ≤ 9223372036854775807) (hP : Ppl w w.heap.size A l) (hpo : ∀ p ∈ l, p.ok) (A2 : Option Addr) (c2 : Nat) (L : List (List Int)) (hn2 : L.length ≤ 9223372036854775807) (hG : Grd w w.heap.size A2 (L.map (·.map (Value.int .i64)))) (hLb : ∀ r ∈ L, ∀ z ∈ r, -9223372036854775808 ≤ z ∧ z ≤ 9223372036854775807) (r : Rc) (hro : r.ok) (k0 : Int) (hk0 : -9223372036854775808 ≤ k0 ∧ k0 ≤ 9223372036854775807) :
    Calls Try.prog 13 #[.slice A l.length c, .slice A2 L.length c2, r.val, .int .i64 k0] w fun e w' => e = .returned (.bool true) ∧ Below w.heap.size w w' := by
  have HPO := Lib.hid hpo
  have HLB := Lib.hid hLb
  clear hpo hLb
  obtain ⟨V, hV⟩ : ∃ V, V = kV l L r k0 := ⟨_, rfl⟩
  obtain ⟨B, hB⟩ : ∃ B, B = kB l L r k0 := ⟨_, rfl⟩
  have hVl : V.length ≤ l.length := by rw [hV]; exact kV_len l L _ k0
  have HV := Lib.hid hV
  have HVB := Lib.hid hB
  clear hV hB
  have HB := Lib.hid (fun o => (Below.refl w.heap.size w).alloc (Nat.le_refl _) o)
  obtain ⟨ra, rj, rs⟩ := r
  unfold Rc.val
  dsimp only
  have hblk := Blk.new w 54 #[.int .i64 ra, .int .i64 rj, .int .i64 rs]
  by_cases hl : l.length ≤ 1048576
  · have e1 := szR_yes (left := 1048576) (n := l.length) (by omega)
    by_cases ht : tot L ≤ 1048576 - l.length
    · have e2 := szR_yes (left := 1048576 - l.length) (n := tot L) (by omega)
      have hx1 : (0 : Int) ≤ 1048576 - (l.length : Int) := by omega
      have hx2 : (0 : Int) ≤ 1048576 - (l.length : Int) - (tot L : Int) := by omega
      have E1 := Lib.hid e1
      have E2 := Lib.hid e2
      clear e1 e2
      have ht' : tot L ≤ 1048576 := by omega
      have HL := Lib.hid (fun r hr => Nat.le_trans (len_le L _ ht' r hr) (show 1048576 ≤ 2000000 by decide))
      have hLl : L.length ≤ 1048576 := by unfold tot at ht'; omega
      have hLs : lens L ≤ 1048576 := by unfold tot at ht'; omega
      go_enter Try.func13, Try.ntmps13
      go_wp2_with fail
      have hb0 : Below w.heap.size w (w.alloc (.cells #[.int .i64 ra, .int .i64 rj, .int .i64 rs] 54)) := HB.out _
      generalize hw0 : w.alloc (.cells #[.int .i64 ra, .int .i64 rj, .int .i64 rs] 54) = w0 at *
      clear hw0
      have hP0 := (hP.below hb0).more hb0.size
      have hG0 := (hG.below hb0).more hb0.size
      refine (SzPpl.szS A l.length c _ w0 (by omega) (by omega) hn).mono ?_
      rintro e w' ⟨rfl, rfl⟩
      rw [E1.out]
      go_wp2_with fail
      refine (SzInt.szSS A2 c2 L _ w0 hG0 (by omega) (by omega) hn2).mono ?_
      rintro e w' ⟨rfl, rfl⟩
      rw [E2.out]
      go_wp2_with fail
      have hd0 := hblk.cell 0
      have hd1 := hblk.cell 1
      have hd2 := hblk.cell 2
      simp at hd0 hd1 hd2
      have hbw : w.heap.size < w0.heap.size := hblk.lt
      go_region_held3 (fun w' => w'.cell? ⟨w.heap.size, 0, none⟩ = some (.int .i64 ra) ∧ w'.cell? ⟨w.heap.size, 1, none⟩ = some (.int .i64 rj) ∧ w'.cell? ⟨w.heap.size, 2, none⟩ = some (.int .i64 rs))
        (go_keep)
        (first
          | (go_at_call 39; refine (SzPpl.toS A c l _ (by exact hP0) (by omega)).mono ?_; rintro e w1 ⟨rfl, hk1, hb1'⟩; have hb1 : Below w0.heap.size w0 w1 := (Below.refl w0.heap.size w0).drew.trans hb1'; clear hb1'; have hcell1 : ∀ x o, x < w0.heap.size → w1.cell? ⟨x, o, none⟩ = w0.cell? ⟨x, o, none⟩ := fun x o hx => hb1.cell (p := ⟨x, o, none⟩) hx; have HB1 := Lib.hid hb1; have HK1 : Hid (Blk w1 w0.heap.size 82 (l.flatMap Pn.vals)) := hk1; clear hb1 hk1)
          | (go_at_call 17; refine (SzInt.toSS A2 c2 L w1 ((Grd.below hG0 HB1.out).more HB1.out.size) (by omega) HL.out).mono ?_; rintro e w2 ⟨rfl, ho2, hb2⟩; have hb02 := HB1.out.trans (hb2.mono HB1.out.size); have hcell2 : ∀ x o, x < w0.heap.size → w2.cell? ⟨x, o, none⟩ = w0.cell? ⟨x, o, none⟩ := fun x o hx => hb02.cell (p := ⟨x, o, none⟩) hx; have HO2 := Lib.hid ho2; have HB2 := Lib.hid hb2; have HB02 := Lib.hid hb02; clear hb02 hb2 ho2)
          | (go_at_call 40; refine (SzPpl.toRec ⟨ra, rj, rs⟩ w2).mono ?_; rintro e w3 ⟨rfl, hb3⟩; have hb03 := HB02.out.trans (hb3.mono HB02.out.size); have hb13 := HB2.out.trans (hb3.mono HB2.out.size); have HA3 : Hid (Arg w3 (some ⟨w0.heap.size, 0, none⟩) l (some ⟨w1.heap.size, 0, none⟩) L) := ⟨SzPpl.ppl_of_blk (HK1.out.below hb13 HK1.out.lt) (Nat.lt_of_lt_of_le HK1.out.lt hb13.size), (by omega), Grd.of_tot HO2.out hb3 ht', (by omega), HL.out⟩; have hcell3 : ∀ x o, x < w0.heap.size → w3.cell? ⟨x, o, none⟩ = w0.cell? ⟨x, o, none⟩ := fun x o hx => hb03.cell (p := ⟨x, o, none⟩) hx; have HB03 := Lib.hid hb03; clear hb03 hb13 hb3)
          | (go_at_call 38; refine (specAnonKeepV _ _ _ _ l L ⟨ra, rj, rs⟩ k0 w3 HA3.out).mono ?_; rw [← HV.out, ← HVB.out]; rintro e w4 ⟨vS, rfl, ho4, hb4⟩; have hb04 := HB03.out.trans (hb4.mono HB03.out.size); have hcell4 : ∀ x o, x < w0.heap.size → w4.cell? ⟨x, o, none⟩ = w0.cell? ⟨x, o, none⟩ := fun x o hx => hb04.cell (p := ⟨x, o, none⟩) hx; have HB04 := Lib.hid hb04; have HO4 := Lib.hid ho4; clear hb04 hb4 ho4)
          | fail)
      have hb04 := HB04.out
      obtain ⟨AS, cS, rfl, hPS, -, -⟩ := HO4.out.form
      have HS4 := Lib.hid hPS
      clear hcell1 hcell2 hcell3 hcell4 hd0 hd1 hd2 HO4 hPS HK1 HB1 HO2 HB2 HB02 HA3 HB03 HB04
      go_wp2_with fail
      refine (SzPpl.toS A c l w4 ((hP0.below hb04).more hb04.size) (by omega)).mono ?_
      rintro e w5 ⟨rfl, hk5, hb5⟩
      have hb05 := hb04.trans (hb5.mono hb04.size)
      go_wp2_with fail
      refine (SzInt.toSS A2 c2 L w5 ((hG0.below hb05).more hb05.size) (by omega) HL.out).mono ?_
      rintro e w6 ⟨rfl, ho6, hb6⟩
      have hb06 := hb05.trans (hb6.mono hb05.size)
      have hd0 := (hblk.below hb06 hblk.lt).cell 0
      have hd1 := (hblk.below hb06 hblk.lt).cell 1
      have hd2 := (hblk.below hb06 hblk.lt).cell 2
      simp at hd0 hd1 hd2
      go_wp2_with fail
      refine (SzPpl.toRec ⟨ra, rj, rs⟩ w6).mono ?_
      rintro e w7 ⟨rfl, hb7⟩
      have hb57 := hb6.trans (hb7.mono hb6.size)
      have hA7 : Arg w7 (some ⟨w4.heap.size, 0, none⟩) l (some ⟨w5.heap.size, 0, none⟩) L := ⟨SzPpl.ppl_of_blk (hk5.below hb57 hk5.lt) (Nat.lt_of_lt_of_le hk5.lt hb57.size), by omega, Grd.of_tot ho6 hb7 ht', by omega, HL.out⟩
      clear hd0 hd1 hd2
      go_wp2_with fail
      refine (implAnonKeepV _ _ _ _ l L ⟨ra, rj, rs⟩ k0 w7 hA7).mono ?_
      rw [← HV.out, ← HVB.out]
      rintro e w8 ⟨vI, rfl, hoI, hb8⟩
      obtain ⟨AI, cI, rfl, hPI, -, -⟩ := hoI.form
      have hs45 : w4.heap.size < w5.heap.size := hk5.lt
      have hs56 : w5.heap.size + 1 + L.length ≤ w6.heap.size := by have := ho6.lt; rw [List.length_map] at this; exact this
      have hs67 := hb7.size
      have hs78 := hb8.size
      have hb48 : Below w4.heap.size w4 w8 := (hb5.trans (hb57.mono hb5.size)).trans (hb8.mono (Nat.le_trans hb5.size hb57.size))
      have hb58 : Below w5.heap.size w5 w8 := hb57.trans (hb8.mono hb57.size)
      have hb68 : Below w6.heap.size w6 w8 := hb7.trans (hb8.mono hb7.size)
      have hb08 := hb04.trans (hb48.mono hb04.size)
      have HOI := Lib.hid hoI
      have HK5 := Lib.hid (hk5.below hb58 hk5.lt)
      have HO6 := Lib.hid (ho6.below hb68 ho6.lt)
      have HB48 := Lib.hid hb48
      have HA8 := Lib.hid (hA7.below hb8)
      clear hoI hk5 ho6 hb57 hb58 hb68 hb7 hb6 hb5 hb05 hb06 hA7 hb48
      go_wp2_with fail
      refine (SzPpl.eqS _ _ _ _ V w8 hPI ((HS4.out.below HB48.out).more HB48.out.size) (by omega)).mono ?_
      rintro e w9 ⟨rfl, hb9⟩
      have hb09 := hb08.trans (hb9.mono hb08.size)
      clear hPI
      go_wp2_with fail
      refine (SzPpl.toS A c l w9 ((hP0.below hb09).more hb09.size) (by omega)).mono ?_
      rintro e w10 ⟨rfl, hk10, hb10⟩
      have hb810 := Bel2 hb9 hb10
      go_wp2_with fail
      refine (SzPpl.eqS _ _ _ _ l w10 (HA8.out.below hb810).1 (SzPpl.ppl_of_blk hk10 hk10.lt) (by omega)).mono ?_
      rintro e w11 ⟨rfl, hb11⟩
      have hb811 := Bel2 hb810 hb11
      have hb011 := hb08.trans (hb811.mono hb08.size)
      go_wp2_with fail
      refine (SzInt.toSS A2 c2 L w11 ((hG0.below hb011).more hb011.size) (by omega) HL.out).mono ?_
      rintro e w12 ⟨rfl, ho12, hb12⟩
      have hb812 := Bel2 hb811 hb12
      go_wp2_with fail
      refine (SzInt.eqSS _ _ _ _ L w12 (HA8.out.below hb812).2.2.1 (Grd.of_tot ho12 (Below.refl _ _) ht') (by omega) HL.out).mono ?_
      rintro e w13 ⟨rfl, hw13⟩
      have hb813 : Below w8.heap.size w8 w13 := by obtain ⟨n, rfl⟩ := hw13; exact bdrewN hb812 n
      have HK13 := Lib.hid (own_of_blk (HK5.out.below hb813 HK5.out.lt) (Nat.le_refl _) hl)
      have HO13 := Lib.hid (HO6.out.below hb813 HO6.out.lt)
      have HI13 := Lib.hid (OPpl.below HOI.out hb813)
      have HB013 := Lib.hid (hb08.trans (hb813.mono hb08.size))
      have HB413 := Lib.hid (HB48.out.trans (hb813.mono HB48.out.size))
      clear hw13 hb813 hb812 hb811 hb810 hb12 hb11 hb10 hb9 hb09 hb011 ho12 hk10 HK5 HO6 HOI HB48 HA8 hb08
      go_wp2_with fail
      refine (markP w4.heap.size 82 w4.heap.size l.length l 1 w13 HK13.out hl (by omega) (by omega)).mono ?_
      rintro e w14 ⟨rfl, -, hg14⟩
      have HO14 := Lib.hid (OGrd.pick HO13.out hg14 hs45)
      have HI14 : Hid (OPpl w14 w7.heap.size 82 (.slice AI V.length cI) V) := own_hold HI13.out (fun b hb hl => hg14.block b hl (fun e => by simp only [Option.some.injEq] at e; omega))
      have hs04 := hb04.size
      have hs813 := HB013.out.size
      have HB014 := Lib.hid (HB013.out.grown hg14 HB013.out.size (fun k e => by cases e; exact hs04))
      have HB414 := Lib.hid (HB413.out.grown hg14 HB413.out.size (fun k e => by cases e; exact Nat.le_refl _))
      clear hg14 HO13 HI13 HB013 HB413 HK13
      go_wp2_with fail
      refine (markII w5.heap.size L (1 + 4 * (l.length : Int)) w14 HO14.out ht' (by omega) (by omega)).mono ?_
      rintro e w15 ⟨rfl, hon⟩
      have HI15 := Lib.hid (hon.own HI14.out (by omega))
      have hs14 := HO14.out.lt
      rw [List.length_map] at hs14
      have hb1415 := hon.below (by omega)
      have HB015 := Lib.hid (HB014.out.trans (hb1415.mono (by omega)))
      have HB415 := Lib.hid (HB414.out.trans (hb1415.mono (by omega)))
      clear hon hb1415 HB014 HB414 HI14 HO14
      obtain ⟨AI', cI', eI, hPI, -, -⟩ := HI15.out.form
      simp only [Value.slice.injEq, true_and] at eI
      obtain ⟨rfl, rfl⟩ := eI
      go_wp2_with fail
      refine (SzPpl.eqS _ _ _ _ V w15 hPI ((HS4.out.below HB415.out).more HB415.out.size) (by omega)).mono ?_
      rintro e w16 ⟨rfl, hb16⟩
      clear hPI
      go_wp2_with fail
      refine (markPo w7.heap.size 82 _ V 1 w16 (OPpl.below HI15.out hb16) (by omega) (by omega) (by omega)).mono ?_
      rintro e w17 ⟨rfl, hoM, hg17⟩
      have hob := own_base HI15.out
      have HB017 := Lib.hid ((HB015.out.trans (hb16.mono HB015.out.size)).grown hg17 (Nat.le_trans HB015.out.size hb16.size) (fun k e => by have := hob k e; omega))
      have HB417 := Lib.hid ((HB415.out.trans (hb16.mono HB415.out.size)).grown hg17 (Nat.le_trans HB415.out.size hb16.size) (fun k e => by have := hob k e; omega))
      have hPM : Ppl w17 w17.heap.size AI (mks 1 V.length) := by
        obtain ⟨A', c', e', hP', -, -⟩ := hoM.form
        rw [mks_len] at e'
        simp only [Value.slice.injEq, true_and] at e'
        obtain ⟨rfl, rfl⟩ := e'
        exact hP'
      have HPM := Lib.hid hPM
      clear hoM hg17 hob hb16 HB015 HB415 HI15 hPM
      go_wp2_with fail
      refine (heldP AI cI V.length 1 w17 HPM.out (by omega) (by omega) (by omega)).mono ?_
      rintro e w' ⟨rfl, rfl⟩
      go_wp2_with fail
      have hb017 := HB017.out
      have hP17 := (hP0.below hb017).more hb017.size
      have hG17 := (hG0.below hb017).more hb017.size
      have hblk17 := hblk.below hb017 hblk.lt
      have hd0 := hblk17.cell 0
      have hd1 := hblk17.cell 1
      have hd2 := hblk17.cell 2
      simp at hd0 hd1 hd2
      have hbw17 : w.heap.size < w17.heap.size := hblk17.lt
      clear hblk17 hb017
      go_region_held3 (fun w' => w'.cell? ⟨w.heap.size, 0, none⟩ = some (.int .i64 ra) ∧ w'.cell? ⟨w.heap.size, 1, none⟩ = some (.int .i64 rj) ∧ w'.cell? ⟨w.heap.size, 2, none⟩ = some (.int .i64 rs))
        (go_keep)
        (first
          | (go_at_call 39; refine (SzPpl.toS A c l _ (by exact hP17) (by omega)).mono ?_; rintro e w18 ⟨rfl, hk1, hb1'⟩; have hb1 : Below w17.heap.size w17 w18 := (Below.refl w17.heap.size w17).drew.trans hb1'; clear hb1'; have hcell1 : ∀ x o, x < w17.heap.size → w18.cell? ⟨x, o, none⟩ = w17.cell? ⟨x, o, none⟩ := fun x o hx => hb1.cell (p := ⟨x, o, none⟩) hx; have HB1 := Lib.hid hb1; have HK1 : Hid (Blk w18 w17.heap.size 82 (l.flatMap Pn.vals)) := hk1; clear hb1 hk1)
          | (go_at_call 17; refine (SzInt.toSS A2 c2 L w18 ((Grd.below hG17 HB1.out).more HB1.out.size) (by omega) HL.out).mono ?_; rintro e w19 ⟨rfl, ho2, hb2⟩; have hb02 := HB1.out.trans (hb2.mono HB1.out.size); have hcell2 : ∀ x o, x < w17.heap.size → w19.cell? ⟨x, o, none⟩ = w17.cell? ⟨x, o, none⟩ := fun x o hx => hb02.cell (p := ⟨x, o, none⟩) hx; have HO2 := Lib.hid ho2; have HB2 := Lib.hid hb2; have HB02 := Lib.hid hb02; clear hb02 hb2 ho2)
          | (go_at_call 40; refine (SzPpl.toRec ⟨ra, rj, rs⟩ w19).mono ?_; rintro e w20 ⟨rfl, hb3⟩; have hb03 := HB02.out.trans (hb3.mono HB02.out.size); have hb13 := HB2.out.trans (hb3.mono HB2.out.size); have HA3 : Hid (Arg w20 (some ⟨w17.heap.size, 0, none⟩) l (some ⟨w18.heap.size, 0, none⟩) L) := ⟨SzPpl.ppl_of_blk (HK1.out.below hb13 HK1.out.lt) (Nat.lt_of_lt_of_le HK1.out.lt hb13.size), (by omega), Grd.of_tot HO2.out hb3 ht', (by omega), HL.out⟩; have hcell3 : ∀ x o, x < w17.heap.size → w20.cell? ⟨x, o, none⟩ = w17.cell? ⟨x, o, none⟩ := fun x o hx => hb03.cell (p := ⟨x, o, none⟩) hx; have HB03 := Lib.hid hb03; clear hb03 hb13 hb3)
          | (go_at_call 41; refine (implAnonKeepV _ _ _ _ l L ⟨ra, rj, rs⟩ k0 w20 HA3.out).mono ?_; rw [← HV.out, ← HVB.out]; rintro e w21 ⟨vH, rfl, ho4, hb4⟩; have hb04 := HB03.out.trans (hb4.mono HB03.out.size); have hcell4 : ∀ x o, x < w17.heap.size → w21.cell? ⟨x, o, none⟩ = w17.cell? ⟨x, o, none⟩ := fun x o hx => hb04.cell (p := ⟨x, o, none⟩) hx; have HB04 := Lib.hid hb04; have HO4 := Lib.hid ho4; clear hb04 hb4 ho4)
          | fail)
      have hb1721 := HB04.out
      obtain ⟨AH, cH, rfl, hPH, -, -⟩ := HO4.out.form
      have hb421 := HB417.out.trans (hb1721.mono HB417.out.size)
      clear hcell1 hcell2 hcell3 hcell4 hd0 hd1 hd2
      go_wp2_with fail
      refine (SzPpl.eqS _ _ _ _ V w21 hPH ((HS4.out.below hb421).more hb421.size) (by omega)).mono ?_
      rintro e w22 ⟨rfl, hb22⟩
      have hb1722 := Bel2 hb1721 hb22
      go_wp2_with fail
      refine (heldP AI cI V.length 1 w22 ((HPM.out.below hb1722).more hb1722.size) (by omega) (by omega) (by omega)).mono ?_
      rintro e w' ⟨rfl, rfl⟩
      go_wp2
      go_ret
      exact ⟨rfl, hb0.trans ((HB017.out.trans (hb1722.mono HB017.out.size)).mono hb0.size)⟩
    · have e2 := szR_no (left := 1048576 - l.length) (n := tot L) (by omega)
      have hx1 : (0 : Int) ≤ 1048576 - (l.length : Int) := by omega
      have E1 := Lib.hid e1
      have E2 := Lib.hid e2
      clear e1 e2
      go_enter Try.func13, Try.ntmps13
      go_wp2_with fail
      refine (SzPpl.szS A l.length c _ _ (by omega) (by omega) hn).mono ?_
      rintro e w' ⟨rfl, rfl⟩
      rw [E1.out]
      go_wp2_with fail
      refine (SzInt.szSS A2 c2 L _ _ ((hG.below (HB.out _)).more (HB.out _).size) (by omega) (by omega) hn2).mono ?_
      rintro e w' ⟨rfl, rfl⟩
      rw [E2.out]
      go_wp2
      go_ret
      exact ⟨rfl, HB.out _⟩
  · have e1 := szR_no (left := 1048576) (n := l.length) (by omega)
    have E1 := Lib.hid e1
    clear e1
    go_enter Try.func13, Try.ntmps13
    go_wp2_with fail
    refine (SzPpl.szS A l.length c _ _ (by omega) (by omega) hn).mono ?_
    rintro e w' ⟨rfl, rfl⟩
    rw [E1.out]
    go_wp2
    go_ret
    exact ⟨rfl, HB.out _⟩
end Go.Proofs.Ytfpddhehdfckjaa.WFnExactAnonKeep
