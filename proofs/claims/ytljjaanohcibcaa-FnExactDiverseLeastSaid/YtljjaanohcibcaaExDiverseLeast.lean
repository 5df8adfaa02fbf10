/- FnExactDiverseLeast, walked: true, and nothing that was there has turned. -/
import Derived.Test.YtljjaanohcibcaaSzeqInt
import Derived.Test.YtljjaanohcibcaaSzeqPpl
import Derived.Test.YtljjaanohcibcaaDivLeastI
import Derived.Test.YtljjaanohcibcaaDivLeastS
namespace Go.Proofs.Ytljjaanohcibcaa.WFnExactDiverseLeast
open Go.RowKit
set_option linter.unusedVariables false

set_option maxHeartbeats 1000000 in
theorem walk (w : World) (A : Option Addr) (c : Nat) (l : List Pn) (hn : l.length ≤ 9223372036854775807) (hP : Ppl w w.heap.size A l) (hpo : ∀ p ∈ l, p.ok) (A2 : Option Addr) (c2 : Nat) (L : List (List Int)) (hn2 : L.length ≤ 9223372036854775807) (hG : Grd w w.heap.size A2 (L.map (·.map (Value.int .i64)))) (hLb : ∀ r ∈ L, ∀ z ∈ r, -9223372036854775808 ≤ z ∧ z ≤ 9223372036854775807) (r : Rc) (hro : r.ok) :
    Calls Try.prog 5 #[.slice A l.length c, .slice A2 L.length c2, r.val] w fun e w' => e = .returned (.bool true) ∧ Below w.heap.size w w' := by
  have HPO := Lib.hid hpo
  have HLB := Lib.hid hLb
  clear hpo hLb
  obtain ⟨V, hV⟩ : ∃ V, V = dLeast l L r := ⟨_, rfl⟩
  have HV := Lib.hid hV
  clear hV
  have HB := Lib.hid (fun o => (Below.refl w.heap.size w).alloc (Nat.le_refl _) o)
  obtain ⟨ra, rj, rs⟩ := r
  unfold Rc.val
  dsimp only
  have hblk := Blk.new w 35 #[.int .i64 ra, .int .i64 rj, .int .i64 rs]
  by_cases hl : l.length ≤ 1048576
  · have e1 := szR_yes (left := 1048576) (n := l.length) (by omega)
    by_cases ht : tot L ≤ 1048576 - l.length
    · have e2 := szR_yes (left := 1048576 - l.length) (n := tot L) (by omega)
      have hx1 : (0 : Int) ≤ 1048576 - (l.length : Int) := by omega
      have hx2 : (0 : Int) ≤ 1048576 - (l.length : Int) - (tot L : Int) := by omega
      have E1 := Lib.hid e1
      have E2 := Lib.hid e2
      clear e1 e2
      have ht' : tot L ≤ 1048576 := by omega
      have HL := Lib.hid (fun r hr => Nat.le_trans (len_le L _ ht' r hr) (show 1048576 ≤ 2000000 by decide))
      have hLl : L.length ≤ 1048576 := by unfold tot at ht'; omega
      go_enter Try.func5, Try.ntmps5
      go_wp2_with fail
      have hb0 : Below w.heap.size w (w.alloc (.cells #[.int .i64 ra, .int .i64 rj, .int .i64 rs] 35)) := HB.out _
      generalize hw0 : w.alloc (.cells #[.int .i64 ra, .int .i64 rj, .int .i64 rs] 35) = w0 at *
      clear hw0
      have hP0 := (hP.below hb0).more hb0.size
      have hG0 := (hG.below hb0).more hb0.size
      refine (SzPpl.szS A l.length c _ w0 (by omega) (by omega) hn).mono ?_
      rintro e w' ⟨rfl, rfl⟩
      rw [E1.out]
      go_wp2_with fail
      refine (SzInt.szSS A2 c2 L _ w0 hG0 (by omega) (by omega) hn2).mono ?_
      rintro e w' ⟨rfl, rfl⟩
      rw [E2.out]
      go_wp2_with fail
      have hd0 := hblk.cell 0
      have hd1 := hblk.cell 1
      have hd2 := hblk.cell 2
      simp at hd0 hd1 hd2
      have hbw : w.heap.size < w0.heap.size := hblk.lt
      go_region_held3 (fun w' => w'.cell? ⟨w.heap.size, 0, none⟩ = some (.int .i64 ra) ∧ w'.cell? ⟨w.heap.size, 1, none⟩ = some (.int .i64 rj) ∧ w'.cell? ⟨w.heap.size, 2, none⟩ = some (.int .i64 rs))
        (go_keep)
        (first
          | (go_at_call 26; refine (SzPpl.toS A c l _ (by exact hP0) (by omega)).mono ?_; rintro e w1 ⟨rfl, hk1, hb1'⟩; have hb1 : Below w0.heap.size w0 w1 := (Below.refl w0.heap.size w0).drew.trans hb1'; clear hb1'; have hcell1 : ∀ x o, x < w0.heap.size → w1.cell? ⟨x, o, none⟩ = w0.cell? ⟨x, o, none⟩ := fun x o hx => hb1.cell (p := ⟨x, o, none⟩) hx; have HB1 := Lib.hid hb1; have HK1 : Hid (Blk w1 w0.heap.size 50 (l.flatMap Pn.vals)) := hk1; clear hb1 hk1)
          | (go_at_call 27; refine (SzInt.toSS A2 c2 L w1 ((hG0.below HB1.out).more HB1.out.size) (by omega) HL.out).mono ?_; rintro e w2 ⟨rfl, ho2, hb2⟩; have hb02 := HB1.out.trans (hb2.mono HB1.out.size); have hcell2 : ∀ x o, x < w0.heap.size → w2.cell? ⟨x, o, none⟩ = w0.cell? ⟨x, o, none⟩ := fun x o hx => hb02.cell (p := ⟨x, o, none⟩) hx; have HO2 := Lib.hid ho2; have HB2 := Lib.hid hb2; have HB02 := Lib.hid hb02; clear hb02 hb2 ho2)
          | (go_at_call 28; refine (SzPpl.toRec ⟨ra, rj, rs⟩ w2).mono ?_; rintro e w3 ⟨rfl, hb3⟩; have hb03 := HB02.out.trans (hb3.mono HB02.out.size); have hb13 := HB2.out.trans (hb3.mono HB2.out.size); have HA3 : Hid (Arg w3 (some ⟨w0.heap.size, 0, none⟩) l (some ⟨w1.heap.size, 0, none⟩) L) := ⟨SzPpl.ppl_of_blk (HK1.out.below hb13 HK1.out.lt) (Nat.lt_of_lt_of_le HK1.out.lt hb13.size), (by omega), Grd.of_tot HO2.out hb3 ht', (by omega), HL.out⟩; have hcell3 : ∀ x o, x < w0.heap.size → w3.cell? ⟨x, o, none⟩ = w0.cell? ⟨x, o, none⟩ := fun x o hx => hb03.cell (p := ⟨x, o, none⟩) hx; have HB03 := Lib.hid hb03; clear hb03 hb13 hb3)
          | (go_at_call 25; refine (specDiverseLeast _ _ _ _ l L ⟨ra, rj, rs⟩ w3 HA3.out).mono ?_; rw [← HV.out]; rintro e w4 ⟨rfl, hb4⟩; have hb04 := HB03.out.trans (hb4.mono HB03.out.size); have hcell4 : ∀ x o, x < w0.heap.size → w4.cell? ⟨x, o, none⟩ = w0.cell? ⟨x, o, none⟩ := fun x o hx => hb04.cell (p := ⟨x, o, none⟩) hx; have HB04 := Lib.hid hb04; clear hb04 hb4)
          | fail)
      have hb04 := HB04.out
      clear hcell1 hcell2 hcell3 hcell4 hd0 hd1 hd2
      go_wp2_with fail
      refine (SzPpl.toS A c l w4 ((hP0.below hb04).more hb04.size) (by omega)).mono ?_
      rintro e w5 ⟨rfl, hk5, hb5⟩
      have hb05 := hb04.trans (hb5.mono hb04.size)
      go_wp2_with fail
      refine (SzInt.toSS A2 c2 L w5 ((hG0.below hb05).more hb05.size) (by omega) HL.out).mono ?_
      rintro e w6 ⟨rfl, ho6, hb6⟩
      have hb06 := hb05.trans (hb6.mono hb05.size)
      have hd0 := (hblk.below hb06 hblk.lt).cell 0
      have hd1 := (hblk.below hb06 hblk.lt).cell 1
      have hd2 := (hblk.below hb06 hblk.lt).cell 2
      simp at hd0 hd1 hd2
      go_wp2_with fail
      refine (SzPpl.toRec ⟨ra, rj, rs⟩ w6).mono ?_
      rintro e w7 ⟨rfl, hb7⟩
      have hb57 := hb6.trans (hb7.mono hb6.size)
      have hA7 : Arg w7 (some ⟨w4.heap.size, 0, none⟩) l (some ⟨w5.heap.size, 0, none⟩) L := ⟨SzPpl.ppl_of_blk (hk5.below hb57 hk5.lt) (Nat.lt_of_lt_of_le hk5.lt hb57.size), by omega, Grd.of_tot ho6 hb7 ht', by omega, HL.out⟩
      clear hd0 hd1 hd2
      go_wp2_with fail
      refine (implDiverseLeast _ _ _ _ l L ⟨ra, rj, rs⟩ w7 hA7).mono ?_
      rw [← HV.out]
      rintro e w8 ⟨rfl, hb8⟩
      have hb07 := hb06.trans (hb7.mono hb06.size)
      have hb08 := hb07.trans (hb8.mono hb07.size)
      have hA8 := hA7.below hb8
      clear hA7
      go_wp2_with fail
      refine (SzPpl.toS A c l w8 ((hP0.below hb08).more hb08.size) (by omega)).mono ?_
      rintro e w9 ⟨rfl, hk9, hb9⟩
      have hA9 := hA8.below hb9
      go_wp2_with fail
      refine (SzPpl.eqS _ _ _ _ l w9 hA9.1 (SzPpl.ppl_of_blk hk9 hk9.lt) (by omega)).mono ?_
      rintro e w10 ⟨rfl, hb10⟩
      have hA10 := hA9.below hb10
      have hb09 := hb08.trans (hb9.mono hb08.size)
      have hb010 := hb09.trans (hb10.mono hb09.size)
      go_wp2_with fail
      refine (SzInt.toSS A2 c2 L w10 ((hG0.below hb010).more hb010.size) (by omega) HL.out).mono ?_
      rintro e w11 ⟨rfl, ho11, hb11⟩
      have hA11 := hA10.below hb11
      have hb011 := hb010.trans (hb11.mono hb010.size)
      go_wp2_with fail
      refine (SzInt.eqSS _ _ _ _ L w11 hA11.2.2.1 (Grd.of_tot ho11 (Below.refl _ _) ht') (by omega) HL.out).mono ?_
      rintro e w' ⟨rfl, n, rfl⟩
      go_wp2
      go_ret
      exact ⟨rfl, bdrewN (hb0.trans (hb011.mono hb0.size)) _⟩
    · have e2 := szR_no (left := 1048576 - l.length) (n := tot L) (by omega)
      have hx1 : (0 : Int) ≤ 1048576 - (l.length : Int) := by omega
      have E1 := Lib.hid e1
      have E2 := Lib.hid e2
      clear e1 e2
      go_enter Try.func5, Try.ntmps5
      go_wp2_with fail
      refine (SzPpl.szS A l.length c _ _ (by omega) (by omega) hn).mono ?_
      rintro e w' ⟨rfl, rfl⟩
      rw [E1.out]
      go_wp2_with fail
      refine (SzInt.szSS A2 c2 L _ _ ((hG.below (HB.out _)).more (HB.out _).size) (by omega) (by omega) hn2).mono ?_
      rintro e w' ⟨rfl, rfl⟩
      rw [E2.out]
      go_wp2
      go_ret
      exact ⟨rfl, HB.out _⟩
  · have e1 := szR_no (left := 1048576) (n := l.length) (by omega)
    have E1 := Lib.hid e1
    clear e1
    go_enter Try.func5, Try.ntmps5
    go_wp2_with fail
    refine (SzPpl.szS A l.length c _ _ (by omega) (by omega) hn).mono ?_
    rintro e w' ⟨rfl, rfl⟩
    rw [E1.out]
    go_wp2
    go_ret
    exact ⟨rfl, HB.out _⟩
end Go.Proofs.Ytljjaanohcibcaa.WFnExactDiverseLeast
