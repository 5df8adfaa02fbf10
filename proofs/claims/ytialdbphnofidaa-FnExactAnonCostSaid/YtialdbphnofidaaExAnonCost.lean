/- FnExactAnonCost, walked: true, and nothing that was there has turned. -/
import Derived.Test.YtialdbphnofidaaSzeqInt
import Derived.Test.YtialdbphnofidaaSzeqPpl
import Derived.Test.YtialdbphnofidaaCost
namespace Go.Proofs.Ytialdbphnofidaa.WFnExactAnonCost
open Go.RowKit
set_option linter.unusedVariables false

set_option maxHeartbeats 1000000 in
theorem walk (w : World) (A2 : Option Addr) (c2 : Nat) (L : List (List Int)) (hn2 : L.length ≤ 9223372036854775807) (hG : Grd w w.heap.size A2 (L.map (·.map (Value.int .i64)))) (hLb : ∀ r ∈ L, ∀ z ∈ r, -9223372036854775808 ≤ z ∧ z ≤ 9223372036854775807) (r : Rc) (hro : r.ok) :
    Calls Try.prog 3 #[.slice A2 L.length c2, r.val] w fun e w' => e = .returned (.bool true) ∧ Below w.heap.size w w' := by
  have HLB := Lib.hid hLb
  clear hLb
  obtain ⟨V, hV⟩ : ∃ V, V = aCost L r := ⟨_, rfl⟩
  have HV := Lib.hid hV
  clear hV
  have HB := Lib.hid (fun o => (Below.refl w.heap.size w).alloc (Nat.le_refl _) o)
  obtain ⟨ra, rj, rs⟩ := r
  unfold Rc.val
  dsimp only
  have hblk := Blk.new w 24 #[.int .i64 ra, .int .i64 rj, .int .i64 rs]
  by_cases ht : tot L ≤ 1048576
  · have e2 := szR_yes (left := 1048576) (n := tot L) (by omega)
    have hx2 : (0 : Int) ≤ 1048576 - (tot L : Int) := by omega
    have E2 := Lib.hid e2
    clear e2
    have HL := Lib.hid (fun r hr => Nat.le_trans (len_le L _ ht r hr) (show 1048576 ≤ 2000000 by decide))
    have hLl : L.length ≤ 1048576 := by unfold tot at ht; omega
    go_enter Try.func3, Try.ntmps3
    go_wp2_with fail
    have hb0 : Below w.heap.size w (w.alloc (.cells #[.int .i64 ra, .int .i64 rj, .int .i64 rs] 24)) := HB.out _
    generalize hw0 : w.alloc (.cells #[.int .i64 ra, .int .i64 rj, .int .i64 rs] 24) = w0 at *
    clear hw0
    have hG0 := (hG.below hb0).more hb0.size
    refine (SzInt.szSS A2 c2 L _ w0 hG0 (by omega) (by omega) hn2).mono ?_
    rintro e w' ⟨rfl, rfl⟩
    rw [E2.out]
    go_wp2_with fail
    have hd0 := hblk.cell 0
    have hd1 := hblk.cell 1
    have hd2 := hblk.cell 2
    simp at hd0 hd1 hd2
    have hbw : w.heap.size < w0.heap.size := hblk.lt
    go_region_held3 (fun w' => w'.cell? ⟨w.heap.size, 0, none⟩ = some (.int .i64 ra) ∧ w'.cell? ⟨w.heap.size, 1, none⟩ = some (.int .i64 rj) ∧ w'.cell? ⟨w.heap.size, 2, none⟩ = some (.int .i64 rs))
      (go_keep)
      (first
        | (go_at_call 17; refine (SzInt.toSS A2 c2 L _ (by exact hG0) (by omega) HL.out).mono ?_; rintro e w2 ⟨rfl, ho2, hb2'⟩; have hb2 : Below w0.heap.size w0 w2 := (Below.refl w0.heap.size w0).drew.trans hb2'; clear hb2'; have hcell2 : ∀ x o, x < w0.heap.size → w2.cell? ⟨x, o, none⟩ = w0.cell? ⟨x, o, none⟩ := fun x o hx => hb2.cell (p := ⟨x, o, none⟩) hx; have HO2 : Hid (OGrd w2 w0.heap.size 60 3 (L.map (·.map (Value.int .i64)))) := ho2; have HB2 := Lib.hid hb2; clear hb2 ho2)
        | (go_at_call 18; refine (SzPpl.toRec ⟨ra, rj, rs⟩ w2).mono ?_; rintro e w3 ⟨rfl, hb3⟩; have hb03 := HB2.out.trans (hb3.mono HB2.out.size); have HG3 : Hid (Grd w3 w3.heap.size (some ⟨w0.heap.size, 0, none⟩) (grid L)) := Grd.of_tot HO2.out hb3 ht; have hcell3 : ∀ x o, x < w0.heap.size → w3.cell? ⟨x, o, none⟩ = w0.cell? ⟨x, o, none⟩ := fun x o hx => hb03.cell (p := ⟨x, o, none⟩) hx; have HB03 := Lib.hid hb03; clear hb03 hb3)
        | (go_at_call 16; refine (specAnonCost _ _ L ⟨ra, rj, rs⟩ w3 HG3.out (by omega) HL.out).mono ?_; rw [← HV.out]; rintro e w4 ⟨rfl, hb4⟩; have hb04 := HB03.out.trans (hb4.mono HB03.out.size); have hcell4 : ∀ x o, x < w0.heap.size → w4.cell? ⟨x, o, none⟩ = w0.cell? ⟨x, o, none⟩ := fun x o hx => hb04.cell (p := ⟨x, o, none⟩) hx; have HB04 := Lib.hid hb04; clear hb04 hb4)
        | fail)
    have hb04 := HB04.out
    clear hcell2 hcell3 hcell4 hd0 hd1 hd2
    go_wp2_with fail
    refine (SzInt.toSS A2 c2 L w4 ((hG0.below hb04).more hb04.size) (by omega) HL.out).mono ?_
    rintro e w6 ⟨rfl, ho6, hb6⟩
    have hb06 := hb04.trans (hb6.mono hb04.size)
    have hd0 := (hblk.below hb06 hblk.lt).cell 0
    have hd1 := (hblk.below hb06 hblk.lt).cell 1
    have hd2 := (hblk.below hb06 hblk.lt).cell 2
    simp at hd0 hd1 hd2
    go_wp2_with fail
    refine (SzPpl.toRec ⟨ra, rj, rs⟩ w6).mono ?_
    rintro e w7 ⟨rfl, hb7⟩
    clear hd0 hd1 hd2
    have hG7 := Grd.of_tot ho6 hb7 ht
    go_wp2_with fail
    refine (implAnonCost _ _ L ⟨ra, rj, rs⟩ w7 hG7 (by omega) HL.out).mono ?_
    rw [← HV.out]
    rintro e w8 ⟨rfl, hb8⟩
    have hb07 := hb06.trans (hb7.mono hb06.size)
    have hb08 := hb07.trans (hb8.mono hb07.size)
    have hG8 := (hG7.below hb8).more hb8.size
    go_wp2_with fail
    refine (SzInt.toSS A2 c2 L w8 ((hG0.below hb08).more hb08.size) (by omega) HL.out).mono ?_
    rintro e w11 ⟨rfl, ho11, hb11⟩
    have hb011 := hb08.trans (hb11.mono hb08.size)
    go_wp2_with fail
    refine (SzInt.eqSS _ _ _ _ L w11 ((hG8.below hb11).more hb11.size) (Grd.of_tot ho11 (Below.refl _ _) ht) (by omega) HL.out).mono ?_
    rintro e w' ⟨rfl, n, rfl⟩
    go_wp2
    go_ret
    exact ⟨rfl, bdrewN (hb0.trans (hb011.mono hb0.size)) _⟩
  · have e2 := szR_no (left := 1048576) (n := tot L) (by omega)
    have E2 := Lib.hid e2
    clear e2
    go_enter Try.func3, Try.ntmps3
    go_wp2_with fail
    refine (SzInt.szSS A2 c2 L _ _ ((hG.below (HB.out _)).more (HB.out _).size) (by omega) (by omega) hn2).mono ?_
    rintro e w' ⟨rfl, rfl⟩
    rw [E2.out]
    go_wp2
    go_ret
    exact ⟨rfl, HB.out _⟩
end Go.Proofs.Ytialdbphnofidaa.WFnExactAnonCost
