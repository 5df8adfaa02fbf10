/- FnGroupSize, walked. -/
import Derived.Test.YtiheheapghjpbaaLawKit
import Derived.Test.YtiheheapghjpbaaPlain2
import Derived.Test.YtiheheapghjpbaaGrpI
import Derived.Test.YtiheheapghjpbaaSel
import Derived.Test.YtiheheapghjpbaaDrwGroupSize
namespace Go.Proofs.Ytiheheapghjpbaa.WFnGroupSize
open Go.RowKit
set_option linter.unusedVariables false

theorem gSize_ok {l : List Pn} {L : List (List Int)} {r : Rc} {k : Int} (h : 0 ≤ gSize l L r k) : okA l L r ∧ 0 ≤ k ∧ k < l.length := by
  unfold gSize at h
  split at h
  · assumption
  · omega
set_option maxRecDepth 100000 in
set_option maxHeartbeats 4000000 in
theorem walk (w : World) (A : Option Addr) (c : Nat) (bs : List Int) (hn : bs.length ≤ 9223372036854775807) (hec : bs.length ≤ c ∧ c ≤ 9223372036854775807) (hg : Rds w w.heap.size 1 A bs.length (bs.map (Value.int .u8))) (hb : ∀ z ∈ bs, 0 ≤ z ∧ z ≤ 255) : Calls Try.prog 6 #[.slice A bs.length c] w fun e w' => e = .returned (.bool true) ∧ Below w.heap.size w w' := by
  have hB : Byt w A c bs := ⟨hg, hec.1, hec.2, hb⟩
  clear hg hb
  by_cases hbig : bs.length ≤ 1048576
  · go_enter Try.func6, Try.ntmps6
    go_wp2_with fail
    refine (specDrawGroupSize A c bs w hB).mono ?_
    rintro e w1 ⟨A1, c1, l, A2, c2, L, ⟨xa, xj, xs⟩, k, rfl, hA, hD, hkb, hb1⟩
    have hD0 := Lib.hid hD
    obtain ⟨hl10, hL4, hxs, hps, hrs, hlc, hcm, hLc, hcm2⟩ := hD
    clear hps hrs hxs hB
    have hW2 : LW (w1.alloc (.cells #[.int .i64 xa, .int .i64 xj, .int .i64 xs] 26)) A1 l A2 L w1.heap.size xa xj xs := ⟨hA.below ((Below.refl _ _).alloc (Nat.le_refl _) _), Blk.new w1 _ _⟩
    have hB2 := hb1.alloc hb1.size (.cells #[.int .i64 xa, .int .i64 xj, .int .i64 xs] 26)
    clear hA hb1
    obtain ⟨V, hV⟩ : ∃ V, V = gSize l L ⟨xa, xj, xs⟩ k := ⟨_, rfl⟩
    have HV := Lib.hid hV
    clear hV
    go_wp2_with fail
    refine (implGroupSize _ _ _ _ l L ⟨xa, xj, xs⟩ k _ hW2.1).mono ?_
    rw [← HV.out]
    rintro e w3 ⟨rfl, hb3⟩
    have hW3 := hW2.below hb3
    have hB3 := hB2.trans (hb3.mono hB2.size)
    obtain ⟨hc0, hc1, hc2⟩ := hW3.cells
    clear hW2 hB2 hb3
    go_wp2_with fail
    refine (specGroupSize _ _ _ _ l L ⟨xa, xj, xs⟩ k _ hW3.1).mono ?_
    rw [← HV.out]
    rintro e w4 ⟨rfl, hb4⟩
    have hW4 := hW3.below hb4
    have hB4 := hB3.trans (hb4.mono hB3.size)
    obtain ⟨hc0, hc1, hc2⟩ := hW4.cells
    clear hW3 hB3 hb4
    by_cases hok : 0 ≤ V
    · obtain ⟨ho, hk0, hk1⟩ := gSize_ok (by rw [← HV.out]; exact hok)
      have hV1 := HV.out.trans (gSize_yes ho rfl hk0 hk1)
      obtain ⟨m, rfl⟩ : ∃ m : Nat, k = m := ⟨k.toNat, by omega⟩
      rw [Int.toNat_natCast] at hV1
      have HOK := Lib.hid ho
      have HV0 := Lib.hid hV1
      clear ho hV1
      go_wp2_with fail
      refine (implRecodePeople _ _ _ _ l L ⟨xa, xj, xs⟩ _ hW4.1).mono ?_
      rintro e w5 hout
      rcases hout with ⟨-, v, rfl, hown, hb5⟩ | ⟨hno, -⟩
      · obtain ⟨A', c', rfl, hP, hc1', hc2'⟩ := hown.form
        have hxl := recd_length L ⟨xa, xj, xs⟩ l
        have hgd := Lib.hid (recd_good HOK.out)
        have hW5 := hW4.below hb5
        have hB5 := hB4.trans (hb5.mono hB4.size)
        obtain ⟨hc0, hc1, hc2⟩ := hW5.cells
        clear hW4 hB4 hb5
        have hgl := gsz_le (recd L ⟨xa, xj, xs⟩ l) (nth (recd L ⟨xa, xj, xs⟩ l) m)
        generalize recd L ⟨xa, xj, xs⟩ l = x at *
        have hV1 := HV0.out
        have h40 := hgd.out.2
        have hmx : m < x.length := by omega
        have hgp := gsz_pos (nth_mem hmx)
        have hqg := Lib.hid (hgd.out.1 _ (nth_mem hmx))
        have hlt : (m : Int) < (x.length : Int) := by omega
        have hm0 : (0 : Int) ≤ (m : Int) := by omega
        obtain ⟨b, off, rfl, hb, hd0, hd1, hd2, hd3⟩ := hP.at_ (nth_at hmx)
        have HXL := Lib.hid hxl
        have HV1 := Lib.hid hV1
        have hV2 : 1 ≤ V := by omega
        have hV3 : V ≤ l.length := by omega
        have HP := Lib.hid hP
        clear hV1 HV0 hxl hown hP hgl hgp hc0 hc1 hc2
        generalize nth x m = q at *
        go_wp2_with fail
        have hg1 : decide (1 ≤ V) = true := decide_eq_true hV2
        have hg2 : decide (V ≤ (l.length : Int)) = true := decide_eq_true hV3
        go_region_held3 (fun w' => w'.cell? ⟨b, off + m * 4, none⟩ = some (.int .i64 q.a) ∧ w'.cell? ⟨b, off + m * 4 + 1, none⟩ = some (.int .i64 q.j) ∧ w'.cell? ⟨b, off + m * 4 + 2, none⟩ = some (.int .i64 q.s))
          (go_keep)
          (first
            | (go_at_call 33; refine (implPeopleMany _ _ x q _ (by exact HP.out) hgd.out hqg.out).mono ?_; rw [← HV1.out]; rintro e w6 ⟨rfl, hb6'⟩; have HB6 : Hid (Below w5.heap.size w5 w6) := (Below.refl w5.heap.size w5).drew.trans hb6'; clear hb6'; have hcell6 : ∀ i o, i < w5.heap.size → w6.cell? ⟨i, o, none⟩ = w5.cell? ⟨i, o, none⟩ := (fun i o hi => HB6.out.cell (p := ⟨i, o, none⟩) hi))
            | fail)
        clear hcell6
        have hB6 := hB5.trans (HB6.out.mono hB5.size)
        go_wp2
        go_ret
        exact ⟨rfl, hB6⟩
      · exact absurd HOK.out hno
    · have hV1 : V < 0 := by omega
      go_wp2
      go_ret
      exact ⟨rfl, hB4⟩
  · have hbig2 : 1048576 < bs.length := by omega
    go_enter Try.func6, Try.ntmps6
    go_wp2
    go_ret
    exact ⟨rfl, Below.refl _ _⟩
end Go.Proofs.Ytiheheapghjpbaa.WFnGroupSize
