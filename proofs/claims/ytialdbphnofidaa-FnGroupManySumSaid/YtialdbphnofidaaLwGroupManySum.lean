/- FnGroupManySum, walked. -/
import Derived.Test.YtialdbphnofidaaLawKit
import Derived.Test.YtialdbphnofidaaGrpI
import Derived.Test.YtialdbphnofidaaDrwGroupMany
import Derived.IntWalk
namespace Go.Proofs.Ytialdbphnofidaa.WFnGroupManySum
open Go.RowKit
set_option linter.unusedVariables false

def sumTo (x : List Pn) (k : Nat) : Nat := ((x.take k).map (fun p => 2520 / gsz x p)).sum
theorem sumTo_next {x : List Pn} {k : Nat} (hk : k < x.length) : sumTo x (k + 1) = sumTo x k + 2520 / gsz x (nth x k) := by
  unfold sumTo
  rw [List.take_succ_eq_append_getElem hk, List.map_append, List.sum_append]
  simp [nth, hk]
theorem div2520 {n : Nat} (h1 : 1 ≤ n) (h2 : n ≤ 10) : n * (2520 / n) = 2520 := by
  have : n = 1 ∨ n = 2 ∨ n = 3 ∨ n = 4 ∨ n = 5 ∨ n = 6 ∨ n = 7 ∨ n = 8 ∨ n = 9 ∨ n = 10 := by omega
  rcases this with h | h | h | h | h | h | h | h | h | h <;> subst h <;> rfl
theorem sum_all {x : List Pn} (h : x.length ≤ 10) : sumTo x x.length = 2520 * gmany x := by
  unfold sumTo
  rw [List.take_of_length_le (Nat.le_refl _)]
  have e := sum_groups (R := repsR x.reverse) (reps_apart _) (fun p => 2520 / gsz x p) (fun p q hs => by rw [gsz_congr hs]) x (fun p hp => reps_cover (by simpa using hp))
  rw [e]
  have e2 : (repsR x.reverse).map (fun q => gsz x q * (2520 / gsz x q)) = (repsR x.reverse).map (fun _ => 2520) := List.map_congr_left (fun q hq => div2520 (gsz_pos (by have := reps_mem hq; simpa using this)) (Nat.le_trans (gsz_le x q) h))
  rw [e2]
  have : ∀ y : List Pn, (y.map (fun _ => 2520)).sum = 2520 * y.length := fun y => by
    induction y with
    | nil => rfl
    | cons a y ih => rw [List.map_cons, List.sum_cons, ih, List.length_cons]; omega
  rw [this, reps_len]
  rfl
theorem sumTo_le (x : List Pn) (k : Nat) : sumTo x k ≤ 2520 * k := by
  unfold sumTo
  have : ∀ y : List Pn, (y.map (fun p => 2520 / gsz x p)).sum ≤ 2520 * y.length := fun y => by
    induction y with
    | nil => simp
    | cons a y ih =>
      rw [List.map_cons, List.sum_cons, List.length_cons]
      have := Nat.div_le_self 2520 (gsz x a)
      omega
  have h := this (x.take k)
  have := List.length_take_le k x
  omega

set_option maxRecDepth 100000 in
set_option maxHeartbeats 4000000 in
theorem walk (w : World) (A : Option Addr) (c : Nat) (bs : List Int) (hn : bs.length ≤ 9223372036854775807) (hec : bs.length ≤ c ∧ c ≤ 9223372036854775807) (hg : Rds w w.heap.size 1 A bs.length (bs.map (Value.int .u8))) (hb : ∀ z ∈ bs, 0 ≤ z ∧ z ≤ 255) : Calls Try.prog 6 #[.slice A bs.length c] w fun e w' => e = .returned (.bool true) ∧ Below w.heap.size w w' := by
  have hB : Byt w A c bs := ⟨hg, hec.1, hec.2, hb⟩
  clear hg hb
  by_cases hbig : bs.length ≤ 1048576
  · go_enter Try.func6, Try.ntmps6
    go_wp2_with fail
    refine (specDrawGroupMany A c bs w hB).mono ?_
    rintro e w1 ⟨A1, c1, l, A2, c2, L, ⟨xa, xj, xs⟩, rfl, hA, hD, hb1⟩
    have hD0 := Lib.hid hD
    obtain ⟨hl10, hL4, hxs, hps, hrs, hlc, hcm, hLc, hcm2⟩ := hD
    clear hps hrs hxs hB
    have hW2 : LW (w1.alloc (.cells #[.int .i64 xa, .int .i64 xj, .int .i64 xs] 28)) A1 l A2 L w1.heap.size xa xj xs := ⟨hA.below ((Below.refl _ _).alloc (Nat.le_refl _) _), Blk.new w1 _ _⟩
    have hB2 := hb1.alloc hb1.size (.cells #[.int .i64 xa, .int .i64 xj, .int .i64 xs] 28)
    clear hA hb1
    obtain ⟨V, hV⟩ : ∃ V, V = gMany l L ⟨xa, xj, xs⟩ := ⟨_, rfl⟩
    have HV := Lib.hid hV
    clear hV
    go_wp2_with fail
    refine (implGroupMany _ _ _ _ l L ⟨xa, xj, xs⟩ _ hW2.1).mono ?_
    rw [← HV.out]
    rintro e w3 ⟨rfl, hb3⟩
    have hW3 := hW2.below hb3
    have hB3 := hB2.trans (hb3.mono hB2.size)
    obtain ⟨hc0, hc1, hc2⟩ := hW3.cells
    clear hW2 hB2 hb3
    go_wp2_with fail
    refine (specGroupMany _ _ _ _ l L ⟨xa, xj, xs⟩ _ hW3.1).mono ?_
    rw [← HV.out]
    rintro e w4 ⟨rfl, hb4⟩
    have hW4 := hW3.below hb4
    have hB4 := hB3.trans (hb4.mono hB3.size)
    obtain ⟨hc0, hc1, hc2⟩ := hW4.cells
    clear hW3 hB3 hb4
    by_cases hok : okA l L ⟨xa, xj, xs⟩
    · have hV1 := HV.out.trans (gMany_yes hok rfl)
      have HX := Lib.hid hok
      have hx2 := gmany_le (recd L ⟨xa, xj, xs⟩ l)
      obtain ⟨x, hx⟩ : ∃ x, x = recd L ⟨xa, xj, xs⟩ l := ⟨_, rfl⟩
      have hxl : x.length = l.length := by rw [hx, recd_length]
      rw [← hx] at hV1 hx2
      have HSA := Lib.hid (sum_all (x := x) (by omega))
      obtain ⟨m, hm⟩ : ∃ m : Nat, m = gmany x := ⟨_, rfl⟩
      rw [← hm] at hV1 hx2 HSA
      have hml : m ≤ 10 := by omega
      have HXX := Lib.hid hx
      have HXL := Lib.hid hxl
      clear hok hx hxl hm hx2
      subst hV1
      go_wp2
      go_loopw [8, 9] (fun f t wr => ∃ k : Nat, k ≤ l.length ∧ t = .int .i64 k ∧ f = .int .i64 (sumTo x k) ∧ Below w4.heap.size w4 wr) (fun _ t _ => l.length - (intOf t).toNat)
      case atStart => exact ⟨0, by omega, rfl, rfl, Below.refl _ _⟩
      case round =>
        obtain ⟨k, hk, rfl, rfl, hbel⟩ := hrel
        have hWr := hW4.below hbel
        obtain ⟨hc0, hc1, hc2⟩ := hWr.cells
        have hsl := sumTo_le x k
        by_cases hlt : k < l.length
        · have hgs : gSize l L ⟨xa, xj, xs⟩ (k : Int) = gsz x (nth x k) := by
            rw [gSize_yes HX.out HXX.out (by omega) (by omega)]; simp
          have hz1 : 1 ≤ gsz x (nth x k) := gsz_pos (nth_mem (by have := HXL.out; omega))
          have hz2 : gsz x (nth x k) ≤ 10 := by have := gsz_le x (nth x k); have := HXL.out; omega
          have HFN := Lib.hid (sumTo_next (x := x) (k := k) (by have := HXL.out; omega))
          have HGS := Lib.hid hgs
          clear hgs
          generalize gsz x (nth x k) = z at *
          have hdv := Nat.div_le_self 2520 z
          go_wp2_with fail
          refine (implGroupSize _ _ _ _ l L ⟨xa, xj, xs⟩ k _ hWr.1).mono ?_
          rw [HGS.out]
          rintro e w5 ⟨rfl, hb5⟩
          have hbel5 := hbel.trans (hb5.mono hbel.size)
          clear hb5 hWr
          go_wp2
          go_roundw
          case rel => exact ⟨k + 1, by omega, by go_num, by rw [HFN.out, show ((2520 : Int) / (z : Int)) = ((2520 / z : Nat) : Int) by simp]; generalize 2520 / z = d at *; rw [IntWalk.wrap64_in _ ⟨by omega, by omega⟩]; rfl, hbel5⟩
          case measure => simp [intOf]; omega
        · have hkl : k = x.length := by have := HXL.out; omega
          have hfin : sumTo x k = 2520 * m := by rw [hkl]; exact HSA.out
          rw [hfin]
          have HFI := Lib.hid hfin
          clear hfin hkl
          go_wp2
          go_ret
          exact ⟨rfl, hB4.trans (hbel.mono hB4.size)⟩
    · have hV1 : V < 0 := val_not (HV.out.trans (if_neg hok))
      go_wp2
      go_ret
      exact ⟨rfl, hB4⟩
  · have hbig2 : 1048576 < bs.length := by omega
    go_enter Try.func6, Try.ntmps6
    go_wp2
    go_ret
    exact ⟨rfl, Below.refl _ _⟩
end Go.Proofs.Ytialdbphnofidaa.WFnGroupManySum
