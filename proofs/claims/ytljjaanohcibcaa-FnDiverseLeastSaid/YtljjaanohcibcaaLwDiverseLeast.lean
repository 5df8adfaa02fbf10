/- FnDiverseLeast, walked. -/
import Derived.Test.YtljjaanohcibcaaLawKit
import Derived.Test.YtljjaanohcibcaaPlain2
import Derived.Test.YtljjaanohcibcaaDivSize
import Derived.Test.YtljjaanohcibcaaDrwDiverseLeast
import Derived.Test.YtljjaanohcibcaaPlain3
namespace Go.Proofs.Ytljjaanohcibcaa.WFnDiverseLeast
open Go.RowKit
set_option linter.unusedVariables false

/-- Has a group of the least diversity come among the first k? -/
def fnd (x : List Pn) (k : Nat) : Bool := decide (x.length = 0) || (x.take k).any (fun p => dv (grpOf p) x == dl x)
theorem fnd_next {x : List Pn} {k : Nat} (hk : k < x.length) : fnd x (k + 1) = (fnd x k || (dv (grpOf (nth x k)) x == dl x)) := by
  unfold fnd
  rw [List.take_succ_eq_append_getElem hk, List.any_append, Bool.or_assoc]
  simp [nth, hk]
theorem fnd_all (x : List Pn) : fnd x x.length = true := by
  unfold fnd
  rw [List.take_of_length_le (Nat.le_refl _)]
  by_cases h0 : x.length = 0
  · simp [h0]
  · rw [Bool.or_eq_true]
    right
    rw [List.any_eq_true]
    obtain ⟨p, hp, h⟩ := dl_mem (x := x) (by omega)
    exact ⟨p, hp, by rw [beq_iff_eq]; exact h.symm⟩

set_option maxRecDepth 100000 in
set_option maxHeartbeats 4000000 in
theorem walk (w : World) (A : Option Addr) (c : Nat) (bs : List Int) (hn : bs.length ≤ 9223372036854775807) (hec : bs.length ≤ c ∧ c ≤ 9223372036854775807) (hg : Rds w w.heap.size 1 A bs.length (bs.map (Value.int .u8))) (hb : ∀ z ∈ bs, 0 ≤ z ∧ z ≤ 255) : Calls Try.prog 6 #[.slice A bs.length c] w fun e w' => e = .returned (.bool true) ∧ Below w.heap.size w w' := by
  have hB : Byt w A c bs := ⟨hg, hec.1, hec.2, hb⟩
  clear hg hb
  by_cases hbig : bs.length ≤ 1048576
  · go_enter Try.func6, Try.ntmps6
    go_wp2_with fail
    refine (specDrawDiverseLeast A c bs w hB).mono ?_
    rintro e w1 ⟨A1, c1, l, A2, c2, L, ⟨xa, xj, xs⟩, rfl, hA, hD, hb1⟩
    have hD0 := Lib.hid hD
    obtain ⟨hl10, hL4, hxs, hps, hrs, hlc, hcm, hLc, hcm2⟩ := hD
    clear hps hrs hxs hB
    have hW2 : LW (w1.alloc (.cells #[.int .i64 xa, .int .i64 xj, .int .i64 xs] 26)) A1 l A2 L w1.heap.size xa xj xs := ⟨hA.below ((Below.refl _ _).alloc (Nat.le_refl _) _), Blk.new w1 _ _⟩
    have hB2 := hb1.alloc hb1.size (.cells #[.int .i64 xa, .int .i64 xj, .int .i64 xs] 26)
    clear hA hb1
    obtain ⟨V, hV⟩ : ∃ V, V = dLeast l L ⟨xa, xj, xs⟩ := ⟨_, rfl⟩
    have HV := Lib.hid hV
    clear hV
    go_wp2_with fail
    refine (implDiverseLeast _ _ _ _ l L ⟨xa, xj, xs⟩  _ hW2.1).mono ?_
    rw [← HV.out]
    rintro e w3 ⟨rfl, hb3⟩
    have hW3 := hW2.below hb3
    have hB3 := hB2.trans (hb3.mono hB2.size)
    obtain ⟨hc0, hc1, hc2⟩ := hW3.cells
    clear hW2 hB2 hb3
    go_wp2_with fail
    refine (specDiverseLeast _ _ _ _ l L ⟨xa, xj, xs⟩  _ hW3.1).mono ?_
    rw [← HV.out]
    rintro e w4 ⟨rfl, hb4⟩
    have hW4 := hW3.below hb4
    have hB4 := hB3.trans (hb4.mono hB3.size)
    obtain ⟨hc0, hc1, hc2⟩ := hW4.cells
    clear hW3 hB3 hb4
    by_cases hok : 0 ≤ V
    · have ho := dLeast_ok (by rw [← HV.out]; exact hok)
      have hV1 := HV.out.trans (dLeast_yes ho rfl)
      have HX := Lib.hid ho
      have hx4 := dl_len (recd L ⟨xa, xj, xs⟩ l)
      obtain ⟨x, hx⟩ : ∃ x, x = recd L ⟨xa, xj, xs⟩ l := ⟨_, rfl⟩
      have hxl : x.length = l.length := by rw [hx, recd_length]
      rw [← hx] at hV1 hx4
      have hVl : V ≤ l.length := by omega
      have HXX := Lib.hid hx
      have HXL := Lib.hid hxl
      clear ho hx4 hx hxl
      obtain ⟨m, hm⟩ : ∃ m : Nat, m = dl x := ⟨_, rfl⟩
      have HMM := Lib.hid hm
      rw [← hm] at hV1
      clear hm
      subst hV1
      by_cases hl0 : l.length = 0
      · have e1 : ((l.length : Int) == 0) = true := by simp [hl0]
        have e2 : (l.length == 0) = true := by simp [hl0]
        have e3 : ((m : Int) == 0) = true := by simp; omega
        have e4 : (m == 0) = true := by simp; omega
        have HL0 := Lib.hid hl0
        clear hl0
        go_wp2
        go_loop [8, 9] (fun f t => f = .bool true ∧ t = .int .i64 0) (fun _ _ => 0)
        case atStart => exact ⟨rfl, rfl⟩
        case round =>
          obtain ⟨rfl, rfl⟩ := hrel
          have hl1 : l.length ≤ 0 := by have := HL0.out; omega
          go_wp2
          go_ret
          exact ⟨rfl, hB4⟩
      · have e1 : ((l.length : Int) == 0) = false := beq_eq_false_iff_ne.2 (by omega)
        have e2 : (l.length == 0) = false := beq_eq_false_iff_ne.2 (by omega)
        have HST : Hid (fnd x 0 = false) := by have h9 : ¬ x.length = 0 := (by rw [HXL.out]; exact hl0); unfold Hid fnd; rw [List.take_zero, decide_eq_false h9]; rfl
        clear hl0
        go_wp2
        go_loopw [8, 9] (fun f t wr => ∃ k : Nat, ∃ b : Bool, k ≤ l.length ∧ t = .int .i64 k ∧ f = .bool b ∧ Hid (fnd x k = b) ∧ Below w4.heap.size w4 wr) (fun _ t _ => l.length - (intOf t).toNat)
        case atStart => exact ⟨0, false, by omega, rfl, rfl, HST, Below.refl _ _⟩
        case round =>
          obtain ⟨k, b, hk, rfl, rfl, HF, hbel⟩ := hrel
          have hWr := hW4.below hbel
          obtain ⟨hc0, hc1, hc2⟩ := hWr.cells
          by_cases hlt : k < l.length
          · have hgs : dSize l L ⟨xa, xj, xs⟩ (k : Int) = dv (grpOf (nth x k)) x := by
              rw [dSize_yes HX.out HXX.out (by omega) (by omega)]; simp
            have hle : m ≤ dv (grpOf (nth x k)) x := by rw [HMM.out]; exact dl_le (nth_mem (by have := HXL.out; omega))
            have HFN := Lib.hid (fnd_next (x := x) (k := k) (by have := HXL.out; omega))
            have HGS := Lib.hid hgs
            have HNL := Lib.hid (dv_le (grpOf (nth x k)) x)
            clear hgs
            generalize dv (grpOf (nth x k)) x = z at *
            go_wp2_with fail
            refine (implDiverseSize _ _ _ _ l L ⟨xa, xj, xs⟩ k _ hWr.1).mono ?_
            rw [HGS.out]
            rintro e w5 ⟨rfl, hb5⟩
            have hbel5 := hbel.trans (hb5.mono hbel.size)
            clear hb5 hWr
            by_cases hzm : z = m
            · subst hzm
              have HF1 : Hid (fnd x (k + 1) = true) := by unfold Hid; rw [HFN.out, ← HMM.out]; simp
              cases b
              all_goals
                go_wp2
                go_roundw
                case rel => exact ⟨k + 1, true, by omega, by go_num, by first | rfl | simp, HF1, hbel5⟩
                case measure => simp [intOf]; omega
            · have ez : (z == m) = false := by simp [hzm]
              have ez2 : ((z : Int) == (m : Int)) = false := by simp; omega
              have HF1 : Hid (fnd x (k + 1) = b) := by unfold Hid; rw [HFN.out, ← HMM.out, ez, Bool.or_false]; exact HF.out
              clear hzm
              cases b
              all_goals
                go_wp2
                go_roundw
                case rel => exact ⟨k + 1, _, by omega, by go_num, rfl, HF1, hbel5⟩
                case measure => simp [intOf]; omega
          · have hkl : k = l.length := by omega
            have hbt : b = true := by rw [← HF.out, hkl, ← HXL.out]; exact fnd_all x
            subst hbt
            have hBr := hB4.trans (hbel.mono hB4.size)
            clear hkl
            go_wp2
            go_ret
            exact ⟨rfl, hBr⟩
    · have hV1 : V < 0 := by omega
      go_wp2
      go_ret
      exact ⟨rfl, hB4⟩
  · have hbig2 : 1048576 < bs.length := by omega
    go_enter Try.func6, Try.ntmps6
    go_wp2
    go_ret
    exact ⟨rfl, Below.refl _ _⟩
end Go.Proofs.Ytljjaanohcibcaa.WFnDiverseLeast
