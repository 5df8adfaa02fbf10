/- The program's bands of all people. -/
import Derived.Test.YtaojjlhlahoocaaDivI
namespace Go.Proofs.Ytaojjlhlahoocaa
open Go.RowKit
set_option linter.unusedSimpArgs false
attribute [local go_sem ↓] Go.wp_at_zero Go.wp_at_succ

def allP : Pn → Bool := fun _ => true
theorem implFar1 (q : Pn) (w : World) : Calls Try.prog 51 #[q.val] w fun e w' => e = .returned (.bool true) ∧ Below w.heap.size w w' := by
  obtain ⟨qa, qj, qs, qp⟩ := q
  go_enter Try.func51, Try.ntmps51
  go_wp2
  go_ret
  exact ⟨rfl, ((Below.refl _ _).alloc (Nat.le_refl _) _)⟩

set_option maxRecDepth 100000 in
set_option maxHeartbeats 4000000 in
theorem implBandsAll (A : Option Addr) (c : Nat) (x : List Pn) (w : World) (h : Ppl w w.heap.size A x) (hn : x.length ≤ 40) (hg : ∀ q ∈ x, q.good) :
    Calls Try.prog 50 #[.slice A x.length c, .func (.func 51) #[] #[]] w fun e w' => e = .returned (.agg (bvals (allP) x).toArray) ∧ Below w.heap.size w w' := by
  have HC := Lib.hid h
  have HG := Lib.hid hg
  clear h hg
  have hs : BSt (allP) w [] ((w.alloc (.cells (List.replicate 10 (.int .i64 0)).toArray 57)).alloc (.cells (List.replicate 10 (.int .i64 0)).toArray 57)) :=
    ⟨(Blk.new w 57 _).alloc _, by have := Blk.new (w.alloc (.cells (List.replicate 10 (.int .i64 0)).toArray 57)) 57 (List.replicate 10 (.int .i64 0)).toArray; rw [World.size_alloc] at this; rw [bvals_nil]; exact this, (((Below.refl _ _).alloc (Nat.le_refl _) _).alloc (by simp <;> omega) _)⟩
  go_enter Try.func50, Try.ntmps50
  go_wp2
  go_loopw [10] (fun i wr => ∃ pre suf, Cut x pre suf ∧ i = .int .i64 pre.length ∧ BSt (allP) w pre wr) (fun i _ => x.length - (intOf i).toNat)
  case atStart => exact ⟨[], x, Cut.zero _, rfl, hs⟩
  case round =>
    obtain ⟨pre, suf, hcut, rfl, hS⟩ := hrel
    clear hs
    cases suf with
    | nil =>
      have hge := hcut.len0
      rw [hcut.done] at hS
      obtain ⟨hZ, hV, hBw⟩ := hS
      have hv0 := hV.cell 0
      have hf0 := hZ.frozen 0
      have hz0 := hZ.cell 0
      have hv1 := hV.cell 1
      have hf1 := hZ.frozen 1
      have hz1 := hZ.cell 1
      have hv2 := hV.cell 2
      have hf2 := hZ.frozen 2
      have hz2 := hZ.cell 2
      have hv3 := hV.cell 3
      have hf3 := hZ.frozen 3
      have hz3 := hZ.cell 3
      have hv4 := hV.cell 4
      have hf4 := hZ.frozen 4
      have hz4 := hZ.cell 4
      have hv5 := hV.cell 5
      have hf5 := hZ.frozen 5
      have hz5 := hZ.cell 5
      have hv6 := hV.cell 6
      have hf6 := hZ.frozen 6
      have hz6 := hZ.cell 6
      have hv7 := hV.cell 7
      have hf7 := hZ.frozen 7
      have hz7 := hZ.cell 7
      have hv8 := hV.cell 8
      have hf8 := hZ.frozen 8
      have hz8 := hZ.cell 8
      have hv9 := hV.cell 9
      have hf9 := hZ.frozen 9
      have hz9 := hZ.cell 9
      rw [bvals_ten] at hv0 hv1 hv2 hv3 hv4 hv5 hv6 hv7 hv8 hv9
      simp only [List.getElem?_cons_zero, List.getElem?_cons_succ, List.replicate] at hv0 hv1 hv2 hv3 hv4 hv5 hv6 hv7 hv8 hv9 hz0 hz1 hz2 hz3 hz4 hz5 hz6 hz7 hz8 hz9
      go_wp2
      have hq := ((((((((((hZ.set 0 (.int .i64 (bc (allP) x 0))).set 1 (.int .i64 (bc (allP) x 1))).set 2 (.int .i64 (bc (allP) x 2))).set 3 (.int .i64 (bc (allP) x 3))).set 4 (.int .i64 (bc (allP) x 4))).set 5 (.int .i64 (bc (allP) x 5))).set 6 (.int .i64 (bc (allP) x 6))).set 7 (.int .i64 (bc (allP) x 7))).set 8 (.int .i64 (bc (allP) x 8))).set 9 (.int .i64 (bc (allP) x 9)))
      simp only [List.replicate, List.set_cons_zero, List.set_cons_succ] at hq
      have hq0 := hq.cell 0
      have hq1 := hq.cell 1
      have hq2 := hq.cell 2
      have hq3 := hq.cell 3
      have hq4 := hq.cell 4
      have hq5 := hq.cell 5
      have hq6 := hq.cell 6
      have hq7 := hq.cell 7
      have hq8 := hq.cell 8
      have hq9 := hq.cell 9
      simp only [List.getElem?_cons_zero, List.getElem?_cons_succ] at hq0 hq1 hq2 hq3 hq4 hq5 hq6 hq7 hq8 hq9
      refine bodyPost_ret (v := .agg (bvals (allP) x).toArray) ?_ rfl ⟨rfl, ((((((((((hBw.setCell (Nat.le_refl _) _).setCell (Nat.le_refl _) _).setCell (Nat.le_refl _) _).setCell (Nat.le_refl _) _).setCell (Nat.le_refl _) _).setCell (Nat.le_refl _) _).setCell (Nat.le_refl _) _).setCell (Nat.le_refl _) _).setCell (Nat.le_refl _) _).setCell (Nat.le_refl _) _)⟩
      rw [bvals_ten]
      simp [results, Try.results50, go_sem, hq0, hq1, hq2, hq3, hq4, hq5, hq6, hq7, hq8, hq9]
    | cons q suf =>
      have hlt := hcut.len1
      obtain ⟨b, off, rfl, hb, hc0, hc1, hc2, hc3⟩ := (HC.out.below hS.2.2).at_ hcut.at_
      have hqg := Lib.hid (HG.out q hcut.mem)
      have hSW := hS.below (((Below.refl _ _).alloc (Nat.le_refl _) _) : Below wr.heap.size wr (wr.alloc (.cells #[.int .i64 q.a, .int .i64 q.j, .int .i64 q.s, .int .i64 q.p] 35)))
      have hQ := Blk.new wr 35 #[.int .i64 q.a, .int .i64 q.j, .int .i64 q.s, .int .i64 q.p]
      go_wp2_with fail
      refine (implFar1 q _).mono ?_
      rintro e w2 ⟨rfl, hb2⟩
      have hS2 := hSW.below hb2
      have hQ2 := hQ.below hb2 hQ.lt
      clear hSW hQ hb2 hc0 hc1 hc2 hc3 hS
      have HS := Lib.hid (show allP q = true from rfl)
      obtain ⟨m, hm, hm9⟩ : ∃ m : Nat, q.p / 100 = (m : Int) ∧ m < 10 := ⟨(q.p / 100).toNat, by have := hqg.out.2.2.2; omega, by have := hqg.out.2.2.2; omega⟩
      have HM := Lib.hid hm
      clear hm
      have hq3 := hQ2.cell 3
      have hv := hS2.2.1.cell m
      have hfz := hS2.2.1.frozen m
      rw [bvals_at _ _ hm9] at hv
      have hbl := bc_le (allP) pre m
      simp only [List.getElem?_cons_zero, List.getElem?_cons_succ] at hq3
      go_wp2_with fail
      refine (implBand _ _ hqg.out.2.2.2.1 hqg.out.2.2.2.2).mono ?_
      rw [HM.out]
      rintro e w3 ⟨rfl, rfl⟩
      go_wp2
      go_roundw
      case rel => exact ⟨pre ++ [q], suf, hcut.next, by simp, hS2.1.far (by simp) _, by rw [bvals_yes HS.out HM.out]; exact hS2.2.1.set m _, hS2.2.2.setCell (Nat.le_succ _) _⟩
      case measure => simp [intOf]; omega

end Go.Proofs.Ytaojjlhlahoocaa
