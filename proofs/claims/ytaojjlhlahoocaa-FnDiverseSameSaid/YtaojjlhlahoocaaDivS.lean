/- The reference's bands. -/
import Derived.Test.YtaojjlhlahoocaaSizeS
import Derived.Test.YtaojjlhlahoocaaDiv
import Derived.Deep.RegionHeld3
import Derived.BigRegion
namespace Go.Proofs.Ytaojjlhlahoocaa
open Go.RowKit
set_option linter.unusedSimpArgs false
attribute [local go_sem ↓] Go.wp_at_zero Go.wp_at_succ

theorem infoInt : (Try.prog.info? 3).map (fun i => (i.zero, i.size, i.bytes)) = some (some (.int .i64 0), 1, 8) := by kernel_rfl
/-- What l5Bands' loop has in memory. -/
def CSt (f : Pn → Bool) (w : World) (pre : List Pn) (wr : World) : Prop := Blk wr w.heap.size 3 (bvals f pre) ∧ Below w.heap.size w wr
theorem CSt.below {f : Pn → Bool} {w wr w' : World} {pre : List Pn} (h : CSt f w pre wr) (hb : Below wr.heap.size wr w') : CSt f w pre w' :=
  ⟨h.1.below hb h.1.lt, h.2.trans (hb.mono h.2.size)⟩

set_option maxRecDepth 100000 in
set_option maxHeartbeats 4000000 in
theorem specBands (A : Option Addr) (c : Nat) (x : List Pn) (k : Nat) (p : Pn) (w : World) (hg : Ppl w w.heap.size A x) (hp : x[k]? = some p) (hn : x.length ≤ 40) (hgd : ∀ q ∈ x, q.good) :
    Calls Try.prog 54 #[.slice A x.length c, .int .i64 k] w fun e w' => e = .returned (.slice (some ⟨w.heap.size, 0, none⟩) 10 10) ∧ CSt (grpOf p) w x w' := by
  obtain ⟨b, off, rfl, hb, hd0, hd1, hd2, hd3⟩ := hg.at_ hp
  have hkl : k < x.length := (List.getElem?_eq_some_iff.1 hp).1
  have HG := Lib.hid hg
  have HGD := Lib.hid hgd
  clear hp hg hgd
  have hk0 : (0 : Int) ≤ (k : Int) := Int.natCast_nonneg _
  have hk1 : (k : Int) < (x.length : Int) := by omega
  have HD := Lib.hid (show w.cell? ⟨b, off + k * 4, none⟩ = some (.int .i64 p.a) ∧ w.cell? ⟨b, off + k * 4 + 1, none⟩ = some (.int .i64 p.j) ∧ w.cell? ⟨b, off + k * 4 + 2, none⟩ = some (.int .i64 p.s) ∧ w.cell? ⟨b, off + k * 4 + 3, none⟩ = some (.int .i64 p.p) from ⟨hd0, hd1, hd2, hd3⟩)
  clear hd0 hd1 hd2 hd3
  have hs : CSt (grpOf p) w [] (w.alloc (.cells (madeCells #[.int .i64 0] 10) 3)) := ⟨by rw [bvals_nil]; exact Blk.made w (.int .i64 0) 10 3, ((Below.refl _ _).alloc (Nat.le_refl _) _)⟩
  obtain ⟨i0, hi, hz0, hz1, hz2⟩ := info_parts infoInt
  go_enter Try.func54, Try.ntmps54
  go_wp2_with (at_make; refine wpList_make_row _ rfl _ _ 40 rfl 3 i0 (.int .i64 0) Try.underlying40 hi hz0 hz1 rfl _ _ 10 rfl rfl (by rw [hz2]; omega) (by omega) ?_)
  go_loopw [6] (fun i wr => ∃ pre suf, Cut x pre suf ∧ i = .int .i64 pre.length ∧ CSt (grpOf p) w pre wr) (fun i _ => x.length - (intOf i).toNat)
  case atStart => exact ⟨[], x, Cut.zero _, rfl, hs⟩
  case round =>
    obtain ⟨pre, suf, hcut, rfl, hS⟩ := hrel
    clear hs
    cases suf with
    | nil =>
      have hge := hcut.len0
      rw [hcut.done] at hS
      go_wp2
      go_ret
      exact ⟨rfl, hS⟩
    | cons q suf =>
      have hlt := hcut.len1
      have hbel := hS.2
      have hbs := hbel.size
      have hqg := Lib.hid (HGD.out q hcut.mem)
      obtain ⟨b2, off2, e2, hb2, hc0, hc1, hc2, hc3⟩ := (HG.out.below hbel).at_ hcut.at_
      simp only [Option.some.injEq, Addr.mk.injEq, and_true] at e2
      obtain ⟨rfl, rfl⟩ := e2
      obtain ⟨hd0, hd1, hd2, hd3⟩ := HD.out
      rw [← hbel.cell (p := ⟨b, _, none⟩) hb] at hd0 hd1 hd2 hd3
      have hbb : b < wr.heap.size := by omega
      have hj0 : (0 : Int) ≤ (pre.length : Int) := Int.natCast_nonneg _
      have hj1 : (pre.length : Int) < (x.length : Int) := by omega
      clear hbel
      have HKP : Hid (∀ W : World, Below wr.heap.size wr W → (W.cell? ⟨b, off + pre.length * 4, none⟩ = some (.int .i64 q.a) ∧ W.cell? ⟨b, off + pre.length * 4 + 1, none⟩ = some (.int .i64 q.j) ∧ W.cell? ⟨b, off + pre.length * 4 + 2, none⟩ = some (.int .i64 q.s) ∧ W.cell? ⟨b, off + pre.length * 4 + 3, none⟩ = some (.int .i64 q.p) ∧ W.cell? ⟨b, off + k * 4, none⟩ = some (.int .i64 p.a) ∧ W.cell? ⟨b, off + k * 4 + 1, none⟩ = some (.int .i64 p.j) ∧ W.cell? ⟨b, off + k * 4 + 2, none⟩ = some (.int .i64 p.s) ∧ W.cell? ⟨b, off + k * 4 + 3, none⟩ = some (.int .i64 p.p))) := fun W hW =>
        ⟨(hW.cell (p := ⟨b, _, none⟩) hbb).trans hc0, (hW.cell (p := ⟨b, _, none⟩) hbb).trans hc1, (hW.cell (p := ⟨b, _, none⟩) hbb).trans hc2, (hW.cell (p := ⟨b, _, none⟩) hbb).trans hc3, (hW.cell (p := ⟨b, _, none⟩) hbb).trans hd0, (hW.cell (p := ⟨b, _, none⟩) hbb).trans hd1, (hW.cell (p := ⟨b, _, none⟩) hbb).trans hd2, (hW.cell (p := ⟨b, _, none⟩) hbb).trans hd3⟩
      clear hc0 hc1 hc2 hc3 hd0 hd1 hd2 hd3
      go_wp2_with fail
      refine wp_region_held_drew (S := fun w' => w'.cell? ⟨b, off + pre.length * 4, none⟩ = some (.int .i64 q.a) ∧ w'.cell? ⟨b, off + pre.length * 4 + 1, none⟩ = some (.int .i64 q.j) ∧ w'.cell? ⟨b, off + pre.length * 4 + 2, none⟩ = some (.int .i64 q.s) ∧ w'.cell? ⟨b, off + pre.length * 4 + 3, none⟩ = some (.int .i64 q.p) ∧ w'.cell? ⟨b, off + k * 4, none⟩ = some (.int .i64 p.a) ∧ w'.cell? ⟨b, off + k * 4 + 1, none⟩ = some (.int .i64 p.j) ∧ w'.cell? ⟨b, off + k * 4 + 2, none⟩ = some (.int .i64 p.s) ∧ w'.cell? ⟨b, off + k * 4 + 3, none⟩ = some (.int .i64 p.p)) (by kernel_rfl) (HKP.out _ (Below.refl _ _).drew) (fun hHeld => ?_)
      refine wpAnyH_take (i := 0) (v := ?vv1) rfl (by kernel_rfl) (by kernel_rfl) (by kernel_rfl) (fun _ _ _ h => h) (Or.inl ⟨by rfl, ?hy1⟩) (by assumption) ?rest1
      case hy1 => (intro w hSw; (try dsimp only at hSw); (try simp only [List.getElem_toArray, List.getElem_cons_zero, List.getElem_cons_succ]); go_simp <;> with_reducible rfl)
      try simp only [List.getElem_toArray, List.getElem_cons_zero, List.getElem_cons_succ, Act.put, List.setIfInBounds_toArray, List.set_cons_zero, List.set_cons_succ]
      refine wpAnyH_take (i := 1) (v := ?vv2) rfl (by kernel_rfl) (by kernel_rfl) (by kernel_rfl) (fun _ _ _ h => h) (Or.inl ⟨by rfl, ?hy2⟩) (by assumption) ?rest2
      case hy2 => (intro w hSw; (try dsimp only at hSw); (try simp only [List.getElem_toArray, List.getElem_cons_zero, List.getElem_cons_succ]); go_simp <;> with_reducible rfl)
      try simp only [List.getElem_toArray, List.getElem_cons_zero, List.getElem_cons_succ, Act.put, List.setIfInBounds_toArray, List.set_cons_zero, List.set_cons_succ]
      refine wpAnyH_take (i := 2) (v := ?vv3) rfl (by kernel_rfl) (by kernel_rfl) (by kernel_rfl) (fun _ _ _ h => h) (Or.inl ⟨by rfl, ?hy3⟩) (by assumption) ?rest3
      case hy3 => (intro w hSw; (try dsimp only at hSw); (try simp only [List.getElem_toArray, List.getElem_cons_zero, List.getElem_cons_succ]); go_simp <;> with_reducible rfl)
      try simp only [List.getElem_toArray, List.getElem_cons_zero, List.getElem_cons_succ, Act.put, List.setIfInBounds_toArray, List.set_cons_zero, List.set_cons_succ]
      refine wpAnyH_take (i := 3) (v := ?vv4) rfl (by kernel_rfl) (by kernel_rfl) (by kernel_rfl) (fun _ _ _ h => h) (Or.inl ⟨by rfl, ?hy4⟩) (by assumption) ?rest4
      case hy4 => (intro w hSw; (try dsimp only at hSw); (try simp only [List.getElem_toArray, List.getElem_cons_zero, List.getElem_cons_succ]); go_simp <;> with_reducible rfl)
      try simp only [List.getElem_toArray, List.getElem_cons_zero, List.getElem_cons_succ, Act.put, List.setIfInBounds_toArray, List.set_cons_zero, List.set_cons_succ]
      refine wpAnyH_take (i := 4) (v := ?vv5) rfl (by kernel_rfl) (by kernel_rfl) (by kernel_rfl) (fun _ _ _ h => h) (Or.inl ⟨by rfl, ?hy5⟩) (by assumption) ?rest5
      case hy5 => (intro w hSw; (try dsimp only at hSw); (try simp only [List.getElem_toArray, List.getElem_cons_zero, List.getElem_cons_succ]); go_simp <;> with_reducible rfl)
      try simp only [List.getElem_toArray, List.getElem_cons_zero, List.getElem_cons_succ, Act.put, List.setIfInBounds_toArray, List.set_cons_zero, List.set_cons_succ]
      refine wpAnyH_take (i := 5) (v := ?vv6) rfl (by kernel_rfl) (by kernel_rfl) (by kernel_rfl) (fun _ _ _ h => h) (Or.inl ⟨by rfl, ?hy6⟩) (by assumption) ?rest6
      case hy6 => (intro w hSw; (try dsimp only at hSw); (try simp only [List.getElem_toArray, List.getElem_cons_zero, List.getElem_cons_succ]); go_simp <;> with_reducible rfl)
      try simp only [List.getElem_toArray, List.getElem_cons_zero, List.getElem_cons_succ, Act.put, List.setIfInBounds_toArray, List.set_cons_zero, List.set_cons_succ]
      refine wpAnyH_take (i := 6) (v := ?vv7) rfl (by kernel_rfl) (by kernel_rfl) (by kernel_rfl) (fun _ _ _ h => h) (Or.inl ⟨by rfl, ?hy7⟩) (by assumption) ?rest7
      case hy7 => (intro w hSw; (try dsimp only at hSw); (try simp only [List.getElem_toArray, List.getElem_cons_zero, List.getElem_cons_succ]); go_simp <;> with_reducible rfl)
      try simp only [List.getElem_toArray, List.getElem_cons_zero, List.getElem_cons_succ, Act.put, List.setIfInBounds_toArray, List.set_cons_zero, List.set_cons_succ]
      refine wpAnyH_take (i := 7) (v := ?vv8) rfl (by kernel_rfl) (by kernel_rfl) (by kernel_rfl) (fun _ _ _ h => h) (Or.inl ⟨by rfl, ?hy8⟩) (by assumption) ?rest8
      case hy8 => (intro w hSw; (try dsimp only at hSw); (try simp only [List.getElem_toArray, List.getElem_cons_zero, List.getElem_cons_succ]); go_simp <;> with_reducible rfl)
      try simp only [List.getElem_toArray, List.getElem_cons_zero, List.getElem_cons_succ, Act.put, List.setIfInBounds_toArray, List.set_cons_zero, List.set_cons_succ]
      refine wpAnyH_ready (rs := [8]) (by kernel_rfl) (by simp) ?_
      refine AllReadyH.cons rfl (fun K hK => ?_) AllReadyH.nil
      go_simp
      refine (specSame q p _).mono ?_
      rintro e w3 ⟨rfl, hb3'⟩
      have hb3 : Below wr.heap.size wr w3 := (Below.refl wr.heap.size wr).drew.trans hb3'
      clear hb3'
      dsimp only
      refine hK.out _ _ (HKP.out _ hb3) (fun hHeld => ?_)
      clear hK K
      try simp only [List.getElem_toArray, List.getElem_cons_zero, List.getElem_cons_succ, Act.put, List.setIfInBounds_toArray, List.set_cons_zero, List.set_cons_succ]
      refine wpAnyH_done (by kernel_rfl) ?_ _
      obtain ⟨-, -, -, hc3, -⟩ := hHeld
      have hS3 := hS.below hb3
      have hb3s := hb3.size
      clear hS hb3 HKP
      have HQP := Lib.hid (show sameG q p = grpOf p q from rfl)
      rw [HQP.out]
      cases hs : grpOf p q
      · have HS := Lib.hid hs
        clear hs
        go_wp2
        go_roundw
        case rel => exact ⟨pre ++ [q], suf, hcut.next, by simp, by rw [bvals_no HS.out]; exact hS3.1, hS3.2⟩
        case measure => simp [intOf]; omega
      · have HS := Lib.hid hs
        clear hs
        obtain ⟨m, hm, hm9⟩ : ∃ m : Nat, q.p / 100 = (m : Int) ∧ m < 10 := ⟨(q.p / 100).toNat, by have := hqg.out.2.2.2; omega, by have := hqg.out.2.2.2; omega⟩
        have HM := Lib.hid hm
        have hdm : Int.tdiv q.p 100 = (m : Int) := by rw [Int.tdiv_eq_ediv_of_nonneg hqg.out.2.2.2.1]; exact hm
        clear hm
        have hqp := hqg.out.2.2.2
        have hm0 : (0 : Int) ≤ (m : Int) := Int.natCast_nonneg _
        have hm1 : (m : Int) < 10 := by omega
        have hv := hS3.1.cell m
        have hfz := hS3.1.frozen m
        rw [bvals_at _ _ hm9] at hv
        have hbl := bc_le (grpOf p) pre m
        have hne : w.heap.size ≠ b := by omega
        go_wp2_with fail
        go_region
        have hS4 : CSt (grpOf p) w (pre ++ [q]) ((w3.setCell ⟨w.heap.size, m, none⟩ (.int .i64 ((bc (grpOf p) pre m : Int) + 1))).drew) :=
          ⟨by rw [bvals_yes HS.out HM.out]; exact hS3.1.set m _, (hS3.2.setCell (Nat.le_refl _) _).drew⟩
        clear hv hfz hc3
        go_wp2
        go_roundw
        case rel => exact ⟨pre ++ [q], suf, hcut.next, by simp, hS4⟩
        case measure => simp [intOf]; omega

set_option maxRecDepth 100000 in
set_option maxHeartbeats 2000000 in
theorem specMany (f : Pn → Bool) (x : List Pn) (b : Nat) (w : World) (h : Blk w b 3 (bvals f x)) :
    Calls Try.prog 56 #[.slice (some ⟨b, 0, none⟩) 10 10] w fun e w' => e = .returned (.int .i64 (dv f x)) ∧ w = w' := by
  go_enter Try.func56, Try.ntmps56
  go_wp2
  go_loop [3, 4] (fun n i => ∃ m : Nat, m ≤ 10 ∧ i = .int .i64 m ∧ n = .int .i64 (dvTo f x m)) (fun _ i => 10 - (intOf i).toNat)
  case atStart => exact ⟨0, by omega, rfl, rfl⟩
  case round =>
    obtain ⟨m, hm, rfl, rfl⟩ := hrel
    have hle := dvTo_le f x m
    by_cases hlt : m < 10
    · have hm0 : (0 : Int) ≤ (m : Int) := Int.natCast_nonneg _
      have hm1 : (m : Int) < 10 := by omega
      have hv := h.cell m
      rw [bvals_at _ _ hlt] at hv
      have hbl := bc_le f x m
      have HNX := Lib.hid (dvTo_succ f x m)
      have HMN : min (1 : Int) (bc f x m : Int) = ((if 0 < bc f x m then 1 else 0 : Nat) : Int) := by split <;> omega
      go_wp2
      go_round
      case rel => exact ⟨m + 1, by omega, by go_num, by rw [HNX.out]; go_num⟩
      case measure => simp [intOf]; omega
    · have HE := Lib.hid (show m = 10 by omega)
      go_wp2
      go_ret
      exact ⟨ret_int (by rw [HE.out]; rfl), rfl⟩
end Go.Proofs.Ytaojjlhlahoocaa
