/- The program's least diversity. -/
import Derived.Test.YtljjaanohcibcaaDivI
import Derived.Test.YtljjaanohcibcaaRecodeS
namespace Go.Proofs.Ytljjaanohcibcaa
open Go.RowKit
attribute [local go_sem ↓] Go.wp_at_zero Go.wp_at_succ

set_option maxRecDepth 100000 in
set_option maxHeartbeats 4000000 in
theorem implDiverseLeast (A A2 : Option Addr) (c c2 : Nat) (l : List Pn) (L : List (List Int)) (r : Rc) (w : World) (h : Arg w A l A2 L) :
    Calls Try.prog 29 #[.slice A l.length c, .slice A2 L.length c2, r.val] w fun e w' => e = .returned (.int .i64 (dLeast l L r)) ∧ Below w.heap.size w w' := by
  have H := Lib.hid h
  clear h
  have HB := Lib.hid (fun o => (Below.refl w.heap.size w).alloc (Nat.le_refl _) o)
  obtain ⟨ra, rj, rs⟩ := r
  unfold Rc.val
  dsimp only
  have hn : l.length ≤ 2000000 := H.out.2.1
  go_enter Try.func29, Try.ntmps29
  go_wp2_with fail
  refine (implRecodePeople A A2 c c2 l L ⟨ra, rj, rs⟩ _ (H.out.below (HB.out _))).mono ?_
  rintro e w1 hout
  rcases hout.up with hout | hout
  · obtain ⟨hok, x, A', c', hx, h40, hxc, hxm, hxl, hgd, rfl, hP, hb1⟩ := hout
    have HF := Lib.hid (dLeast_yes hok.out hx.out)
    by_cases hx0 : x.length = 0
    · have e1 : ((x.length : Int) == 0) = true := by simp [hx0]
      have e2 : (x.length == 0) = true := by simp [hx0]
      have HF0 := Lib.hid (show dl x = 0 by have := dlTo_le x x; unfold dl; omega)
      clear hx0
      go_wp2
      go_ret
      exact ⟨ret_int (by rw [HF.out, HF0.out]; rfl), hb1⟩
    · have e1 : ((x.length : Int) == 0) = false := beq_eq_false_iff_ne.2 (by omega)
      have e2 : (x.length == 0) = false := beq_eq_false_iff_ne.2 (by omega)
      go_wp2
      go_loopw [9, 27] (fun n i wr => ∃ pre suf, Cut x pre suf ∧ i = .int .i64 pre.length ∧ n = .int .i64 (dlTo x pre) ∧ Below w1.heap.size w1 wr) (fun _ i _ => x.length - (intOf i).toNat)
      case atStart => exact ⟨[], x, Cut.zero _, rfl, rfl, Below.refl _ _⟩
      case round =>
        obtain ⟨pre, suf, hcut, rfl, rfl, hbel⟩ := hrel
        have hle := dlTo_le x pre
        cases suf with
        | nil =>
          have hge := hcut.len0
          go_wp2
          go_ret
          exact ⟨ret_int (by rw [HF.out, hcut.done]; rfl), hb1.trans (hbel.mono hb1.size)⟩
        | cons q suf =>
          have hlt := hcut.len1
          have hd10 := dv_le (grpOf q) x
          have HM := Lib.hid (dlTo_snoc x pre q)
          go_wp2_with fail
          refine (implGroupBands A' c' x pre.length q _ ((hP.below hbel).more hbel.size) hcut.at_ h40 hgd.out.1).mono ?_
          rintro e w2 ⟨rfl, hb2⟩
          go_wp2_with fail
          refine (implDifferent (grpOf q) x _).mono ?_
          rintro e w3 ⟨rfl, hb3⟩
          have hbel3 := Bel2 hbel (Bel2 hb2 hb3)
          clear hbel hb2 hb3
          go_wp2
          go_roundw
          case rel => exact ⟨pre ++ [q], suf, hcut.next, by simp, by rw [HM.out]; go_num, hbel3⟩
          case measure => simp [intOf]; omega
  · obtain ⟨hok, A', c', rfl, hb1⟩ := hout
    have HF := Lib.hid (show dLeast l L ⟨ra, rj, rs⟩ = -1 from if_neg hok.out)
    go_wp2
    go_ret
    exact ⟨ret_int HF.out.symm, hb1⟩
end Go.Proofs.Ytljjaanohcibcaa
