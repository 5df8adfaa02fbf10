/- The reference's functions on groups. -/
import Derived.Test.YtfpddhehdfckjaaSizeS
import Derived.Test.YtfpddhehdfckjaaGrp2
namespace Go.Proofs.Ytfpddhehdfckjaa
open Go.RowKit

theorem gSize_yes {l : List Pn} {L : List (List Int)} {r : Rc} {k : Int} {x : List Pn} (h : okA l L r) (hx : x = recd L r l) (h0 : 0 ≤ k) (h1 : k < l.length) : gSize l L r k = gsz x (nth x k.toNat) := by
  subst hx; exact if_pos ⟨h, h0, h1⟩
theorem gLeast_yes {l : List Pn} {L : List (List Int)} {r : Rc} {x : List Pn} (h : okA l L r) (hx : x = recd L r l) : gLeast l L r = lst x := by
  subst hx; exact if_pos h
theorem gMany_yes {l : List Pn} {L : List (List Int)} {r : Rc} {x : List Pn} (h : okA l L r) (hx : x = recd L r l) : gMany l L r = gmany x := by
  subst hx; exact if_pos h
theorem aDrop_yes {l : List Pn} {L : List (List Int)} {r : Rc} {k : Int} {x : List Pn} (h : okA l L r) (hx : x = recd L r l) (h0 : 1 ≤ k) (h1 : k ≤ 40) : aDrop l L r k = drp x k := by
  subst hx; exact if_pos ⟨h, h0, h1⟩

set_option maxHeartbeats 1000000 in
theorem specDrop (A : Option Addr) (c : Nat) (x : List Pn) (k : Int) (w : World) (hP : Ppl w w.heap.size A x) (h40 : x.length ≤ 40) :
    Calls Try.prog 78 #[.slice A x.length c, .int .i64 k] w fun e w' => e = .returned (.int .i64 (drp x k)) ∧ Below w.heap.size w w' := by
  go_enter Try.func78, Try.ntmps78
  go_wp2
  go_loopw [5, 6] (fun n i wr => ∃ pre suf, Cut x pre suf ∧ i = .int .i64 pre.length ∧ n = .int .i64 (drpTo x k pre) ∧ Below w.heap.size w wr) (fun _ i _ => x.length - (intOf i).toNat)
  case atStart => exact ⟨[], x, Cut.zero _, rfl, rfl, Below.refl _ _⟩
  case round =>
    obtain ⟨pre, suf, hcut, rfl, rfl, hbel⟩ := hrel
    cases suf with
    | nil =>
      have hge := hcut.len0
      go_wp2
      go_ret
      exact ⟨ret_int (by rw [hcut.done]; rfl), hbel⟩
    | cons q suf =>
      have hlt := hcut.len1
      have hgp := drpTo_le x k pre
      go_wp2_with fail
      refine (specSize A c x pre.length q _ ((hP.below hbel).more hbel.size) (by omega) hcut.at_).mono ?_
      rintro e w2 ⟨rfl, hb2⟩
      have hb3 := hbel.trans (hb2.mono hbel.size)
      clear hb2
      by_cases hq : (gsz x q : Int) < k
      · go_wp2
        go_roundw
        case rel => exact ⟨pre ++ [q], suf, hcut.next, by simp, by rw [drpTo_snoc, if_pos hq]; go_num, hb3⟩
        case measure => simp [intOf]; omega
      · have hq' : decide ((gsz x q : Int) < k) = false := by simp; omega
        go_wp2
        go_roundw
        case rel => exact ⟨pre ++ [q], suf, hcut.next, by simp, by rw [drpTo_snoc, if_neg (by omega)]; rfl, hb3⟩
        case measure => simp [intOf]; omega

set_option maxHeartbeats 1000000 in
theorem specAnonDrop (A A2 : Option Addr) (c c2 : Nat) (l : List Pn) (L : List (List Int)) (r : Rc) (k : Int) (w : World) (h : Arg w A l A2 L) :
    Calls Try.prog 62 #[.slice A l.length c, .slice A2 L.length c2, r.val, .int .i64 k] w fun e w' => e = .returned (.int .i64 (aDrop l L r k)) ∧ Below w.heap.size w w' := by
  have H := Lib.hid h
  clear h
  have HB := Lib.hid (fun o => (Below.refl w.heap.size w).alloc (Nat.le_refl _) o)
  obtain ⟨ra, rj, rs⟩ := r
  unfold Rc.val
  dsimp only
  have hn : l.length ≤ 2000000 := H.out.2.1
  go_enter Try.func62, Try.ntmps62
  go_wp2_with fail
  refine (specRecodePeople A A2 c c2 l L ⟨ra, rj, rs⟩ _ (H.out.below (HB.out _))).mono ?_
  rintro e w1 hout
  rcases hout.up with hout | hout
  · obtain ⟨hok, x, A', c', hx, h40, hxc, hxm, hxl, hgd, rfl, hP, hb1⟩ := hout
    by_cases hin : 1 ≤ k ∧ k ≤ 40
    · obtain ⟨h0, h1⟩ := hin
      have HF := Lib.hid (aDrop_yes hok.out hx.out h0 h1)
      have hib := inB_yes (n := k) (lo := 1) (hi := 40) h0 h1
      go_wp2_with (go_at_call 48; refine (specIn _ _ _ _).mono ?_; rintro e w' ⟨rfl, rfl⟩)
      refine (specDrop A' c' x k _ hP h40).mono ?_
      rintro e w2 ⟨rfl, hb2⟩
      go_wp2
      go_ret
      exact ⟨ret_int HF.out.symm, hb1.trans (hb2.mono hb1.size)⟩
    · have HF := Lib.hid (show aDrop l L ⟨ra, rj, rs⟩ k = -1 from if_neg (fun h => hin h.2))
      have hib := inB_no (n := k) (lo := 1) (hi := 40) (by omega)
      go_wp2_with (go_at_call 48; refine (specIn _ _ _ _).mono ?_; rintro e w' ⟨rfl, rfl⟩)
      go_ret
      exact ⟨ret_int HF.out.symm, hb1⟩
  · obtain ⟨hok, A', c', rfl, hb1⟩ := hout
    have HF := Lib.hid (show aDrop l L ⟨ra, rj, rs⟩ k = -1 from if_neg (fun h => hok.out h.1))
    go_wp2
    go_ret
    exact ⟨ret_int HF.out.symm, hb1⟩
end Go.Proofs.Ytfpddhehdfckjaa
