/- The reference's AnonKeep. -/
import Derived.Test.YtaojjlhlahoocaaPV
import Derived.Test.YtaojjlhlahoocaaGrpS
import Derived.Test.YtaojjlhlahoocaaOnly
import Derived.Maps.AppendAt
import Derived.Deep.DeepMust
namespace Go.Proofs.Ytaojjlhlahoocaa
open Go.RowKit

set_option maxRecDepth 100000 in
set_option maxHeartbeats 4000000 in
theorem specAnonKeepV (A A2 : Option Addr) (c c2 : Nat) (l : List Pn) (L : List (List Int)) (r : Rc) (k : Int) (w : World) (h : Arg w A l A2 L) :
    Calls Try.prog 17 #[.slice A l.length c, .slice A2 L.length c2, r.val, .int .i64 k] w (PV (kV l L r k) (kB l L r k) w) := by
  obtain ⟨i0, hi, hz0, hz1, hz2⟩ := info_parts infoP
  have hn : l.length ≤ 2000000 := h.2.1
  have H := Lib.hid h
  clear h
  obtain ⟨ra, rj, rs⟩ := r
  unfold Rc.val
  dsimp only
  have hblk0 := (Blk.new w 26 #[.int .i64 ra, .int .i64 rj, .int .i64 rs]).alloc (.cells #[] 35)
  have hb00 : Below w.heap.size w ((w.alloc (.cells #[.int .i64 ra, .int .i64 rj, .int .i64 rs] 26)).alloc (.cells #[] 35)) := (((Below.refl _ _).alloc (Nat.le_refl _) _).alloc (by simp <;> omega) _)
  have hown0 := OPpl.empty (w.alloc (.cells #[.int .i64 ra, .int .i64 rj, .int .i64 rs] 26)) 35
  rw [World.size_alloc] at hown0
  go_enter Try.func17, Try.ntmps17
  go_wp2_with fail
  generalize hw0 : ((w.alloc (.cells #[.int .i64 ra, .int .i64 rj, .int .i64 rs] 26)).alloc (.cells #[] 35)) = w0 at *
  have hs0 : w0.heap.size = w.heap.size + 2 := by rw [← hw0]; simp
  have HS0 := Lib.hid hs0
  clear hw0 hs0
  refine (specAnonDrop A A2 c c2 l L ⟨ra, rj, rs⟩ k w0 (H.out.below hb00)).mono ?_
  rintro e w1 ⟨rfl, hb1⟩
  have hb01 := hb00.trans (hb1.mono hb00.size)
  have hblk1 := hblk0.below hb1 hblk0.lt
  have hown1 := OPpl.below hown0 hb1
  have hbw1 : w.heap.size + 2 ≤ w1.heap.size := by have := hb1.size; have := HS0.out; omega
  clear hb1 hblk0 hown0 hb00 HS0
  by_cases hok : okK l L ⟨ra, rj, rs⟩ k
  · have HOK := Lib.hid hok
    have HF := Lib.hid (aDrop_yes hok.1 rfl hok.2.1 hok.2.2)
    clear hok
    rw [HF.out]
    have hd0 := hblk1.cell 0
    have hd1 := hblk1.cell 1
    have hd2 := hblk1.cell 2
    simp only [List.getElem?_cons_zero, List.getElem?_cons_succ] at hd0 hd1 hd2
    have HA1 := Lib.hid (H.out.below hb01)
    go_wp2_with fail
    refine (specRecodePeople A A2 c c2 l L ⟨ra, rj, rs⟩ w1 HA1.out).mono ?_
    rintro e w2 hout
    rcases hout with ⟨-, v, rfl, hown, hb2⟩ | ⟨hno, -⟩
    · obtain ⟨A', c', rfl, hP, hc1', hc2'⟩ := hown.form
      have hgd := Lib.hid (recd_good HOK.out.1)
      have hB2 := hb01.trans (hb2.mono hb01.size)
      have hown2 := OPpl.below hown1 hb2
      have hbw2 := hb2.size
      obtain ⟨x, hx⟩ : ∃ x, x = recd L ⟨ra, rj, rs⟩ l := ⟨_, rfl⟩
      have HX := Lib.hid hx
      rw [← hx] at hgd hP hc1' ⊢
      have h40 := hgd.out.2
      rw [← hx] at hown
      have HX2 := Lib.hid hown
      have HV : Hid (kV l L ⟨ra, rj, rs⟩ k = kept x k) := by unfold Hid; rw [HX.out]; exact if_pos HOK.out
      have HVB := Lib.hid (show kB l L ⟨ra, rj, rs⟩ k = true from decide_eq_true HOK.out)
      clear hx hown hown1 hb2 hblk1 hd0 hd1 hd2 hb01 hP
      have hoa : OwnAt (.slice (some ⟨w.heap.size + 1, 0, none⟩) 0 0) (w.heap.size + 1) w2.heap.size := fun b e => .inl (by simp [Value.ownBlock] at e; omega)
      go_wp2
      go_loopw [10, 13] (fun v i wr => ∃ pre suf, Cut x pre suf ∧ i = .int .i64 pre.length ∧ OPpl wr (w.heap.size + 1) 35 v (keepTo x k pre) ∧ Only (w.heap.size + 1) (w.heap.size + 2) w2 wr ∧ OwnAt v (w.heap.size + 1) w2.heap.size) (fun _ i _ => x.length - (intOf i).toNat)
      case atStart => exact ⟨[], x, Cut.zero _, rfl, hown2, Only.refl _ _ _, hoa⟩
      case round =>
        obtain ⟨pre, suf, hcut, rfl, hown, hon, hoat⟩ := hrel
        clear hoa hown2
        cases suf with
        | nil =>
          have hge := hcut.len0
          have HD := Lib.hid hcut.done
          go_wp2
          go_ret2
          rw [HV.out, HVB.out]
          rw [HD.out] at hown
          exact ⟨_, rfl, own_weaken hown (Nat.le_succ _), hB2.trans ((hon.below (by omega)).mono (Nat.le_succ _))⟩
        | cons q suf =>
          have hlt := hcut.len1
          have hkl := keepTo_le x k pre
          have hgl := gsz_le x q
          have hXr := hon.own HX2.out (by omega)
          obtain ⟨A9, c9, e9, hPr, -, -⟩ := hXr.form
          simp only [Value.slice.injEq, true_and] at e9
          obtain ⟨rfl, rfl⟩ := e9
          have hons := hon.size
          have HPR := Lib.hid hPr
          have HOAT := Lib.hid hoat
          have HON := Lib.hid hon
          clear hXr hPr hoat hon
          go_wp2_with fail
          refine (specSize A' c' x pre.length q _ HPR.out (by omega) hcut.at_).mono ?_
          rintro e w3 ⟨rfl, hb3⟩
          have hown3 := OPpl.below hown hb3
          have hon3 := HON.out.then hb3
          have hs3 := hon3.size
          obtain ⟨b, off, rfl, hb, hc0, hc1, hc2, hc3⟩ := ((HPR.out.below hb3).more hb3.size).at_ hcut.at_
          have hj0 : (0 : Int) ≤ (pre.length : Int) := Int.natCast_nonneg _
          have hj1 : (pre.length : Int) < (x.length : Int) := by omega
          have HON3 := Lib.hid hon3
          have HOW3 := Lib.hid hown3
          clear hb3 hown hon3 hown3 HON HPR
          by_cases hq : k ≤ (gsz x q : Int)
          · have HL := Lib.hid (show (keepTo x k pre).length ≤ 40 by omega)
            go_wp2_with (at_builtin; go_must (refine wpList_append_own_at _ rfl _ _ 23 rfl (w.heap.size + 1) 35 i0 _ 4 32 Try.underlying23 hi hz0 hz1 hz2 rfl (by decide) _ _ _ rfl (World.ownsRow.alloc HOW3.out _) ⟨w3.heap.size, 0, none⟩ 1 1 q.vals rfl rfl (cells4 _ q _) (one4 _) (by have := HL.out; unfold maxLen; omega) (by have := HL.out; omega) (by simp; omega) ?_))
            intro v' w5 hown' hgrow _ hloc
            have hon5 := (HON3.out.then (((Below.refl _ _).alloc (Nat.le_refl _) _) : Below w3.heap.size w3 (w3.alloc (.cells #[.int .i64 q.a, .int .i64 q.j, .int .i64 q.s, .int .i64 q.p] 35)))).step hgrow (fun g e => by have := HOAT.out g e; omega)
            have hoa5 : OwnAt v' (w.heap.size + 1) w2.heap.size := fun g e => by
              rcases hloc with h | h
              · rw [h] at e; exact HOAT.out g e
              · rw [h] at e; simp at e; omega
            have HOA5 := Lib.hid hoa5
            clear hgrow hloc hc0 hc1 hc2 hc3 hoa5
            go_wp2
            go_roundw
            case rel => exact ⟨pre ++ [q], suf, hcut.next, by simp, by rw [keepTo_snoc, if_pos hq]; exact OPpl.snoc hown', hon5, HOA5.out⟩
            case measure => simp [intOf]; omega
          · have hq' : decide (k ≤ (gsz x q : Int)) = false := by simp; omega
            have hq2 : (gsz x q : Int) < k := by omega
            clear hc0 hc1 hc2 hc3
            go_wp2
            go_roundw
            case rel => exact ⟨pre ++ [q], suf, hcut.next, by simp, by rw [keepTo_snoc, if_neg (by omega), List.append_nil]; exact HOW3.out, HON3.out, HOAT.out⟩
            case measure => simp [intOf]; omega
    · exact absurd HOK.out.1 hno
  · have HF := Lib.hid (show aDrop l L ⟨ra, rj, rs⟩ k = -1 from if_neg hok)
    rw [HF.out]
    have HV := Lib.hid (show kV l L ⟨ra, rj, rs⟩ k = [] from if_neg hok)
    have HVB := Lib.hid (show kB l L ⟨ra, rj, rs⟩ k = false from decide_eq_false hok)
    clear hok
    go_wp2
    go_ret2
    rw [HV.out, HVB.out]
    exact ⟨_, rfl, own_weaken hown1 (by omega), hb01⟩
end Go.Proofs.Ytaojjlhlahoocaa
