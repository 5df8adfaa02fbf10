/- DiverseSize: the program's and the reference's. -/
import Derived.Test.YtaojjlhlahoocaaDivLeastI
import Derived.Test.YtaojjlhlahoocaaDivLeastS
import Derived.Test.YtaojjlhlahoocaaGrpS
namespace Go.Proofs.Ytaojjlhlahoocaa
open Go.RowKit
attribute [local go_sem ↓] Go.wp_at_zero Go.wp_at_succ

set_option maxRecDepth 100000 in
set_option maxHeartbeats 4000000 in
theorem implDiverseSize (A A2 : Option Addr) (c c2 : Nat) (l : List Pn) (L : List (List Int)) (r : Rc) (k : Int) (w : World) (h : Arg w A l A2 L) :
    Calls Try.prog 29 #[.slice A l.length c, .slice A2 L.length c2, r.val, .int .i64 k] w fun e w' => e = .returned (.int .i64 (dSize l L r k)) ∧ Below w.heap.size w w' := by
  have H := Lib.hid h
  clear h
  have HB := Lib.hid (fun o => (Below.refl w.heap.size w).alloc (Nat.le_refl _) o)
  obtain ⟨ra, rj, rs⟩ := r
  unfold Rc.val
  dsimp only
  have hn : l.length ≤ 2000000 := H.out.2.1
  go_enter Try.func29, Try.ntmps29
  go_wp2_with fail
  refine (implRecodePeople A A2 c c2 l L ⟨ra, rj, rs⟩ _ (H.out.below (HB.out _))).mono ?_
  rintro e w1 hout
  rcases hout.up with hout | hout
  · obtain ⟨hok, x, A', c', hx, h40, hxc, hxm, hxl, hgd, rfl, hP, hb1⟩ := hout
    by_cases hin : 0 ≤ k ∧ k < x.length
    · obtain ⟨h0, h1⟩ := hin
      have HF := Lib.hid (dSize_yes hok.out hx.out h0 (by rw [hxl.out] at h1; exact h1))
      obtain ⟨m, rfl⟩ : ∃ m : Nat, k = m := ⟨k.toNat, by omega⟩
      have hml : m < x.length := by omega
      rw [Int.toNat_natCast] at HF
      go_wp2_with fail
      refine (implGroupBands A' c' x m (nth x m) _ hP (nth_at hml) h40 hgd.out.1).mono ?_
      rintro e w2 ⟨rfl, hb2⟩
      go_wp2_with fail
      refine (implDifferent (grpOf (nth x m)) x _).mono ?_
      rintro e w3 ⟨rfl, hb3⟩
      have hbl := hb1.trans ((Bel2 hb2 hb3).mono hb1.size)
      go_wp2
      go_ret
      exact ⟨ret_int HF.out.symm, hbl⟩
    · have HF := Lib.hid (show dSize l L ⟨ra, rj, rs⟩ k = -1 from if_neg (fun h => hin (by rw [hxl.out]; exact h.2)))
      by_cases h0 : k < 0
      · go_wp2
        go_ret
        exact ⟨ret_int HF.out.symm, hb1⟩
      · have h1 : (x.length : Int) ≤ k := by omega
        have h2 : 0 ≤ k := by omega
        clear h0 hin
        go_wp2
        go_ret
        exact ⟨ret_int HF.out.symm, hb1⟩
  · obtain ⟨hok, A', c', rfl, hb1⟩ := hout
    have HF := Lib.hid (show dSize l L ⟨ra, rj, rs⟩ k = -1 from if_neg (fun h => hok.out h.1))
    go_wp2
    go_ret
    exact ⟨ret_int HF.out.symm, hb1⟩

set_option maxRecDepth 100000 in
set_option maxHeartbeats 4000000 in
theorem specDiverseSize (A A2 : Option Addr) (c c2 : Nat) (l : List Pn) (L : List (List Int)) (r : Rc) (k : Int) (w : World) (h : Arg w A l A2 L) :
    Calls Try.prog 30 #[.slice A l.length c, .slice A2 L.length c2, r.val, .int .i64 k] w fun e w' => e = .returned (.int .i64 (dSize l L r k)) ∧ Below w.heap.size w w' := by
  have hn : l.length ≤ 2000000 := h.2.1
  have H := Lib.hid h
  clear h
  obtain ⟨ra, rj, rs⟩ := r
  unfold Rc.val
  dsimp only
  have hbk := Blk.new w 26 #[.int .i64 ra, .int .i64 rj, .int .i64 rs]
  have hB0 := (((Below.refl _ _).alloc (Nat.le_refl _) _) : Below w.heap.size w (w.alloc (.cells #[.int .i64 ra, .int .i64 rj, .int .i64 rs] 26)))
  have hH0 := H.out.below hB0
  go_enter Try.func30, Try.ntmps30
  go_wp2_with fail
  refine (specGroupSize A A2 c c2 l L ⟨ra, rj, rs⟩ k _ hH0).mono ?_
  rintro e w1 ⟨rfl, hb1⟩
  have hH1 := hH0.below hb1
  have hbk1 := hbk.below hb1 hbk.lt
  have hB1 := hB0.trans (hb1.mono hB0.size)
  have hc0 := hbk1.cell 0
  have hc1 := hbk1.cell 1
  have hc2 := hbk1.cell 2
  simp only [List.getElem?_cons_zero, List.getElem?_cons_succ] at hc0 hc1 hc2
  clear hbk hH0 hB0 hb1 hbk1
  by_cases hin : okA l L ⟨ra, rj, rs⟩ ∧ 0 ≤ k ∧ k < l.length
  · obtain ⟨hok, h0, h1⟩ := hin
    have HG := Lib.hid (gSize_yes hok rfl h0 h1)
    have HF := Lib.hid (dSize_yes hok rfl h0 h1)
    obtain ⟨m, rfl⟩ : ∃ m : Nat, k = m := ⟨k.toNat, by omega⟩
    rw [Int.toNat_natCast] at HG HF
    have hml : m < l.length := by omega
    rw [HG.out]
    have HOK := Lib.hid hok
    clear hok
    go_wp2_with fail
    refine (specRecodePeople A A2 c c2 l L ⟨ra, rj, rs⟩ _ hH1).mono ?_
    rintro e w2 hout
    rcases hout with ⟨-, v, rfl, hown, hb2⟩ | ⟨hno, -⟩
    · obtain ⟨A', c', rfl, hP, hc1', hc2'⟩ := hown.form
      have hxl := recd_length L ⟨ra, rj, rs⟩ l
      have hgd := Lib.hid (recd_good HOK.out)
      have hB2 := hB1.trans (hb2.mono hB1.size)
      generalize recd L ⟨ra, rj, rs⟩ l = x at *
      have h40 := hgd.out.2
      have HXL := Lib.hid hxl
      have hmx : m < x.length := by omega
      clear hxl hown hb2 hB1 hc0 hc1 hc2
      go_wp2_with fail
      refine (specBands A' c' x m (nth x m) _ hP (nth_at hmx) h40 hgd.out.1).mono ?_
      rintro e w3 ⟨rfl, hS3, hb3⟩
      go_wp2_with fail
      refine (specMany (grpOf (nth x m)) x _ _ hS3).mono ?_
      rintro e w4 ⟨rfl, rfl⟩
      have hB3 := hB2.trans (hb3.mono hB2.size)
      clear hb3 hS3 hB2
      go_wp2
      go_ret
      exact ⟨ret_int HF.out.symm, hB3⟩
    · exact absurd HOK.out hno
  · have HF := Lib.hid (show dSize l L ⟨ra, rj, rs⟩ k = -1 from if_neg hin)
    have HG := Lib.hid (show gSize l L ⟨ra, rj, rs⟩ k = -1 from if_neg hin)
    rw [HG.out]
    go_wp2
    go_ret
    exact ⟨ret_int HF.out.symm, hB1⟩
end Go.Proofs.Ytaojjlhlahoocaa
