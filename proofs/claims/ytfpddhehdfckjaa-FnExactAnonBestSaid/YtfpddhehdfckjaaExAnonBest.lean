/- FnExactAnonBest, walked: true, and nothing that was there has turned. -/
import Derived.Test.YtfpddhehdfckjaaSzeqInt
import Derived.Test.YtfpddhehdfckjaaSzeqPpl
import Derived.Test.YtfpddhehdfckjaaBestS
namespace Go.Proofs.Ytfpddhehdfckjaa.WFnExactAnonBest
open Go.RowKit
set_option linter.unusedVariables false
set_option linter.unusedSimpArgs false
attribute [local go_sem ↓] Go.wp_at_zero Go.wp_at_succ

theorem eqRec (a j s : Int) (w : World) : Calls Try.prog 46 #[.agg #[.int .i64 a, .int .i64 j, .int .i64 s], .agg #[.int .i64 a, .int .i64 j, .int .i64 s]] w fun e w' => e = .returned (.bool true) ∧ Below w.heap.size w w' := by
  have hb : Below w.heap.size w ((w.alloc (.cells #[.int .i64 a, .int .i64 j, .int .i64 s] 44)).alloc (.cells #[.int .i64 a, .int .i64 j, .int .i64 s] 44)) := (((Below.refl _ _).alloc (Nat.le_refl _) _).alloc (by simp <;> omega) _)
  have b0 := (Blk.new w 44 #[.int .i64 a, .int .i64 j, .int .i64 s]).alloc (.cells #[.int .i64 a, .int .i64 j, .int .i64 s] 44)
  have b1 := Blk.new (w.alloc (.cells #[.int .i64 a, .int .i64 j, .int .i64 s] 44)) 44 #[.int .i64 a, .int .i64 j, .int .i64 s]
  rw [World.size_alloc] at b1
  have x0 := b0.cell 0
  have x1 := b0.cell 1
  have x2 := b0.cell 2
  simp only [List.getElem?_cons_zero, List.getElem?_cons_succ] at x0 x1 x2
  have y0 := b1.cell 0
  have y1 := b1.cell 1
  have y2 := b1.cell 2
  simp only [List.getElem?_cons_zero, List.getElem?_cons_succ] at y0 y1 y2
  clear b0 b1
  go_enter Try.func46, Try.ntmps46
  go_wp2
  go_ret
  exact ⟨rfl, hb⟩
theorem bestV_is (o : Option Rc) : ∃ a j s f, bestV o = .tuple #[.agg #[.int .i64 a, .int .i64 j, .int .i64 s], .bool f] := by
  rcases o with _ | ⟨a, j, s⟩
  · exact ⟨0, 0, 0, false, rfl⟩
  · exact ⟨a, j, s, true, rfl⟩

set_option maxHeartbeats 1000000 in
theorem walk (w : World) (A : Option Addr) (c : Nat) (l : List Pn) (hn : l.length ≤ 9223372036854775807) (hP : Ppl w w.heap.size A l) (hpo : ∀ p ∈ l, p.ok) (A2 : Option Addr) (c2 : Nat) (L : List (List Int)) (hn2 : L.length ≤ 9223372036854775807) (hG : Grd w w.heap.size A2 (L.map (·.map (Value.int .i64)))) (hLb : ∀ r ∈ L, ∀ z ∈ r, -9223372036854775808 ≤ z ∧ z ≤ 9223372036854775807) (k : Int) (hk : -9223372036854775808 ≤ k ∧ k ≤ 9223372036854775807) (d : Int) (hd : -9223372036854775808 ≤ d ∧ d ≤ 9223372036854775807) :
    Calls Try.prog 14 #[.slice A l.length c, .slice A2 L.length c2, .int .i64 k, .int .i64 d] w fun e w' => e = .returned (.bool true) ∧ Below w.heap.size w w' := by
  clear hpo hLb
  obtain ⟨xa, xj, xs, f, hV⟩ := bestV_is (aBest l L k d)
  have HV := Lib.hid hV
  clear hV
  by_cases hl : l.length ≤ 1048576
  · have e1 := szR_yes (left := 1048576) (n := l.length) (by omega)
    by_cases ht : tot L ≤ 1048576 - l.length
    · have e2 := szR_yes (left := 1048576 - l.length) (n := tot L) (by omega)
      have hx1 : (0 : Int) ≤ 1048576 - (l.length : Int) := by omega
      have hx2 : (0 : Int) ≤ 1048576 - (l.length : Int) - (tot L : Int) := by omega
      have E1 := Lib.hid e1
      have E2 := Lib.hid e2
      clear e1 e2
      have ht' : tot L ≤ 1048576 := by omega
      have HL := Lib.hid (fun r hr => Nat.le_trans (len_le L _ ht' r hr) (show 1048576 ≤ 2000000 by decide))
      have hLl : L.length ≤ 1048576 := by unfold tot at ht'; omega
      go_enter Try.func14, Try.ntmps14
      go_wp2_with fail
      refine (SzPpl.szS A l.length c _ w (by omega) (by omega) hn).mono ?_
      rintro e w' ⟨rfl, rfl⟩
      rw [E1.out]
      go_wp2_with fail
      refine (SzInt.szSS A2 c2 L _ w hG (by omega) (by omega) hn2).mono ?_
      rintro e w' ⟨rfl, rfl⟩
      rw [E2.out]
      go_wp2_with fail
      refine (SzPpl.toS A c l w hP (by omega)).mono ?_
      rintro e w1 ⟨rfl, hk1, hb1⟩
      go_wp2_with fail
      refine (SzInt.toSS A2 c2 L w1 ((hG.below hb1).more hb1.size) (by omega) HL.out).mono ?_
      rintro e w2 ⟨rfl, ho2, hb2⟩
      have hb02 := hb1.trans (hb2.mono hb1.size)
      have hA2 : Arg w2 (some ⟨w.heap.size, 0, none⟩) l (some ⟨w1.heap.size, 0, none⟩) L := ⟨SzPpl.ppl_of_blk (hk1.below hb2 hk1.lt) (Nat.lt_of_lt_of_le hk1.lt hb2.size), by omega, Grd.of_tot ho2 (Below.refl _ _) ht', by omega, HL.out⟩
      clear hk1 hb1 ho2 hb2
      go_wp2_with fail
      refine (specAnonBest _ _ _ _ l L k d w2 hA2).mono ?_
      rw [HV.out]
      rintro e w3 ⟨rfl, hb3⟩
      have hb04 := (hb02.trans (hb3.mono hb02.size)).alloc (hb02.trans (hb3.mono hb02.size)).size (.cells #[.int .i64 xa, .int .i64 xj, .int .i64 xs] 44)
      have q4 := Blk.new w3 44 #[.int .i64 xa, .int .i64 xj, .int .i64 xs]
      clear hA2 hb02 hb3
      go_wp2_with fail
      generalize w3.alloc (.cells #[.int .i64 xa, .int .i64 xj, .int .i64 xs] 44) = w4 at *
      refine (SzPpl.toS A c l w4 ((hP.below hb04).more hb04.size) (by omega)).mono ?_
      rintro e w5 ⟨rfl, hk5, hb5⟩
      have hb05 := hb04.trans (hb5.mono hb04.size)
      have q5 := q4.below hb5 q4.lt
      go_wp2_with fail
      refine (SzInt.toSS A2 c2 L w5 ((hG.below hb05).more hb05.size) (by omega) HL.out).mono ?_
      rintro e w6 ⟨rfl, ho6, hb6⟩
      have hb06 := hb05.trans (hb6.mono hb05.size)
      have q6 := q5.below hb6 q5.lt
      have hA6 : Arg w6 (some ⟨w4.heap.size, 0, none⟩) l (some ⟨w5.heap.size, 0, none⟩) L := ⟨SzPpl.ppl_of_blk (hk5.below hb6 hk5.lt) (Nat.lt_of_lt_of_le hk5.lt hb6.size), by omega, Grd.of_tot ho6 (Below.refl _ _) ht', by omega, HL.out⟩
      clear hk5 hb5 ho6 hb6 q4 q5 hb04 hb05
      go_wp2_with fail
      refine (implAnonBest _ _ _ _ l L k d w6 hA6).mono ?_
      rw [HV.out]
      rintro e w7 ⟨rfl, hb7⟩
      have hb78 : Below w7.heap.size w7 (w7.alloc (.cells #[.int .i64 xa, .int .i64 xj, .int .i64 xs] 44)) := ((Below.refl _ _).alloc (Nat.le_refl _) _)
      have hb68 := hb7.trans (hb78.mono hb7.size)
      have hb08 := hb06.trans (hb68.mono hb06.size)
      have hA8 := hA6.below hb68
      have q8 := q6.below hb68 q6.lt
      have p8 := Blk.new w7 44 #[.int .i64 xa, .int .i64 xj, .int .i64 xs]
      have x0 := q8.cell 0
      have x1 := q8.cell 1
      have x2 := q8.cell 2
      simp only [List.getElem?_cons_zero, List.getElem?_cons_succ] at x0 x1 x2
      have y0 := p8.cell 0
      have y1 := p8.cell 1
      have y2 := p8.cell 2
      simp only [List.getElem?_cons_zero, List.getElem?_cons_succ] at y0 y1 y2
      clear hb7 hb78 hb68 hb06 hA6 q6 q8 p8
      go_wp2_with fail
      generalize w7.alloc (.cells #[.int .i64 xa, .int .i64 xj, .int .i64 xs] 44) = w8 at *
      refine (eqRec xa xj xs w8).mono ?_
      rintro e w9 ⟨rfl, hb9⟩
      have hA9 := hA8.below hb9
      have hb09 := hb08.trans (hb9.mono hb08.size)
      clear hA8 hb08 hb9 x0 x1 x2 y0 y1 y2
      have ef : (f != f) = false := by cases f <;> rfl
      go_wp2_with fail
      refine (SzPpl.toS A c l w9 ((hP.below hb09).more hb09.size) (by omega)).mono ?_
      rintro e w10 ⟨rfl, hk10, hb10⟩
      have hA10 := hA9.below hb10
      have hb010 := hb09.trans (hb10.mono hb09.size)
      go_wp2_with fail
      refine (SzPpl.eqS _ _ _ _ l w10 hA10.1 (SzPpl.ppl_of_blk hk10 hk10.lt) (by omega)).mono ?_
      rintro e w11 ⟨rfl, hb11⟩
      have hA11 := hA10.below hb11
      have hb011 := hb010.trans (hb11.mono hb010.size)
      go_wp2_with fail
      refine (SzInt.toSS A2 c2 L w11 ((hG.below hb011).more hb011.size) (by omega) HL.out).mono ?_
      rintro e w12 ⟨rfl, ho12, hb12⟩
      have hA12 := hA11.below hb12
      have hb012 := hb011.trans (hb12.mono hb011.size)
      go_wp2_with fail
      refine (SzInt.eqSS _ _ _ _ L w12 hA12.2.2.1 (Grd.of_tot ho12 (Below.refl _ _) ht') (by omega) HL.out).mono ?_
      rintro e w' ⟨rfl, n, rfl⟩
      go_wp2
      go_ret
      exact ⟨rfl, bdrewN hb012 _⟩
    · have e2 := szR_no (left := 1048576 - l.length) (n := tot L) (by omega)
      have hx1 : (0 : Int) ≤ 1048576 - (l.length : Int) := by omega
      have E1 := Lib.hid e1
      have E2 := Lib.hid e2
      clear e1 e2
      go_enter Try.func14, Try.ntmps14
      go_wp2_with fail
      refine (SzPpl.szS A l.length c _ _ (by omega) (by omega) hn).mono ?_
      rintro e w' ⟨rfl, rfl⟩
      rw [E1.out]
      go_wp2_with fail
      refine (SzInt.szSS A2 c2 L _ _ hG (by omega) (by omega) hn2).mono ?_
      rintro e w' ⟨rfl, rfl⟩
      rw [E2.out]
      go_wp2
      go_ret
      exact ⟨rfl, Below.refl _ _⟩
  · have e1 := szR_no (left := 1048576) (n := l.length) (by omega)
    have E1 := Lib.hid e1
    clear e1
    go_enter Try.func14, Try.ntmps14
    go_wp2_with fail
    refine (SzPpl.szS A l.length c _ _ (by omega) (by omega) hn).mono ?_
    rintro e w' ⟨rfl, rfl⟩
    rw [E1.out]
    go_wp2
    go_ret
    exact ⟨rfl, Below.refl _ _⟩
end Go.Proofs.Ytfpddhehdfckjaa.WFnExactAnonBest
