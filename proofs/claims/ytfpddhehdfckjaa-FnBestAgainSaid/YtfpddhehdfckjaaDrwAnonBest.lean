/- spec.DrawAnonBest: what it draws, all of the draw's own. -/
import Derived.Test.YtfpddhehdfckjaaDraw6
namespace Go.Proofs.Ytfpddhehdfckjaa
open Go.RowKit
set_option linter.unusedSimpArgs false
attribute [local go_sem ↓] Go.wp_at_zero Go.wp_at_succ

/-- What is known of people and a ladder that were drawn. -/
def DBl (l : List Pn) (c : Nat) (L : List (List Int)) (c2 : Nat) : Prop := l.length ≤ 10 ∧ L.length ≤ 4 ∧ (∀ p ∈ l, p.small) ∧ (∀ s ∈ L, s.length ≤ 4) ∧ l.length ≤ c ∧ c ≤ 9223372036854775807 ∧ L.length ≤ c2 ∧ c2 ≤ 9223372036854775807
def DrB (w : World) (e : Ending) (w' : World) : Prop := ∃ A c l A2 c2 L, ∃ k d : Int, e = .returned (.tuple #[.slice A l.length c, .slice A2 L.length c2, .int .i64 k, .int .i64 d]) ∧ Arg w' A l A2 L ∧ DBl l c L c2 ∧ (0 ≤ k ∧ k ≤ 41) ∧ (-10 ≤ d ∧ d ≤ 10) ∧ Below w.heap.size w w'
set_option maxRecDepth 100000 in
set_option maxHeartbeats 4000000 in
theorem specDrawAnonBest (A : Option Addr) (c : Nat) (bs : List Int) (w : World) (h : Byt w A c bs) : Calls Try.prog 29 #[.slice A bs.length c] w (DrB w) := by
  go_enter Try.func29, Try.ntmps29
  go_wp2_with fail
  refine (specOpen A c bs _ h).mono ?_
  rintro e w0 ⟨rfl, hr0, hb0⟩
  have hs0 : w.heap.size < w0.heap.size := hr0.lt
  go_wp2_with fail
  refine (specDPeople w.heap.size 0 8 _ hr0 (by omega) (by omega)).mono ?_
  rintro e w1 ⟨v, l, rfl, hl, hD⟩
  have hb1 := bel_of hb0 hD.2.2.1 (Nat.le_refl _)
  have hs1 := hD.2.2.1.size
  have HO1 := Lib.hid hD.1
  have HR1 := Lib.hid hD.2.1
  have HSM := Lib.hid hD.2.2.2
  clear hD hb0 hr0
  go_wp2_with fail
  refine (specDLadder w.heap.size (0 + 8 * 8 + 3) _ HR1.out (by omega)).mono ?_
  rintro e w2 ⟨v2, L, rfl, hL, hD2⟩
  have HB2 := Lib.hid (bel_of hb1 hD2.2.2.1 (Nat.le_refl _))
  have HA2 : Hid (ASt w0.heap.size w.heap.size (0 + 8 * 8 + 3 + 8) v l v2 L w2) := ⟨own_hold HO1.out (fun b hb hl => hD2.2.2.1.block b hl (fun e => by simp at e; omega)), hD2.1.weaken hs1, hD2.2.1, by omega, hL, hD2.2.2.2, HSM.out⟩
  clear hb1 hD2 HO1 HR1 HSM
  go_wp2_with fail
  refine (specDK w.heap.size (0 + 8 * 8 + 3 + 8) _ HA2.out.2.2.1 (by omega)).mono ?_
  rintro e w3 ⟨kk, rfl, hkk, hr3, hgr3⟩
  have HB3 := Lib.hid (bel_of HB2.out hgr3 (Nat.le_refl _))
  have HA3 := Lib.hid (HA2.out.pick (by omega) hgr3 hr3)
  clear HB2 HA2 hr3 hgr3
  go_wp2_with fail
  refine (specPick w.heap.size (0 + 8 * 8 + 3 + 8 + 2) 4 _ HA3.out.2.2.1 (by omega) (by omega)).mono ?_
  rintro e w4 ⟨z4, rfl, ⟨a0, a1, -⟩, hr4, hgr4, -⟩
  have a1 := a1 (by omega)
  have HB4 := Lib.hid (bel_of HB3.out hgr4 (Nat.le_refl _))
  have HA4 := Lib.hid (HA3.out.pick (by omega) hgr4 hr4)
  clear HB3 HA3 hr4 hgr4
  go_wp2_with fail
  refine (specPick w.heap.size (0 + 8 * 8 + 3 + 8 + 2 + 1) 20 _ HA4.out.2.2.1 (by omega) (by omega)).mono ?_
  rintro e w5 ⟨z5, rfl, ⟨c0, c1, -⟩, hr5, hgr5, -⟩
  have c1 := c1 (by omega)
  have HB5 := Lib.hid (bel_of HB4.out hgr5 (Nat.le_refl _))
  have HA5 := Lib.hid (HA4.out.pick (by omega) hgr5 hr5)
  clear HB4 HA4 hr5 hgr5
  have hq : z5.tdiv 19 = z5 / 19 := Int.tdiv_eq_ediv_of_nonneg c0
  have hq0 : 0 ≤ z5 / 19 ∧ z5 / 19 ≤ 1 := by omega
  generalize z5 / 19 = q at *
  go_wp2
  obtain ⟨A1, c1', A2, c2', rfl, rfl, hA, b1, b2, b3, b4⟩ := HA5.out.arg
  refine bodyPost_ret (v := .tuple #[.slice A1 l.length c1', .slice A2 L.length c2', .int .i64 kk, .int .i64 (z4 - q * 4)]) ?_ rfl ⟨A1, c1', l, A2, c2', L, kk, z4 - q * 4, rfl, hA, ⟨HA5.out.2.2.2.1, HA5.out.2.2.2.2.1, HA5.out.2.2.2.2.2.2, HA5.out.2.2.2.2.2.1, b1, b3, b2, b4⟩, hkk, by omega, HB5.out⟩
  simp [results, Try.results29, go_sem]
end Go.Proofs.Ytfpddhehdfckjaa
