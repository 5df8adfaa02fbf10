/- Ladders of codes: the program's and the reference's checks, and the code at a level. -/
import Derived.Test.YtfpddhehdfckjaaPerson
import Derived.Deep.QuietTactic
import Derived.BigQuiet
import Derived.Outline
namespace Go.Proofs.Ytfpddhehdfckjaa
open Go.RowKit

set_option maxHeartbeats 1000000 in
theorem implLadderValid (A : Option Addr) (c : Nat) (L : List (List Int)) (w : World) (hg : Grd w w.heap.size A (grid L)) (hn : L.length ≤ 2000000) :
    Calls Try.prog 59 #[.slice A L.length c] w fun e w' => RB (goodLad L) e ∧ w = w' := by
  by_cases hL : 3 < L.length
  · go_enter Try.func59, Try.ntmps59
    go_wp2
    go_ret
    exact ⟨RB.no (fun h => by have := h.1; omega), rfl⟩
  have hL' : L.length ≤ 3 := by omega
  clear hL
  have hd3 : decide (3 < (L.length : Int)) = false := by simp; omega
  go_enter Try.func59, Try.ntmps59
  go_wp2
  go_loop [12] (fun i => ∃ k : Nat, k ≤ L.length ∧ i = .int .i64 k ∧ Hid (∀ j, j < k → goodS (ixs L j)) ∧ Hid (∀ j, 0 < j → j < k → coarse (ixs L (j - 1)) (ixs L j))) (fun i => L.length - (intOf i).toNat)
  case atStart => exact ⟨0, Nat.zero_le _, rfl, fun j hj => absurd hj (by omega), fun j _ hj => absurd hj (by omega)⟩
  case round =>
    obtain ⟨k, hk, rfl, hS, hC⟩ := hrel
    by_cases hlt : k < L.length
    · obtain ⟨b, off, A', c', rfl, hb, hc, hl, hcm, hr⟩ := hg.ix hlt
      by_cases h4 : (ixs L k).length = 4
      · rw [h4] at hc hr hl
        have H4 := Lib.hid h4
        clear h4
        go_wp2
        go_loop [22] (fun i => ∃ m : Nat, m ≤ 4 ∧ i = .int .i64 m ∧ Hid (∀ j, j < m → codeOk (ixs L k) j ∧ (0 < k → ix (ixs L k) (ix (ixs L (k - 1)) j).toNat = ix (ixs L k) j))) (fun i => 4 - (intOf i).toNat)
        case atStart => exact ⟨0, by omega, rfl, fun j hj => absurd hj (by omega)⟩
        case round =>
          obtain ⟨m, hm, rfl, hI⟩ := hrel
          by_cases hm4 : m < 4
          · generalize hs : ixs L k = s at *
            have Hs := Lib.hid hs
            clear hs
            have H4o := H4.out
            have hr4 : Rds w w.heap.size 1 A' s.length (ints s) := by rw [H4o]; exact hr
            obtain ⟨b2, off2, rfl, hb2, hc2⟩ := hr4.ix (k := m) (by omega)
            have hcell : ∀ q, q < 4 → w.cell? ⟨b2, off2 + q, none⟩ = some (.int .i64 (ix s q)) := fun q hq => by
              obtain ⟨b3, off3, e, _, h⟩ := hr4.ix (k := q) (by omega)
              simp at e
              rw [e.1, e.2]
              exact h
            have HC := Lib.hid hcell
            clear hcell hr4 H4o
            obtain ⟨z, hz⟩ : ∃ z, z = ix s m := ⟨_, rfl⟩
            rw [← hz] at hc2
            have Hz := Lib.hid hz
            clear hz
            by_cases z0 : z < 0
            · go_wp2
              go_ret
              exact ⟨RB.no (fun h => by have := ((h.2.1 k hlt).2 m hm4).1; rw [Hs.out, ← Hz.out] at this; omega), rfl⟩
            by_cases z1 : (m : Int) < z
            · go_wp2
              go_ret
              exact ⟨RB.no (fun h => by have := ((h.2.1 k hlt).2 m hm4).2.1; rw [Hs.out, ← Hz.out] at this; omega), rfl⟩
            have z0' : 0 ≤ z := by omega
            have z1' : z ≤ m := by omega
            clear z0 z1
            have hcz := HC.out z.toNat (by omega)
            obtain ⟨y, hy⟩ : ∃ y, y = ix s z.toNat := ⟨_, rfl⟩
            rw [← hy] at hcz
            have Hy := Lib.hid hy
            clear hy
            by_cases hyz : y = z
            · have e1 : (y == z) = true := by simp [hyz]
              have e2 : (y != z) = false := by simp [hyz]
              have hok : Hid (codeOk s m) := ⟨by rw [← Hz.out]; exact z0', by rw [← Hz.out]; exact z1', by rw [← Hz.out, ← Hy.out]; exact hyz⟩
              have HYZ := Lib.hid hyz
              clear hyz
              by_cases hk0 : k = 0
              · have k0 : decide (0 < (k : Int)) = false := by simp; omega
                have k0' : ¬ 0 < k := by omega
                clear hk0
                go_wp2
                go_round
                case rel => exact ⟨m + 1, by omega, by go_num, fun j hj => by
                  rcases Nat.lt_or_ge j m with h | h
                  · exact hI.out j h
                  · obtain rfl : j = m := by omega
                    exact ⟨hok.out, fun h => absurd h k0'⟩⟩
                case measure => simp [intOf]; omega
              · have hk1 : 0 < k := by omega
                have k1 : decide (0 < (k : Int)) = true := by simp; omega
                clear hk0
                have hf := hS.out (k - 1) (by omega)
                obtain ⟨b5, off5, A5, c5, e5, _, hc5, hl5, hcm5, hr5⟩ := hg.ix (k := k - 1) (by omega)
                simp only [Option.some.injEq, Addr.mk.injEq, and_true] at e5
                obtain ⟨rfl, rfl⟩ := e5
                generalize hff : ixs L (k - 1) = f at *
                have Hff := Lib.hid hff
                clear hff
                obtain ⟨hf4, hfc⟩ := hf
                obtain ⟨b6, off6, rfl, _, hc6⟩ := hr5.ix (k := m) (by omega)
                obtain ⟨g0, g1, _⟩ := hfc m hm4
                rw [hf4] at hc5
                have Hf4 := Lib.hid hf4
                have Hfc := Lib.hid hfc
                clear hf4 hfc hr5 hl5
                obtain ⟨x, hx⟩ : ∃ x, x = ix f m := ⟨_, rfl⟩
                rw [← hx] at hc6 g0 g1
                have Hx := Lib.hid hx
                clear hx
                have hcx := HC.out x.toNat (by omega)
                obtain ⟨t, ht⟩ : ∃ t, t = ix s x.toNat := ⟨_, rfl⟩
                rw [← ht] at hcx
                have Ht := Lib.hid ht
                clear ht
                by_cases htz : t = z
                · have e3 : (t == z) = true := by simp [htz]
                  have e4 : (t != z) = false := by simp [htz]
                  have HTZ := Lib.hid htz
                  clear htz
                  go_wp2
                  go_round
                  case rel => exact ⟨m + 1, by omega, by go_num, fun j hj => by
                    rcases Nat.lt_or_ge j m with h | h
                    · exact hI.out j h
                    · obtain rfl : j = m := by omega
                      exact ⟨hok.out, fun _ => by rw [← Hx.out, ← Ht.out, ← Hz.out]; exact HTZ.out⟩⟩
                  case measure => simp [intOf]; omega
                · have e3 : (t == z) = false := by simp [htz]
                  have e4 : (t != z) = true := by simp [htz]
                  go_wp2
                  go_ret
                  exact ⟨RB.no (fun h => by have := h.2.2 k hk1 hlt m hm4; rw [Hs.out, Hff.out, ← Hx.out, ← Ht.out, ← Hz.out] at this; exact htz this), rfl⟩
            · have hne : (y == z) = false := by simp [hyz]
              have hne2 : (y != z) = true := by simp [hyz]
              go_wp2
              go_ret
              exact ⟨RB.no (fun h => by have := ((h.2.1 k hlt).2 m hm4).2.2; rw [Hs.out, ← Hz.out, ← Hy.out] at this; exact hyz this), rfl⟩
          · have h5 : m = 4 := by omega
            have hI' := hI.out
            rw [h5] at hI'
            have HI := Lib.hid hI'
            clear hI' h5
            go_wp2
            go_round
            case rel => exact ⟨k + 1, by omega, by go_num, fun j hj => by
              rcases Nat.lt_or_ge j k with h | h
              · exact hS.out j h
              · obtain rfl : j = k := by omega
                exact ⟨H4.out, fun i hi => (HI.out i hi).1⟩, fun j h0 hj => by
              rcases Nat.lt_or_ge j k with h | h
              · exact hC.out j h0 h
              · obtain rfl : j = k := by omega
                exact fun i hi => (HI.out i hi).2 h0⟩
            case measure => simp [intOf]; omega
      · have h4' : (((ixs L k).length : Int) == 4) = false := by simp; omega
        have h4'' : (((ixs L k).length : Int) != 4) = true := by simp; omega
        go_wp2
        go_ret
        exact ⟨RB.no (fun h => h4 (h.2.1 k hlt).1), rfl⟩
    · have hk2 : k = L.length := by omega
      have hS' := hS.out
      have hC' := hC.out
      rw [hk2] at hS' hC'
      have HF := Lib.hid (show goodLad L from ⟨hL', hS', hC'⟩)
      clear hS' hC' hk2
      go_wp2
      go_ret
      exact ⟨RB.yes HF.out, rfl⟩
end Go.Proofs.Ytfpddhehdfckjaa
