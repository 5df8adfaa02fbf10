/- The reference's checks of ladders. -/
import Derived.Test.YtfpddhehdfckjaaPerson
import Derived.Deep.QuietTactic
import Derived.BigQuiet
import Derived.Outline
namespace Go.Proofs.Ytfpddhehdfckjaa
open Go.RowKit

set_option maxHeartbeats 1000000 in
theorem specStep (A : Option Addr) (c : Nat) (s : List Int) (w : World) (hg : Rds w w.heap.size 1 A s.length (ints s)) (hn : s.length ≤ 2000000) :
    Calls Try.prog 87 #[.slice A s.length c] w fun e w' => RB (goodS s) e ∧ ∃ n, w' = w.drewN n := by
  go_enter Try.func87, Try.ntmps87
  go_wp2
  go_loopw [3] (fun i wr => ∃ m n : Nat, m ≤ s.length ∧ i = .int .i64 m ∧ Hid (stepOk s m) ∧ wr = w.drewN n) (fun i _ => s.length - (intOf i).toNat)
  case atStart => exact ⟨0, 0, Nat.zero_le _, rfl, fun j hj => absurd hj (by omega), rfl⟩
  case round =>
    obtain ⟨m, n, hm, rfl, hI, rfl⟩ := hrel
    by_cases hlt : m < s.length
    · obtain ⟨b, off, rfl, hb, hc, HC⟩ := cells_of hg hlt
      obtain ⟨z, hz⟩ : ∃ z, z = ix s m := ⟨_, rfl⟩
      rw [← hz] at hc
      have Hz := Lib.hid hz
      clear hz
      by_cases hin : 0 ≤ z ∧ z ≤ m
      · obtain ⟨z0, z1⟩ := hin
        have hib := inB_yes z0 z1
        have hcz := HC.out z.toNat (by omega)
        obtain ⟨y, hy⟩ : ∃ y, y = ix s z.toNat := ⟨_, rfl⟩
        rw [← hy] at hcz
        have Hy := Lib.hid hy
        clear hy
        by_cases hyz : y = z
        · have e1 : (y == z) = true := by simp [hyz]
          have e2 : (y != z) = false := by simp [hyz]
          have hok : Hid (codeOk s m) := ⟨by rw [← Hz.out]; exact z0, by rw [← Hz.out]; exact z1, by rw [← Hz.out, ← Hy.out]; exact hyz⟩
          clear hyz
          go_wp2
          go_quiet ((go_at_call 48; exact quiet_add_same (specIn _ _ _ _)))
          go_wp2
          go_roundw
          case rel => exact ⟨m + 1, _, by omega, by go_num, stepOk_next hI hok.out, rfl⟩
          case measure => simp [intOf]; omega
        · have e1 : (y == z) = false := by simp [hyz]
          have e2 : (y != z) = true := by simp [hyz]
          go_wp2
          go_quiet ((go_at_call 48; exact quiet_add_same (specIn _ _ _ _)))
          go_wp2
          go_ret
          exact ⟨RB.no (fun h => hyz (by have := (h.2 m (by have := h.1; omega)).2.2; rw [← Hz.out, ← Hy.out] at this; exact this)), _, World.drewN_drewN _ _ _⟩
      · have hib := inB_no (n := z) (lo := 0) (hi := m) (by omega)
        have HN := Lib.hid hin
        clear hin
        go_wp2
        go_quiet ((go_at_call 48; exact quiet_add_same (specIn _ _ _ _)))
        go_wp2
        go_ret
        exact ⟨RB.no (fun h => HN.out (by have := (h.2 m (by have := h.1; omega)); unfold codeOk at this; rw [← Hz.out] at this; exact ⟨this.1, this.2.1⟩)), _, World.drewN_drewN _ _ _⟩
    · have hm2 : m = s.length := by omega
      have hI' := hI.out
      rw [hm2] at hI'
      have HI := Lib.hid hI'
      clear hI' hm2
      go_wp2
      go_ret
      refine ⟨⟨_, rfl, ?_⟩, _, rfl⟩
      have := HI.out
      simp only [beq_iff_eq]
      constructor
      · intro h
        exact ⟨by omega, fun i hi => this i (by omega)⟩
      · intro h
        have := h.1
        omega

set_option maxHeartbeats 1000000 in
theorem specCoarser (A A2 : Option Addr) (c c2 : Nat) (f s : List Int) (w : World) (hg : Rds w w.heap.size 1 A f.length (ints f)) (hg2 : Rds w w.heap.size 1 A2 s.length (ints s)) (hf : goodS f) (hs : goodS s) :
    Calls Try.prog 88 #[.slice A f.length c, .slice A2 s.length c2] w fun e w' => RB (coarse f s) e ∧ ∃ n, w' = w.drewN n := by
  obtain ⟨hf4, hfc⟩ := hf
  obtain ⟨hs4, _⟩ := hs
  rw [hf4, hs4]
  have Hfc := Lib.hid hfc
  have Hf4 := Lib.hid hf4
  have Hs4 := Lib.hid hs4
  clear hfc hf4 hs4
  go_enter Try.func88, Try.ntmps88
  go_wp2
  go_loopw [5] (fun i wr => ∃ m n : Nat, m ≤ 4 ∧ i = .int .i64 m ∧ Hid (coarseTo f s m) ∧ wr = w.drewN n) (fun i _ => 4 - (intOf i).toNat)
  case atStart => exact ⟨0, 0, Nat.zero_le _, rfl, fun j hj => absurd hj (by omega), rfl⟩
  case round =>
    obtain ⟨m, n, hm, rfl, hI, rfl⟩ := hrel
    by_cases hlt : m < 4
    · obtain ⟨b, off, rfl, hb, hc, HC⟩ := cells_of hg (m := m) (by rw [Hf4.out]; exact hlt)
      obtain ⟨b2, off2, rfl, hb2, hc2, HC2⟩ := cells_of hg2 (m := m) (by rw [Hs4.out]; exact hlt)
      obtain ⟨g0, g1, _⟩ := Hfc.out m hlt
      obtain ⟨x, hx⟩ : ∃ x, x = ix f m := ⟨_, rfl⟩
      rw [← hx] at hc g0 g1
      have Hx := Lib.hid hx
      clear hx
      have hcx := HC2.out x.toNat (by rw [Hs4.out]; omega)
      obtain ⟨t, ht⟩ : ∃ t, t = ix s x.toNat := ⟨_, rfl⟩
      rw [← ht] at hcx
      have Ht := Lib.hid ht
      clear ht
      obtain ⟨z, hz⟩ : ∃ z, z = ix s m := ⟨_, rfl⟩
      rw [← hz] at hc2
      have Hz := Lib.hid hz
      clear hz
      by_cases htz : t = z
      · have e3 : (t == z) = true := by simp [htz]
        have e4 : (t != z) = false := by simp [htz]
        have HTZ := Lib.hid htz
        clear htz
        go_wp2
        go_quiet (fail)
        go_wp2
        go_roundw
        case rel => exact ⟨m + 1, _, by omega, by go_num, coarseTo_next hI (by rw [← Hx.out, ← Ht.out, ← Hz.out]; exact HTZ.out), rfl⟩
        case measure => simp [intOf]; omega
      · have e3 : (t == z) = false := by simp [htz]
        have e4 : (t != z) = true := by simp [htz]
        go_wp2
        go_quiet (fail)
        go_wp2
        go_ret
        exact ⟨RB.no (fun h => by have := h m hlt; rw [← Hx.out, ← Ht.out, ← Hz.out] at this; exact htz this), _, World.drewN_drewN _ _ _⟩
    · have hI' := hI.out
      have HI := Lib.hid (show coarse f s from fun i hi => hI' i (by omega))
      clear hI'
      go_wp2
      go_ret
      exact ⟨RB.yes HI.out, _, rfl⟩

theorem specStepY {A : Option Addr} {c : Nat} {s : List Int} {w : World} (hg : Rds w w.heap.size 1 A s.length (ints s)) (hn : s.length ≤ 2000000) (h : goodS s) :
    Calls Try.prog 87 #[.slice A s.length c] w fun e w' => e = .returned (.bool true) ∧ ∃ n, w' = w.drewN n :=
  (specStep A c s w hg hn).mono fun _ _ ⟨h1, h2⟩ => ⟨h1.isTrue h, h2⟩
theorem specStepN {A : Option Addr} {c : Nat} {s : List Int} {w : World} (hg : Rds w w.heap.size 1 A s.length (ints s)) (hn : s.length ≤ 2000000) (h : ¬ goodS s) :
    Calls Try.prog 87 #[.slice A s.length c] w fun e w' => e = .returned (.bool false) ∧ ∃ n, w' = w.drewN n :=
  (specStep A c s w hg hn).mono fun _ _ ⟨h1, h2⟩ => ⟨h1.isFalse h, h2⟩
theorem specCoarserY {A A2 : Option Addr} {c c2 : Nat} {f s : List Int} {w : World} (hg : Rds w w.heap.size 1 A f.length (ints f)) (hg2 : Rds w w.heap.size 1 A2 s.length (ints s)) (hf : goodS f) (hs : goodS s) (h : coarse f s) :
    Calls Try.prog 88 #[.slice A f.length c, .slice A2 s.length c2] w fun e w' => e = .returned (.bool true) ∧ ∃ n, w' = w.drewN n :=
  (specCoarser A A2 c c2 f s w hg hg2 hf hs).mono fun _ _ ⟨h1, h2⟩ => ⟨h1.isTrue h, h2⟩
theorem specCoarserN {A A2 : Option Addr} {c c2 : Nat} {f s : List Int} {w : World} (hg : Rds w w.heap.size 1 A f.length (ints f)) (hg2 : Rds w w.heap.size 1 A2 s.length (ints s)) (hf : goodS f) (hs : goodS s) (h : ¬ coarse f s) :
    Calls Try.prog 88 #[.slice A f.length c, .slice A2 s.length c2] w fun e w' => e = .returned (.bool false) ∧ ∃ n, w' = w.drewN n :=
  (specCoarser A A2 c c2 f s w hg hg2 hf hs).mono fun _ _ ⟨h1, h2⟩ => ⟨h1.isFalse h, h2⟩

def ladTo (L : List (List Int)) (k : Nat) : Prop := (∀ j, j < k → goodS (ixs L j)) ∧ ∀ j, 0 < j → j < k → coarse (ixs L (j - 1)) (ixs L j)
theorem ladTo_next {L : List (List Int)} {k : Nat} (h : Hid (ladTo L k)) (h1 : goodS (ixs L k)) (h2 : 0 < k → coarse (ixs L (k - 1)) (ixs L k)) : Hid (ladTo L (k + 1)) := by
  refine ⟨fun j hj => ?_, fun j h0 hj => ?_⟩
  · rcases Nat.lt_or_ge j k with hlt | hge
    · exact h.1 j hlt
    · obtain rfl : j = k := by omega
      exact h1
  · rcases Nat.lt_or_ge j k with hlt | hge
    · exact h.2 j h0 hlt
    · obtain rfl : j = k := by omega
      exact h2 h0

set_option maxHeartbeats 1000000 in
theorem specLadderValid (A : Option Addr) (c : Nat) (L : List (List Int)) (w : World) (hg : Grd w w.heap.size A (grid L)) (hn : L.length ≤ 2000000) (hl : ∀ s ∈ L, s.length ≤ 2000000) :
    Calls Try.prog 83 #[.slice A L.length c] w fun e w' => RB (goodLad L) e ∧ ∃ n, w' = w.drewN n := by
  have HL := Lib.hid hl
  clear hl
  go_enter Try.func83, Try.ntmps83
  go_wp2
  go_loopw [3] (fun i wr => ∃ k n : Nat, k ≤ L.length ∧ i = .int .i64 k ∧ Hid (ladTo L k) ∧ wr = w.drewN n) (fun i _ => L.length - (intOf i).toNat)
  case atStart => exact ⟨0, 0, Nat.zero_le _, rfl, ⟨fun j hj => absurd hj (by omega), fun j _ hj => absurd hj (by omega)⟩, rfl⟩
  case round =>
    obtain ⟨k, n, hk, rfl, hI, rfl⟩ := hrel
    by_cases hlt : k < L.length
    · obtain ⟨b, off, A', c', rfl, hb, hc, hl, hcm, hr⟩ := hg.ix hlt
      have hsl := HL.out _ (ixs_mem hlt)
      generalize hs : ixs L k = s at *
      have Hs := Lib.hid hs
      clear hs
      by_cases hgs : goodS s
      · by_cases hk0 : k = 0
        · have k0 : decide (0 < (k : Int)) = false := by simp; omega
          have k0' : ¬ 0 < k := by omega
          clear hk0
          have HG := Lib.hid hgs
          clear hgs
          go_wp2
          go_quiet ((go_at_call 87; exact quiet_add (specStepY hr hsl HG.out)))
          go_wp2
          go_roundw
          case rel => exact ⟨k + 1, _, by omega, by go_num, ladTo_next hI (by rw [Hs.out]; exact HG.out) (fun h => absurd h k0'), rfl⟩
          case measure => simp [intOf]; omega
        · have hk1 : 0 < k := by omega
          have k1 : decide (0 < (k : Int)) = true := by simp; omega
          clear hk0
          have hf := hI.out.1 (k - 1) (by omega)
          obtain ⟨b5, off5, A5, c5, e5, _, hc5, hl5, hcm5, hr5⟩ := hg.ix (k := k - 1) (by omega)
          simp only [Option.some.injEq, Addr.mk.injEq, and_true] at e5
          obtain ⟨rfl, rfl⟩ := e5
          generalize hff : ixs L (k - 1) = f at *
          have Hff := Lib.hid hff
          have Hf := Lib.hid hf
          have HG := Lib.hid hgs
          clear hff hf hgs
          by_cases hcc : coarse f s
          · have HCC := Lib.hid hcc
            clear hcc
            go_wp2
            go_quiet (first | (go_at_call 87; exact quiet_add (specStepY hr hsl HG.out)) | (go_at_call 88; exact quiet_add (specCoarserY hr5 hr Hf.out HG.out HCC.out)))
            go_wp2
            go_roundw
            case rel => exact ⟨k + 1, _, by omega, by go_num, ladTo_next hI (by rw [Hs.out]; exact HG.out) (fun h => by rw [Hs.out, Hff.out]; exact HCC.out), rfl⟩
            case measure => simp [intOf]; omega
          · have HCC := Lib.hid hcc
            clear hcc
            go_wp2
            go_quiet (first | (go_at_call 87; exact quiet_add (specStepY hr hsl HG.out)) | (go_at_call 88; exact quiet_add (specCoarserN hr5 hr Hf.out HG.out HCC.out)))
            go_wp2
            go_ret
            exact ⟨RB.no (fun h => HCC.out (by have := h.2.2 k hk1 hlt; rw [Hs.out, Hff.out] at this; exact this)), _, World.drewN_drewN _ _ _⟩
      · have HG := Lib.hid hgs
        clear hgs
        go_wp2
        go_quiet ((go_at_call 87; exact quiet_add (specStepN hr hsl HG.out)))
        go_wp2
        go_ret
        exact ⟨RB.no (fun h => HG.out (by have := h.2.1 k hlt; rw [Hs.out] at this; exact this)), _, World.drewN_drewN _ _ _⟩
    · have hm2 : k = L.length := by omega
      have hI' := hI.out
      rw [hm2] at hI'
      have HI := Lib.hid hI'
      clear hI' hm2
      go_wp2
      go_ret
      refine ⟨⟨_, rfl, ?_⟩, _, rfl⟩
      have := HI.out
      simp only [decide_eq_true_eq]
      constructor
      · intro h
        exact ⟨by omega, this.1, this.2⟩
      · intro h
        have := h.1
        omega
end Go.Proofs.Ytfpddhehdfckjaa
