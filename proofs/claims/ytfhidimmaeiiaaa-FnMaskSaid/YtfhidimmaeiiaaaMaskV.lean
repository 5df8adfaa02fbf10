/- MaskValid: the program's and the reference's. -/
import Derived.Test.YtfhidimmaeiiaaaTable
import Derived.Test.YtfhidimmaeiiaaaMaskMany
namespace Go.Proofs.Ytfhidimmaeiiaaa
open Go.RowKit
set_option linter.unusedSimpArgs false

/-- A mask of a table: a table, as many rows, each as long as the table's first. -/
def goodM (L : List (List Int)) (R : List (List Bool)) : Prop := goodT L ∧ R.length = L.length ∧ ∀ r0, L[0]? = some r0 → ∀ r ∈ R, r.length = r0.length
theorem lens_snocB {pre : List (List Bool)} {r : List Bool} {n : Nat} (h : ∀ r ∈ pre, r.length = n) (hr : r.length = n) : ∀ x ∈ pre ++ [r], x.length = n := fun y hy => by
  rcases List.mem_append.1 hy with h2 | h2
  · exact h y h2
  · cases List.mem_singleton.1 h2; exact hr

set_option maxHeartbeats 2000000 in
theorem implMaskValidNo (A : Option Addr) (c : Nat) (L : List (List Int)) (A2 : Option Addr) (n2 c2 : Nat) (w : World) (hg : Grd w w.heap.size A (grid L)) (hn : L.length ≤ 2000000) (hne : n2 ≠ L.length) :
    Calls Try.prog 14 #[.slice A L.length c, .slice A2 n2 c2] w fun e w' => e = .returned (.bool false) ∧ w = w' := by
  have e1 : ((n2 : Int) == (L.length : Int)) = false := beq_eq_false_iff_ne.2 (by omega)
  have e2 : (n2 == L.length) = false := beq_eq_false_iff_ne.2 hne
  have HNE := Lib.hid hne
  clear hne
  go_enter Try.func14, Try.ntmps14
  go_wp2_with fail
  refine (implTableValid A c L w hg hn).mono ?_
  rintro e w' ⟨hrb, rfl⟩
  rcases hrb.split with ⟨rfl, HGD⟩ | ⟨rfl, HGD⟩
  all_goals
    clear hrb
    go_wp2
    go_ret
    exact ⟨rfl, rfl⟩

set_option maxHeartbeats 2000000 in
theorem implMaskValid (A : Option Addr) (c : Nat) (L : List (List Int)) (A2 : Option Addr) (c2 : Nat) (R : List (List Bool)) (w : World) (hg : Grd w w.heap.size A (grid L)) (hn : L.length ≤ 2000000) (hg2 : Grd w w.heap.size A2 (R.map (·.map Value.bool))) :
    Calls Try.prog 14 #[.slice A L.length c, .slice A2 R.length c2] w fun e w' => RB (goodM L R) e ∧ w = w' := by
  by_cases hlen : R.length = L.length
  · have e1 : ((R.length : Int) == (L.length : Int)) = true := by simp [hlen]
    have e2 : (R.length == L.length) = true := by simp [hlen]
    have HLEN := Lib.hid hlen
    clear hlen
    go_enter Try.func14, Try.ntmps14
    go_wp2_with fail
    refine (implTableValid A c L w hg hn).mono ?_
    rintro e w' ⟨hrb, rfl⟩
    rcases hrb.split with ⟨rfl, HGD⟩ | ⟨rfl, HGD⟩
    · clear hrb
      obtain ⟨r0, hr0, hL1, hr1, hr4, hL4⟩ : ∃ r0, L[0]? = some r0 ∧ 1 ≤ L.length ∧ 1 ≤ r0.length ∧ r0.length ≤ 4 ∧ L.length ≤ 4 := by
        obtain ⟨r0, rest, rfl, h1, h2, h3⟩ := HGD.out
        exact ⟨r0, rfl, by simp, h2.1, h2.2, h1⟩
      have HR0 := Lib.hid hr0
      obtain ⟨b, off, A0, c0, rfl, hb, hc0, hl0, hm0, hR0⟩ := hg.at_ (k := 0) (r := r0.map (Value.int .i64)) (by rw [List.getElem?_map, hr0]; rfl)
      simp only [List.length_map, Nat.add_zero] at hc0 hl0
      unfold maxLen at hm0
      have HG2 := Lib.hid hg2
      have hRL : R.length ≤ 4 := by rw [HLEN.out]; exact hL4
      clear hr0 hg hg2 hR0
      go_wp2
      go_loop [19] (fun i => ∃ pre suf, Cut R pre suf ∧ i = .int .i64 pre.length ∧ Hid (∀ r ∈ pre, r.length = r0.length)) (fun i => R.length - (intOf i).toNat)
      case atStart => exact ⟨[], R, Cut.zero _, rfl, Lib.hid (fun r h => by cases h)⟩
      case round =>
        obtain ⟨pre, suf, hcut, rfl, HP⟩ := hrel
        cases suf with
        | nil =>
          have hge := hcut.len0
          have HD := Lib.hid hcut.done
          go_wp2
          go_ret
          exact ⟨RB.yes ⟨HGD.out, HLEN.out, fun q hq => by rw [HR0.out] at hq; cases hq; rw [← HD.out]; exact HP.out⟩, rfl⟩
        | cons r suf =>
          have hlt := hcut.len1
          obtain ⟨b2, off2, A', c', rfl, hb2, hc, hl, hcm, hr⟩ := HG2.out.at_ (hcut.map_at (fun r => r.map Value.bool))
          have HM := Lib.hid hcut.mem
          simp only [List.length_map] at hc hl hr
          unfold maxLen at hcm
          by_cases hlen : r.length = r0.length
          · have e3 : ((r.length : Int) == (r0.length : Int)) = true := by simp [hlen]
            have e4 : (r.length == r0.length) = true := by simp [hlen]
            have HLN := Lib.hid hlen
            clear hlen
            go_wp2
            go_round
            case rel => exact ⟨pre ++ [r], suf, hcut.next, by simp, Lib.hid (lens_snocB HP.out HLN.out)⟩
            case measure => simp [intOf]; omega
          · have e3 : ((r.length : Int) == (r0.length : Int)) = false := beq_eq_false_iff_ne.2 (by omega)
            have e4 : (r.length == r0.length) = false := beq_eq_false_iff_ne.2 hlen
            go_wp2
            go_ret
            exact ⟨RB.no (fun h => hlen (h.2.2 r0 HR0.out r HM.out)), rfl⟩
    · clear hrb
      go_wp2
      go_ret
      exact ⟨RB.no (fun h => HGD.out h.1), rfl⟩
  · exact (implMaskValidNo A c L A2 R.length c2 w hg hn hlen).mono fun e w' ⟨h1, h2⟩ => ⟨by rw [h1]; exact RB.no (fun h => hlen h.2.1), h2⟩

set_option maxHeartbeats 2000000 in
theorem specMaskValid (A : Option Addr) (c : Nat) (L : List (List Int)) (A2 : Option Addr) (c2 : Nat) (R : List (List Bool)) (w : World) (hg : Grd w w.heap.size A (grid L)) (hn : L.length ≤ 2000000) (hg2 : Grd w w.heap.size A2 (R.map (·.map Value.bool))) (hR2 : R.length ≤ 2000000) :
    Calls Try.prog 15 #[.slice A L.length c, .slice A2 R.length c2] w fun e w' => RB (goodM L R) e ∧ Below w.heap.size w w' := by
  by_cases hlen : R.length = L.length
  · have e1 : ((R.length : Int) == (L.length : Int)) = true := by simp [hlen]
    have e2 : (R.length == L.length) = true := by simp [hlen]
    have HLEN := Lib.hid hlen
    clear hlen
    go_enter Try.func15, Try.ntmps15
    go_wp2_with fail
    refine (specTableValid A c L w hg hn).mono ?_
    rintro e w1 ⟨hrb, hb1⟩
    have HB1 := Lib.hid hb1
    clear hb1
    rcases hrb.split with ⟨rfl, HGD⟩ | ⟨rfl, HGD⟩
    · clear hrb
      obtain ⟨r0, hr0, hL1, hr1, hr4, hL4⟩ : ∃ r0, L[0]? = some r0 ∧ 1 ≤ L.length ∧ 1 ≤ r0.length ∧ r0.length ≤ 4 ∧ L.length ≤ 4 := by
        obtain ⟨r0, rest, rfl, h1, h2, h3⟩ := HGD.out
        exact ⟨r0, rfl, by simp, h2.1, h2.2, h1⟩
      have HR0 := Lib.hid hr0
      obtain ⟨b, off, A0, c0, rfl, hb, hc0, hl0, hm0, hR0⟩ := hg.at_ (k := 0) (r := r0.map (Value.int .i64)) (by rw [List.getElem?_map, hr0]; rfl)
      simp only [List.length_map, Nat.add_zero] at hc0 hl0
      unfold maxLen at hm0
      have HG2 := Lib.hid hg2
      have HC0 := Lib.hid hc0
      have HBB := Lib.hid hb
      have hRL : R.length ≤ 4 := by rw [HLEN.out]; exact hL4
      clear hr0 hg hg2 hR0 hc0 hb
      go_wp2
      go_loopw [5] (fun i wr => ∃ pre suf, Cut R pre suf ∧ i = .int .i64 pre.length ∧ Hid (∀ r ∈ pre, r.length = r0.length) ∧ Hid (Below w.heap.size w wr)) (fun i _ => R.length - (intOf i).toNat)
      case atStart => exact ⟨[], R, Cut.zero _, rfl, Lib.hid (fun r h => by cases h), HB1⟩
      case round =>
        clear HB1
        obtain ⟨pre, suf, hcut, rfl, HP, HBL⟩ := hrel
        cases suf with
        | nil =>
          have hge := hcut.len0
          have HD := Lib.hid hcut.done
          go_wp2
          go_ret
          exact ⟨RB.yes ⟨HGD.out, HLEN.out, fun q hq => by rw [HR0.out] at hq; cases hq; rw [← HD.out]; exact HP.out⟩, HBL.out⟩
        | cons r suf =>
          have hlt := hcut.len1
          obtain ⟨b2, off2, A', c', rfl, hb2, hc, hl, hcm, hr⟩ := HG2.out.at_ (hcut.map_at (fun r => r.map Value.bool))
          have HM := Lib.hid hcut.mem
          simp only [List.length_map] at hc hl hr
          unfold maxLen at hcm
          have hcr := (HBL.out.cell (p := ⟨b2, off2 + pre.length, none⟩) hb2).trans hc
          have hcr0 := (HBL.out.cell (p := ⟨b, off, none⟩) HBB.out).trans HC0.out
          clear hc hr
          by_cases hlen : r.length = r0.length
          · have e3 : ((r.length : Int) == (r0.length : Int)) = true := by simp [hlen]
            have HLN := Lib.hid hlen
            rw [hlen] at hcr
            clear hlen e3
            go_wp2_with fail
            go_region
            go_wp2
            go_roundw
            case rel => exact ⟨pre ++ [r], suf, hcut.next, by simp, Lib.hid (lens_snocB HP.out HLN.out), Lib.hid HBL.out.drew⟩
            case measure => simp [intOf]; omega
          · have e3 : ((r.length : Int) == (r0.length : Int)) = false := beq_eq_false_iff_ne.2 (by omega)
            have e4 : (r.length == r0.length) = false := beq_eq_false_iff_ne.2 hlen
            go_wp2_with fail
            go_region
            go_wp2
            go_ret
            exact ⟨RB.no (fun h => hlen (h.2.2 r0 HR0.out r HM.out)), HBL.out.drew⟩
    · clear hrb
      go_wp2
      go_ret
      exact ⟨RB.no (fun h => HGD.out h.1), HB1.out⟩
  · have e1 : ((R.length : Int) == (L.length : Int)) = false := beq_eq_false_iff_ne.2 (by omega)
    have e2 : (R.length == L.length) = false := beq_eq_false_iff_ne.2 hlen
    have HNE := Lib.hid hlen
    clear hlen
    go_enter Try.func15, Try.ntmps15
    go_wp2_with fail
    refine (specTableValid A c L w hg hn).mono ?_
    rintro e w1 ⟨hrb, hb1⟩
    rcases hrb.split with ⟨rfl, HGD⟩ | ⟨rfl, HGD⟩
    all_goals
      clear hrb
      go_wp2
      go_ret
      exact ⟨RB.no (fun h => HNE.out h.2.1), hb1⟩
end Go.Proofs.Ytfhidimmaeiiaaa
