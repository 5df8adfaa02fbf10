/- A table: the program's and the reference's check. -/
import Derived.Test.YtfhidimmaeiiaaaLadderS
import Derived.Deep.Grids
namespace Go.Proofs.Ytfhidimmaeiiaaa
open Go.RowKit
set_option linter.unusedSimpArgs false

def c99 (r : List Int) : Prop := ∀ z ∈ r, 0 ≤ z ∧ z ≤ 99
def goodT (t : List (List Int)) : Prop := ∃ r0 rest, t = r0 :: rest ∧ t.length ≤ 4 ∧ (1 ≤ r0.length ∧ r0.length ≤ 4) ∧ ∀ r ∈ t, r.length = r0.length ∧ c99 r
theorem goodT_nil : ¬ goodT [] := fun ⟨_, _, h, _⟩ => by cases h
theorem goodT_len {r0 : List Int} {rest : List (List Int)} (h : goodT (r0 :: rest)) : (r0 :: rest).length ≤ 4 ∧ (1 ≤ r0.length ∧ r0.length ≤ 4) ∧ ∀ r ∈ r0 :: rest, r.length = r0.length ∧ c99 r := by
  obtain ⟨a, b, e, h1, h2, h3⟩ := h
  cases e
  exact ⟨h1, h2, h3⟩
theorem c99_snoc {r : List Int} {z : Int} (h : c99 r) (h0 : 0 ≤ z) (h1 : z ≤ 99) : c99 (r ++ [z]) := fun y hy => by
  rcases List.mem_append.1 hy with h2 | h2
  · exact h y h2
  · cases List.mem_singleton.1 h2; exact ⟨h0, h1⟩
theorem rows_snoc {pre : List (List Int)} {r : List Int} {n : Nat} (h : ∀ r ∈ pre, r.length = n ∧ c99 r) (hr : r.length = n) (hc : c99 r) : ∀ x ∈ pre ++ [r], x.length = n ∧ c99 x := fun y hy => by
  rcases List.mem_append.1 hy with h2 | h2
  · exact h y h2
  · cases List.mem_singleton.1 h2; exact ⟨hr, hc⟩

set_option maxHeartbeats 2000000 in
theorem implTableValid (A : Option Addr) (c : Nat) (L : List (List Int)) (w : World) (hg : Grd w w.heap.size A (grid L)) (hn : L.length ≤ 2000000) :
    Calls Try.prog 10 #[.slice A L.length c] w fun e w' => RB (goodT L) e ∧ w = w' := by
  cases L with
  | nil =>
    go_enter Try.func10, Try.ntmps10
    go_wp2
    go_ret
    exact ⟨RB.no goodT_nil, rfl⟩
  | cons r0 rest =>
    obtain ⟨b, off, rfl, hb, hrows⟩ := hg (by simp [grid])
    obtain ⟨A0, c0, hc0, hl0, hm0, hR0⟩ := hrows 0 (r0.map (Value.int .i64)) rfl
    have HR := Lib.hid hrows
    clear hrows hg
    have HG := Lib.hid (goodT_len (r0 := r0) (rest := rest))
    have HY := Lib.hid (fun h1 h2 h3 => (⟨r0, rest, rfl, h1, h2, h3⟩ : goodT (r0 :: rest)))
    obtain ⟨L, hL⟩ : ∃ L, L = r0 :: rest := ⟨_, rfl⟩
    rw [← hL] at HR HG HY hn ⊢
    have hpos : 1 ≤ L.length := by rw [hL]; simp
    clear hL
    simp only [List.length_map, Nat.add_zero] at hc0 hl0 hR0
    unfold maxLen at hm0
    by_cases h4 : L.length ≤ 4
    · by_cases h1 : 1 ≤ r0.length
      · by_cases h2 : r0.length ≤ 4
        · go_enter Try.func10, Try.ntmps10
          go_wp2
          go_loop [31] (fun i => ∃ pre suf, Cut L pre suf ∧ i = .int .i64 pre.length ∧ Hid (∀ r ∈ pre, r.length = r0.length ∧ c99 r)) (fun i => L.length - (intOf i).toNat)
          case atStart => exact ⟨[], L, Cut.zero _, rfl, Lib.hid (fun r h => by cases h)⟩
          case round =>
            obtain ⟨pre, suf, hcut, rfl, HP⟩ := hrel
            cases suf with
            | nil =>
              have hge := hcut.len0
              have HD := Lib.hid hcut.done
              go_wp2
              go_ret
              exact ⟨RB.yes (HY.out h4 ⟨h1, h2⟩ (by rw [← HD.out]; exact HP.out)), rfl⟩
            | cons r suf =>
              have hlt := hcut.len1
              obtain ⟨A', c', hc, hl, hcm, hr⟩ := HR.out pre.length (r.map (Value.int .i64)) (hcut.map_at (fun r => r.map (Value.int .i64)))
              have HM := Lib.hid hcut.mem
              simp only [List.length_map] at hc hl hr
              unfold maxLen at hcm
              by_cases hlen : r.length = r0.length
              · have e1 : ((r.length : Int) == (r0.length : Int)) = true := by simp [hlen]
                have HLN := Lib.hid hlen
                clear hlen
                go_wp2
                go_loop [44] (fun i => ∃ pre2 suf2, Cut r pre2 suf2 ∧ i = .int .i64 pre2.length ∧ Hid (c99 pre2)) (fun i => r.length - (intOf i).toNat)
                case atStart => exact ⟨[], r, Cut.zero _, rfl, Lib.hid (fun r h => by cases h)⟩
                case round =>
                  obtain ⟨pre2, suf2, hcut2, rfl, HP2⟩ := hrel
                  cases suf2 with
                  | nil =>
                    have hge2 := hcut2.len0
                    have HD2 := Lib.hid hcut2.done
                    go_wp2
                    go_round
                    case rel => exact ⟨pre ++ [r], suf, hcut.next, by simp, Lib.hid (rows_snoc HP.out HLN.out (by rw [← HD2.out]; exact HP2.out))⟩
                    case measure => simp [intOf]; omega
                  | cons x suf2 =>
                    have hlt2 := hcut2.len1
                    have HM2 := Lib.hid hcut2.mem
                    obtain ⟨b2, off2, rfl, hb2, hc2⟩ := hr.at_ (hcut2.map_at (Value.int .i64))
                    by_cases hx0 : 0 ≤ x
                    · by_cases hx1 : x ≤ 99
                      · go_wp2
                        go_round
                        case rel => exact ⟨pre2 ++ [x], suf2, hcut2.next, by simp, Lib.hid (c99_snoc HP2.out hx0 hx1)⟩
                        case measure => simp [intOf]; omega
                      · have hx2 : 99 < x := by omega
                        go_wp2
                        go_ret
                        exact ⟨RB.no (fun h => by have := ((HG.out h).2.2 r HM.out).2 x HM2.out; omega), rfl⟩
                    · have hx2 : x < 0 := by omega
                      go_wp2
                      go_ret
                      exact ⟨RB.no (fun h => by have := ((HG.out h).2.2 r HM.out).2 x HM2.out; omega), rfl⟩
              · have e1 : ((r.length : Int) == (r0.length : Int)) = false := beq_eq_false_iff_ne.2 (by omega)
                have e2 : (r.length == r0.length) = false := beq_eq_false_iff_ne.2 hlen
                go_wp2
                go_ret
                exact ⟨RB.no (fun h => hlen ((HG.out h).2.2 r HM.out).1), rfl⟩
        · have h2' : 4 < r0.length := by omega
          go_enter Try.func10, Try.ntmps10
          go_wp2
          go_ret
          exact ⟨RB.no (fun h => h2 (HG.out h).2.1.2), rfl⟩
      · have h1' : r0.length < 1 := by omega
        go_enter Try.func10, Try.ntmps10
        go_wp2
        go_ret
        exact ⟨RB.no (fun h => h1 (HG.out h).2.1.1), rfl⟩
    · have h4' : 4 < L.length := by omega
      go_enter Try.func10, Try.ntmps10
      go_wp2
      go_ret
      exact ⟨RB.no (fun h => h4 (HG.out h).1), rfl⟩

set_option maxHeartbeats 2000000 in
theorem specTableValid (A : Option Addr) (c : Nat) (L : List (List Int)) (w : World) (hg : Grd w w.heap.size A (grid L)) (hn : L.length ≤ 2000000) :
    Calls Try.prog 11 #[.slice A L.length c] w fun e w' => RB (goodT L) e ∧ Below w.heap.size w w' := by
  cases L with
  | nil =>
    have hi := inB_no (n := 0) (lo := 1) (hi := 4) (.inl (by omega))
    go_enter Try.func11, Try.ntmps11
    go_wp2_with (go_at_call 20; refine (specIn _ _ _ _).mono ?_; rintro e w' ⟨rfl, hw⟩; obtain rfl := hw.symm)
    go_ret
    exact ⟨RB.no goodT_nil, Below.refl _ _⟩
  | cons r0 rest =>
    obtain ⟨b, off, rfl, hb, hrows⟩ := hg (by simp [grid])
    obtain ⟨A0, c0, hc0, hl0, hm0, hR0⟩ := hrows 0 (r0.map (Value.int .i64)) rfl
    have HR := Lib.hid hrows
    clear hrows hg
    have HG := Lib.hid (goodT_len (r0 := r0) (rest := rest))
    have HY := Lib.hid (fun h1 h2 h3 => (⟨r0, rest, rfl, h1, h2, h3⟩ : goodT (r0 :: rest)))
    obtain ⟨L, hL⟩ : ∃ L, L = r0 :: rest := ⟨_, rfl⟩
    rw [← hL] at HR HG HY hn ⊢
    have hpos : 1 ≤ L.length := by rw [hL]; simp
    clear hL
    simp only [List.length_map, Nat.add_zero] at hc0 hl0 hR0
    unfold maxLen at hm0
    by_cases h4 : L.length ≤ 4
    · have i1 := inB_yes (n := (L.length : Int)) (lo := 1) (hi := 4) (by omega) (by omega)
      by_cases h12 : 1 ≤ r0.length ∧ r0.length ≤ 4
      · have i2 := inB_yes (n := (r0.length : Int)) (lo := 1) (hi := 4) (by omega) (by omega)
        go_enter Try.func11, Try.ntmps11
        go_wp2_with (go_at_call 20; refine (specIn _ _ _ _).mono ?_; rintro e w' ⟨rfl, hw⟩; obtain rfl := hw.symm)
        go_loopw [3] (fun i wr => ∃ pre suf, Cut L pre suf ∧ i = .int .i64 pre.length ∧ Hid (∀ r ∈ pre, r.length = r0.length ∧ c99 r) ∧ Below w.heap.size w wr) (fun i _ => L.length - (intOf i).toNat)
        case atStart => exact ⟨[], L, Cut.zero _, rfl, Lib.hid (fun r h => by cases h), Below.refl _ _⟩
        case round =>
          obtain ⟨pre, suf, hcut, rfl, HP, hbel⟩ := hrel
          cases suf with
          | nil =>
            have hge := hcut.len0
            have HD := Lib.hid hcut.done
            go_wp2
            go_ret
            exact ⟨RB.yes (HY.out h4 h12 (by rw [← HD.out]; exact HP.out)), hbel⟩
          | cons r suf =>
            have hlt := hcut.len1
            obtain ⟨A', c', hc, hl, hcm, hr⟩ := HR.out pre.length (r.map (Value.int .i64)) (hcut.map_at (fun r => r.map (Value.int .i64)))
            have HM := Lib.hid hcut.mem
            simp only [List.length_map] at hc hl hr
            unfold maxLen at hcm
            have hcr := (hbel.cell (p := ⟨b, off + pre.length, none⟩) hb).trans hc
            have hcr0 := (hbel.cell (p := ⟨b, off, none⟩) hb).trans hc0
            by_cases hlen : r.length = r0.length
            · have e1 : ((r.length : Int) == (r0.length : Int)) = true := by simp [hlen]
              have HLN := Lib.hid hlen
              rw [hlen] at hcr
              clear hlen e1
              go_wp2_with fail
              go_region
              go_wp2
              go_loopw [4] (fun i wr => ∃ pre2 suf2, Cut r pre2 suf2 ∧ i = .int .i64 pre2.length ∧ Hid (c99 pre2) ∧ Below w.heap.size w wr) (fun i _ => r.length - (intOf i).toNat)
              case atStart => exact ⟨[], r, Cut.zero _, rfl, Lib.hid (fun r h => by cases h), hbel.drew⟩
              case round =>
                clear hbel hcr hcr0
                obtain ⟨pre2, suf2, hcut2, rfl, HP2, hbel⟩ := hrel
                have hcr := (hbel.cell (p := ⟨b, off + pre.length, none⟩) hb).trans hc
                rw [HLN.out] at hcr
                cases suf2 with
                | nil =>
                  have hge2 := hcut2.len0
                  rw [HLN.out] at hge2
                  have HD2 := Lib.hid hcut2.done
                  go_wp2
                  go_roundw
                  case rel => exact ⟨pre ++ [r], suf, hcut.next, by simp, Lib.hid (rows_snoc HP.out HLN.out (by rw [← HD2.out]; exact HP2.out)), hbel⟩
                  case measure => simp [intOf]; omega
                | cons x suf2 =>
                  have hlt2 := hcut2.len1
                  rw [HLN.out] at hlt2
                  have HM2 := Lib.hid hcut2.mem
                  obtain ⟨b2, off2, rfl, hb2, hc2⟩ := hr.at_ (hcut2.map_at (Value.int .i64))
                  have hcx := (hbel.cell (p := ⟨b2, off2 + pre2.length, none⟩) hb2).trans hc2
                  by_cases hx : 0 ≤ x ∧ x ≤ 99
                  · have i3 := inB_yes (n := x) (lo := 0) (hi := 99) hx.1 hx.2
                    go_wp2_with fail
                    refine (specIn _ _ _ _).mono ?_
                    rintro e w' ⟨rfl, hw⟩
                    obtain rfl := hw.symm
                    clear hw
                    rw [i3]
                    go_wp2
                    go_roundw
                    case rel => exact ⟨pre2 ++ [x], suf2, hcut2.next, by simp, Lib.hid (c99_snoc HP2.out hx.1 hx.2), hbel⟩
                    case measure => simp [intOf]; have := HLN.out; omega
                  · have i3 := inB_no (n := x) (lo := 0) (hi := 99) (by omega)
                    go_wp2_with (go_at_call 20; refine (specIn _ _ _ _).mono ?_; rintro e w' ⟨rfl, hw⟩; obtain rfl := hw.symm)
                    go_ret
                    exact ⟨RB.no (fun h => hx (((HG.out h).2.2 r HM.out).2 x HM2.out)), hbel⟩
            · have e1 : ((r.length : Int) == (r0.length : Int)) = false := beq_eq_false_iff_ne.2 (by omega)
              have e2 : (r.length == r0.length) = false := beq_eq_false_iff_ne.2 hlen
              go_wp2_with fail
              go_region
              go_wp2
              go_ret
              exact ⟨RB.no (fun h => hlen ((HG.out h).2.2 r HM.out).1), hbel.drew⟩
      · have i2 := inB_no (n := (r0.length : Int)) (lo := 1) (hi := 4) (by omega)
        go_enter Try.func11, Try.ntmps11
        go_wp2_with (go_at_call 20; refine (specIn _ _ _ _).mono ?_; rintro e w' ⟨rfl, hw⟩; obtain rfl := hw.symm)
        go_ret
        exact ⟨RB.no (fun h => h12 (HG.out h).2.1), Below.refl _ _⟩
    · have i1 := inB_no (n := (L.length : Int)) (lo := 1) (hi := 4) (by omega)
      go_enter Try.func11, Try.ntmps11
      go_wp2_with (go_at_call 20; refine (specIn _ _ _ _).mono ?_; rintro e w' ⟨rfl, hw⟩; obtain rfl := hw.symm)
      go_ret
      exact ⟨RB.no (fun h => h4 (HG.out h).1), Below.refl _ _⟩
end Go.Proofs.Ytfhidimmaeiiaaa
