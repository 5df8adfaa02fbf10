/- spec.DrawTableValid: a table of the draw's own. -/
import Derived.Test.YtfhidimmaeiiaaaTab
import Derived.Test.YtfhidimmaeiiaaaVGr3
namespace Go.Proofs.Ytfhidimmaeiiaaa
open Go.RowKit
set_option linter.unusedSimpArgs false
attribute [local go_sem ↓] Go.wp_at_zero Go.wp_at_succ

/-- What drawing a table hands back. -/
def DTV (w : World) (e : Ending) (w' : World) : Prop := ∃ (A : Option Addr) (c : Nat) (L : List (List Int)), e = .returned (.slice A L.length c) ∧ L.length ≤ 8 ∧ (∀ r ∈ L, r.length ≤ 4) ∧ Grd w' w'.heap.size A (grid L) ∧ L.length ≤ c ∧ c ≤ 9223372036854775807 ∧ Below w.heap.size w w'
theorem lens_of {L : List (List Int)} {ns : List Nat} (h : L.map List.length = ns) {m k : Nat} (h1 : ns.length ≤ m) (h2 : ∀ n ∈ ns, n ≤ k) : L.length ≤ m ∧ ∀ r ∈ L, r.length ≤ k := by
  subst h
  exact ⟨by simpa using h1, fun r hr => h2 _ (List.mem_map.2 ⟨r, hr, rfl⟩)⟩

set_option maxRecDepth 100000 in
set_option maxHeartbeats 8000000 in
theorem specDrawTableValid (A : Option Addr) (c : Nat) (bs : List Int) (w : World) (h : Byt w A c bs) : Calls Try.prog 9 #[.slice A bs.length c] w (DTV w) := by
  obtain ⟨j0, hj, hy0, hy1, hy2⟩ := info_parts infoIs
  go_enter Try.func9, Try.ntmps9
  go_wp2_with fail
  refine (specOpen A c bs _ h).mono ?_
  rintro e w1 ⟨rfl, hr1, hb1⟩
  have HG1 := Lib.hid hr1.lt
  have HB1 := Lib.hid hb1
  clear h hb1
  go_wp2_with fail
  refine (specDTable w.heap.size 0 20 w1 hr1 (by omega) (by omega)).mono ?_
  rintro e w2 ⟨tv, ns, rfl, ⟨hn4, hnn⟩, hV2, hr2, hgr2⟩
  have HNN := Lib.hid hnn
  have HG12 := Lib.hid hgr2
  have HV2 := Lib.hid hV2
  have HR2 := Lib.hid hr2
  obtain ⟨tA, tc, rfl, htc, htm, htsh⟩ := hV2.shape
  clear hr1 hnn hV2 hr2 hgr2 htsh
  go_wp2_with fail
  refine (specPick w.heap.size (0 + 20) 10 _ HR2.out (by omega) (by omega)).mono ?_
  rintro e w3 ⟨z, rfl, -, -, hgr3, -⟩
  have HV3 := Lib.hid (HV2.out.pick hgr3 HG1.out)
  have HG13 := Lib.hid (HG12.out.trans hgr3)
  have HB3 : Hid (Below w.heap.size w w3) := HB1.out.grown HG13.out HB1.out.size (fun k e => by cases e; exact Nat.le_refl _)
  clear hgr3 HV2 HR2 HG12
  by_cases hz0 : z = 0
  · subst hz0
    obtain ⟨hs, hown, hone, htw⟩ := HV3.out.twice
    have HTW := Lib.hid htw
    have HS3 := Lib.hid HG13.out.size
    have HOB := Lib.hid (own_base hown)
    clear htw
    cases tA with
    | none =>
      obtain ⟨hns, rfl⟩ : ns = [] ∧ tc = 0 := by
        rcases hown.2 with ⟨e, h0⟩ | ⟨_, _, _, h0, _⟩
        · simp only [Value.slice.injEq] at e
          exact ⟨List.eq_nil_of_length_eq_zero h0, e.2.2⟩
        · cases h0
      clear hown hone HTW HV3 HOB
      subst hns
      go_wp2
      go_ret
      exact ⟨none, 0, [], rfl, by simp, by simp, fun h => by simp at h, by simp, by omega, HB3.out⟩
    | some ad =>
      have hce : ∀ j u, hs[j]? = some u → w3.cell? (ad.add j) = some u := fun j u hu => by
        rcases hown.2 with ⟨e, _⟩ | ⟨g, _, _, e, _⟩
        · simp at e
        · simp only [Value.slice.injEq, Option.some.injEq, true_and] at e
          rw [e.1]
          exact hown.cells (by rw [e.1]; rfl) j u hu
      have HCE := Lib.hid hce
      clear hce
      go_wp2_with (at_builtin; go_must (refine wpList_append_own _ rfl _ _ 27 rfl w1.heap.size 31 j0 _ 1 24 Try.underlying27 hj hy0 hy1 hy2 rfl (by decide) _ _ _ rfl hown ad ns.length tc hs rfl (by have := hown.1; omega) HCE.out hone (by unfold maxLen; omega) (by omega) (by have := HS3.out; omega) ?_))
      intro v' w5 hown' hgrow _
      obtain ⟨A5, c5, L, rfl, hG5, hL5, hl5, hm5⟩ := HTW.out w5 v' hown' hgrow
      have HG5 := Lib.hid hG5
      have HL5 := Lib.hid hL5
      have HB5 : Hid (Below w.heap.size w w5) := HB3.out.grown hgrow HB3.out.size (fun k e => by have := HOB.out k e; have := HG1.out; omega)
      clear hG5 hL5 hown' hgrow hown hone HTW HOB HCE HV3
      go_wp2
      go_ret
      obtain ⟨h8, h4⟩ := lens_of HL5.out (m := 8) (k := 4) (by simp; omega) (fun n hn => by rcases List.mem_append.1 hn with h1 | h1 <;> exact HNN.out n h1)
      exact ⟨A5, c5, L, rfl, h8, h4, HG5.out, hl5, hm5, HB5.out⟩
  · have hz0b : (z == 0) = false := by simp [hz0]
    clear hz0
    go_wp2
    go_ret
    obtain ⟨A5, c5, L, e, hG5, hL5, hl5, hm5⟩ := HV3.out.form
    obtain ⟨h8, h4⟩ := lens_of hL5 (m := 8) (k := 4) (by omega) HNN.out
    exact ⟨A5, c5, L, congrArg Ending.returned e, h8, h4, hG5, hl5, hm5, HB3.out⟩
end Go.Proofs.Ytfhidimmaeiiaaa
