/- The reference's sizes of groups. -/
import Derived.Test.YtfpddhehdfckjaaRecodeS
import Derived.Test.YtfpddhehdfckjaaGrp
namespace Go.Proofs.Ytfpddhehdfckjaa
open Go.RowKit
attribute [local go_sem ↓] Go.wp_at_zero Go.wp_at_succ

theorem specSame (p q : Pn) (w : World) : Calls Try.prog 82 #[p.val, q.val] w fun e w' => e = .returned (.bool (sameG p q)) ∧ Below w.heap.size w w' := by
  obtain ⟨a, j, s, y⟩ := p
  obtain ⟨a2, j2, s2, y2⟩ := q
  unfold Pn.val sameG
  dsimp only
  go_enter Try.func82, Try.ntmps82
  go_wp2
  all_goals go_ret
  all_goals refine ⟨?_, (((Below.refl _ _).alloc (Nat.le_refl _) _).alloc (by simp <;> omega) _)⟩
  all_goals first
    | rfl
    | (refine congrArg (fun b => Ending.returned (.bool b)) ?_; simp [*]; done)
theorem specSame' {p q : Pn} {b : Bool} (h : sameG p q = b) (w : World) : Calls Try.prog 82 #[p.val, q.val] w fun e w' => e = .returned (.bool b) ∧ Below w.heap.size w w' := by
  subst h
  exact specSame p q w

set_option maxHeartbeats 1000000 in
theorem specSize (A : Option Addr) (c : Nat) (x : List Pn) (k : Nat) (p : Pn) (w : World) (hg : Ppl w w.heap.size A x) (hn : x.length ≤ 2000000) (hp : x[k]? = some p) :
    Calls Try.prog 67 #[.slice A x.length c, .int .i64 k] w fun e w' => e = .returned (.int .i64 (gsz x p)) ∧ Below w.heap.size w w' := by
  obtain ⟨b, off, rfl, hb, hd0, hd1, hd2, hd3⟩ := hg.at_ hp
  have hkl : k < x.length := (List.getElem?_eq_some_iff.1 hp).1
  have HG := Lib.hid hg
  clear hp hg
  have hk0 : (0 : Int) ≤ (k : Int) := Int.natCast_nonneg _
  have hk1 : (k : Int) < (x.length : Int) := by omega
  have HD := Lib.hid (show w.cell? ⟨b, off + k * 4, none⟩ = some (.int .i64 p.a) ∧ w.cell? ⟨b, off + k * 4 + 1, none⟩ = some (.int .i64 p.j) ∧ w.cell? ⟨b, off + k * 4 + 2, none⟩ = some (.int .i64 p.s) ∧ w.cell? ⟨b, off + k * 4 + 3, none⟩ = some (.int .i64 p.p) from ⟨hd0, hd1, hd2, hd3⟩)
  clear hd0 hd1 hd2 hd3
  go_enter Try.func67, Try.ntmps67
  go_wp2
  go_loopw [5, 6] (fun n i wr => ∃ pre suf, Cut x pre suf ∧ i = .int .i64 pre.length ∧ n = .int .i64 (gsz pre p) ∧ Below w.heap.size w wr) (fun _ i _ => x.length - (intOf i).toNat)
  case atStart => exact ⟨[], x, Cut.zero _, rfl, rfl, Below.refl _ _⟩
  case round =>
    obtain ⟨pre, suf, hcut, rfl, rfl, hbel⟩ := hrel
    cases suf with
    | nil =>
      have hge := hcut.len0
      go_wp2
      go_ret
      exact ⟨ret_int (by rw [hcut.done]), hbel⟩
    | cons q suf =>
      have hlt := hcut.len1
      have hgp := gsz_pre hcut p
      have hbs := hbel.size
      obtain ⟨b2, off2, e2, hb2, hc0, hc1, hc2, hc3⟩ := (HG.out.below hbel).at_ hcut.at_
      simp only [Option.some.injEq, Addr.mk.injEq, and_true] at e2
      obtain ⟨rfl, rfl⟩ := e2
      obtain ⟨hd0, hd1, hd2, hd3⟩ := HD.out
      rw [← hbel.cell (p := ⟨b, _, none⟩) hb] at hd0 hd1 hd2 hd3
      have hbb : b < wr.heap.size := by omega
      have hj0 : (0 : Int) ≤ (pre.length : Int) := Int.natCast_nonneg _
      have hj1 : (pre.length : Int) < (x.length : Int) := by omega
      have HBEL := Lib.hid hbel
      clear hbel
      cases hs : sameG q p
      all_goals
        have HS := Lib.hid hs
        clear hs
        go_wp2_with fail
        go_region_held3 (fun w' => w'.cell? ⟨b, off + pre.length * 4, none⟩ = some (.int .i64 q.a) ∧ w'.cell? ⟨b, off + pre.length * 4 + 1, none⟩ = some (.int .i64 q.j) ∧ w'.cell? ⟨b, off + pre.length * 4 + 2, none⟩ = some (.int .i64 q.s) ∧ w'.cell? ⟨b, off + pre.length * 4 + 3, none⟩ = some (.int .i64 q.p) ∧ w'.cell? ⟨b, off + k * 4, none⟩ = some (.int .i64 p.a) ∧ w'.cell? ⟨b, off + k * 4 + 1, none⟩ = some (.int .i64 p.j) ∧ w'.cell? ⟨b, off + k * 4 + 2, none⟩ = some (.int .i64 p.s) ∧ w'.cell? ⟨b, off + k * 4 + 3, none⟩ = some (.int .i64 p.p))
          (go_keep)
          (first
            | (go_at_call 82; refine (specSame' HS.out _).mono ?_; rintro e w3 ⟨rfl, hb3⟩; have hcell : ∀ x o, x < wr.heap.size → w3.cell? ⟨x, o, none⟩ = wr.cell? ⟨x, o, none⟩ := fun x o hx => hb3.cell (p := ⟨x, o, none⟩) hx; have HB3 : Hid (Below wr.heap.size wr w3) := (Below.refl wr.heap.size wr).drew.trans hb3; clear hb3)
            | fail)
        have hbel3 := HBEL.out.trans (HB3.out.mono hbs)
        clear hcell hc0 hc1 hc2 hc3 hd0 hd1 hd2 hd3
        go_wp2
        go_roundw
        case rel => exact ⟨pre ++ [q], suf, hcut.next, by simp, by first | rw [gsz_no HS.out] | (rw [gsz_yes HS.out]; go_num), hbel3⟩
        case measure => simp [intOf]; omega
end Go.Proofs.Ytfpddhehdfckjaa
