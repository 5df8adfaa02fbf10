/- The helpers of the exact laws over slices and slices of slices of Int: the size left, the copy in new memory, the comparison. -/
import Derived.Test.YtfpddhehdfckjaaChecked
import Derived.Test.YtfpddhehdfckjaaMem
import Derived.WalkKit

import Derived.LoopTactic
import Derived.OwnWalk
import Derived.Deep.QuietTactic
import Derived.BigQuiet
namespace Go.Proofs.Ytfpddhehdfckjaa
open Go.RowKit

namespace SzInt
theorem szS (A : Option Addr) (n c : Nat) (left : Int) (w : World) (h0 : 0 ≤ left) (h1 : left ≤ 2000000) (hn : n ≤ 9223372036854775807) :
    Calls Try.prog 47 #[.slice A n c, .int .i64 left] w fun e w' => e = .returned (.int .i64 (szR left n)) ∧ w = w' := by
  by_cases h : (n : Int) ≤ left
  · go_enter Try.func47, Try.ntmps47
    go_wp2
    go_ret
    exact ⟨ret_int (szR_yes h).symm, rfl⟩
  · have h' : left - (n : Int) < 0 := by omega
    go_enter Try.func47, Try.ntmps47
    go_wp2
    go_ret
    exact ⟨ret_int (szR_no (by omega)).symm, rfl⟩

set_option maxHeartbeats 400000 in
theorem szSS (A : Option Addr) (c : Nat) (rs : List (List Int)) (left : Int) (w : World) (hg : Grd w w.heap.size A (rs.map (·.map (Value.int .i64)))) (h0 : 0 ≤ left) (h1 : left ≤ 2000000) (hn : rs.length ≤ 9223372036854775807) :
    Calls Try.prog 15 #[.slice A rs.length c, .int .i64 left] w fun e w' => e = .returned (.int .i64 (szR left (tot rs))) ∧ w = w' := by
  by_cases h : (rs.length : Int) ≤ left
  · go_enter Try.func15, Try.ntmps15
    go_wp2
    go_loop [1, 5] (fun l i => ∃ pre suf x, Cut rs pre suf ∧ i = .int .i64 pre.length ∧ l = .int .i64 x ∧ Hid (x = left - (rs.length + lens pre : Nat)) ∧ 0 ≤ x ∧ x ≤ 2000000) (fun _ i => rs.length - (intOf i).toNat)
    case atStart => exact ⟨[], rs, _, Cut.zero _, rfl, rfl, by unfold Hid; simp [lens], by omega, by omega⟩
    case round =>
      obtain ⟨pre, suf, x, hcut, rfl, rfl, hx, hx0, hx1⟩ := hrel
      cases suf with
      | nil =>
        have hge := hcut.len0
        go_wp2
        go_ret
        exact ⟨ret_int (by have hx := hx.out; rw [hcut.done] at hx; unfold tot; rw [szR_yes (by omega)]; exact hx), rfl⟩
      | cons r suf =>
        have hlt := hcut.len1
        obtain ⟨b, off, A', c', rfl, hb, hc, hl, hcm, hr⟩ := hg.at_ (hcut.map_at (·.map (Value.int .i64)))
        simp only [List.length_map] at hc hl hr
        unfold maxLen at hcm
        have hsn := Lib.hid (lens_snoc pre r)
        by_cases hr2 : (r.length : Int) ≤ x
        · have hyes := szR_yes hr2
          have hy2 : 0 ≤ szR x r.length := by rw [hyes]; omega
          have HY := Lib.hid hyes
          clear hyes
          go_wp2_with (go_at_call 47; refine (szS _ _ _ _ _ (by omega) (by omega) (by omega)).mono ?_; rintro e w' ⟨rfl, rfl⟩)
          go_round
          case rel => exact ⟨pre ++ [r], suf, _, hcut.next, by simp, rfl, by have hx := hx.out; unfold Hid; rw [HY.out, hsn.out]; omega, by omega, by rw [HY.out]; omega⟩
          case measure => simp [intOf]; omega
        · have hr3 : x < (r.length : Int) := by omega
          have hno := szR_no hr3
          have hn2 : szR x r.length < 0 := by rw [hno]; decide
          have HN := Lib.hid (tot_no hcut hx.out hr3)
          clear hno hr2
          go_wp2_with (go_at_call 47; refine (szS _ _ _ _ _ (by omega) (by omega) (by omega)).mono ?_; rintro e w' ⟨rfl, rfl⟩)
          go_ret
          exact ⟨ret_int HN.out.symm, rfl⟩
  · have h' : left - (rs.length : Int) < 0 := by omega
    have HN := Lib.hid (tot_no0 (rs := rs) (left := left) (by omega))
    go_enter Try.func15, Try.ntmps15
    go_wp2
    go_ret
    exact ⟨ret_int HN.out.symm, rfl⟩

theorem info : (Try.prog.info? 3).map (fun i => (i.zero, i.size, i.bytes)) = some (some (.int .i64 0), 1, 8) := by kernel_rfl
theorem infoRow : (Try.prog.info? 33).map (fun i => (i.zero, i.size, i.bytes)) = some (some (.slice none 0 0), 1, 24) := by kernel_rfl

set_option maxHeartbeats 400000 in
theorem toS (A : Option Addr) (c : Nat) (l : List Int) (w : World) (hg : Rds w w.heap.size 1 A l.length (l.map (Value.int .i64))) (hn : l.length ≤ 2000000) :
    Calls Try.prog 49 #[.slice A l.length c] w fun e w' => e = .returned (.slice (some ⟨w.heap.size, 0, none⟩) l.length l.length) ∧ Blk w' w.heap.size 3 (l.map (Value.int .i64)) ∧ Below w.heap.size w w' ∧ Hid (w'.heap.size = w.heap.size + 1) := by
  obtain ⟨i0, hi, hz0, hz1, hz2⟩ := info_parts info
  go_enter Try.func49, Try.ntmps49
  go_wp2_with (at_make; refine wpList_make_row _ rfl _ _ 33 rfl 3 i0 (.int .i64 0) Try.underlying33 hi hz0 hz1 rfl _ _ l.length rfl rfl (by rw [hz2]; omega) (by omega) ?_)
  go_loopw [4] (fun i wr => ∃ pre suf, Cut l pre suf ∧ i = .int .i64 pre.length ∧ Blk wr w.heap.size 3 (filled (pre.map (Value.int .i64)) l.length (.int .i64 0)) ∧ Below w.heap.size w wr ∧ Hid (wr.heap.size = w.heap.size + 1)) (fun i _ => l.length - (intOf i).toNat)
  case atStart => exact ⟨[], l, Cut.zero _, rfl, by rw [List.map_nil, filled_zero]; exact Blk.made _ _ _ _, (Below.refl _ _).alloc (Nat.le_refl _) _, by unfold Hid; simp⟩
  case round =>
    obtain ⟨pre, suf, hcut, rfl, hblk, hbel, hsz⟩ := hrel
    cases suf with
    | nil =>
      have hge := hcut.len0
      go_wp2
      go_ret
      rw [filled_full _ _ _ (by rw [hcut.done]; simp), hcut.done] at hblk
      exact ⟨rfl, hblk, hbel, hsz⟩
    | cons x suf =>
      have hlt := hcut.len1
      obtain ⟨b, off, rfl, hb, hc⟩ := (hg.below hbel).at_ (hcut.map_at (Value.int .i64))
      have hfl : (pre.map (Value.int .i64)).length < l.length := by simpa using hlt
      have hd := (hblk.cell (pre.map (Value.int .i64)).length).trans (filled_at _ _ _ hfl)
      have hf := hblk.frozen pre.length
      simp only [List.length_map] at hd
      go_wp2
      go_roundw
      case rel => exact ⟨pre ++ [x], suf, hcut.next, by simp, by rw [List.map_append, List.map_singleton, ← filled_next _ _ _ _ hfl, List.length_map]; exact hblk.set _ _, hbel.setCell (p := ⟨w.heap.size, _, none⟩) (Nat.le_refl _) _, by have := hsz.out; unfold Hid; simpa using this⟩
      case measure => simp [intOf]; omega

set_option maxHeartbeats 400000 in
theorem toSS (A : Option Addr) (c : Nat) (rs : List (List Int)) (w : World) (hg : Grd w w.heap.size A (rs.map (·.map (Value.int .i64)))) (hn : rs.length ≤ 2000000) (hl : ∀ r ∈ rs, r.length ≤ 2000000) :
    Calls Try.prog 17 #[.slice A rs.length c] w fun e w' => e = .returned (.slice (some ⟨w.heap.size, 0, none⟩) rs.length rs.length) ∧ OGrd w' w.heap.size 33 3 (rs.map (·.map (Value.int .i64))) ∧ Below w.heap.size w w' := by
  obtain ⟨i0, hi, hz0, hz1, hz2⟩ := info_parts infoRow
  have HL := Lib.hid hl
  clear hl
  go_enter Try.func17, Try.ntmps17
  go_wp2_with (at_make; refine wpList_make_row _ rfl _ _ 22 rfl 33 i0 (.slice none 0 0) Try.underlying22 hi hz0 hz1 rfl _ _ rs.length rfl rfl (by rw [hz2]; omega) (by omega) ?_)
  go_loopw [4] (fun i wr => ∃ pre suf, Cut rs pre suf ∧ i = .int .i64 pre.length ∧ Blk wr w.heap.size 33 (filled (heads w.heap.size (pre.map (·.map (Value.int .i64)))) rs.length (.slice none 0 0)) ∧ RowsB wr w.heap.size 3 (pre.map (·.map (Value.int .i64))) ∧ Below w.heap.size w wr ∧ Hid (wr.heap.size = w.heap.size + 1 + pre.length)) (fun i _ => rs.length - (intOf i).toNat)
  case atStart => exact ⟨[], rs, Cut.zero _, rfl, by rw [List.map_nil, heads_nil, filled_zero]; exact Blk.made _ _ _ _, RowsB.nil _ _ _, (Below.refl _ _).alloc (Nat.le_refl _) _, by unfold Hid; simp⟩
  case round =>
    obtain ⟨pre, suf, hcut, rfl, hblk, hrows, hbel, hsz⟩ := hrel
    cases suf with
    | nil =>
      have hge := hcut.len0
      go_wp2
      go_ret
      rw [filled_full _ _ _ (by rw [hcut.done]; simp [heads_len]), hcut.done] at hblk
      rw [hcut.done] at hrows
      exact ⟨rfl, ⟨hblk, hrows⟩, hbel⟩
    | cons x suf =>
      have hlt := hcut.len1
      have hxl := HL.out x hcut.mem
      obtain ⟨b, off, A', c', rfl, hb, hc, hl, hcm, hr⟩ := (hg.below hbel).at_ (hcut.map_at (·.map (Value.int .i64)))
      simp only [List.length_map] at hc hl hr
      unfold maxLen at hcm
      have hbs := hbel.size
      have hfl : (heads w.heap.size (pre.map (·.map (Value.int .i64)))).length < rs.length := by simpa [heads_len] using hlt
      go_wp2_with fail
      refine (toS A' c' x wr (hr.more hbs) hxl).mono ?_
      rintro e w1 ⟨rfl, hk1, hb1, HS⟩
      have hblk1 := hblk.below hb1 hblk.lt
      have hd := (hblk1.cell _).trans (filled_at _ _ _ hfl)
      have hf := hblk1.frozen pre.length
      simp only [heads_len, List.length_map] at hd
      go_wp2
      go_roundw
      case rel =>
        have hsz := hsz.out
        have e1 := HS.out
        have hn1 : Blk (w1.setCell ⟨w.heap.size, pre.length, none⟩ (.slice (some ⟨wr.heap.size, 0, none⟩) x.length x.length)) wr.heap.size 3 (x.map (Value.int .i64)) := hk1.far (by show wr.heap.size ≠ w.heap.size; omega) _
        refine ⟨pre ++ [x], suf, hcut.next, by simp, ?_, ?_, (hbel.trans (hb1.mono hbs)).setCell (p := ⟨w.heap.size, _, none⟩) (Nat.le_refl _) _, ?_⟩
        · rw [List.map_append, List.map_singleton, heads_snoc, ← filled_next _ _ _ _ hfl, heads_len, List.length_map]
          have := hblk1.set pre.length (.slice (some ⟨wr.heap.size, 0, none⟩) x.length x.length)
          rw [hsz] at this ⊢
          simpa using this
        · rw [List.map_append, List.map_singleton]
          refine RowsB.snoc (hrows.keep fun b h1 h2 => ?_) ?_
          · rw [Below.heap_setCell _ _ _ _ (by show b ≠ w.heap.size; omega)]
            exact hb1.block b (by simp at h2; omega)
          · rw [hsz] at hn1 ⊢
            simpa using hn1
        · unfold Hid
          simp
          omega
      case measure => simp [intOf]; omega

set_option maxHeartbeats 400000 in
theorem eqS (A A2 : Option Addr) (c c2 : Nat) (l : List Int) (w : World) (hg : Rds w w.heap.size 1 A l.length (l.map (Value.int .i64))) (hg2 : Rds w w.heap.size 1 A2 l.length (l.map (Value.int .i64))) (hn : l.length ≤ 2000000) :
    Calls Try.prog 50 #[.slice A l.length c, .slice A2 l.length c2] w fun e w' => e = .returned (.bool true) ∧ ∃ n, w' = w.drewN n := by
  go_enter Try.func50, Try.ntmps50
  go_wp2
  go_loopw [5] (fun i wr => ∃ pre suf n, Cut l pre suf ∧ i = .int .i64 pre.length ∧ wr = w.drewN n) (fun i _ => l.length - (intOf i).toNat)
  case atStart => exact ⟨[], l, 0, Cut.zero _, rfl, rfl⟩
  case round =>
    obtain ⟨pre, suf, n, hcut, rfl, rfl⟩ := hrel
    cases suf with
    | nil =>
      have hge := hcut.len0
      go_wp2
      go_ret
      exact ⟨rfl, _, rfl⟩
    | cons x suf =>
      have hlt := hcut.len1
      obtain ⟨b, off, rfl, hb, hc⟩ := hg.at_ (hcut.map_at (Value.int .i64))
      obtain ⟨b2, off2, rfl, hb2, hc2⟩ := hg2.at_ (hcut.map_at (Value.int .i64))
      go_wp2
      go_quiet (fail)
      go_wp2
      go_roundw
      case rel => exact ⟨pre ++ [x], suf, _, hcut.next, by simp, rfl⟩
      case measure => simp [intOf]; omega

set_option maxHeartbeats 400000 in
theorem eqSS (A A2 : Option Addr) (c c2 : Nat) (rs : List (List Int)) (w : World) (hg : Grd w w.heap.size A (rs.map (·.map (Value.int .i64)))) (hg2 : Grd w w.heap.size A2 (rs.map (·.map (Value.int .i64)))) (hn : rs.length ≤ 2000000) (hl : ∀ r ∈ rs, r.length ≤ 2000000) :
    Calls Try.prog 19 #[.slice A rs.length c, .slice A2 rs.length c2] w fun e w' => e = .returned (.bool true) ∧ ∃ n, w' = w.drewN n := by
  have HL := Lib.hid hl
  clear hl
  go_enter Try.func19, Try.ntmps19
  go_wp2
  go_loopw [5] (fun i wr => ∃ pre suf n, Cut rs pre suf ∧ i = .int .i64 pre.length ∧ wr = w.drewN n) (fun i _ => rs.length - (intOf i).toNat)
  case atStart => exact ⟨[], rs, 0, Cut.zero _, rfl, rfl⟩
  case round =>
    obtain ⟨pre, suf, n, hcut, rfl, rfl⟩ := hrel
    cases suf with
    | nil =>
      have hge := hcut.len0
      go_wp2
      go_ret
      exact ⟨rfl, _, rfl⟩
    | cons x suf =>
      have hlt := hcut.len1
      have hxl := HL.out x hcut.mem
      obtain ⟨b, off, A', c', rfl, hb, hc, hl, hcm, hr⟩ := hg.at_ (hcut.map_at (·.map (Value.int .i64)))
      obtain ⟨b2, off2, A2', c2', rfl, hb2, hc2, hl2, hcm2, hr2⟩ := hg2.at_ (hcut.map_at (·.map (Value.int .i64)))
      simp only [List.length_map] at hc hl hr hc2 hl2 hr2
      unfold maxLen at hcm hcm2
      go_wp2
      go_quiet ((go_at_call 50; exact quiet_add (eqS A' A2' c' c2' x (w.drewN _) hr hr2 hxl)))
      go_wp2
      go_roundw
      case rel => exact ⟨pre ++ [x], suf, _, hcut.next, by simp, rfl⟩
      case measure => simp [intOf]; omega
end SzInt
end Go.Proofs.Ytfpddhehdfckjaa
