/- MaskMany: the program's and the reference's count of set flags, each a contract. -/
import Derived.Test.YtfhidimmaeiiaaaChecked
import Derived.Test.YtfhidimmaeiiaaaMem
import Derived.WalkKit
import Derived.LoopTactic
namespace Go.Proofs.Ytfhidimmaeiiaaa
open Go.RowKit

/-- How many flags of a row are set; and of rows. -/
def cntB (l : List Bool) : Nat := l.countP (· == true)
def cntBB (ls : List (List Bool)) : Nat := (ls.map cntB).sum

def bools (l : List Bool) : List Value := l.map Value.bool

theorem cntB_snoc (l : List Bool) (b : Bool) : cntB (l ++ [b]) = cntB l + if b then 1 else 0 := by
  cases b <;> simp [cntB, List.countP_append]
theorem cntBB_snoc (ls : List (List Bool)) (l : List Bool) : cntBB (ls ++ [l]) = cntBB ls + cntB l := by
  simp [cntBB]

theorem cntB_le (l : List Bool) : cntB l ≤ l.length := List.countP_le_length
theorem cntBB_pre {rs pre suf : List (List Bool)} {r : List Bool} (h : Cut rs pre (r :: suf)) : cntBB pre + cntB r ≤ cntBB rs := by
  rw [h.out]; simp [cntBB]
theorem cntB_pre {rs pre suf : List Bool} {r : Bool} (h : Cut rs pre (r :: suf)) : cntB pre + (if r then 1 else 0) ≤ cntB rs := by
  rw [h.out]; cases r <;> simp [cntB]

set_option maxHeartbeats 400000 in
theorem implMaskMany (A : Option Addr) (c : Nat) (rs : List (List Bool)) (w : World) (hg : Grd w w.heap.size A (rs.map bools))
   (hn : rs.length ≤ 2000000) (hm : cntBB rs ≤ 2000000) :
    Calls Try.prog 7 #[.slice A rs.length c] w fun e w' => e = .returned (.int .i64 (cntBB rs)) ∧ w = w' := by
  go_enter Try.func7, Try.ntmps7
  go_wp2
  go_loop [3, 10] (fun t i => ∃ pre suf, Cut rs pre suf ∧ i = .int .i64 pre.length ∧ t = .int .i64 (cntBB pre)) (fun _ i => rs.length - (intOf i).toNat)
  case atStart => exact ⟨[], rs, Cut.zero _, rfl, rfl⟩
  case round =>
    obtain ⟨pre, suf, hcut, rfl, rfl⟩ := hrel
    cases suf with
    | nil =>
      have hge := hcut.len0
      go_wp2
      go_ret
      exact ⟨ret_int (by rw [hcut.done]), rfl⟩
    | cons r suf =>
      have hlt := hcut.len1
      have hp := cntBB_pre hcut
      obtain ⟨b, off, A', c', rfl, hb, hc, hl, hcm, hr⟩ := hg.at_ (hcut.map_at bools)
      simp only [bools, List.length_map] at hc hl hr
      unfold maxLen at hcm
      go_wp2
      go_loop [3, 16] (fun t i => ∃ pre2 suf2, Cut r pre2 suf2 ∧ i = .int .i64 pre2.length ∧ t = .int .i64 (cntBB pre + cntB pre2 : Nat)) (fun _ i => r.length - (intOf i).toNat)
      case atStart => exact ⟨[], r, Cut.zero _, rfl, rfl⟩
      case round =>
        obtain ⟨pre2, suf2, hcut2, rfl, rfl⟩ := hrel
        cases suf2 with
        | nil =>
          have hge2 := hcut2.len0
          go_wp2
          go_round
          case rel => exact ⟨pre ++ [r], suf, hcut.next, by simp, by rw [cntBB_snoc, hcut2.done]⟩
          case measure => simp [intOf]; omega
        | cons x suf2 =>
          have hlt2 := hcut2.len1
          have hp2 := cntB_pre hcut2
          obtain ⟨b2, off2, rfl, hb2, hc2⟩ := hr.at_ (hcut2.map_at Value.bool)
          cases x
          all_goals
            simp only [Bool.false_eq_true, if_true, if_false] at hp2
            go_wp2
            go_round
            case rel => exact ⟨pre2 ++ [_], suf2, hcut2.next, by simp, by rw [cntB_snoc]; go_num⟩
            case measure => simp [intOf]; omega

set_option maxHeartbeats 400000 in
theorem specMaskMany (A : Option Addr) (c : Nat) (rs : List (List Bool)) (w : World) (hg : Grd w w.heap.size A (rs.map bools))
   (hn : rs.length ≤ 2000000) (hm : cntBB rs ≤ 2000000) :
    Calls Try.prog 8 #[.slice A rs.length c] w fun e w' => e = .returned (.int .i64 (cntBB rs)) ∧ w = w' := by
  go_enter Try.func8, Try.ntmps8
  go_wp2
  go_loop [3, 4] (fun t i => ∃ pre suf, Cut rs pre suf ∧ i = .int .i64 pre.length ∧ t = .int .i64 (cntBB pre)) (fun _ i => rs.length - (intOf i).toNat)
  case atStart => exact ⟨[], rs, Cut.zero _, rfl, rfl⟩
  case round =>
    obtain ⟨pre, suf, hcut, rfl, rfl⟩ := hrel
    cases suf with
    | nil =>
      have hge := hcut.len0
      go_wp2
      go_ret
      exact ⟨ret_int (by rw [hcut.done]), rfl⟩
    | cons r suf =>
      have hlt := hcut.len1
      have hp := cntBB_pre hcut
      obtain ⟨b, off, A', c', rfl, hb, hc, hl, hcm, hr⟩ := hg.at_ (hcut.map_at bools)
      simp only [bools, List.length_map] at hc hl hr
      unfold maxLen at hcm
      go_wp2
      go_loop [3, 5] (fun t i => ∃ pre2 suf2, Cut r pre2 suf2 ∧ i = .int .i64 pre2.length ∧ t = .int .i64 (cntBB pre + cntB pre2 : Nat)) (fun _ i => r.length - (intOf i).toNat)
      case atStart => exact ⟨[], r, Cut.zero _, rfl, rfl⟩
      case round =>
        obtain ⟨pre2, suf2, hcut2, rfl, rfl⟩ := hrel
        cases suf2 with
        | nil =>
          have hge2 := hcut2.len0
          go_wp2
          go_round
          case rel => exact ⟨pre ++ [r], suf, hcut.next, by simp, by rw [cntBB_snoc, hcut2.done]⟩
          case measure => simp [intOf]; omega
        | cons x suf2 =>
          have hlt2 := hcut2.len1
          have hp2 := cntB_pre hcut2
          obtain ⟨b2, off2, rfl, hb2, hc2⟩ := hr.at_ (hcut2.map_at Value.bool)
          cases x
          all_goals
            simp only [Bool.false_eq_true, if_true, if_false] at hp2
            go_wp2
            go_round
            case rel => exact ⟨pre2 ++ [_], suf2, hcut2.next, by simp, by rw [cntB_snoc]; go_num⟩
            case measure => simp [intOf]; omega
end Go.Proofs.Ytfhidimmaeiiaaa
