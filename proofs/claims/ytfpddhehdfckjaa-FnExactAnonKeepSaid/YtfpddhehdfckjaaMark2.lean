/- The marks on rows of numbers; marks on persons that may be nil; which blocks a mark turns. -/
import Derived.Test.YtfpddhehdfckjaaMark
import Derived.Test.YtfpddhehdfckjaaOnly
namespace Go.Proofs.Ytfpddhehdfckjaa
open Go.RowKit

set_option maxRecDepth 100000 in
set_option maxHeartbeats 2000000 in
theorem markI (g c n : Nat) (xs : List Value) (k : Int) (w : World) (h : Blk w g 3 xs) (hx : xs.length = n) (hl : n ≤ 1048576) (k0 : 0 ≤ k) (k1 : k ≤ 100000000) :
    Calls Try.prog 72 #[.slice (some ⟨g, 0, none⟩) n c, .int .i64 k] w fun e w' => e = .returned (.int .i64 (k + n)) ∧ w.grownBy w' (some g) := by
  have HX := Lib.hid hx
  clear hx
  go_enter Try.func72, Try.ntmps72
  go_wp2
  go_loopw [1, 5] (fun t i wr => ∃ m : Nat, ∃ ys : List Value, m ≤ n ∧ i = .int .i64 m ∧ t = .int .i64 (k + m) ∧ Hid (ys.length = n) ∧ Blk wr g 3 ys ∧ w.grownBy wr (some g)) (fun _ i _ => n - (intOf i).toNat)
  case atStart => exact ⟨0, xs, by omega, rfl, by simp, HX, h, World.grownBy.refl _ _⟩
  case round =>
    obtain ⟨m, ys, hm, rfl, rfl, HY, hb, hg⟩ := hrel
    by_cases hlt : m < n
    · have hm0 : (0 : Int) ≤ (m : Int) := Int.natCast_nonneg _
      have hm1 : (m : Int) < (n : Int) := by omega
      have hd := hb.cell m
      have hf := hb.frozen m
      obtain ⟨y, hy⟩ : ∃ y, ys[m]? = some y := ⟨ys[m]'(by rw [HY.out]; exact hlt), List.getElem?_eq_getElem _⟩
      rw [hy] at hd
      have HN := Lib.hid (hb.set m (.int .i64 (k + m)))
      have HG := Lib.hid (hg.trans (grown_set' wr g m (.int .i64 (k + m))))
      clear hy hg
      go_wp2
      go_roundw
      case rel => exact ⟨m + 1, _, by omega, by go_num, by simp; omega, by unfold Hid; rw [List.length_set]; exact HY.out, HN.out, HG.out⟩
      case measure => simp [intOf]; omega
    · have HE := Lib.hid (show m = n by omega)
      go_wp2
      go_ret
      exact ⟨ret_int (by rw [HE.out]), hg⟩

set_option maxRecDepth 100000 in
set_option maxHeartbeats 2000000 in
theorem markII (N : Nat) (rs : List (List Int)) (k : Int) (w : World) (h : OGrd w N 33 3 (rs.map (·.map (Value.int .i64)))) (hl : tot rs ≤ 1048576) (k0 : 0 ≤ k) (k1 : k ≤ 10000000) :
    Calls Try.prog 44 #[.slice (some ⟨N, 0, none⟩) rs.length rs.length, .int .i64 k] w fun e w' => e = .returned (.int .i64 (k + lens rs)) ∧ Only (N + 1) (N + 1 + rs.length) w w' := by
  have hrl : rs.length ≤ 1048576 := by unfold tot at hl; omega
  have HT := Lib.hid hl
  have HS := Lib.hid h.lt
  have HO := Lib.hid h
  clear hl h
  go_enter Try.func44, Try.ntmps44
  go_wp2
  go_loopw [1, 5] (fun t i wr => ∃ pre suf, Cut rs pre suf ∧ i = .int .i64 pre.length ∧ t = .int .i64 (k + (lens pre : Nat)) ∧ Only (N + 1) (N + 1 + pre.length) w wr) (fun _ i _ => rs.length - (intOf i).toNat)
  case atStart => exact ⟨[], rs, Cut.zero _, rfl, by simp [lens], Only.refl _ _ _⟩
  case round =>
    obtain ⟨pre, suf, hcut, rfl, rfl, hon⟩ := hrel
    cases suf with
    | nil =>
      have hge := hcut.len0
      have HD := Lib.hid hcut.done
      go_wp2
      go_ret
      exact ⟨ret_int (by rw [HD.out]), by have := hon; rw [HD.out] at this; exact this⟩
    | cons r suf =>
      have hlt := hcut.len1
      have hle := lens_cut hcut
      have hrr : r.length ≤ 1048576 := len_le rs _ HT.out r hcut.mem
      have hll : lens pre ≤ 1048576 := by have := HT.out; unfold tot at this; omega
      have hsz : N + 1 + rs.length ≤ w.heap.size := by have := HS.out; rw [List.length_map] at this; exact this
      have hd := (HO.out.1.of (hon.block N (by omega) (.inl (by omega)))).cell pre.length
      rw [heads_at N _ pre.length (r.map (Value.int .i64)) (by rw [List.getElem?_map, hcut.at_]; rfl)] at hd
      have hrow : Blk wr (N + 1 + pre.length) 3 (r.map (Value.int .i64)) := (HO.out.2 pre.length _ (by rw [List.getElem?_map, hcut.at_]; rfl)).of (hon.block (N + 1 + pre.length) (by omega) (.inr (Nat.le_refl _)))
      simp only [List.length_map] at hd
      have HR := Lib.hid hrow
      have hj0 : (0 : Int) ≤ (pre.length : Int) := Int.natCast_nonneg _
      have hj1 : (pre.length : Int) < (rs.length : Int) := by omega
      have HLS := Lib.hid (lens_snoc pre r)
      clear hrow
      go_wp2_with fail
      refine (markI (N + 1 + pre.length) r.length r.length _ (k + (lens pre : Nat)) _ HR.out (by simp) hrr (by omega) (by omega)).mono ?_
      rintro e w2 ⟨rfl, hg2⟩
      have hon2 := Lib.hid (hon.grown (hi' := N + 1 + (pre.length + 1)) hg2 (by omega) (by omega) (by omega))
      clear hg2 hon
      go_wp2
      go_roundw
      case rel => exact ⟨pre ++ [r], suf, hcut.next, by simp, by rw [HLS.out]; push_cast; go_num, by rw [List.length_append]; exact hon2.out⟩
      case measure => simp [intOf]; omega

/-- Marks on persons that a call owns, nil or not. -/
theorem markPo (base T : Nat) (v : Value) (l : List Pn) (k : Int) (w : World) (h : OPpl w base T v l) (hl : l.length ≤ 1048576) (k0 : 0 ≤ k) (k1 : k ≤ 100000000) :
    Calls Try.prog 43 #[v, .int .i64 k] w fun e w' => e = .returned (.int .i64 (k + 4 * l.length)) ∧ OPpl w' base T v (mks k l.length) ∧ w.grownBy w' v.ownBlock := by
  rcases h.2 with ⟨rfl, h0⟩ | ⟨g, cap, cur, rfl, _⟩
  · have : l = [] := List.eq_nil_of_length_eq_zero h0
    subst this
    go_enter Try.func43, Try.ntmps43
    go_wp2
    go_loop [1, 5] (fun t i => t = .int .i64 k ∧ i = .int .i64 0) (fun _ _ => 0)
    case atStart => exact ⟨rfl, rfl⟩
    case round =>
      obtain ⟨rfl, rfl⟩ := hrel
      go_wp2
      go_ret
      exact ⟨ret_int (by simp), by simpa [mks] using h, World.grownBy.refl _ _⟩
  · exact markP base T g cap l k w h hl k0 k1
theorem own_of_blk {w : World} {g T base : Nat} {l : List Pn} (h : Blk w g T (l.flatMap Pn.vals)) (hb : base ≤ g) (hl : l.length ≤ 1048576) : OPpl w base T (.slice (some ⟨g, 0, none⟩) l.length l.length) l := by
  have hf : (l.flatMap Pn.vals).length = l.length * 4 := flat_len Pn.vals 4 Pn.vals_len l
  exact ⟨hf, .inr ⟨g, l.length, _, rfl, hb, h, Nat.le_refl _, by unfold maxLen; omega, by simpa using hf, by simpa using List.take_of_length_le (Nat.le_of_eq hf)⟩⟩
end Go.Proofs.Ytfpddhehdfckjaa
