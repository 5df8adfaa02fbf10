/- The helpers of the exact laws over people and recodings: the size left, the copy in new memory, the comparison. -/
import Derived.Test.YtfpddhehdfckjaaRecode
import Derived.Deep.RegionHeld3
import Derived.Deep.DrawnRows
namespace Go.Proofs.Ytfpddhehdfckjaa
open Go.RowKit
attribute [local go_sem ↓] Go.wp_at_zero Go.wp_at_succ

namespace SzPpl
theorem szS (A : Option Addr) (n c : Nat) (left : Int) (w : World) (h0 : 0 ≤ left) (h1 : left ≤ 2000000) (hn : n ≤ 9223372036854775807) :
    Calls Try.prog 37 #[.slice A n c, .int .i64 left] w fun e w' => e = .returned (.int .i64 (szR left n)) ∧ w = w' := by
  by_cases h : (n : Int) ≤ left
  · go_enter Try.func37, Try.ntmps37
    go_wp2
    go_ret
    exact ⟨ret_int (szR_yes h).symm, rfl⟩
  · have h' : left - (n : Int) < 0 := by omega
    go_enter Try.func37, Try.ntmps37
    go_wp2
    go_ret
    exact ⟨ret_int (szR_no (by omega)).symm, rfl⟩

theorem toRec (r : Rc) (w : World) : Calls Try.prog 40 #[r.val] w fun e w' => e = .returned r.val ∧ Below w.heap.size w w' := by
  obtain ⟨a, j, s⟩ := r
  unfold Rc.val
  dsimp only
  go_enter Try.func40, Try.ntmps40
  go_wp2
  refine bodyPost_ret ?_ rfl ⟨rfl, ((((Below.refl _ _).alloc (Nat.le_refl _) _).alloc (by simp <;> omega) _).alloc (by simp <;> omega) _)⟩
  simp [results, Try.results40, go_sem]

theorem toP (p : Pn) (w : World) : Calls Try.prog 68 #[p.val] w fun e w' => e = .returned p.val ∧ Below w.heap.size w w' := by
  obtain ⟨a, j, s, y⟩ := p
  unfold Pn.val
  dsimp only
  go_enter Try.func68, Try.ntmps68
  go_wp2
  refine bodyPost_ret ?_ rfl ⟨rfl, ((((Below.refl _ _).alloc (Nat.le_refl _) _).alloc (by simp <;> omega) _).alloc (by simp <;> omega) _)⟩
  simp [results, Try.results68, go_sem]

theorem eqP (p : Pn) (w : World) : Calls Try.prog 71 #[p.val, p.val] w fun e w' => e = .returned (.bool true) ∧ Below w.heap.size w w' := by
  obtain ⟨a, j, s, y⟩ := p
  unfold Pn.val
  dsimp only
  go_enter Try.func71, Try.ntmps71
  go_wp2
  go_ret
  exact ⟨rfl, (((Below.refl _ _).alloc (Nat.le_refl _) _).alloc (by simp <;> omega) _)⟩

theorem blk_of_own {w : World} {base e g n : Nat} {xs : List Value} (h : w.ownsRow base e 4 (.slice (some ⟨g, 0, none⟩) n n) n xs) : Blk w g e xs := by
  rcases h.2 with ⟨h1, _⟩ | ⟨g', cap, cur, h1, _, h3, h4, h5, h6, h7⟩
  · simp at h1
  · simp at h1
    obtain ⟨rfl, rfl⟩ := h1
    unfold Blk
    rw [h3, ← h7]
    congr 2
    rw [List.take_of_length_le (by simp [h6])]
theorem made4 (n : Nat) : (madeCells #[.int .i64 0, .int .i64 0, .int .i64 0, .int .i64 0] (n * 4)).toList = List.replicate (n * 4) (.int .i64 0) := by
  apply List.ext_getElem?
  intro i
  by_cases hi : i < n * 4
  · have : i % 4 = 0 ∨ i % 4 = 1 ∨ i % 4 = 2 ∨ i % 4 = 3 := by omega
    rcases this with h | h | h | h <;> simp [madeCells, hi, h]
  · simp [madeCells, hi]
theorem filled4 (f : List Value) (n : Nat) (z a b c d : Value) (h : f.length + 4 ≤ n) : ((((filled f n z).set f.length a).set (f.length + 1) b).set (f.length + 2) c).set (f.length + 3) d = filled (f ++ [a, b, c, d]) n z := by
  rw [filled_next f n z a (by omega)]
  have e1 : f.length + 1 = (f ++ [a]).length := by simp
  rw [e1, filled_next _ n z b (by simp; omega)]
  have e2 : f.length + 2 = (f ++ [a] ++ [b]).length := by simp
  rw [e2, filled_next _ n z c (by simp; omega)]
  have e3 : f.length + 3 = (f ++ [a] ++ [b] ++ [c]).length := by simp
  rw [e3, filled_next _ n z d (by simp; omega)]
  simp
theorem filled_in (f : List Value) (n i : Nat) (z : Value) (h : f.length ≤ i) (hi : i < n) : (filled f n z)[i]? = some z := by
  unfold filled
  rw [List.getElem?_append_right h, List.getElem?_replicate, if_pos (by omega)]

set_option maxRecDepth 100000 in
set_option maxHeartbeats 1000000 in
theorem toS (A : Option Addr) (c : Nat) (l : List Pn) (w : World) (hg : Ppl w w.heap.size A l) (hn : l.length ≤ 2000000) :
    Calls Try.prog 39 #[.slice A l.length c] w fun e w' => e = .returned (.slice (some ⟨w.heap.size, 0, none⟩) l.length l.length) ∧ Blk w' w.heap.size 82 (l.flatMap Pn.vals) ∧ Below w.heap.size w w' := by
  obtain ⟨i0, hi, hz0, hz1, hz2⟩ := info_parts infoP
  go_enter Try.func39, Try.ntmps39
  go_wp2_with (at_make; refine wpList_make_full _ rfl _ _ 40 rfl w.heap.size 82 i0 _ 4 Try.underlying40 hi hz0 hz1 .i64 .i64 _ _ l.length rfl rfl rfl rfl (by rw [hz2]; omega) (by unfold maxLen; omega) (Nat.le_refl _) ?_)
  intro w0 hown0 hg0
  have hblk0 := blk_of_own hown0
  rw [made4] at hblk0
  have hbel0 : Below w.heap.size w w0 := (Below.refl _ _).grown hg0 (Nat.le_refl _) (fun k e => by cases e)
  clear hown0 hg0
  go_wp2
  go_loopw [4] (fun i wr => ∃ pre suf, Cut l pre suf ∧ i = .int .i64 pre.length ∧ Blk wr w.heap.size 82 (filled (pre.flatMap Pn.vals) (l.length * 4) (.int .i64 0)) ∧ Below w.heap.size w wr) (fun i _ => l.length - (intOf i).toNat)
  case atStart => exact ⟨[], l, Cut.zero _, rfl, by rw [List.flatMap_nil, filled_zero]; exact hblk0, hbel0⟩
  case round =>
    obtain ⟨pre, suf, hcut, rfl, hblk, hbel⟩ := hrel
    cases suf with
    | nil =>
      have hge := hcut.len0
      go_wp2
      go_ret
      rw [filled_full _ _ _ (by rw [hcut.done, flat_len Pn.vals 4 Pn.vals_len]), hcut.done] at hblk
      exact ⟨rfl, hblk, hbel⟩
    | cons p suf =>
      have hlt := hcut.len1
      obtain ⟨b, off, rfl, hb, hc0, hc1, hc2, hc3⟩ := (Ppl.below hg hbel).at_ hcut.at_
      have hbs := hbel.size
      go_wp2_with fail
      refine (toP p _).mono ?_
      rintro e w1 ⟨rfl, hb1⟩
      have hblk1 := hblk.below hb1 hblk.lt
      have hfl : (pre.flatMap Pn.vals).length = pre.length * 4 := flat_len Pn.vals 4 Pn.vals_len pre
      have hd0 := (hblk1.cell (pre.length * 4)).trans (filled_in _ _ _ _ (by omega) (by omega))
      have hd1 := (hblk1.cell (pre.length * 4 + 1)).trans (filled_in _ _ _ _ (by omega) (by omega))
      have hd2 := (hblk1.cell (pre.length * 4 + 2)).trans (filled_in _ _ _ _ (by omega) (by omega))
      have hd3 := (hblk1.cell (pre.length * 4 + 3)).trans (filled_in _ _ _ _ (by omega) (by omega))
      have hf0 := hblk1.frozen (pre.length * 4)
      have hf1 := hblk1.frozen (pre.length * 4 + 1)
      have hf2 := hblk1.frozen (pre.length * 4 + 2)
      have hf3 := hblk1.frozen (pre.length * 4 + 3)
      have HFL := Lib.hid hfl
      clear hfl
      have hb2 := hbel.trans (hb1.mono hbs)
      clear hb1 hblk hc0 hc1 hc2 hc3
      go_wp2
      go_roundw
      case rel =>
        refine ⟨pre ++ [p], suf, hcut.next, by simp, ?_, (((hb2.setCell (p := ⟨w.heap.size, _, none⟩) (Nat.le_refl _) _).setCell (p := ⟨w.heap.size, _, none⟩) (Nat.le_refl _) _).setCell (p := ⟨w.heap.size, _, none⟩) (Nat.le_refl _) _).setCell (p := ⟨w.heap.size, _, none⟩) (Nat.le_refl _) _⟩
        have e := filled4 (pre.flatMap Pn.vals) (l.length * 4) (.int .i64 0) (.int .i64 p.a) (.int .i64 p.j) (.int .i64 p.s) (.int .i64 p.p) (by rw [HFL.out]; omega)
        rw [HFL.out] at e
        have e2 : (pre ++ [p]).flatMap Pn.vals = pre.flatMap Pn.vals ++ [.int .i64 p.a, .int .i64 p.j, .int .i64 p.s, .int .i64 p.p] := by rw [List.flatMap_append]; simp [Pn.vals]
        rw [e2, ← e]
        exact (((hblk1.set _ _).set _ _).set _ _).set _ _
      case measure => simp [intOf]; omega

theorem ppl_of_blk {w : World} {B g T : Nat} {l : List Pn} (h : Blk w g T (l.flatMap Pn.vals)) (hB : g < B) : Ppl w B (some ⟨g, 0, none⟩) l :=
  ⟨flat_len Pn.vals 4 Pn.vals_len l, fun _ => ⟨g, 0, rfl, hB, fun j u hu => by rw [Nat.zero_add, h.cell, hu]⟩⟩

set_option maxHeartbeats 1000000 in
theorem eqS (A A2 : Option Addr) (c c2 : Nat) (l : List Pn) (w : World) (hg : Ppl w w.heap.size A l) (hg2 : Ppl w w.heap.size A2 l) (hn : l.length ≤ 2000000) :
    Calls Try.prog 42 #[.slice A l.length c, .slice A2 l.length c2] w fun e w' => e = .returned (.bool true) ∧ Below w.heap.size w w' := by
  go_enter Try.func42, Try.ntmps42
  go_wp2
  go_loopw [5] (fun i wr => ∃ pre suf, Cut l pre suf ∧ i = .int .i64 pre.length ∧ Below w.heap.size w wr) (fun i _ => l.length - (intOf i).toNat)
  case atStart => exact ⟨[], l, Cut.zero _, rfl, Below.refl _ _⟩
  case round =>
    obtain ⟨pre, suf, hcut, rfl, hbel⟩ := hrel
    cases suf with
    | nil =>
      have hge := hcut.len0
      go_wp2
      go_ret
      exact ⟨rfl, hbel⟩
    | cons q suf =>
      have hlt := hcut.len1
      have hbs := hbel.size
      obtain ⟨b, off, rfl, hb, hc0, hc1, hc2, hc3⟩ := (hg.below hbel).at_ hcut.at_
      obtain ⟨b2, off2, rfl, hb2, hd0, hd1, hd2, hd3⟩ := (hg2.below hbel).at_ hcut.at_
      have hbb : b < wr.heap.size := by omega
      have hbb2 : b2 < wr.heap.size := by omega
      have hj0 : (0 : Int) ≤ (pre.length : Int) := Int.natCast_nonneg _
      have hj1 : (pre.length : Int) < (l.length : Int) := by omega
      have HBEL := Lib.hid hbel
      clear hbel
      go_wp2_with fail
      go_region_held3 (fun w' => w'.cell? ⟨b, off + pre.length * 4, none⟩ = some (.int .i64 q.a) ∧ w'.cell? ⟨b, off + pre.length * 4 + 1, none⟩ = some (.int .i64 q.j) ∧ w'.cell? ⟨b, off + pre.length * 4 + 2, none⟩ = some (.int .i64 q.s) ∧ w'.cell? ⟨b, off + pre.length * 4 + 3, none⟩ = some (.int .i64 q.p) ∧ w'.cell? ⟨b2, off2 + pre.length * 4, none⟩ = some (.int .i64 q.a) ∧ w'.cell? ⟨b2, off2 + pre.length * 4 + 1, none⟩ = some (.int .i64 q.j) ∧ w'.cell? ⟨b2, off2 + pre.length * 4 + 2, none⟩ = some (.int .i64 q.s) ∧ w'.cell? ⟨b2, off2 + pre.length * 4 + 3, none⟩ = some (.int .i64 q.p))
        (go_keep)
        (first
          | (go_at_call 71; refine (eqP q _).mono ?_; rintro e w3 ⟨rfl, hb3⟩; have hcell : ∀ x o, x < wr.heap.size → w3.cell? ⟨x, o, none⟩ = wr.cell? ⟨x, o, none⟩ := fun x o hx => hb3.cell (p := ⟨x, o, none⟩) hx; have HB3 : Hid (Below wr.heap.size wr w3) := (Below.refl wr.heap.size wr).drew.trans hb3; clear hb3)
          | fail)
      have hbel3 := HBEL.out.trans (HB3.out.mono hbs)
      clear hcell hc0 hc1 hc2 hc3 hd0 hd1 hd2 hd3
      go_wp2
      go_roundw
      case rel => exact ⟨pre ++ [q], suf, hcut.next, by simp, hbel3⟩
      case measure => simp [intOf]; omega
end SzPpl
end Go.Proofs.Ytfpddhehdfckjaa
