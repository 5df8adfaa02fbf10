/- spec.l11Blank: a table of zeros, of its own. -/
import Derived.Test.YtfhidimmaeiiaaaVGr
import Derived.Test.YtfhidimmaeiiaaaPick
import Derived.OwnWalk
import Derived.Deep.DeepMust
namespace Go.Proofs.Ytfhidimmaeiiaaa
open Go.RowKit
set_option linter.unusedSimpArgs false

theorem infoIn : (Try.prog.info? 3).map (fun i => (i.zero, i.size, i.bytes)) = some (some (.int .i64 0), 1, 8) := by kernel_rfl
theorem infoIs : (Try.prog.info? 31).map (fun i => (i.zero, i.size, i.bytes)) = some (some (.slice none 0 0), 1, 24) := by kernel_rfl
theorem cellN (w : World) (u : Value) (T n : Nat) (hn : w.heap.size = n) : ∀ j x, [u][j]? = some x → (w.alloc (.cells #[u] T)).cell? ((⟨n, 0, none⟩ : Addr).add j) = some x := by
  subst hn
  intro j x hx
  have hj : j = 0 := by have := (List.getElem?_eq_some_iff.1 hx).1; simp at this; omega
  subst hj
  have h := (Blk.new w T #[u]).cell 0
  simp at hx
  subst hx
  exact h
theorem ownBlkN {w : World} {base g t n : Nat} {xs : List Value} (h : Blk w g t xs) (hn : xs.length = n) (hb : base ≤ g) (hm : n ≤ maxLen) : w.ownsRow base t 1 (.slice (some ⟨g, 0, none⟩) n n) n xs :=
  ⟨by omega, .inr ⟨g, n, xs.toArray, rfl, hb, h, Nat.le_refl _, hm, by simp [hn], by simp; exact List.take_of_length_le (by omega)⟩⟩

set_option maxRecDepth 100000 in
set_option maxHeartbeats 4000000 in
theorem specBlank (h m : Nat) (w : World) (hh : h ≤ 10) (hm : m ≤ 10) : Calls Try.prog 22 #[.int .i64 h, .int .i64 m] w fun e w' => ∃ v, e = .returned v ∧ VG (Value.int .i64) w' w.heap.size 3 31 v (List.replicate h m) ∧ Below w.heap.size w w' := by
  obtain ⟨j0, hj, hy0, hy1, hy2⟩ := info_parts infoIs
  obtain ⟨i0, hi, hz0, hz1, hz2⟩ := info_parts infoIn
  have HD0 := Lib.hid (VG.empty (Value.int .i64) w 3 31)
  have HB0 := Lib.hid (((Below.refl _ _).alloc (Nat.le_refl _) _) : Below w.heap.size w (w.alloc (.cells #[] 31)))
  go_enter Try.func22, Try.ntmps22
  go_wp2
  go_loopw [5, 6] (fun v x wr => ∃ i, i ≤ h ∧ x = .int .i64 (i : Nat) ∧ Hid (VG (Value.int .i64) wr w.heap.size 3 31 v (List.replicate i m)) ∧ Hid (Below w.heap.size w wr)) (fun _ x _ => h - (intOf x).toNat)
  case atStart => exact ⟨0, by omega, rfl, HD0, HB0⟩
  case round =>
    clear HD0 HB0
    obtain ⟨i, hin, rfl, HD, HB⟩ := hrel
    by_cases hlt : i < h
    · have hws : w.heap.size ≤ wr.heap.size := HB.out.size
      have hrow : (wr.alloc (.cells (madeCells #[.int .i64 0] m) 3)).ownsRow wr.heap.size 3 1 (.slice (some ⟨wr.heap.size, 0, none⟩) m m) m ((List.replicate m (0 : Int)).map (Value.int .i64)) := by
        rw [List.map_replicate]
        exact ownBlkN (Blk.made wr (.int .i64 0) m 3) (by simp) (Nat.le_refl _) (by unfold maxLen; omega)
      obtain ⟨hs, hho, happ⟩ := HD.out.heads (w := wr.alloc (.cells (madeCells #[.int .i64 0] m) 3)) (fun b _ hl => Below.heap_alloc wr _ b hl) (Nat.le_refl _) (by simp) hws
      rw [List.length_replicate] at hho
      have HAPP := Lib.hid happ
      have HROW := Lib.hid hrow
      clear happ hrow
      go_wp2_with (first | (at_make; refine wpList_make_row _ rfl _ _ 31 rfl 3 i0 (.int .i64 0) Try.underlying31 hi hz0 hz1 rfl _ _ m rfl rfl (by rw [hz2]; omega) (by omega) ?_) | (at_builtin; go_must (refine wpList_append_own_at _ rfl _ _ 27 rfl w.heap.size 31 j0 _ 1 24 Try.underlying27 hj hy0 hy1 hy2 rfl (by decide) _ _ _ rfl (World.ownsRow.alloc hho _) ⟨wr.heap.size + 1, 0, none⟩ 1 1 [_] rfl rfl (cellN _ _ _ _ (by simp)) (by simp [Value.oneCell']) (by unfold maxLen; omega) (by omega) (by simp; omega) ?_)))
      intro v' w5 hown' hgrow _ hloc
      have HD5 : Hid (VG (Value.int .i64) w5 w.heap.size 3 31 v' (List.replicate (i + 1) m)) := by
        rw [List.replicate_succ']
        exact HAPP.out w5 v' _ m (List.replicate m 0) _ (by simp) HROW.out (by rw [List.length_replicate]; exact hown') hgrow (by simpa using hloc)
      have HB5 : Hid (Below w.heap.size w w5) := ((HB.out.alloc hws _).alloc (by simp; omega) _).grown hgrow (by simp; omega) HD.out.base_le
      clear hown' hgrow hloc hho HAPP HROW HD HB
      go_wp2
      go_roundw
      case rel => exact ⟨i + 1, by omega, by go_num, HD5, HB5⟩
      case measure => simp [intOf]; omega
    · have hie : i = h := by omega
      subst hie
      go_wp2
      go_ret
      exact ⟨_, rfl, HD.out, HB.out⟩
end Go.Proofs.Ytfhidimmaeiiaaa
