/- laws.copyMask: rows that lie in memory, copied into a grid of the call's own. -/
import Derived.Test.YtfhidimmaeiiaaaMsk
namespace Go.Proofs.Ytfhidimmaeiiaaa
open Go.RowKit
set_option linter.unusedSimpArgs false

theorem newsCopyB {w w' : World} {B b off n : Nat} {xs : List Value} (h : Rds w B 1 (some ⟨b, off, none⟩) n xs) (hk : ∀ b o, b < B → w'.cell? ⟨b, o, none⟩ = w.cell? ⟨b, o, none⟩) : ∀ j u, xs[j]? = some u → w'.cell? ((⟨b, off, none⟩ : Addr).add j) = some u := by
  intro j u hu
  obtain ⟨b2, off2, e, hb, hc⟩ := h.at_ hu
  simp only [Option.some.injEq, Addr.mk.injEq, and_true] at e
  obtain ⟨rfl, rfl⟩ := e
  have : (⟨b, off, none⟩ : Addr).add j = ⟨b, off + j, none⟩ := by
    unfold Addr.add
    split
    · rename_i e; subst e; rfl
    · rfl
  rw [this, hk _ _ hb]
  exact hc

set_option maxRecDepth 100000 in
set_option maxHeartbeats 4000000 in
theorem lawCopyB (A : Option Addr) (c : Nat) (L : List (List Bool)) (w : World) (hg : Grd w w.heap.size A (L.map (·.map Value.bool))) (hn : L.length ≤ 1000) (hl : ∀ r ∈ L, 1 ≤ r.length ∧ r.length ≤ 1000) :
    Calls Try.prog 16 #[.slice A L.length c] w fun e w' => ∃ v, e = .returned v ∧ VG Value.bool w' w.heap.size 4 36 v (L.map List.length) ∧ Below w.heap.size w w' := by
  obtain ⟨j0, hj, hy0, hy1, hy2⟩ := info_parts infoBs
  obtain ⟨k0, hk, hx0, hx1, hx2⟩ := info_parts infoBo
  have HL := Lib.hid hl
  have HG := Lib.hid hg
  have HD0 := Lib.hid (VG.empty Value.bool w 4 36)
  have HB0 := Lib.hid (((Below.refl _ _).alloc (Nat.le_refl _) _) : Below w.heap.size w (w.alloc (.cells #[] 36)))
  clear hl hg
  go_enter Try.func16, Try.ntmps16
  go_wp2
  go_loopw [3, 4] (fun v x wr => ∃ pre suf, Cut L pre suf ∧ x = .int .i64 pre.length ∧ Hid (VG Value.bool wr w.heap.size 4 36 v (pre.map List.length)) ∧ Hid (Below w.heap.size w wr)) (fun _ x _ => L.length - (intOf x).toNat)
  case atStart => exact ⟨[], L, Cut.zero _, rfl, HD0, HB0⟩
  case round =>
    clear HD0 HB0
    obtain ⟨pre, suf, hcut, rfl, HD, HB⟩ := hrel
    cases suf with
    | nil =>
      have hge := hcut.len0
      have HDN := Lib.hid hcut.done
      go_wp2
      go_ret
      exact ⟨_, rfl, by rw [← HDN.out]; exact HD.out, HB.out⟩
    | cons r suf =>
      have hlt := hcut.len1
      obtain ⟨hr1, hr2⟩ := HL.out r hcut.mem
      obtain ⟨b, off, A', c', rfl, hb, hc, hlc, hcm, hr⟩ := HG.out.at_ (hcut.map_at (fun r => r.map Value.bool))
      simp only [List.length_map] at hc hlc hr
      unfold maxLen at hcm
      obtain ⟨b2, off2, rfl, hb2, -⟩ := hr.2 (by omega)
      have hws : w.heap.size ≤ wr.heap.size := HB.out.size
      have hcr := (HB.out.cell (p := ⟨b, off + pre.length, none⟩) hb).trans hc
      have hcr2 : (wr.alloc (.cells #[] 4)).cell? ⟨b, off + pre.length, none⟩ = _ := ((HB.out.alloc hws _).cell (p := ⟨b, off + pre.length, none⟩) hb).trans hc
      have hnews := newsCopyB (w' := wr.alloc (.cells #[] 4)) hr (fun b o hb => (HB.out.alloc hws _).cell (p := ⟨b, o, none⟩) hb)
      have HNW := Lib.hid hnews
      have hown0 : (wr.alloc (.cells #[] 4)).ownsRow wr.heap.size 4 1 (.slice (some ⟨wr.heap.size, 0, none⟩) 0 0) 0 [] := ownBlkN (Blk.new wr _ #[]) rfl (Nat.le_refl _) (by unfold maxLen; omega)
      have hm1 : pre.length ≤ 1000 := by omega
      clear hnews hr hc hb2 hb
      go_wp2_with (at_builtin; go_must (refine wpList_append_own _ rfl _ _ 36 rfl wr.heap.size 4 k0 _ 1 1 Try.underlying36 hk hx0 hx1 hx2 rfl (by decide) _ _ _ rfl hown0 ⟨b2, off2, none⟩ r.length c' (r.map Value.bool) rfl (by simp) HNW.out (fun u hu => by obtain ⟨x, _, rfl⟩ := List.mem_map.1 hu; rfl) (by unfold maxLen; omega) (by omega) (by simp) ?_))
      intro v1 w1 hown1 hgr1 _
      obtain ⟨A1, c1, rfl, -, -, -⟩ := own_rds hown1 rfl
      have hg1 : ∀ q, q < wr.heap.size → w1.heap[q]? = wr.heap[q]? := fun q hq => (hgr1.block q (by simp; omega) (fun e => by simp [Value.ownBlock] at e; omega)).trans (Below.heap_alloc wr _ q hq)
      have hs1 : wr.heap.size ≤ w1.heap.size := by have := hgr1.size; simp at this; omega
      obtain ⟨hs, hho, happ⟩ := HD.out.heads (w := w1) (fun q _ hq => hg1 q hq) (Nat.le_refl _) hs1 hws
      rw [List.length_map] at hho
      have HB1 : Hid (Below w.heap.size w w1) := (HB.out.alloc hws _).grown hgr1 (by simp; omega) (fun q e => by simp [Value.ownBlock] at e; omega)
      have HAPP := Lib.hid happ
      have HOW1 := Lib.hid hown1
      have HVB := Lib.hid HD.out.base_le
      clear happ hown1 hgr1 hg1 hown0 HNW HB HD
      go_wp2_with (at_builtin; go_must (refine wpList_append_own_at _ rfl _ _ 23 rfl w.heap.size 36 j0 _ 1 24 Try.underlying23 hj hy0 hy1 hy2 rfl (by decide) _ _ _ rfl (World.ownsRow.alloc hho _) ⟨w1.heap.size, 0, none⟩ 1 1 [_] rfl rfl (cellN _ _ _ _ rfl) (by simp [Value.oneCell']) (by unfold maxLen; omega) (by omega) (by simp; omega) ?_))
      intro v' w5 hown' hgrow _ hloc
      have HD5 : Hid (VG Value.bool w5 w.heap.size 4 36 v' ((pre ++ [r]).map List.length)) := by
        rw [List.map_append]
        exact HAPP.out w5 v' _ r.length r _ rfl HOW1.out (by rw [List.length_map]; exact hown') hgrow (by simpa using hloc)
      have HB5 : Hid (Below w.heap.size w w5) := (HB1.out.alloc HB1.out.size _).grown hgrow (by have := HB1.out.size; simp; omega) HVB.out
      clear hown' hgrow hloc hho HAPP HOW1 HB1 HVB
      go_wp2
      go_roundw
      case rel => exact ⟨pre ++ [r], suf, hcut.next, by simp, HD5, HB5⟩
      case measure => simp [intOf]; omega
end Go.Proofs.Ytfhidimmaeiiaaa
