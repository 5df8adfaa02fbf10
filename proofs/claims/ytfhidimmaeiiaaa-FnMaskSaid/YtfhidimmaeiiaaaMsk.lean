/- spec.l92Mask: a drawn mask, of the draw's own. -/
import Derived.Test.YtfhidimmaeiiaaaTab1
namespace Go.Proofs.Ytfhidimmaeiiaaa
open Go.RowKit
set_option linter.unusedSimpArgs false
attribute [local go_sem ↓] Go.wp_at_zero Go.wp_at_succ

theorem infoBo : (Try.prog.info? 4).map (fun i => (i.zero, i.size, i.bytes)) = some (some (.bool false), 1, 1) := by kernel_rfl
theorem infoBs : (Try.prog.info? 36).map (fun i => (i.zero, i.size, i.bytes)) = some (some (.slice none 0 0), 1, 24) := by kernel_rfl
theorem Rdr.app {w w' : World} {g N base : Nat} {row : Option Nat} {o : Obj} (h : Rdr w g N) (hg : (w.alloc o).grownBy w' row) (hb : ∀ k, row = some k → base ≤ k) (hgb : g < base) : Rdr w' g N := by
  have h1 : Rdr (w.alloc o) g N := h.below ((Below.refl _ _).alloc (Nat.le_refl _) o)
  exact h1.grown hg (fun e => by have := hb g e.symm; omega) (fun b e => by have := hb b e; omega)
/-- Since w: a mask drawn so far, the reader; nothing else has turned. -/
def MSt (w : World) (g N : Nat) (v : Value) (ns : List Nat) (wr : World) : Prop := VG Value.bool wr w.heap.size 4 36 v ns ∧ Rdr wr g N ∧ w.grownBy wr (some g)
section
variable {w wr w' : World} {g N N' : Nat} {v : Value} {ns : List Nat}
theorem MSt.pick (H : MSt w g N v ns wr) (hgb : g < w.heap.size) (hg : wr.grownBy w' (some g)) (hr : Rdr w' g N') : MSt w g N' v ns w' := ⟨H.1.pick hg hgb, hr, H.2.2.trans hg⟩
theorem MSt.below (H : MSt w g N v ns wr) (hb : Below wr.heap.size wr w') : MSt w g N v ns w' := ⟨H.1.below hb, H.2.1.below hb, H.2.2.trans (belGrown hb _)⟩
theorem MSt.mono (H : MSt w g N v ns wr) (hN : N ≤ N') : MSt w g N' v ns wr := ⟨H.1, H.2.1.mono hN, H.2.2⟩
/-- A row more. -/
theorem MSt.app {wp : World} {v' r : Value} {n : Nat} {s : List Bool} {hs : List Value} {o : Obj} (H : MSt w g N v ns wr) (hgb : g < w.heap.size) (hg : wr.grownBy wp (some g)) (hr : Rdr wp g N') (happ : VApp Value.bool wr.heap.size wp w.heap.size 4 36 v ns hs) (hs' : s.length = n) (ho : wp.ownsRow wr.heap.size 4 1 r n (s.map Value.bool))
    (hd : w'.ownsRow w.heap.size 36 1 v' (ns.length + 1) (hs ++ [r])) (hgr : (wp.alloc o).grownBy w' v.ownBlock) (hl : v'.ownBlock = v.ownBlock ∨ v'.ownBlock = some (wp.heap.size + 1)) : MSt w g N' v' (ns ++ [n]) w' := by
  have hb := H.1.base_le
  exact ⟨happ w' v' r n s o hs' ho hd hgr hl, hr.app hgr hb hgb, ((H.2.2.trans hg).trans (World.grownBy_alloc wp o _)).andThen hgr (fun k e => .inl (hb k e))⟩
end
/-- What a drawn mask is: few rows, short ones. -/
def DMk (g N : Nat) (w : World) (e : Ending) (w' : World) : Prop := ∃ v ns, e = .returned v ∧ (ns.length ≤ 5 ∧ ∀ n ∈ ns, n ≤ 4) ∧ MSt w g (N + 20) v ns w'
theorem le_snoc {ns : List Nat} {n m : Nat} (h : ∀ x ∈ ns, x ≤ m) (hn : n ≤ m) : ∀ x ∈ ns ++ [n], x ≤ m := fun x hx => by
  rcases List.mem_append.1 hx with h1 | h1
  · exact h x h1
  · rw [List.mem_singleton.1 h1]; exact hn

set_option maxRecDepth 100000 in
set_option maxHeartbeats 8000000 in
theorem specDMask (g N B0 : Nat) (tv : Value) (ns : List Nat) (w : World) (h : Rdr w g N) (hN : N ≤ 10000) (ht : VG (Value.int .i64) w B0 3 31 tv ns) (hgB : g < B0) (hn4 : ns.length ≤ 4) (hnn : ∀ n ∈ ns, n ≤ 4) :
    Calls Try.prog 21 #[.pointer (some ⟨g, 0, none⟩), tv] w (DMk g N w) := by
  obtain ⟨j0, hj, hy0, hy1, hy2⟩ := info_parts infoBs
  obtain ⟨k0, hk, hx0, hx1, hx2⟩ := info_parts infoBo
  have HGB := Lib.hid h.lt
  have HNN := Lib.hid hnn
  obtain ⟨tA, tc, rfl, hlc, hcm, hsh⟩ := ht.shape
  have HSH := Lib.hid hsh
  have HT := Lib.hid ht
  have HM0 : Hid (MSt w g N (.slice (some ⟨w.heap.size, 0, none⟩) 0 0) [] (w.alloc (.cells #[] 36))) := ⟨VG.empty _ w _ _, h.below ((Below.refl _ _).alloc (Nat.le_refl _) _), World.grownBy_alloc w _ _⟩
  clear h ht hsh hnn
  go_enter Try.func21, Try.ntmps21
  go_wp2_with fail
  refine (specPick g N 3 _ HM0.out.2.1 (by omega) (by omega)).mono ?_
  rintro e w1 ⟨z0, rfl, ⟨a0, a1, -⟩, hr1, hgr1, -⟩
  have a1 := a1 (by omega)
  have HM1 := Lib.hid (HM0.out.pick HGB.out hgr1 hr1)
  clear hr1 hgr1 HM0
  go_wp2
  go_loopw [5, 7] (fun v x wr => ∃ i ms, i ≤ ns.length ∧ x = .int .i64 (i : Nat) ∧ Hid (ms.length = i ∧ ∀ n ∈ ms, n ≤ 4) ∧ Hid (MSt w g (N + 1 + 4 * i) v ms wr)) (fun _ x _ => ns.length - (intOf x).toNat)
  case atStart => exact ⟨0, [], by omega, rfl, Lib.hid ⟨rfl, by simp⟩, HM1⟩
  case round =>
    clear HM1
    obtain ⟨i, ms, hin, rfl, HMS, HM⟩ := hrel
    obtain ⟨w0, hw0⟩ : ∃ w0, w0 = wr := ⟨_, rfl⟩
    subst hw0
    by_cases hlt : i < ns.length
    · obtain ⟨tg, rfl, htb, htl⟩ := HSH.out (by omega)
      obtain ⟨n, hni⟩ : ∃ n, ns[i]? = some n := ⟨_, List.getElem?_eq_getElem hlt⟩
      have hn44 : n ≤ 4 := HNN.out n (List.mem_of_getElem? hni)
      have HNI := Lib.hid hni
      have HTL := Lib.hid (show tg < w.heap.size ∧ B0 ≤ tg from ⟨htl, htb⟩)
      clear hni htb htl
      go_wp2
      go_loopw [8, 9] (fun rv y wr => ∃ j, ∃ s : List Bool, j ≤ n ∧ y = .int .i64 (j : Nat) ∧ Hid (s.length = j) ∧ Hid (wr.ownsRow w0.heap.size 4 1 rv j (s.map Value.bool)) ∧ Hid (Rdr wr g (N + 1 + 4 * i + j)) ∧ Hid (w0.grownBy wr (some g))) (fun _ y _ => n - (intOf y).toNat)
      case atStart => exact ⟨0, [], by omega, rfl, Lib.hid rfl, Lib.hid (ownBlkN (Blk.new w0 _ #[]) rfl (Nat.le_refl _) (by unfold maxLen; omega)), Lib.hid (HM.out.2.1.below ((Below.refl _ _).alloc (Nat.le_refl _) _)), Lib.hid (World.grownBy_alloc w0 _ _)⟩
      case round =>
        obtain ⟨j, s, hjn, rfl, HSL, HOW, HRD, HGR⟩ := hrel
        obtain ⟨rA, rc, hcell, hrl, hrm⟩ := (HT.out.pick (HM.out.2.2.trans HGR.out) hgB).len HNI.out
        have hgw0 : g < w0.heap.size := HM.out.2.1.lt
        have hws0 : w.heap.size ≤ w0.heap.size := HM.out.2.2.size
        have hws : w0.heap.size ≤ wr.heap.size := HGR.out.size
        by_cases hlt2 : j < n
        · go_wp2_with fail
          refine (specPick g (N + 1 + 4 * i + j) 3 _ HRD.out (by omega) (by omega)).mono ?_
          rintro e w3 ⟨z, rfl, -, hr3, hgr3, -⟩
          have hown3 : w3.ownsRow w0.heap.size 4 1 u8 j (s.map Value.bool) := own_holdB HOW.out (fun b hb hl => hgr3.block b hl (fun e => by have := own_base HOW.out b hb; simp at e; omega))
          have hws3 : w0.heap.size ≤ w3.heap.size := Nat.le_trans hws hgr3.size
          have HG3 := Lib.hid (HGR.out.trans hgr3)
          have HR3 := Lib.hid hr3
          clear hr3 hgr3 hcell HRD HGR hws
          go_wp2_with (at_builtin; go_must (refine wpList_append_own _ rfl _ _ 36 rfl w0.heap.size 4 k0 _ 1 1 Try.underlying36 hk hx0 hx1 hx2 rfl (by decide) _ _ _ rfl (World.ownsRow.alloc hown3 _) ⟨w3.heap.size, 0, none⟩ 1 1 [_] rfl rfl (cellN _ _ _ _ rfl) (by simp [Value.oneCell']) (by unfold maxLen; omega) (by omega) (by simp; omega) ?_))
          intro v' w5 hown' hgrow _
          have hob := own_base hown3
          have HG5 : Hid (w0.grownBy w5 (some g)) := (HG3.out.trans (World.grownBy_alloc w3 _ _)).andThen hgrow (fun k e => .inl (hob k e))
          have HR5 : Hid (Rdr w5 g (N + 1 + 4 * i + (j + 1))) := HR3.out.app hgrow hob hgw0
          obtain ⟨s', hl', ho'⟩ : ∃ s' : List Bool, s'.length = j + 1 ∧ w5.ownsRow w0.heap.size 4 1 v' (j + 1) (s'.map Value.bool) := ⟨s ++ [_], by rw [List.length_append, HSL.out]; rfl, by rw [List.map_append]; exact hown'⟩
          have HL' := Lib.hid hl'
          have HO' := Lib.hid ho'
          clear hl' ho' hown' hgrow hob HG3 HR3 hown3 hws3 HOW HSL
          go_wp2
          go_roundw
          case rel => exact ⟨j + 1, s', by omega, by go_num, HL', HO', HR5, HG5⟩
          case measure => simp [intOf]; omega
        · have hjn2 : j = n := by omega
          clear hlt2 hjn
          subst hjn2
          obtain ⟨A8, c8, rfl, -, -, -⟩ := own_rds HOW.out HSL.out
          obtain ⟨hs, hho, happ⟩ := HM.out.1.heads (w := wr) (fun b hb hl => HGR.out.block b hl (fun e => by have := HGB.out; simp at e; omega)) (Nat.le_refl _) hws hws0
          have hml : ms.length ≤ 4 := by have := HMS.out.1; omega
          have HAPP := Lib.hid happ
          clear happ
          go_wp2_with (at_builtin; go_must (refine wpList_append_own_at _ rfl _ _ 23 rfl w.heap.size 36 j0 _ 1 24 Try.underlying23 hj hy0 hy1 hy2 rfl (by decide) _ _ _ rfl (World.ownsRow.alloc hho _) ⟨wr.heap.size, 0, none⟩ 1 1 [_] rfl rfl (cellN _ _ _ _ rfl) (by simp [Value.oneCell']) (by unfold maxLen; omega) (by omega) (by simp; omega) ?_))
          intro v' w5 hown' hgrow _ hloc
          have HM5 : Hid (MSt w g (N + 1 + 4 * (i + 1)) v' (ms ++ [j]) w5) := (MSt.app HM.out HGB.out HGR.out HRD.out HAPP.out HSL.out HOW.out hown' hgrow (by simpa using hloc)).mono (by omega)
          clear hown' hgrow hloc hho HAPP HM HGR HRD HOW hcell
          go_wp2
          go_roundw
          case rel => exact ⟨i + 1, ms ++ [j], by omega, by go_num, Lib.hid ⟨by rw [List.length_append, HMS.out.1]; rfl, le_snoc HMS.out.2 hn44⟩, HM5⟩
          case measure => simp [intOf]; omega
    · have hie : ¬ (i < ns.length) := hlt
      have HI := Lib.hid (show i ≤ 4 by omega)
      go_wp2_with fail
      refine (specPick g (N + 1 + 4 * i) 30 _ HM.out.2.1 (by omega) (by omega)).mono ?_
      rintro e w2 ⟨z, rfl, -, hr2, hgr2, -⟩
      have HM2 := Lib.hid ((HM.out.pick HGB.out hgr2 hr2).mono (show N + 1 + 4 * i + 1 ≤ N + 20 by omega))
      clear hr2 hgr2 HM
      have HML := Lib.hid (show ms.length ≤ 4 by have := HMS.out.1; omega)
      by_cases hz0 : z = 0
      · subst hz0
        obtain ⟨hs, hho, happ⟩ := HM2.out.1.heads (w := w2.alloc (.cells #[.bool true] 4)) (fun b hb hl => Below.heap_alloc w2 _ b hl) (Nat.le_refl _) (by simp) HM2.out.2.2.size
        have hws2 := HM2.out.2.2.size
        have hml := HML.out
        have HAPP := Lib.hid happ
        clear happ
        go_wp2_with (at_builtin; go_must (refine wpList_append_own_at _ rfl _ _ 23 rfl w.heap.size 36 j0 _ 1 24 Try.underlying23 hj hy0 hy1 hy2 rfl (by decide) _ _ _ rfl (World.ownsRow.alloc hho _) ⟨w2.heap.size + 1, 0, none⟩ 1 1 [_] rfl rfl (cellN _ _ _ _ (by simp)) (by simp [Value.oneCell']) (by unfold maxLen; omega) (by omega) (by simp; omega) ?_))
        intro v' w5 hown' hgrow _ hloc
        have HM5 : Hid (MSt w g (N + 20) v' (ms ++ [1]) w5) := MSt.app (s := [true]) HM2.out HGB.out (World.grownBy_alloc w2 _ _) (HM2.out.2.1.below ((Below.refl _ _).alloc (Nat.le_refl _) _)) HAPP.out rfl (ownBlkN (Blk.new w2 _ _) rfl (Nat.le_refl _) (by unfold maxLen; omega)) hown' hgrow (by simpa using hloc)
        clear hown' hgrow hloc hho HAPP HM2
        go_wp2
        go_ret
        exact ⟨_, ms ++ [1], rfl, ⟨by simp; have := HML.out; omega, le_snoc HMS.out.2 (by omega)⟩, HM5.out⟩
      have hz0b : (z == 0) = false := by simp [hz0]
      clear hz0
      go_wp2
      go_ret
      exact ⟨_, ms, rfl, ⟨by have := HML.out; omega, HMS.out.2⟩, HM2.out⟩
end Go.Proofs.Ytfhidimmaeiiaaa
