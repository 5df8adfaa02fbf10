/- Drawn ladders, recodings, and all three. -/
import Derived.Test.YtfpddhehdfckjaaMerge
import Derived.Test.YtfpddhehdfckjaaDraw2
namespace Go.Proofs.Ytfpddhehdfckjaa
open Go.RowKit
attribute [local go_sem ↓] Go.wp_at_zero Go.wp_at_succ

theorem bel_grown {w w' : World} (h : Below w.heap.size w w') (row : Option Nat) : w.grownBy w' row := ⟨h.os, h.tape, h.output, h.size, fun k hk _ => h.block k hk⟩

/-- Since w: a ladder drawn so far, the reader; nothing else has turned. -/
def LSt (w : World) (g N : Nat) (v : Value) (L : List (List Int)) (wr : World) : Prop := OGr wr w.heap.size 33 v L ∧ Rdr wr g N ∧ w.grownBy wr (some g) ∧ ∀ s ∈ L, s.length ≤ 4
theorem LSt.pick {w wr w' : World} {g N N' : Nat} {v : Value} {L : List (List Int)} (h : LSt w g N v L wr) (hgb : g < w.heap.size) (hg : wr.grownBy w' (some g)) (hr : Rdr w' g N') : LSt w g N' v L w' :=
  ⟨h.1.pick hg hgb, hr, h.2.2.1.trans hg, h.2.2.2⟩
theorem LSt.below {w wr w' : World} {g N : Nat} {v : Value} {L : List (List Int)} (h : LSt w g N v L wr) (hb : Below wr.heap.size wr w') : LSt w g N v L w' :=
  ⟨h.1.below hb, h.2.1.below hb, h.2.2.1.trans (bel_grown hb _), h.2.2.2⟩
theorem LSt.mono {w wr : World} {g N N' : Nat} {v : Value} {L : List (List Int)} (h : LSt w g N v L wr) (hN : N ≤ N') : LSt w g N' v L wr := ⟨h.1, h.2.1.mono hN, h.2.2⟩
theorem LSt.arg {w wr : World} {g N : Nat} {v : Value} {L : List (List Int)} (h : LSt w g N v L wr) : ∃ A c, v = .slice A L.length c ∧ Grd wr wr.heap.size A (grid L) ∧ L.length ≤ c ∧ c ≤ 9223372036854775807 ∧ ∀ s ∈ L, s.length ≤ 2000000 := by
  obtain ⟨A, c, h1, h2, h3, h4⟩ := h.1.form
  exact ⟨A, c, h1, h2, h3, h4, fun s hs => by have := h.2.2.2 s hs; omega⟩
def DLd (g N : Nat) (w : World) (e : Ending) (w' : World) : Prop := ∃ v L, e = .returned v ∧ L.length ≤ 4 ∧ LSt w g (N + 8) v L w'
theorem ownBlk {w : World} {base g t n : Nat} {xs : List Value} (h : Blk w g t xs) (hn : xs.length = n) (hb : base ≤ g) (hm : n ≤ maxLen) : w.ownsRow base t 1 (.slice (some ⟨g, 0, none⟩) n n) n xs :=
  ⟨by omega, .inr ⟨g, n, xs.toArray, rfl, hb, h, Nat.le_refl _, hm, by simp [hn], by simp; exact List.take_of_length_le (by omega)⟩⟩
/-- A drawn ladder with one row of numbers more, laid anew. -/
theorem LSt.app {w wr w5 : World} {g N g1 : Nat} {v v' : Value} {L : List (List Int)} {s : List Int} {hs : List Value} {o : Obj} (h : LSt w g N v L wr) (happ : AppOk wr w.heap.size 33 v L hs) (hrow : RowAt wr w.heap.size v (.slice (some ⟨g1, 0, none⟩) s.length s.length) s) (hs4 : s.length ≤ 4) (hgb : g < w.heap.size)
    (ho : w5.ownsRow w.heap.size 33 1 v' (L.length + 1) (hs ++ [.slice (some ⟨g1, 0, none⟩) s.length s.length])) (hg : (wr.alloc o).grownBy w5 v.ownBlock) (hl : v'.ownBlock = v.ownBlock ∨ v'.ownBlock = some (wr.heap.size + 1)) : LSt w g N v' (L ++ [s]) w5 := by
  have hb := h.1.base_le
  refine ⟨happ w5 v' _ s o hrow ho hg hl, ?_, (h.2.2.1.trans (World.grownBy_alloc wr o _)).andThen hg (fun j e => .inl (hb j e)), ?_⟩
  · have h1 := h.2.1.grown (World.grownBy_alloc wr o none) (by simp) (fun _ e => by cases e)
    cases hv : v.ownBlock with
    | none => rw [hv] at hg; exact h1.grown hg (by simp) (fun _ e => by cases e)
    | some k =>
      rw [hv] at hg
      have := hb k hv
      exact h1.grown hg (fun e => by simp at e; omega) (fun b e => by cases e; omega)
  · intro q hq
    rcases List.mem_append.1 hq with hq | hq
    · exact h.2.2.2 q hq
    · rw [List.mem_singleton.1 hq]; exact hs4

set_option maxRecDepth 100000 in
set_option maxHeartbeats 4000000 in
theorem specDLadder (g N : Nat) (w : World) (h : Rdr w g N) (hN : N ≤ 10000) : Calls Try.prog 56 #[.pointer (some ⟨g, 0, none⟩)] w (DLd g N w) := by
  obtain ⟨j0, hj, hy0, hy1, hy2⟩ := info_parts infoR
  have HGB := Lib.hid h.lt
  have hD0 : LSt w g N (.slice (some ⟨w.heap.size, 0, none⟩) 0 0) [] (w.alloc (.cells #[] 33)) :=
    ⟨OGr.empty w _, h.grown (World.grownBy_alloc w _ none) (by simp) (fun _ e => by cases e), World.grownBy_alloc w _ _, by simp⟩
  have HD0 := Lib.hid hD0
  clear h hD0
  go_enter Try.func56, Try.ntmps56
  go_wp2_with fail
  refine (specPick g N 4 _ HD0.out.2.1 (by omega) (by omega)).mono ?_
  rintro e w1 ⟨z0, rfl, ⟨a0, a1, -⟩, hr1, hgr1, -⟩
  have a1 := a1 (by omega)
  obtain ⟨n, rfl⟩ : ∃ n : Nat, z0 = n := ⟨z0.toNat, by omega⟩
  have HD1 := Lib.hid (HD0.out.pick HGB.out hgr1 hr1)
  have hn3 : n ≤ 3 := by omega
  clear HD0 hr1 hgr1 a0 a1
  go_wp2
  go_loopw [3, 5] (fun v x wr => ∃ i L, i ≤ n ∧ x = .int .i64 (i : Nat) ∧ L.length ≤ 3 ∧ LSt w g (N + 1 + 2 * i) v L wr) (fun _ x _ => n - (intOf x).toNat)
  case atStart => exact ⟨0, [], by omega, rfl, by simp, HD1.out⟩
  case round =>
    obtain ⟨i, L, hin, rfl, hL3, hD⟩ := hrel
    obtain ⟨A', c', rfl, hG, hlc, hcm, hLs⟩ := hD.arg
    have HD := Lib.hid hD
    clear hD hG hLs
    by_cases hlt : i < n
    · go_wp2_with fail
      refine (specPick g (N + 1 + 2 * i) 4 _ HD.out.2.1 (by omega) (by omega)).mono ?_
      rintro e w2 ⟨z2, rfl, -, hr2, hgr2, -⟩
      have HD2 := Lib.hid (HD.out.pick HGB.out hgr2 hr2)
      clear hr2 hgr2 HD
      go_wp2_with fail
      refine (specPick g (N + 1 + 2 * i + 1) 4 _ HD2.out.2.1 (by omega) (by omega)).mono ?_
      rintro e w3 ⟨z3, rfl, -, hr3, hgr3, -⟩
      have HD3 := Lib.hid (HD2.out.pick HGB.out hgr3 hr3)
      clear hr3 hgr3 HD2
      obtain ⟨A3, c3, e3, hG3, _, _, hLs3⟩ := HD3.out.arg
      simp only [Value.slice.injEq, true_and] at e3
      obtain ⟨rfl, rfl⟩ := e3
      have HG3 := Lib.hid hG3
      have HLS := Lib.hid hLs3
      clear hG3 hLs3
      go_wp2_with fail
      refine (specMerge _ _ L z2 z3 w3 HG3.out (by omega) HLS.out).mono ?_
      rintro e w4 ⟨v4, L4, ok, rfl, hO4, hL4, hS4, hB4⟩
      have HD4 := Lib.hid ((HD3.out.below hB4).mono (show N + 1 + 2 * i + 1 + 1 ≤ N + 1 + 2 * (i + 1) by omega))
      have HN4 : Hid (LSt w g (N + 1 + 2 * (i + 1)) v4 L4 w4) := ⟨hO4.weaken HD3.out.2.2.1.size, HD4.out.2.1, HD4.out.2.2.1, hS4⟩
      clear hO4 hS4 hB4 HD3 HG3 HLS
      cases ok
      · go_wp2
        go_roundw
        case rel => exact ⟨i + 1, L, by omega, by go_num, hL3, HD4.out⟩
        case measure => simp [intOf]; omega
      · go_wp2
        go_roundw
        case rel => exact ⟨i + 1, L4, by omega, by go_num, hL4, HN4.out⟩
        case measure => simp [intOf]; omega
    · have hge : n ≤ i := by omega
      clear hlt
      go_wp2_with fail
      refine (specPick g (N + 1 + 2 * i) 40 _ HD.out.2.1 (by omega) (by omega)).mono ?_
      rintro e w2 ⟨z, rfl, ⟨z0, z1, -⟩, hr2, hgr2, -⟩
      have HD2 := Lib.hid ((HD.out.pick HGB.out hgr2 hr2).mono (show N + 1 + 2 * i + 1 ≤ N + 8 by omega))
      clear hr2 hgr2 HD z1
      by_cases hz0 : z = 0
      · subst hz0
        have HD3 := Lib.hid (HD2.out.below ((Below.refl _ _).alloc (Nat.le_refl _) (.cells #[.int .i64 0, .int .i64 0, .int .i64 1, .int .i64 3] 3)))
        have hk3 := Blk.new w2 3 #[.int .i64 0, .int .i64 0, .int .i64 1, .int .i64 3]
        have hws : w.heap.size ≤ w2.heap.size := HD2.out.2.2.1.size
        have hrow : RowAt (w2.alloc (.cells #[.int .i64 0, .int .i64 0, .int .i64 1, .int .i64 3] 3)) w.heap.size (.slice A' L.length c') (.slice (some ⟨w2.heap.size, 0, none⟩) 4 4) ([0, 0, 1, 3] : List Int) := RowAt.own (n := 4) (ownBlk hk3 rfl hws (by unfold maxLen; omega)) rfl (fun b e e2 => by
          have h1 := HD2.out.1.blk_lt b e2
          simp [Value.ownBlock] at e
          omega)
        obtain ⟨hs, hho, happ⟩ := HD3.out.1.heads
        have HAPP := Lib.hid happ
        have HROW := Lib.hid hrow
        clear happ hrow hk3
        go_wp2_with (at_builtin; go_must (refine wpList_append_own_at _ rfl _ _ 22 rfl w.heap.size 33 j0 _ 1 24 Try.underlying22 hj hy0 hy1 hy2 rfl (by decide) _ _ _ rfl (World.ownsRow.alloc hho _) ⟨w2.heap.size + 1, 0, none⟩ 1 1 [_] rfl rfl (cell1 _ _ _ _ (by simp)) (by simp [Value.oneCell']) (by unfold maxLen; omega) (by omega) (by simp; omega) ?_))
        intro v' w5 hown' hgrow _ hloc
        have HL5 := Lib.hid (LSt.app (s := ([0, 0, 1, 3] : List Int)) HD3.out HAPP.out HROW.out (by simp) HGB.out hown' hgrow (by simpa using hloc))
        clear hown' hgrow hloc
        go_wp2
        go_ret
        exact ⟨_, L ++ [([0, 0, 1, 3] : List Int)], rfl, by simp; omega, HL5.out⟩
      have hz0b : (z == 0) = false := by simp [hz0]
      by_cases hz1 : z = 1
      · subst hz1
        have HD3 := Lib.hid (HD2.out.below ((Below.refl _ _).alloc (Nat.le_refl _) (.cells #[.int .i64 0, .int .i64 1, .int .i64 2] 3)))
        have hk3 := Blk.new w2 3 #[.int .i64 0, .int .i64 1, .int .i64 2]
        have hws : w.heap.size ≤ w2.heap.size := HD2.out.2.2.1.size
        have hrow : RowAt (w2.alloc (.cells #[.int .i64 0, .int .i64 1, .int .i64 2] 3)) w.heap.size (.slice A' L.length c') (.slice (some ⟨w2.heap.size, 0, none⟩) 3 3) ([0, 1, 2] : List Int) := RowAt.own (n := 3) (ownBlk hk3 rfl hws (by unfold maxLen; omega)) rfl (fun b e e2 => by
          have h1 := HD2.out.1.blk_lt b e2
          simp [Value.ownBlock] at e
          omega)
        obtain ⟨hs, hho, happ⟩ := HD3.out.1.heads
        have HAPP := Lib.hid happ
        have HROW := Lib.hid hrow
        clear happ hrow hk3
        go_wp2_with (at_builtin; go_must (refine wpList_append_own_at _ rfl _ _ 22 rfl w.heap.size 33 j0 _ 1 24 Try.underlying22 hj hy0 hy1 hy2 rfl (by decide) _ _ _ rfl (World.ownsRow.alloc hho _) ⟨w2.heap.size + 1, 0, none⟩ 1 1 [_] rfl rfl (cell1 _ _ _ _ (by simp)) (by simp [Value.oneCell']) (by unfold maxLen; omega) (by omega) (by simp; omega) ?_))
        intro v' w5 hown' hgrow _ hloc
        have HL5 := Lib.hid (LSt.app (s := ([0, 1, 2] : List Int)) HD3.out HAPP.out HROW.out (by simp) HGB.out hown' hgrow (by simpa using hloc))
        clear hown' hgrow hloc
        go_wp2
        go_ret
        exact ⟨_, L ++ [([0, 1, 2] : List Int)], rfl, by simp; omega, HL5.out⟩
      have hz1b : (z == 1) = false := by simp [hz1]
      by_cases hz2 : z = 2
      · subst hz2
        have HD3 := Lib.hid (HD2.out.below ((Below.refl _ _).alloc (Nat.le_refl _) (.cells #[.int .i64 0, .int .i64 1, .int .i64 2, .int .i64 3] 3)))
        have hk3 := Blk.new w2 3 #[.int .i64 0, .int .i64 1, .int .i64 2, .int .i64 3]
        have hws : w.heap.size ≤ w2.heap.size := HD2.out.2.2.1.size
        have hrow : RowAt (w2.alloc (.cells #[.int .i64 0, .int .i64 1, .int .i64 2, .int .i64 3] 3)) w.heap.size (.slice A' L.length c') (.slice (some ⟨w2.heap.size, 0, none⟩) 4 4) ([0, 1, 2, 3] : List Int) := RowAt.own (n := 4) (ownBlk hk3 rfl hws (by unfold maxLen; omega)) rfl (fun b e e2 => by
          have h1 := HD2.out.1.blk_lt b e2
          simp [Value.ownBlock] at e
          omega)
        obtain ⟨hs, hho, happ⟩ := HD3.out.1.heads
        have HAPP := Lib.hid happ
        have HROW := Lib.hid hrow
        clear happ hrow hk3
        go_wp2_with (at_builtin; go_must (refine wpList_append_own_at _ rfl _ _ 22 rfl w.heap.size 33 j0 _ 1 24 Try.underlying22 hj hy0 hy1 hy2 rfl (by decide) _ _ _ rfl (World.ownsRow.alloc hho _) ⟨w2.heap.size + 1, 0, none⟩ 1 1 [_] rfl rfl (cell1 _ _ _ _ (by simp)) (by simp [Value.oneCell']) (by unfold maxLen; omega) (by omega) (by simp; omega) ?_))
        intro v' w5 hown' hgrow _ hloc
        have HL5 := Lib.hid (LSt.app (s := ([0, 1, 2, 3] : List Int)) HD3.out HAPP.out HROW.out (by simp) HGB.out hown' hgrow (by simpa using hloc))
        clear hown' hgrow hloc
        go_wp2
        go_ret
        exact ⟨_, L ++ [([0, 1, 2, 3] : List Int)], rfl, by simp; omega, HL5.out⟩
      have hz2b : (z == 2) = false := by simp [hz2]
      have HZ := Lib.hid hz2
      go_wp2
      go_ret
      exact ⟨_, L, rfl, by omega, HD2.out⟩

def Rc.small (r : Rc) : Prop := (-10 ≤ r.a ∧ r.a ≤ 2000) ∧ (-10 ≤ r.j ∧ r.j ≤ 2000) ∧ (-10 ≤ r.s ∧ r.s ≤ 2000)
def DRc (g N : Nat) (w : World) (e : Ending) (w' : World) : Prop := ∃ x : Rc, x.small ∧ e = .returned x.val ∧ Rdr w' g (N + 5) ∧ w.grownBy w' (some g)
theorem set3 {V : World} {B T : Nat} {u0 u1 u2 : Value} (h : Blk V B T [u0, u1, u2]) (x y z : Value) : Blk (((V.setCell ⟨B, 0, none⟩ x).setCell ⟨B, 1, none⟩ y).setCell ⟨B, 2, none⟩ z) B T [x, y, z] := ((h.set 0 x).set 1 y).set 2 z
theorem grown3 (V : World) (B : Nat) (x y z : Value) : V.grownBy (((V.setCell ⟨B, 0, none⟩ x).setCell ⟨B, 1, none⟩ y).setCell ⟨B, 2, none⟩ z) (some B) := ((grown_set V B 0 x).trans (grown_set _ B 1 y)).trans (grown_set _ B 2 z)
theorem DRc.mk {g N : Nat} {w V : World} {x : Rc} (hx : x.small) (hr : Rdr V g (N + 5)) (hg : w.grownBy V (some g)) (hne : w.heap.size ≠ g) (hlt : g < w.heap.size) : DRc g N w (.returned x.val) (((V.setCell ⟨w.heap.size, 0, none⟩ (.int .i64 x.a)).setCell ⟨w.heap.size, 1, none⟩ (.int .i64 x.j)).setCell ⟨w.heap.size, 2, none⟩ (.int .i64 x.s)) :=
  ⟨x, hx, rfl, hr.grown (grown3 V _ _ _ _) (fun e => hne (by simpa using e.symm)) (fun b e => by cases e; omega), hg.andThen (grown3 V _ _ _ _) (fun j e => by cases e; exact .inl (Nat.le_refl _))⟩

end Go.Proofs.Ytfpddhehdfckjaa
