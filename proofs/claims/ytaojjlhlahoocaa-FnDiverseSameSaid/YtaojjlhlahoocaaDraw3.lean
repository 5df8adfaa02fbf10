/- Drawn ladders, recodings, and all three. -/
import Derived.Test.YtaojjlhlahoocaaMerge
import Derived.Test.YtaojjlhlahoocaaDraw2
namespace Go.Proofs.Ytaojjlhlahoocaa
open Go.RowKit
attribute [local go_sem ↓] Go.wp_at_zero Go.wp_at_succ

theorem bel_grown {w w' : World} (h : Below w.heap.size w w') (row : Option Nat) : w.grownBy w' row := ⟨h.os, h.tape, h.output, h.size, fun k hk _ => h.block k hk⟩

/-- Since w: a ladder drawn so far, the reader; nothing else has turned. -/
def LSt (w : World) (g N : Nat) (v : Value) (L : List (List Int)) (wr : World) : Prop := OGr wr w.heap.size 40 v L ∧ Rdr wr g N ∧ w.grownBy wr (some g) ∧ ∀ s ∈ L, s.length ≤ 4
theorem LSt.pick {w wr w' : World} {g N N' : Nat} {v : Value} {L : List (List Int)} (h : LSt w g N v L wr) (hgb : g < w.heap.size) (hg : wr.grownBy w' (some g)) (hr : Rdr w' g N') : LSt w g N' v L w' :=
  ⟨h.1.pick hg hgb, hr, h.2.2.1.trans hg, h.2.2.2⟩
theorem LSt.below {w wr w' : World} {g N : Nat} {v : Value} {L : List (List Int)} (h : LSt w g N v L wr) (hb : Below wr.heap.size wr w') : LSt w g N v L w' :=
  ⟨h.1.below hb, h.2.1.below hb, h.2.2.1.trans (bel_grown hb _), h.2.2.2⟩
theorem LSt.mono {w wr : World} {g N N' : Nat} {v : Value} {L : List (List Int)} (h : LSt w g N v L wr) (hN : N ≤ N') : LSt w g N' v L wr := ⟨h.1, h.2.1.mono hN, h.2.2⟩
theorem LSt.arg {w wr : World} {g N : Nat} {v : Value} {L : List (List Int)} (h : LSt w g N v L wr) : ∃ A c, v = .slice A L.length c ∧ Grd wr wr.heap.size A (grid L) ∧ L.length ≤ c ∧ c ≤ 9223372036854775807 ∧ ∀ s ∈ L, s.length ≤ 2000000 := by
  obtain ⟨A, c, h1, h2, h3, h4⟩ := h.1.form
  exact ⟨A, c, h1, h2, h3, h4, fun s hs => by have := h.2.2.2 s hs; omega⟩
def DLd (g N : Nat) (w : World) (e : Ending) (w' : World) : Prop := ∃ v L, e = .returned v ∧ L.length ≤ 4 ∧ LSt w g (N + 8) v L w'
theorem ownBlk {w : World} {base g t n : Nat} {xs : List Value} (h : Blk w g t xs) (hn : xs.length = n) (hb : base ≤ g) (hm : n ≤ maxLen) : w.ownsRow base t 1 (.slice (some ⟨g, 0, none⟩) n n) n xs :=
  ⟨by omega, .inr ⟨g, n, xs.toArray, rfl, hb, h, Nat.le_refl _, hm, by simp [hn], by simp; exact List.take_of_length_le (by omega)⟩⟩
/-- A drawn ladder with one row of numbers more, laid anew. -/
theorem LSt.app {w wr w5 : World} {g N g1 : Nat} {v v' : Value} {L : List (List Int)} {s : List Int} {hs : List Value} {o : Obj} (h : LSt w g N v L wr) (happ : AppOk wr w.heap.size 40 v L hs) (hrow : RowAt wr w.heap.size v (.slice (some ⟨g1, 0, none⟩) s.length s.length) s) (hs4 : s.length ≤ 4) (hgb : g < w.heap.size)
    (ho : w5.ownsRow w.heap.size 40 1 v' (L.length + 1) (hs ++ [.slice (some ⟨g1, 0, none⟩) s.length s.length])) (hg : (wr.alloc o).grownBy w5 v.ownBlock) (hl : v'.ownBlock = v.ownBlock ∨ v'.ownBlock = some (wr.heap.size + 1)) : LSt w g N v' (L ++ [s]) w5 := by
  have hb := h.1.base_le
  refine ⟨happ w5 v' _ s o hrow ho hg hl, ?_, (h.2.2.1.trans (World.grownBy_alloc wr o _)).andThen hg (fun j e => .inl (hb j e)), ?_⟩
  · have h1 := h.2.1.grown (World.grownBy_alloc wr o none) (by simp) (fun _ e => by cases e)
    cases hv : v.ownBlock with
    | none => rw [hv] at hg; exact h1.grown hg (by simp) (fun _ e => by cases e)
    | some k =>
      rw [hv] at hg
      have := hb k hv
      exact h1.grown hg (fun e => by simp at e; omega) (fun b e => by cases e; omega)
  · intro q hq
    rcases List.mem_append.1 hq with hq | hq
    · exact h.2.2.2 q hq
    · rw [List.mem_singleton.1 hq]; exact hs4

set_option maxRecDepth 100000 in
set_option maxHeartbeats 4000000 in
theorem specDLadder (g N : Nat) (w : World) (h : Rdr w g N) (hN : N ≤ 10000) : Calls Try.prog 66 #[.pointer (some ⟨g, 0, none⟩)] w (DLd g N w) := by
  obtain ⟨j0, hj, hy0, hy1, hy2⟩ := info_parts infoR
  have HGB := Lib.hid h.lt
  have hD0 : LSt w g N (.slice (some ⟨w.heap.size, 0, none⟩) 0 0) [] (w.alloc (.cells #[] 40)) :=
    ⟨OGr.empty w _, h.grown (World.grownBy_alloc w _ none) (by simp) (fun _ e => by cases e), World.grownBy_alloc w _ _, by simp⟩
  have HD0 := Lib.hid hD0
  clear h hD0
  go_enter Try.func66, Try.ntmps66
  go_wp2_with fail
  refine (specPick g N 4 _ HD0.out.2.1 (by omega) (by omega)).mono ?_
  rintro e w1 ⟨z0, rfl, ⟨a0, a1, -⟩, hr1, hgr1, -⟩
  have a1 := a1 (by omega)
  obtain ⟨n, rfl⟩ : ∃ n : Nat, z0 = n := ⟨z0.toNat, by omega⟩
  have HD1 := Lib.hid (HD0.out.pick HGB.out hgr1 hr1)
  have hn3 : n ≤ 3 := by omega
  clear HD0 hr1 hgr1 a0 a1
  go_wp2
  go_loopw [3, 5] (fun v x wr => ∃ i L, i ≤ n ∧ x = .int .i64 (i : Nat) ∧ L.length ≤ 3 ∧ LSt w g (N + 1 + 2 * i) v L wr) (fun _ x _ => n - (intOf x).toNat)
  case atStart => exact ⟨0, [], by omega, rfl, by simp, HD1.out⟩
  case round =>
    obtain ⟨i, L, hin, rfl, hL3, hD⟩ := hrel
    obtain ⟨A', c', rfl, hG, hlc, hcm, hLs⟩ := hD.arg
    have HD := Lib.hid hD
    clear hD hG hLs
    by_cases hlt : i < n
    · go_wp2_with fail
      refine (specPick g (N + 1 + 2 * i) 4 _ HD.out.2.1 (by omega) (by omega)).mono ?_
      rintro e w2 ⟨z2, rfl, -, hr2, hgr2, -⟩
      have HD2 := Lib.hid (HD.out.pick HGB.out hgr2 hr2)
      clear hr2 hgr2 HD
      go_wp2_with fail
      refine (specPick g (N + 1 + 2 * i + 1) 4 _ HD2.out.2.1 (by omega) (by omega)).mono ?_
      rintro e w3 ⟨z3, rfl, -, hr3, hgr3, -⟩
      have HD3 := Lib.hid (HD2.out.pick HGB.out hgr3 hr3)
      clear hr3 hgr3 HD2
      obtain ⟨A3, c3, e3, hG3, _, _, hLs3⟩ := HD3.out.arg
      simp only [Value.slice.injEq, true_and] at e3
      obtain ⟨rfl, rfl⟩ := e3
      have HG3 := Lib.hid hG3
      have HLS := Lib.hid hLs3
      clear hG3 hLs3
      go_wp2_with fail
      refine (specMerge _ _ L z2 z3 w3 HG3.out (by omega) HLS.out).mono ?_
      rintro e w4 ⟨v4, L4, ok, rfl, hO4, hL4, hS4, hB4⟩
      have HD4 := Lib.hid ((HD3.out.below hB4).mono (show N + 1 + 2 * i + 1 + 1 ≤ N + 1 + 2 * (i + 1) by omega))
      have HN4 : Hid (LSt w g (N + 1 + 2 * (i + 1)) v4 L4 w4) := ⟨hO4.weaken HD3.out.2.2.1.size, HD4.out.2.1, HD4.out.2.2.1, hS4⟩
      clear hO4 hS4 hB4 HD3 HG3 HLS
      cases ok
      · go_wp2
        go_roundw
        case rel => exact ⟨i + 1, L, by omega, by go_num, hL3, HD4.out⟩
        case measure => simp [intOf]; omega
      · go_wp2
        go_roundw
        case rel => exact ⟨i + 1, L4, by omega, by go_num, hL4, HN4.out⟩
        case measure => simp [intOf]; omega
    · have hge : n ≤ i := by omega
      clear hlt
      go_wp2_with fail
      refine (specPick g (N + 1 + 2 * i) 40 _ HD.out.2.1 (by omega) (by omega)).mono ?_
      rintro e w2 ⟨z, rfl, ⟨z0, z1, -⟩, hr2, hgr2, -⟩
      have HD2 := Lib.hid ((HD.out.pick HGB.out hgr2 hr2).mono (show N + 1 + 2 * i + 1 ≤ N + 8 by omega))
      clear hr2 hgr2 HD z1
      by_cases hz0 : z = 0
      · subst hz0
        have HD3 := Lib.hid (HD2.out.below ((Below.refl _ _).alloc (Nat.le_refl _) (.cells #[.int .i64 0, .int .i64 0, .int .i64 1, .int .i64 3] 3)))
        have hk3 := Blk.new w2 3 #[.int .i64 0, .int .i64 0, .int .i64 1, .int .i64 3]
        have hws : w.heap.size ≤ w2.heap.size := HD2.out.2.2.1.size
        have hrow : RowAt (w2.alloc (.cells #[.int .i64 0, .int .i64 0, .int .i64 1, .int .i64 3] 3)) w.heap.size (.slice A' L.length c') (.slice (some ⟨w2.heap.size, 0, none⟩) 4 4) ([0, 0, 1, 3] : List Int) := RowAt.own (n := 4) (ownBlk hk3 rfl hws (by unfold maxLen; omega)) rfl (fun b e e2 => by
          have h1 := HD2.out.1.blk_lt b e2
          simp [Value.ownBlock] at e
          omega)
        obtain ⟨hs, hho, happ⟩ := HD3.out.1.heads
        have HAPP := Lib.hid happ
        have HROW := Lib.hid hrow
        clear happ hrow hk3
        go_wp2_with (at_builtin; go_must (refine wpList_append_own_at _ rfl _ _ 24 rfl w.heap.size 40 j0 _ 1 24 Try.underlying24 hj hy0 hy1 hy2 rfl (by decide) _ _ _ rfl (World.ownsRow.alloc hho _) ⟨w2.heap.size + 1, 0, none⟩ 1 1 [_] rfl rfl (cell1 _ _ _ _ (by simp)) (by simp [Value.oneCell']) (by unfold maxLen; omega) (by omega) (by simp; omega) ?_))
        intro v' w5 hown' hgrow _ hloc
        have HL5 := Lib.hid (LSt.app (s := ([0, 0, 1, 3] : List Int)) HD3.out HAPP.out HROW.out (by simp) HGB.out hown' hgrow (by simpa using hloc))
        clear hown' hgrow hloc
        go_wp2
        go_ret
        exact ⟨_, L ++ [([0, 0, 1, 3] : List Int)], rfl, by simp; omega, HL5.out⟩
      have hz0b : (z == 0) = false := by simp [hz0]
      by_cases hz1 : z = 1
      · subst hz1
        have HD3 := Lib.hid (HD2.out.below ((Below.refl _ _).alloc (Nat.le_refl _) (.cells #[.int .i64 0, .int .i64 1, .int .i64 2] 3)))
        have hk3 := Blk.new w2 3 #[.int .i64 0, .int .i64 1, .int .i64 2]
        have hws : w.heap.size ≤ w2.heap.size := HD2.out.2.2.1.size
        have hrow : RowAt (w2.alloc (.cells #[.int .i64 0, .int .i64 1, .int .i64 2] 3)) w.heap.size (.slice A' L.length c') (.slice (some ⟨w2.heap.size, 0, none⟩) 3 3) ([0, 1, 2] : List Int) := RowAt.own (n := 3) (ownBlk hk3 rfl hws (by unfold maxLen; omega)) rfl (fun b e e2 => by
          have h1 := HD2.out.1.blk_lt b e2
          simp [Value.ownBlock] at e
          omega)
        obtain ⟨hs, hho, happ⟩ := HD3.out.1.heads
        have HAPP := Lib.hid happ
        have HROW := Lib.hid hrow
        clear happ hrow hk3
        go_wp2_with (at_builtin; go_must (refine wpList_append_own_at _ rfl _ _ 24 rfl w.heap.size 40 j0 _ 1 24 Try.underlying24 hj hy0 hy1 hy2 rfl (by decide) _ _ _ rfl (World.ownsRow.alloc hho _) ⟨w2.heap.size + 1, 0, none⟩ 1 1 [_] rfl rfl (cell1 _ _ _ _ (by simp)) (by simp [Value.oneCell']) (by unfold maxLen; omega) (by omega) (by simp; omega) ?_))
        intro v' w5 hown' hgrow _ hloc
        have HL5 := Lib.hid (LSt.app (s := ([0, 1, 2] : List Int)) HD3.out HAPP.out HROW.out (by simp) HGB.out hown' hgrow (by simpa using hloc))
        clear hown' hgrow hloc
        go_wp2
        go_ret
        exact ⟨_, L ++ [([0, 1, 2] : List Int)], rfl, by simp; omega, HL5.out⟩
      have hz1b : (z == 1) = false := by simp [hz1]
      by_cases hz2 : z = 2
      · subst hz2
        have HD3 := Lib.hid (HD2.out.below ((Below.refl _ _).alloc (Nat.le_refl _) (.cells #[.int .i64 0, .int .i64 1, .int .i64 2, .int .i64 3] 3)))
        have hk3 := Blk.new w2 3 #[.int .i64 0, .int .i64 1, .int .i64 2, .int .i64 3]
        have hws : w.heap.size ≤ w2.heap.size := HD2.out.2.2.1.size
        have hrow : RowAt (w2.alloc (.cells #[.int .i64 0, .int .i64 1, .int .i64 2, .int .i64 3] 3)) w.heap.size (.slice A' L.length c') (.slice (some ⟨w2.heap.size, 0, none⟩) 4 4) ([0, 1, 2, 3] : List Int) := RowAt.own (n := 4) (ownBlk hk3 rfl hws (by unfold maxLen; omega)) rfl (fun b e e2 => by
          have h1 := HD2.out.1.blk_lt b e2
          simp [Value.ownBlock] at e
          omega)
        obtain ⟨hs, hho, happ⟩ := HD3.out.1.heads
        have HAPP := Lib.hid happ
        have HROW := Lib.hid hrow
        clear happ hrow hk3
        go_wp2_with (at_builtin; go_must (refine wpList_append_own_at _ rfl _ _ 24 rfl w.heap.size 40 j0 _ 1 24 Try.underlying24 hj hy0 hy1 hy2 rfl (by decide) _ _ _ rfl (World.ownsRow.alloc hho _) ⟨w2.heap.size + 1, 0, none⟩ 1 1 [_] rfl rfl (cell1 _ _ _ _ (by simp)) (by simp [Value.oneCell']) (by unfold maxLen; omega) (by omega) (by simp; omega) ?_))
        intro v' w5 hown' hgrow _ hloc
        have HL5 := Lib.hid (LSt.app (s := ([0, 1, 2, 3] : List Int)) HD3.out HAPP.out HROW.out (by simp) HGB.out hown' hgrow (by simpa using hloc))
        clear hown' hgrow hloc
        go_wp2
        go_ret
        exact ⟨_, L ++ [([0, 1, 2, 3] : List Int)], rfl, by simp; omega, HL5.out⟩
      have hz2b : (z == 2) = false := by simp [hz2]
      have HZ := Lib.hid hz2
      go_wp2
      go_ret
      exact ⟨_, L, rfl, by omega, HD2.out⟩

def Rc.small (r : Rc) : Prop := (-10 ≤ r.a ∧ r.a ≤ 2000) ∧ (-10 ≤ r.j ∧ r.j ≤ 2000) ∧ (-10 ≤ r.s ∧ r.s ≤ 2000)
def DRc (g N : Nat) (w : World) (e : Ending) (w' : World) : Prop := ∃ x : Rc, x.small ∧ e = .returned x.val ∧ Rdr w' g (N + 5) ∧ w.grownBy w' (some g)
theorem set3 {V : World} {B T : Nat} {u0 u1 u2 : Value} (h : Blk V B T [u0, u1, u2]) (x y z : Value) : Blk (((V.setCell ⟨B, 0, none⟩ x).setCell ⟨B, 1, none⟩ y).setCell ⟨B, 2, none⟩ z) B T [x, y, z] := ((h.set 0 x).set 1 y).set 2 z
theorem grown3 (V : World) (B : Nat) (x y z : Value) : V.grownBy (((V.setCell ⟨B, 0, none⟩ x).setCell ⟨B, 1, none⟩ y).setCell ⟨B, 2, none⟩ z) (some B) := ((grown_set V B 0 x).trans (grown_set _ B 1 y)).trans (grown_set _ B 2 z)
theorem DRc.mk {g N : Nat} {w V : World} {x : Rc} (hx : x.small) (hr : Rdr V g (N + 5)) (hg : w.grownBy V (some g)) (hne : w.heap.size ≠ g) (hlt : g < w.heap.size) : DRc g N w (.returned x.val) (((V.setCell ⟨w.heap.size, 0, none⟩ (.int .i64 x.a)).setCell ⟨w.heap.size, 1, none⟩ (.int .i64 x.j)).setCell ⟨w.heap.size, 2, none⟩ (.int .i64 x.s)) :=
  ⟨x, hx, rfl, hr.grown (grown3 V _ _ _ _) (fun e => hne (by simpa using e.symm)) (fun b e => by cases e; omega), hg.andThen (grown3 V _ _ _ _) (fun j e => by cases e; exact .inl (Nat.le_refl _))⟩

set_option maxRecDepth 100000 in
set_option maxHeartbeats 4000000 in
theorem specDRecode (g N : Nat) (A : Option Addr) (n c : Nat) (w : World) (h : Rdr w g N) (hN : N ≤ 100000) (hn : n ≤ 1000) : Calls Try.prog 67 #[.pointer (some ⟨g, 0, none⟩), .slice A n c] w (DRc g N w) := by
  have hg := h.lt
  have HNE := Lib.hid (show w.heap.size ≠ g by omega)
  have hr0 := h.below (((Below.refl _ _).alloc (Nat.le_refl _) _) : Below w.heap.size w (w.alloc (.cells #[.int .i64 0, .int .i64 0, .int .i64 0] 26)))
  have hk0 := Blk.new w 26 #[.int .i64 0, .int .i64 0, .int .i64 0]
  have hg0 : w.grownBy (w.alloc (.cells #[.int .i64 0, .int .i64 0, .int .i64 0] 26)) (some g) := World.grownBy_alloc _ _ _
  go_enter Try.func67, Try.ntmps67
  go_wp2_with fail
  refine (specPick g N ((n : Int) + 1) _ hr0 (by omega) (by omega)).mono ?_
  rintro e w1 ⟨z1, rfl, ⟨a0, a1, -⟩, hr1, hgr1, -⟩
  have a1 := a1 (by omega)
  have hk1 := hk0.grown hgr1 HNE.out
  have hg1 := hg0.trans hgr1
  go_wp2_with fail
  refine (specPick g (N + 1) 2 w1 hr1 (by omega) (by omega)).mono ?_
  rintro e w2 ⟨z2, rfl, ⟨b0, b1, -⟩, hr2, hgr2, -⟩
  have b1 := b1 (by omega)
  have hk2 := hk1.grown hgr2 HNE.out
  have hg2 := hg1.trans hgr2
  go_wp2_with fail
  refine (specPick g (N + 1 + 1) 2 w2 hr2 (by omega) (by omega)).mono ?_
  rintro e w3 ⟨z3, rfl, ⟨c0, c1, -⟩, hr3, hgr3, -⟩
  have c1 := c1 (by omega)
  have hk3 := (hk2.grown hgr3 HNE.out).alloc (.cells #[.int .i64 z1, .int .i64 z2, .int .i64 z3] 26)
  have hg3 := (hg2.trans hgr3).trans (World.grownBy_alloc w3 (.cells #[.int .i64 z1, .int .i64 z2, .int .i64 z3] 26) _)
  have hr3' := hr3.grown (World.grownBy_alloc w3 (.cells #[.int .i64 z1, .int .i64 z2, .int .i64 z3] 26) none) (by simp) (fun _ e => by cases e)
  have hm3 := Blk.new w3 26 #[.int .i64 z1, .int .i64 z2, .int .i64 z3]
  have hw3 : w.heap.size < w3.heap.size := (hk2.grown hgr3 HNE.out).lt
  have HNE3 := Lib.hid (show w3.heap.size ≠ g by omega)
  clear hk0 hk1 hk2 hg0 hg1 hg2 hgr1 hgr2 hgr3 hr0 hr1 hr2 hr3 h
  go_wp2_with fail
  refine (specPick g (N + 1 + 1 + 1) 50 _ hr3' (by omega) (by omega)).mono ?_
  rintro e w4 ⟨z, rfl, ⟨d0, d1, -⟩, hr4, hgr4, -⟩
  have hk4 := hk3.grown hgr4 HNE.out
  have hm4 := hm3.grown hgr4 HNE3.out
  have hg4 := hg3.trans hgr4
  clear hk3 hm3 hg3 hr3' hgr4
  have hi0 := hm4.cell 0
  have hi1 := hm4.cell 1
  have hi2 := hm4.cell 2
  have hj0 := hm4.frozen 0
  have hj1 := hm4.frozen 1
  simp at hi0 hi1 hi2
  have ho0 := hk4.cell 0
  have ho1 := hk4.cell 1
  have ho2 := hk4.cell 2
  have hf0 := hk4.frozen 0
  have hf1 := hk4.frozen 1
  have hf2 := hk4.frozen 2
  simp at ho0 ho1 ho2
  have hwne : w3.heap.size ≠ w.heap.size := by omega
  by_cases hz0 : z = 0
  · subst hz0
    have hr5 := hr4.grown (World.grownBy_alloc w4 (.cells #[.int .i64 (-1), .int .i64 ((n : Int) + 1)] 3) none) (by simp) (fun _ e => by cases e)
    have hk5 := hk4.alloc (.cells #[.int .i64 (-1), .int .i64 ((n : Int) + 1)] 3)
    have hm5 := hm4.alloc (.cells #[.int .i64 (-1), .int .i64 ((n : Int) + 1)] 3)
    have hl5 := Blk.new w4 3 #[.int .i64 (-1), .int .i64 ((n : Int) + 1)]
    have hg5 := hg4.trans (World.grownBy_alloc w4 (.cells #[.int .i64 (-1), .int .i64 ((n : Int) + 1)] 3) _)
    have HNE5 := Lib.hid (show w4.heap.size ≠ g by have := hr4.lt; omega)
    clear hi0 hi1 hi2 hj0 hj1 ho0 ho1 ho2 hf0 hf1 hf2
    go_wp2_with fail
    refine (specPick g (N + 1 + 1 + 1 + 1) 2 _ hr5 (by omega) (by omega)).mono ?_
    rintro e w6 ⟨y, rfl, ⟨y0, y1, -⟩, hr6, hgr6, -⟩
    have y1 := y1 (by omega)
    have hk6 := hk5.grown hgr6 HNE.out
    have hm6 := hm5.grown hgr6 HNE3.out
    have hl6 := hl5.grown hgr6 HNE5.out
    have hg6 := hg5.trans hgr6
    clear hk5 hm5 hl5 hg5 hr5 hk4 hm4 hr4 hg4 hgr6
    have hc0 := hl6.cell 0
    have hc1 := hl6.cell 1
    have hi0 := hm6.cell 0
    have hi1 := hm6.cell 1
    have hi2 := hm6.cell 2
    have hj0 := hm6.frozen 0
    have ho0 := hk6.cell 0
    have ho1 := hk6.cell 1
    have ho2 := hk6.cell 2
    have hf0 := hk6.frozen 0
    have hf1 := hk6.frozen 1
    have hf2 := hk6.frozen 2
    simp at hc0 hc1 hi0 hi1 hi2 ho0 ho1 ho2
    rcases (show y = 0 ∨ y = 1 by omega) with rfl | rfl
    · go_wp2
      have hq := set3 (hk6.far (p := ⟨w3.heap.size, 0, none⟩) (by show w.heap.size ≠ w3.heap.size; omega) (.int .i64 (-1))) (.int .i64 (-1)) (.int .i64 (z2)) (.int .i64 z3)
      have hq0 := hq.cell 0
      have hq1 := hq.cell 1
      have hq2 := hq.cell 2
      simp only [List.getElem?_cons_zero, List.getElem?_cons_succ] at hq0 hq1 hq2
      refine bodyPost_ret (v := Rc.val ⟨-1, z2, z3⟩) ?_ rfl (DRc.mk (x := ⟨-1, z2, z3⟩) (by unfold Rc.small; dsimp only; omega) (hr6.grown (grown_set w6 w3.heap.size 0 (.int .i64 (-1))) (fun e => HNE3.out (by simpa using e.symm)) (fun b e => by cases e; omega)) (hg6.andThen (grown_set w6 w3.heap.size 0 (.int .i64 (-1))) (fun j e => by cases e; left; omega)) HNE.out hg)
      simp [results, Try.results67, go_sem, hq0, hq1, hq2]
    · go_wp2
      have hq := set3 (hk6.far (p := ⟨w3.heap.size, 0, none⟩) (by show w.heap.size ≠ w3.heap.size; omega) (.int .i64 ((n : Int) + 1))) (.int .i64 ((n : Int) + 1)) (.int .i64 (z2)) (.int .i64 z3)
      have hq0 := hq.cell 0
      have hq1 := hq.cell 1
      have hq2 := hq.cell 2
      simp only [List.getElem?_cons_zero, List.getElem?_cons_succ] at hq0 hq1 hq2
      refine bodyPost_ret (v := Rc.val ⟨(n : Int) + 1, z2, z3⟩) ?_ rfl (DRc.mk (x := ⟨(n : Int) + 1, z2, z3⟩) (by unfold Rc.small; dsimp only; omega) (hr6.grown (grown_set w6 w3.heap.size 0 (.int .i64 ((n : Int) + 1))) (fun e => HNE3.out (by simpa using e.symm)) (fun b e => by cases e; omega)) (hg6.andThen (grown_set w6 w3.heap.size 0 (.int .i64 ((n : Int) + 1))) (fun j e => by cases e; left; omega)) HNE.out hg)
      simp [results, Try.results67, go_sem, hq0, hq1, hq2]
  have hz0b : (z == 0) = false := by simp [hz0]
  by_cases hz1 : z = 1
  · subst hz1
    go_wp2
    have hq := set3 (hk4.far (p := ⟨w3.heap.size, 1, none⟩) (by show w.heap.size ≠ w3.heap.size; omega) (.int .i64 2)) (.int .i64 (z1)) (.int .i64 (2)) (.int .i64 z3)
    have hq0 := hq.cell 0
    have hq1 := hq.cell 1
    have hq2 := hq.cell 2
    simp only [List.getElem?_cons_zero, List.getElem?_cons_succ] at hq0 hq1 hq2
    refine bodyPost_ret (v := Rc.val ⟨z1, 2, z3⟩) ?_ rfl (DRc.mk (x := ⟨z1, 2, z3⟩) (by unfold Rc.small; dsimp only; omega) ((hr4.mono (show N + 1 + 1 + 1 + 1 ≤ N + 5 by omega)).grown (grown_set w4 w3.heap.size 1 (.int .i64 2)) (fun e => HNE3.out (by simpa using e.symm)) (fun b e => by cases e; omega)) (hg4.andThen (grown_set w4 w3.heap.size 1 (.int .i64 2)) (fun j e => by cases e; left; omega)) HNE.out hg)
    simp [results, Try.results67, go_sem, hq0, hq1, hq2]
  have hz1b : (z == 1) = false := by simp [hz1]
  clear hz0 hz1
  go_wp2
  have hq := set3 hk4 (.int .i64 (z1)) (.int .i64 (z2)) (.int .i64 z3)
  have hq0 := hq.cell 0
  have hq1 := hq.cell 1
  have hq2 := hq.cell 2
  simp only [List.getElem?_cons_zero, List.getElem?_cons_succ] at hq0 hq1 hq2
  refine bodyPost_ret (v := Rc.val ⟨z1, z2, z3⟩) ?_ rfl (DRc.mk (x := ⟨z1, z2, z3⟩) (by unfold Rc.small; dsimp only; omega) (hr4.mono (show N + 1 + 1 + 1 + 1 ≤ N + 5 by omega)) hg4 HNE.out hg)
  simp [results, Try.results67, go_sem, hq0, hq1, hq2]
end Go.Proofs.Ytaojjlhlahoocaa
