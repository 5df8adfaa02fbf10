/- Drawn people. -/
import Derived.Test.YtfpddhehdfckjaaDraw1
import Derived.OwnWalk
import Derived.Deep.DeepMust
namespace Go.Proofs.Ytfpddhehdfckjaa
open Go.RowKit
attribute [local go_sem ↓] Go.wp_at_zero Go.wp_at_succ

theorem grown_of_drew {w w' : World} {row : Option Nat} (h : w.drew.grownBy w' row) : w.grownBy w' row := ⟨h.os, h.tape, h.output, h.size, h.block⟩
/-- Since w: people drawn so far, in memory of the draw's own; the reader; nothing else has turned. -/
def DSt (w : World) (g N : Nat) (v : Value) (l : List Pn) (wr : World) : Prop := OPpl wr w.heap.size 82 v l ∧ Rdr wr g N ∧ w.grownBy wr (some g) ∧ ∀ p ∈ l, p.small
theorem DSt.pick {w wr w' : World} {g N N' : Nat} {v : Value} {l : List Pn} (h : DSt w g N v l wr) (hgb : g < w.heap.size) (hg : wr.grownBy w' (some g)) (hr : Rdr w' g N') : DSt w g N' v l w' :=
  ⟨World.ownsRow.kept h.1 hg (by
    cases hv : v.ownBlock with
    | none => exact .inl rfl
    | some k => exact .inr (fun e => by have := own_base h.1 k hv; simp at e; omega)), hr, h.2.2.1.trans hg, h.2.2.2⟩
theorem DSt.grow {w wr w' : World} {g N b : Nat} {v : Value} {l : List Pn} (h : DSt w g N v l wr) (hgb : g < w.heap.size) (hg : wr.grownBy w' (some b)) (hb : w.heap.size ≤ b) (hv : v.ownBlock ≠ some b) : DSt w g N v l w' :=
  ⟨World.ownsRow.kept h.1 hg (.inr hv), h.2.1.grown hg (fun e => by simp at e; omega) (fun k e => by cases e; omega), h.2.2.1.andThen hg (fun j e => by cases e; exact .inl hb), h.2.2.2⟩
theorem DSt.alloc {w wr : World} {g N : Nat} {v : Value} {l : List Pn} (h : DSt w g N v l wr) (o : Obj) : DSt w g N v l (wr.alloc o) :=
  ⟨World.ownsRow.alloc h.1 o, h.2.1.grown (World.grownBy_alloc wr o none) (by simp) (fun _ e => by cases e), h.2.2.1.trans (World.grownBy_alloc wr o (some g)), h.2.2.2⟩
theorem DSt.mono {w wr : World} {g N N' : Nat} {v : Value} {l : List Pn} (h : DSt w g N v l wr) (hN : N ≤ N') : DSt w g N' v l wr := ⟨h.1, h.2.1.mono hN, h.2.2⟩
theorem DSt.app {w wr w' : World} {g N N' : Nat} {v v' : Value} {l : List Pn} {q : Pn} {o : Obj} (h : DSt w g N v l wr) (hN : N ≤ N') (hq : q.small) (ho : w'.ownsRow w.heap.size 82 4 v' (l.length + 1) (l.flatMap Pn.vals ++ q.vals)) (hg : (wr.alloc o).grownBy w' v.ownBlock) (hgb : g < w.heap.size) : DSt w g N' v' (l ++ [q]) w' := by
  refine ⟨OPpl.snoc ho, ?_, ?_, ?_⟩
  · have h1 := (h.alloc o).2.1.mono hN
    cases hv : v.ownBlock with
    | none => rw [hv] at hg; exact h1.grown hg (by simp) (fun _ e => by cases e)
    | some k =>
      rw [hv] at hg
      have := own_base h.1 k hv
      exact h1.grown hg (fun e => by simp at e; omega) (fun b e => by cases e; omega)
  · exact (h.alloc o).2.2.1.andThen hg (fun j e => .inl (own_base h.1 j e))
  · intro p hp
    rcases List.mem_append.1 hp with hp | hp
    · exact h.2.2.2 p hp
    · rw [List.mem_singleton.1 hp]; exact hq
theorem own_ne {w : World} {base T size n b : Nat} {v : Value} {xs : List Value} (h : w.ownsRow base T size v n xs) (hb : w.heap.size ≤ b) : v.ownBlock ≠ some b := fun e => by
  have := own_lt h b e
  omega

theorem DSt.store {w wr : World} {g N gb c j : Nat} {l : List Pn} {p p' : Pn} {rest : List Pn} {u : Value} (h : DSt w g N (.slice (some ⟨gb, 0, none⟩) l.length c) l wr) (hl : l = p :: rest) (hgb : g < w.heap.size) (hv : p'.vals = p.vals.set j u) (hj : j < 4) (hs : p'.small) :
    ∃ l', l'.length = l.length ∧ DSt w g N (.slice (some ⟨gb, 0, none⟩) l.length c) l' (wr.setCell ⟨gb, j, none⟩ u) := by
  subst hl
  obtain ⟨h1, h2⟩ := World.ownsRow.stored h.1 j u
  have hb := own_base h.1 gb rfl
  refine ⟨p' :: rest, by simp, ?_, h.2.1.grown h2 (fun e => by simp at e; omega) (fun b e => by cases e; omega), h.2.2.1.andThen h2 (fun j e => by cases e; exact .inl hb), ?_⟩
  · have e : (p :: rest).flatMap Pn.vals = p.vals ++ rest.flatMap Pn.vals := by simp
    rw [e, List.set_append_left j u (by rw [Pn.vals_len]; exact hj), ← hv] at h1
    unfold OPpl
    simpa using h1
  · intro q hq
    rcases List.mem_cons.1 hq with rfl | hq
    · exact hs
    · exact h.2.2.2 q (by simp [hq])
theorem DSt.head {w wr : World} {g N gb c : Nat} {l : List Pn} {p : Pn} {rest : List Pn} (h : DSt w g N (.slice (some ⟨gb, 0, none⟩) l.length c) l wr) (hl : l = p :: rest) (j : Nat) (hj : j < 4) :
    wr.cell? ⟨gb, j, none⟩ = p.vals[j]? ∧ wr.frozen? ⟨gb, j, none⟩ = false := by
  subst hl
  refine ⟨?_, World.ownsRow.frozenAt h.1 j⟩
  rw [World.ownsRow.cellAt h.1 j (by simp; omega)]
  rw [List.flatMap_cons, List.getElem?_append_left (by rw [Pn.vals_len]; exact hj)]
/-- What a draw of people hands back. -/
def DPp (g N m : Nat) (w : World) (e : Ending) (w' : World) : Prop := ∃ v l, e = .returned v ∧ l.length ≤ m ∧ DSt w g (N + 8 * m + 3) v l w'

set_option maxRecDepth 100000 in
set_option maxHeartbeats 4000000 in
theorem specDPeople (g N m : Nat) (w : World) (h : Rdr w g N) (hN : N ≤ 1000) (hm : m ≤ 1000) : Calls Try.prog 55 #[.pointer (some ⟨g, 0, none⟩), .int .i64 m] w (DPp g N m w) := by
  obtain ⟨i0, hi, hz0, hz1, hz2⟩ := info_parts infoP
  have HGB := Lib.hid h.lt
  have hD0 : DSt w g N (.slice (some ⟨w.heap.size, 0, none⟩) 0 0) [] (w.alloc (.cells #[] 82)) :=
    ⟨OPpl.empty w _, h.grown (World.grownBy_alloc w _ none) (by simp) (fun _ e => by cases e), World.grownBy_alloc w _ _, by simp⟩
  have HD0 := Lib.hid hD0
  clear h hD0
  go_enter Try.func55, Try.ntmps55
  go_wp2_with fail
  refine (specPick g N ((m : Int) + 1) _ HD0.out.2.1 (by omega) (by omega)).mono ?_
  rintro e w1 ⟨z0, rfl, ⟨a0, a1, -⟩, hr1, hgr1, -⟩
  have a1 := a1 (by omega)
  obtain ⟨n, rfl⟩ : ∃ n : Nat, z0 = n := ⟨z0.toNat, by omega⟩
  have HD1 := Lib.hid (HD0.out.pick HGB.out hgr1 hr1)
  clear HD0 hr1 hgr1 a0
  go_wp2
  go_loopw [5, 7] (fun v x wr => ∃ i l, i ≤ n ∧ x = .int .i64 (i : Nat) ∧ Hid (l.length = i) ∧ DSt w g (N + 1 + 8 * i) v l wr) (fun _ x _ => n - (intOf x).toNat)
  case atStart => exact ⟨0, [], by omega, rfl, (show ([] : List Pn).length = 0 from rfl), HD1.out⟩
  case round =>
    obtain ⟨i, l, hin, rfl, HLI, hD⟩ := hrel
    obtain ⟨A', c', rfl, hP, hlc, hcm⟩ := hD.1.form
    have HDR := Lib.hid hD
    have HLC : l.length = i := HLI.out
    have hll : l.length ≤ 1000 := by omega
    clear hD HLC
    by_cases hlt : i < n
    · go_wp2_with fail
      refine (specDPerson g (N + 1 + 8 * i) wr HDR.out.2.1 (by omega)).mono ?_
      rintro e w2 ⟨p, hps, rfl, hr2, hgr2⟩
      have HPS := Lib.hid hps
      have hD2 := (HDR.out.pick HGB.out hgr2 hr2).alloc (.cells #[.int .i64 p.a, .int .i64 p.j, .int .i64 p.s, .int .i64 p.p] 82)
      have hk2 := Blk.new w2 82 #[.int .i64 p.a, .int .i64 p.j, .int .i64 p.s, .int .i64 p.p]
      have hB2 : w.heap.size ≤ w2.heap.size := Nat.le_trans HDR.out.2.2.1.size hgr2.size
      have HB2 := Lib.hid hB2
      have HND := Lib.hid (own_ne (HDR.out.pick HGB.out hgr2 hr2).1 (Nat.le_refl _))
      clear hps hr2 hgr2 HDR
      by_cases hl0 : l.length = 0
      · have hb0 : decide (0 < l.length) = false := by simp [hl0]
        have hb0' : decide ((0 : Int) < (l.length : Int)) = false := by simp [hl0]
        have HD := Lib.hid hD2
        have HQS := HPS
        have HL0 := Lib.hid hl0
        clear hD2 hk2 hl0
        generalize p = q at *
        have hrl : l.length ≤ 2000 := by omega
        have HLL := Lib.hid hrl
        go_wp2_with (at_builtin; go_must (refine wpList_append_own _ rfl _ _ 40 rfl w.heap.size 82 i0 _ 4 32 Try.underlying40 hi hz0 hz1 hz2 rfl (by decide) _ _ _ rfl (World.ownsRow.alloc HD.out.1 _) ⟨w2.heap.size + 1, 0, none⟩ 1 1 q.vals rfl rfl (cells4h _ q _ _ (by simp)) (one4 _) (by have := HLL.out; unfold maxLen; omega) (by have := HLL.out; omega) (Nat.le_trans HD.out.2.2.1.size (by simp)) ?_))
        intro v' w5 hown' hgrow _
        have hD5 : DSt w g (N + 1 + 8 * (i + 1)) v' (l ++ [q]) w5 := DSt.app HD.out (by omega) HQS.out hown' hgrow HGB.out
        go_wp2
        go_roundw
        case rel => exact ⟨i + 1, l ++ [q], by omega, by go_num, (show (l ++ [q]).length = i + 1 by rw [List.length_append, HLI.out]; rfl), hD5⟩
        case measure => simp [intOf]; omega
      · have hb0 : decide (0 < l.length) = true := by simp; omega
        have hb1 : 0 < l.length := by omega
        clear hl0
        go_wp2_with fail
        refine (specPick g (N + 1 + 8 * i + 5) 3 _ hD2.2.1 (by omega) (by omega)).mono ?_
        rintro e w3 ⟨z, rfl, ⟨b0, b1, -⟩, hr3, hgr3, -⟩
        have hne : w2.heap.size ≠ g := by have := HGB.out; have := HB2.out; omega
        have hk3 := hk2.grown hgr3 hne
        have hD3 := hD2.pick HGB.out hgr3 hr3
        have HNE := Lib.hid hne
        clear hD2 hk2 hr3 hgr3 hne
        by_cases hz : z = 0
        · subst hz
          go_wp2_with fail
          refine (specPick g (N + 1 + 8 * i + 6) (l.length : Int) _ hD3.2.1 (by omega) (by omega)).mono ?_
          rintro e w4 ⟨y, rfl, ⟨y0, y1, -⟩, hr4, hgr4, -⟩
          have y1 := y1 (by omega)
          obtain ⟨k, rfl⟩ : ∃ k : Nat, y = k := ⟨y.toNat, by omega⟩
          have hkl : k < l.length := by omega
          have hk4 := hk3.grown hgr4 HNE.out
          have hD4 := hD3.pick HGB.out hgr4 hr4
          clear hD3 hk3 hr4 hgr4
          obtain ⟨A4, c4, e4, hP4, _, _⟩ := hD4.1.form
          simp only [Value.slice.injEq, true_and] at e4
          obtain ⟨rfl, rfl⟩ := e4
          obtain ⟨t, ht⟩ : ∃ t, l[k]? = some t := ⟨l[k], List.getElem?_eq_getElem hkl⟩
          obtain ⟨b, off, rfl, hb, hc0, hc1, hc2, hc3⟩ := hP4.at_ ht
          have hts := hD4.2.2.2 t (List.mem_of_getElem? ht)
          clear ht hP hP4
          have hd0 := hk4.cell 0
          have hd1 := hk4.cell 1
          have hd2 := hk4.cell 2
          have hd3 := hk4.cell 3
          have hf0 := hk4.frozen 0
          have hf1 := hk4.frozen 1
          have hf2 := hk4.frozen 2
          have hf3 := hk4.frozen 3
          simp at hd0 hd1 hd2 hd3
          go_wp2_with fail
          have hk5 := (((hk4.set 0 (.int .i64 t.a)).set 1 (.int .i64 t.j)).set 2 (.int .i64 t.s)).set 3 (.int .i64 t.p)
          have hs5 := (((grown_set w4 w2.heap.size 0 (.int .i64 t.a)).trans (grown_set _ w2.heap.size 1 (.int .i64 t.j))).trans (grown_set _ w2.heap.size 2 (.int .i64 t.s))).trans (grown_set _ w2.heap.size 3 (.int .i64 t.p))
          have hD5 := hD4.grow HGB.out hs5 HB2.out HND.out
          clear hc0 hc1 hc2 hc3 hd0 hd1 hd2 hd3 hf0 hf1 hf2 hf3 hs5 hD4 hk4
          simp only [List.set_cons_zero, List.set_cons_succ] at hk5
          generalize (((w4.setCell ⟨w2.heap.size, 0, none⟩ (.int .i64 t.a)).setCell ⟨w2.heap.size, 1, none⟩ (.int .i64 t.j)).setCell ⟨w2.heap.size, 2, none⟩ (.int .i64 t.s)).setCell ⟨w2.heap.size, 3, none⟩ (.int .i64 t.p) = w5 at *
          have hq3 := hk5.cell 3
          simp at hq3
          have hqf := hk5.frozen 3
          obtain ⟨⟨ta0, ta1⟩, ⟨tj0, tj1⟩, ⟨ts0, ts1⟩, tp0, tp1⟩ := hts
          have HK5 := Lib.hid hk5
          have HD5 := Lib.hid hD5
          clear hk5 hD5
          go_region_with ((go_at_call 53; refine (specPick g (N + 1 + 8 * i + 6 + 1) 3 _ (by exact HD5.out.2.1) (by omega) (by omega)).mono ?_; rintro e w6 ⟨z6, rfl, ⟨d0, d1, -⟩, hr6, hgr6', -⟩; have hgr6 : w5.grownBy w6 (some g) := grown_of_drew hgr6'; clear hgr6'; have hr3 := (HK5.out.grown (w' := w6) hgr6 HNE.out).cell 3; have hrf := (HK5.out.grown (w' := w6) hgr6 HNE.out).frozen 3; simp at hr3; have d1 := d1 (by omega)))
          all_goals
            have eX : (IntKind.i64.wrap (t.p + IntKind.i64.wrap (100 * z6))).tmod 1000 = (t.p + 100 * z6) % 1000 := by rw [IntWalk.i64_in (100 * z6) (by omega), IntWalk.i64_in _ (by omega), Int.tmod_eq_emod_of_nonneg (by omega)]
            rw [eX]
            have X0 : 0 ≤ (t.p + 100 * z6) % 1000 := by omega
            have X1 : (t.p + 100 * z6) % 1000 ≤ 999 := by omega
            clear eX
            generalize (t.p + 100 * z6) % 1000 = X at *
            have hk7 := (HK5.out.grown hgr6 HNE.out).set 3 (.int .i64 X)
            have hD7 := (HD5.out.pick HGB.out hgr6 hr6).grow HGB.out (grown_set w6 w2.heap.size 3 (.int .i64 X)) HB2.out HND.out
            clear hr3 hrf hq3 hqf
            generalize w6.setCell ⟨w2.heap.size, 3, none⟩ (.int .i64 X) = w7 at *
            have HD := Lib.hid (hD7.mono (show N + 1 + 8 * i + 6 + 1 + 1 ≤ N + 1 + 8 * i + 8 by omega))
            simp only [List.set_cons_zero, List.set_cons_succ] at hk7
            have hd0 := hk7.cell 0
            have hd1 := hk7.cell 1
            have hd2 := hk7.cell 2
            have hd3 := hk7.cell 3
            simp at hd0 hd1 hd2 hd3
            obtain ⟨q, hq⟩ : ∃ q : Pn, q = ⟨t.a, t.j, t.s, X⟩ := ⟨_, rfl⟩
            have HQS : Hid q.small := by subst hq; unfold Hid Pn.small; dsimp only; omega
            have hqa : t.a = q.a := by rw [hq]
            have hqj : t.j = q.j := by rw [hq]
            have hqs : t.s = q.s := by rw [hq]
            have hqp : X = q.p := by rw [hq]
            rw [hqa] at hd0
            rw [hqj] at hd1
            rw [hqs] at hd2
            rw [hqp] at hd3
            clear hq hqa hqj hqs hqp hD7 hk7
            have hrl : l.length ≤ 2000 := by omega
            have HLL := Lib.hid hrl
            go_wp2_with (at_builtin; go_must (refine wpList_append_own _ rfl _ _ 40 rfl w.heap.size 82 i0 _ 4 32 Try.underlying40 hi hz0 hz1 hz2 rfl (by decide) _ _ _ rfl (World.ownsRow.alloc HD.out.1 _) ⟨w7.heap.size, 0, none⟩ 1 1 q.vals rfl rfl (cells4h _ q _ _ (by simp)) (one4 _) (by have := HLL.out; unfold maxLen; omega) (by have := HLL.out; omega) (Nat.le_trans HD.out.2.2.1.size (by simp)) ?_))
            intro v' w5 hown' hgrow _
            have hD5 : DSt w g (N + 1 + 8 * (i + 1)) v' (l ++ [q]) w5 := DSt.app HD.out (by omega) HQS.out hown' hgrow HGB.out
            go_wp2
            go_roundw
            case rel => exact ⟨i + 1, l ++ [q], by omega, by go_num, (show (l ++ [q]).length = i + 1 by rw [List.length_append, HLI.out]; rfl), hD5⟩
            case measure => simp [intOf]; omega
        · have hzb : (z == 0) = false := by simp [hz]
          have HD := Lib.hid (hD3.mono (show N + 1 + 8 * i + 5 + 1 ≤ N + 1 + 8 * i + 8 by omega))
          have HQS := HPS
          have hd0 := hk3.cell 0
          have hd1 := hk3.cell 1
          have hd2 := hk3.cell 2
          have hd3 := hk3.cell 3
          simp at hd0 hd1 hd2 hd3
          clear hD3 hk3 hz
          generalize p = q at *
          have hrl : l.length ≤ 2000 := by omega
          have HLL := Lib.hid hrl
          go_wp2_with (at_builtin; go_must (refine wpList_append_own _ rfl _ _ 40 rfl w.heap.size 82 i0 _ 4 32 Try.underlying40 hi hz0 hz1 hz2 rfl (by decide) _ _ _ rfl (World.ownsRow.alloc HD.out.1 _) ⟨w3.heap.size, 0, none⟩ 1 1 q.vals rfl rfl (cells4h _ q _ _ (by simp)) (one4 _) (by have := HLL.out; unfold maxLen; omega) (by have := HLL.out; omega) (Nat.le_trans HD.out.2.2.1.size (by simp)) ?_))
          intro v' w5 hown' hgrow _
          have hD5 : DSt w g (N + 1 + 8 * (i + 1)) v' (l ++ [q]) w5 := DSt.app HD.out (by omega) HQS.out hown' hgrow HGB.out
          go_wp2
          go_roundw
          case rel => exact ⟨i + 1, l ++ [q], by omega, by go_num, (show (l ++ [q]).length = i + 1 by rw [List.length_append, HLI.out]; rfl), hD5⟩
          case measure => simp [intOf]; omega
    · have hie : i = n := by omega
      by_cases hn0 : n = 0
      · have hnb : decide ((0 : Int) < (n : Int)) = false := by simp; omega
        have hnb' : decide (0 < n) = false := by simp; omega
        have HI := Lib.hid hie
        have HN0 := Lib.hid hn0
        clear hie hn0
        go_wp2
        go_ret
        exact ⟨_, l, rfl, by have := HLI.out; have := HI.out; have := HN0.out; omega, HDR.out.mono (by have := HI.out; omega)⟩
      · obtain ⟨p, rest, hl⟩ : ∃ p rest, l = p :: rest := by
          cases l with
          | nil => have := HLI.out; simp at this; omega
          | cons p rest => exact ⟨p, rest, rfl⟩
        obtain ⟨gb, rfl⟩ : ∃ gb, A' = some ⟨gb, 0, none⟩ := by
          rcases HDR.out.1.2 with ⟨h1, _⟩ | ⟨gb, cap, cur, h1, _⟩
          · simp at h1; have := HLI.out; simp [h1] at this; omega
          · simp at h1; exact ⟨gb, h1.1⟩
        have HLP := Lib.hid hl
        have hps := HDR.out.2.2.2 p (by rw [hl]; simp)
        have hnb : 0 < n := by omega
        have hl1 : 0 < l.length := by have := HLI.out; omega
        have HI := Lib.hid hie
        have HLM := Lib.hid (show l.length ≤ m by have := HLI.out; omega)
        have HN2 := Lib.hid (show N + 1 + 8 * i + 1 + 1 ≤ N + 8 * m + 3 by omega)
        obtain ⟨⟨pa0, pa1⟩, ⟨pj0, pj1⟩, ⟨ps0, ps1⟩, pp0, pp1⟩ := hps
        have hge : n ≤ i := by omega
        clear hl hie hn0 hP hlt
        go_wp2_with fail
        refine (specPick g (N + 1 + 8 * i) 40 _ HDR.out.2.1 (by omega) (by omega)).mono ?_
        rintro e w2 ⟨z, rfl, ⟨z0, z1, -⟩, hr2, hgr2, -⟩
        have z1 := z1 (by omega)
        have hD2 := HDR.out.pick HGB.out hgr2 hr2
        clear HDR hr2 hgr2
        by_cases hza : z = 0
        · subst hza
          have hD3 := hD2.alloc (.cells #[.int .i64 (-1), .int .i64 4] 3)
          have hk3 := Blk.new w2 3 #[.int .i64 (-1), .int .i64 4]
          have hne : w2.heap.size ≠ g := by have := hD2.2.1.lt; omega
          have HNE := Lib.hid hne
          clear hne
          go_wp2_with fail
          refine (specPick g (N + 1 + 8 * i + 1) 2 _ hD3.2.1 (by omega) (by omega)).mono ?_
          rintro e w4 ⟨y, rfl, ⟨y0, y1, -⟩, hr4, hgr4, -⟩
          have y1 := y1 (by omega)
          have hD4 := (hD3.pick HGB.out hgr4 hr4).mono HN2.out
          have hk4 := hk3.grown hgr4 HNE.out
          have hc0 := hk4.cell 0
          have hc1 := hk4.cell 1
          simp at hc0 hc1
          obtain ⟨hh, hf⟩ := hD4.head HLP.out 0 (by omega)
          simp [Pn.vals] at hh
          clear hD3 hk3 hr4 hgr4 hD2 hk4
          rcases (show y = 0 ∨ y = 1 by omega) with rfl | rfl
          · obtain ⟨l', e1, hD5⟩ := hD4.store HLP.out HGB.out (p' := ⟨-1, p.j, p.s, p.p⟩) (j := 0) (u := .int .i64 (-1)) rfl (by omega) (by unfold Pn.small; dsimp only; omega)
            have HD5 := Lib.hid hD5
            have HE1 := Lib.hid e1
            clear hD4 hD5 e1
            go_wp2
            go_ret
            exact ⟨_, l', rfl, by have := HE1.out; have := HLM.out; omega, HD5.out⟩
          · obtain ⟨l', e1, hD5⟩ := hD4.store HLP.out HGB.out (p' := ⟨4, p.j, p.s, p.p⟩) (j := 0) (u := .int .i64 4) rfl (by omega) (by unfold Pn.small; dsimp only; omega)
            have HD5 := Lib.hid hD5
            have HE1 := Lib.hid e1
            clear hD4 hD5 e1
            go_wp2
            go_ret
            exact ⟨_, l', rfl, by have := HE1.out; have := HLM.out; omega, HD5.out⟩
        have hzab : (z == 0) = false := by simp [hza]
        clear hza
        by_cases hzb : z = 1
        · subst hzb
          obtain ⟨hh, hf⟩ := hD2.head HLP.out 3 (by omega)
          simp [Pn.vals] at hh
          obtain ⟨l', e1, hD5⟩ := hD2.store HLP.out HGB.out (p' := ⟨p.a, p.j, p.s, 1000⟩) (j := 3) (u := .int .i64 1000) rfl (by omega) (by unfold Pn.small; dsimp only; omega)
          have HD5 := Lib.hid hD5
          have HE1 := Lib.hid e1
          clear hD2 hD5 e1
          go_wp2
          go_ret
          exact ⟨_, l', rfl, by have := HE1.out; have := HLM.out; omega, HD5.out.mono (by have := HN2.out; omega)⟩
        have hzbb : (z == 1) = false := by simp [hzb]
        clear hzb
        by_cases hzc : z = 2
        · subst hzc
          obtain ⟨hh, hf⟩ := hD2.head HLP.out 2 (by omega)
          simp [Pn.vals] at hh
          obtain ⟨l', e1, hD5⟩ := hD2.store HLP.out HGB.out (p' := ⟨p.a, p.j, 2, p.p⟩) (j := 2) (u := .int .i64 2) rfl (by omega) (by unfold Pn.small; dsimp only; omega)
          have HD5 := Lib.hid hD5
          have HE1 := Lib.hid e1
          clear hD2 hD5 e1
          go_wp2
          go_ret
          exact ⟨_, l', rfl, by have := HE1.out; have := HLM.out; omega, HD5.out.mono (by have := HN2.out; omega)⟩
        have hzcb : (z == 2) = false := by simp [hzc]
        clear hzc
        have HD2 := Lib.hid hD2
        clear hD2
        go_wp2
        go_ret
        exact ⟨_, l, rfl, HLM.out, HD2.out.mono (by have := HN2.out; omega)⟩
end Go.Proofs.Ytfpddhehdfckjaa
