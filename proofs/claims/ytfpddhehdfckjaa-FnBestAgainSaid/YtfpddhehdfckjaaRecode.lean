/- Recoding: codes at a level, valid recodings, recoded people: the program's. -/
import Derived.Test.YtfpddhehdfckjaaLadder
import Derived.OwnWalk
import Derived.Maps.AppendAt
import Derived.Outline
namespace Go.Proofs.Ytfpddhehdfckjaa
open Go.RowKit

theorem implCode (A : Option Addr) (c : Nat) (L : List (List Int)) (lev q : Int) (w : World) (hg : Grd w w.heap.size A (grid L)) (h : goodLad L) (h0 : 0 ≤ lev) (h1 : lev ≤ L.length) (q0 : 0 ≤ q) (q1 : q ≤ 3) :
    Calls Try.prog 64 #[.slice A L.length c, .int .i64 lev, .int .i64 q] w fun e w' => e = .returned (.int .i64 (lcode L lev q)) ∧ w = w' := by
  have hL3 := h.1
  by_cases hz : lev = 0
  · subst hz
    go_enter Try.func64, Try.ntmps64
    go_wp2
    go_ret
    exact ⟨ret_int (by simp [lcode]), rfl⟩
  · obtain ⟨k, rfl⟩ : ∃ k : Nat, lev = (k : Int) + 1 := ⟨(lev - 1).toNat, by omega⟩
    have ek : ((k : Int) + 1 - 1).toNat = k := by omega
    have hz1 : ((k : Int) + 1 == 0) = false := by simp; omega
    obtain ⟨b, off, A', c', rfl, hb, hc, hl, hcm, hr⟩ := hg.ix (k := k) (by omega)
    have hgs := h.2.1 k (by omega)
    have HF := Lib.hid (show lcode L ((k : Int) + 1) q = ix (ixs L k) q.toNat by unfold lcode; rw [if_neg hz, ek])
    clear ek
    generalize ixs L k = s at *
    obtain ⟨hs4, _⟩ := hgs
    obtain ⟨b2, off2, rfl, hb2, hc2⟩ := hr.ix (k := q.toNat) (by omega)
    rw [hs4] at hc
    clear hr hl hs4 hz
    generalize ix s q.toNat = y at *
    go_enter Try.func64, Try.ntmps64
    go_wp2
    go_ret
    exact ⟨ret_int HF.out.symm, rfl⟩

set_option maxHeartbeats 400000 in
theorem implRecodeValid (A : Option Addr) (c : Nat) (L : List (List Int)) (r : Rc) (w : World) (hg : Grd w w.heap.size A (grid L)) (hn : L.length ≤ 2000000) :
    Calls Try.prog 35 #[.slice A L.length c, r.val] w fun e w' => RB (goodR L r) e ∧ Below w.heap.size w w' := by
  obtain ⟨a, j, s⟩ := r
  unfold Rc.val
  dsimp only
  have hb0 : ∀ o, Below w.heap.size w (w.alloc o) := fun o => (Below.refl _ _).alloc (Nat.le_refl _) o
  have HB := Lib.hid hb0
  clear hb0
  go_enter Try.func35, Try.ntmps35
  go_wp2_with fail
  refine (implLadderValid A c L _ ((hg.below (HB.out _)).more (HB.out _).size) hn).mono ?_
  rintro e w' ⟨hrb, rfl⟩
  rcases hrb.split with ⟨rfl, HG⟩ | ⟨rfl, HG⟩
  · go_wp2
    all_goals go_ret
    all_goals refine ⟨?_, HB.out _⟩
    all_goals first
      | (refine RB.no (p := goodR L ⟨a, j, s⟩) ?_; unfold goodR; dsimp only; rintro ⟨_, h1, h2, h3⟩; omega)
      | (refine RB.yes (p := goodR L ⟨a, j, s⟩) ?_; unfold goodR; dsimp only; refine ⟨HG.out, ?_, ?_, ?_⟩ <;> omega)
      | (refine ⟨s == 0 || s == 1, rfl, ?_⟩; unfold goodR; dsimp only; rw [Bool.or_eq_true, beq_iff_eq, beq_iff_eq]; constructor; (intro h; refine ⟨HG.out, ?_, ?_, ?_⟩ <;> omega); (rintro ⟨_, h1, h2, h3⟩; omega))
  · go_wp2
    go_ret
    exact ⟨RB.no (fun h => HG.out h.1), HB.out _⟩

theorem infoP : (Try.prog.info? 82).map (fun i => (i.zero, i.size, i.bytes)) = some (some (.agg #[.int .i64 0, .int .i64 0, .int .i64 0, .int .i64 0]), 4, 32) := by kernel_rfl

theorem recd_snoc (L : List (List Int)) (r : Rc) (pre : List Pn) (p : Pn) : recd L r (pre ++ [p]) = recd L r pre ++ [rec1 L r p] := by simp [recd]
theorem recd_len (L : List (List Int)) (r : Rc) (l : List Pn) : (recd L r l).length = l.length := by simp [recd]

set_option maxRecDepth 100000 in
set_option maxHeartbeats 1000000 in
theorem implRecodePeople (A A2 : Option Addr) (c c2 : Nat) (l : List Pn) (L : List (List Int)) (r : Rc) (w : World) (h : Arg w A l A2 L) :
    Calls Try.prog 34 #[.slice A l.length c, .slice A2 L.length c2, r.val] w (RcOut 82 l L r w) := by
  obtain ⟨i0, hi, hz0, hz1, hz2⟩ := info_parts infoP
  have H := Lib.hid h
  clear h
  have hb0 : ∀ o, Below w.heap.size w (w.alloc o) := fun o => (Below.refl _ _).alloc (Nat.le_refl _) o
  have HB := Lib.hid hb0
  clear hb0
  obtain ⟨ra, rj, rs⟩ := r
  unfold Rc.val
  dsimp only
  have hn := H.out.2.1
  have hblk0 := Blk.new w 44 #[.int .i64 ra, .int .i64 rj, .int .i64 rs]
  go_enter Try.func34, Try.ntmps34
  go_wp2_with fail
  refine (implPeopleValid A c l _ ((H.out.below (HB.out _)).1) hn).mono ?_
  rintro e w1 ⟨hrb, hb1⟩
  have hb01 := (HB.out _).trans (hb1.mono (HB.out _).size)
  have hblk1 := hblk0.below hb1 hblk0.lt
  have hc0 := hblk1.cell 0
  have hc1 := hblk1.cell 1
  have hc2 := hblk1.cell 2
  simp at hc0 hc1 hc2
  clear hb1 hblk0
  rcases hrb.split with ⟨rfl, HG⟩ | ⟨rfl, HG⟩
  · go_wp2_with fail
    refine (implRecodeValid A2 c2 L ⟨ra, rj, rs⟩ _ ((H.out.below hb01).2.2.1) (H.out.2.2.2.1)).mono ?_
    rintro e w2 ⟨hrb2, hb2⟩
    have hb02 := hb01.trans (hb2.mono hb01.size)
    have hblk2 := hblk1.below hb2 hblk1.lt
    have hz2' : w.heap.size < w2.heap.size := hblk2.lt
    clear hc0 hc1 hc2 hblk1 hb2 hb01
    rcases hrb2.split with ⟨rfl, HG2⟩ | ⟨rfl, HG2⟩
    · have HOK := Lib.hid (show okA l L ⟨ra, rj, rs⟩ from ⟨HG.out, HG2.out⟩)
      obtain ⟨⟨hgood, h40⟩, hlad, ⟨hra0, hra1⟩, hrj, hrs⟩ := HOK.out
      have HGD := Lib.hid hgood
      have HLD := Lib.hid hlad
      clear hgood hlad hrb hrb2 HG HG2
      dsimp only at hra0 hra1 hrj hrs
      have hrj0 : 0 ≤ rj := by omega
      have hrj1 : rj ≤ 1 := by omega
      have hrs0 : 0 ≤ rs := by omega
      have hrs1 : rs ≤ 1 := by omega
      clear hrj hrs
      have hA := H.out.below hb02
      have HA := Lib.hid hA
      clear hA
      go_wp2
      go_loopw [8, 22] (fun v i wr => ∃ pre suf, Cut l pre suf ∧ i = .int .i64 pre.length ∧ OPpl wr w2.heap.size 82 v (recd L ⟨ra, rj, rs⟩ pre) ∧ Below w2.heap.size w2 wr) (fun _ i _ => l.length - (intOf i).toNat)
      case atStart => exact ⟨[], l, Cut.zero _, rfl, OPpl.nil _ _ _, Below.refl _ _⟩
      case round =>
        obtain ⟨pre, suf, hcut, rfl, hown, hbel⟩ := hrel
        cases suf with
        | nil =>
          have hge := hcut.len0
          go_wp2
          go_ret2
          refine .inl ⟨HOK.out, _, rfl, ?_, hb02.trans (hbel.mono hb02.size)⟩
          rw [hcut.done] at hown
          exact own_weaken hown hb02.size
        | cons p suf =>
          have hlt := hcut.len1
          obtain ⟨⟨hpa0, hpa1⟩, ⟨hpj0, hpj1⟩, ⟨hps0, hps1⟩, hpp0, hpp1⟩ := HGD.out p hcut.mem
          have hq := HA.out.below hbel
          obtain ⟨b, off, rfl, hb, hc0, hc1, hc2, hc3⟩ := hq.1.at_ hcut.at_
          have hGr := hq.2.2.1
          clear hq
          have hblk3 := hblk2.below hbel hblk2.lt
          have hd0 := hblk3.cell 0
          have hd1 := hblk3.cell 1
          have hd2 := hblk3.cell 2
          simp at hd0 hd1 hd2
          have hbs := hbel.size
          have hbw : w.heap.size < wr.heap.size := by omega
          go_wp2_with fail
          refine (implCode A2 c2 L ra p.a _ ((hGr.below ((Below.refl _ _).alloc (Nat.le_refl _) _)).more (by simp)) HLD.out hra0 hra1 hpa0 hpa1).mono ?_
          rintro e w' ⟨rfl, rfl⟩
          have hm1 : 0 ≤ p.j * (1 - rj) := Int.mul_nonneg hpj0 (by omega)
          have hm2 : p.j * (1 - rj) ≤ 3 := by rcases (show rj = 0 ∨ rj = 1 by omega) with h | h <;> rw [h] <;> omega
          have hm3 : 0 ≤ p.s * (1 - rs) := Int.mul_nonneg hps0 (by omega)
          have hm4 : p.s * (1 - rs) ≤ 3 := by rcases (show rs = 0 ∨ rs = 1 by omega) with h | h <;> rw [h] <;> omega
          have hrl := recd_len L ⟨ra, rj, rs⟩ pre
          have HRL := Lib.hid hrl
          clear hrl
          go_wp2_with (at_builtin; refine wpList_append_own _ rfl _ _ 40 rfl w2.heap.size 82 i0 _ 4 32 Try.underlying40 hi hz0 hz1 hz2 rfl (by decide) _ _ _ rfl ((World.ownsRow.alloc hown _).alloc _) ⟨wr.heap.size + 1, 0, none⟩ 1 1 (rec1 L ⟨ra, rj, rs⟩ p).vals rfl rfl ?c1 (one4 _) ?c3 ?c4 ?c5 ?_)
          case c1 => exact cells4h _ (rec1 L ⟨ra, rj, rs⟩ p) _ _ (by simp)
          case c3 => rw [HRL.out]; unfold maxLen; omega
          case c4 => rw [HRL.out]; omega
          case c5 => simp; omega
          intro v' w3 hown' hgrow _
          have hb3 := ((hbel.alloc hbs _).alloc (by simp; omega) _).grown hgrow (by simp; omega) (own_base hown)
          clear hgrow hd0 hd1 hd2 hc0 hc1 hc2 hc3
          go_wp2
          go_roundw
          case rel => exact ⟨pre ++ [p], suf, hcut.next, by simp, by rw [recd_snoc]; exact OPpl.snoc hown', hb3⟩
          case measure => simp [intOf]; omega
    · go_wp2
      go_ret2
      exact .inr ⟨fun h => HG2.out h.2, _, rfl, OPpl.nil _ _ _, hb02⟩
  · go_wp2
    go_ret2
    exact .inr ⟨fun h => HG.out h.1, _, rfl, OPpl.nil _ _ _, hb01⟩
end Go.Proofs.Ytfpddhehdfckjaa
