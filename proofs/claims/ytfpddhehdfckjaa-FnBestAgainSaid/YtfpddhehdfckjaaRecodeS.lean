/- Recoding: the reference's. -/
import Derived.Test.YtfpddhehdfckjaaRecode
import Derived.Test.YtfpddhehdfckjaaLadderS
import Derived.Deep.RegionHeld3
import Derived.Deep.AppendLies
import Derived.Deep.DrawnRows
import Derived.Outline
namespace Go.Proofs.Ytfpddhehdfckjaa
open Go.RowKit
attribute [local go_sem ↓] Go.wp_at_zero Go.wp_at_succ

theorem OPpl.empty (w : World) (T : Nat) : OPpl (w.alloc (.cells #[] T)) w.heap.size T (.slice (some ⟨w.heap.size, 0, none⟩) 0 0) [] :=
  ⟨by simp, .inr ⟨w.heap.size, 0, #[], rfl, Nat.le_refl _, heap_alloc_new w _, by simp, by unfold maxLen; omega, rfl, rfl⟩⟩
theorem OPpl.below {w w' : World} {base T : Nat} {v : Value} {l : List Pn} (h : OPpl w base T v l) (hb : Below w.heap.size w w') : OPpl w' base T v l := by
  refine ⟨h.1, ?_⟩
  rcases h.2 with h' | ⟨g, cap, cur, h1, h2, h3, h4⟩
  · exact .inl h'
  · exact .inr ⟨g, cap, cur, h1, h2, (hb.block g (Array.getElem?_eq_some_iff.1 h3).1).trans h3, h4⟩

theorem specCode (A : Option Addr) (c : Nat) (L : List (List Int)) (lev q : Int) (w : World) (hg : Grd w w.heap.size A (grid L)) (h : goodLad L) (h0 : 0 ≤ lev) (h1 : lev ≤ L.length) (q0 : 0 ≤ q) (q1 : q ≤ 3) :
    Calls Try.prog 84 #[.slice A L.length c, .int .i64 lev, .int .i64 q] w fun e w' => e = .returned (.int .i64 (lcode L lev q)) ∧ w = w' := by
  have hL3 := h.1
  by_cases hz : lev = 0
  · subst hz
    go_enter Try.func84, Try.ntmps84
    go_wp2
    go_ret
    exact ⟨ret_int (by simp [lcode]), rfl⟩
  · obtain ⟨k, rfl⟩ : ∃ k : Nat, lev = (k : Int) + 1 := ⟨(lev - 1).toNat, by omega⟩
    have ek : ((k : Int) + 1 - 1).toNat = k := by omega
    have hz1 : ((k : Int) + 1 == 0) = false := by simp; omega
    obtain ⟨b, off, A', c', rfl, hb, hc, hl, hcm, hr⟩ := hg.ix (k := k) (by omega)
    have hgs := h.2.1 k (by omega)
    have HF := Lib.hid (show lcode L ((k : Int) + 1) q = ix (ixs L k) q.toNat by unfold lcode; rw [if_neg hz, ek])
    clear ek
    generalize ixs L k = s at *
    obtain ⟨hs4, _⟩ := hgs
    obtain ⟨b2, off2, rfl, hb2, hc2⟩ := hr.ix (k := q.toNat) (by omega)
    rw [hs4] at hc
    clear hr hl hs4 hz
    generalize ix s q.toNat = y at *
    go_enter Try.func84, Try.ntmps84
    go_wp2
    go_ret
    exact ⟨ret_int HF.out.symm, rfl⟩

set_option maxHeartbeats 400000 in
theorem specRecodeValid (A : Option Addr) (c : Nat) (L : List (List Int)) (r : Rc) (w : World) (hg : Grd w w.heap.size A (grid L)) (hn : L.length ≤ 2000000) (hl : ∀ s ∈ L, s.length ≤ 2000000) :
    Calls Try.prog 79 #[.slice A L.length c, r.val] w fun e w' => RB (goodR L r) e ∧ Below w.heap.size w w' := by
  obtain ⟨a, j, s⟩ := r
  unfold Rc.val
  dsimp only
  have hb0 : ∀ o, Below w.heap.size w (w.alloc o) := fun o => (Below.refl _ _).alloc (Nat.le_refl _) o
  have HB := Lib.hid hb0
  have HL := Lib.hid hl
  clear hb0 hl
  go_enter Try.func79, Try.ntmps79
  go_wp2_with fail
  refine (specLadderValid A c L _ ((hg.below (HB.out _)).more (HB.out _).size) hn HL.out).mono ?_
  rintro e w' ⟨hrb, n, rfl⟩
  rcases hrb.split with ⟨rfl, HG⟩ | ⟨rfl, HG⟩
  · go_wp2
    all_goals go_ret
    all_goals refine ⟨?_, bdrewN (HB.out _) _⟩
    all_goals first
      | (refine RB.no (p := goodR L ⟨a, j, s⟩) ?_; unfold goodR; dsimp only; rintro ⟨_, h1, h2, h3⟩; omega)
      | (refine RB.yes (p := goodR L ⟨a, j, s⟩) ?_; unfold goodR; dsimp only; refine ⟨HG.out, ?_, ?_, ?_⟩ <;> omega)
      | (refine ⟨_, rfl, ?_⟩; unfold goodR; dsimp only; simp only [decide_eq_true_eq]; constructor; (intro h; refine ⟨HG.out, ?_, ?_, ?_⟩ <;> omega); (rintro ⟨_, h1, h2, h3⟩; omega))
  · go_wp2
    go_ret
    exact ⟨RB.no (fun h => HG.out h.1), bdrewN (HB.out _) _⟩

theorem specOk (A A2 : Option Addr) (c c2 : Nat) (l : List Pn) (L : List (List Int)) (r : Rc) (w : World) (h : Arg w A l A2 L) :
    Calls Try.prog 80 #[.slice A l.length c, .slice A2 L.length c2, r.val] w fun e w' => RB (okA l L r) e ∧ Below w.heap.size w w' := by
  have H := Lib.hid h
  clear h
  have hb0 : ∀ o, Below w.heap.size w (w.alloc o) := fun o => (Below.refl _ _).alloc (Nat.le_refl _) o
  have HB := Lib.hid hb0
  clear hb0
  obtain ⟨ra, rj, rs⟩ := r
  unfold Rc.val
  dsimp only
  have hn := H.out.2.1
  have hblk0 := Blk.new w 44 #[.int .i64 ra, .int .i64 rj, .int .i64 rs]
  go_enter Try.func80, Try.ntmps80
  go_wp2_with fail
  refine (specPeopleValid A c l _ ((H.out.below (HB.out _)).1) hn).mono ?_
  rintro e w1 ⟨hrb, hb1⟩
  have hb01 := (HB.out _).trans (hb1.mono (HB.out _).size)
  have hblk1 := hblk0.below hb1 hblk0.lt
  have hc0 := hblk1.cell 0
  have hc1 := hblk1.cell 1
  have hc2 := hblk1.cell 2
  simp at hc0 hc1 hc2
  clear hb1 hblk0
  rcases hrb.split with ⟨rfl, HG⟩ | ⟨rfl, HG⟩
  · go_wp2_with fail
    have hq := H.out.below hb01
    refine (specRecodeValid A2 c2 L ⟨ra, rj, rs⟩ _ hq.2.2.1 hq.2.2.2.1 hq.2.2.2.2).mono ?_
    rintro e w2 ⟨hrb2, hb2⟩
    have hb02 := hb01.trans (hb2.mono hb01.size)
    clear hq
    rcases hrb2.split with ⟨rfl, HG2⟩ | ⟨rfl, HG2⟩
    · go_wp2
      go_ret
      exact ⟨RB.yes ⟨HG.out, HG2.out⟩, hb02⟩
    · go_wp2
      go_ret
      exact ⟨RB.no (fun h => HG2.out h.2), hb02⟩
  · go_wp2
    go_ret
    exact ⟨RB.no (fun h => HG.out h.1), hb01⟩

set_option maxHeartbeats 1000000 in
theorem specRecode (p : Pn) (A2 : Option Addr) (c2 : Nat) (L : List (List Int)) (r : Rc) (w : World) (hg : Grd w w.heap.size A2 (grid L)) (hp : p.good) (hr : goodR L r) :
    Calls Try.prog 81 #[p.val, .slice A2 L.length c2, r.val] w fun e w' => e = .returned (rec1 L r p).val ∧ Below w.heap.size w w' := by
  obtain ⟨a, j, s, q⟩ := p
  obtain ⟨ra, rj, rs⟩ := r
  unfold Rc.val Pn.val rec1
  dsimp only
  obtain ⟨hlad, ⟨hra0, hra1⟩, hrj, hrs⟩ := hr
  obtain ⟨⟨hpa0, hpa1⟩, ⟨hpj0, hpj1⟩, ⟨hps0, hps1⟩, hpp0, hpp1⟩ := hp
  dsimp only at hra0 hra1 hrj hrs hpa0 hpa1 hpj0 hpj1 hps0 hps1 hpp0 hpp1
  have HLD := Lib.hid hlad
  clear hlad
  rcases hrj with rfl | rfl <;> rcases hrs with rfl | rfl
  all_goals
    simp only [Int.sub_zero, Int.mul_one, Int.sub_self, Int.mul_zero]
    go_enter Try.func81, Try.ntmps81
    go_wp2_with fail
    refine (specCode A2 c2 L ra a _ ((hg.below (((((Below.refl _ _).alloc (Nat.le_refl _) _).alloc (by simp) _).alloc (by simp; omega) _).alloc (by simp; omega) _)).more (by simp; omega)) HLD.out hra0 hra1 hpa0 hpa1).mono ?_
    rintro e w' ⟨rfl, rfl⟩
    go_wp2
    refine bodyPost_ret ?_ rfl ⟨rfl, (((((Below.refl _ _).alloc (Nat.le_refl _) _).alloc (by simp <;> omega) _).alloc (by simp <;> omega) _).alloc (by simp <;> omega) _)⟩
    simp [results, Try.results81, go_sem]

set_option maxRecDepth 100000 in
set_option maxHeartbeats 1000000 in
theorem specRecodePeople (A A2 : Option Addr) (c c2 : Nat) (l : List Pn) (L : List (List Int)) (r : Rc) (w : World) (h : Arg w A l A2 L) :
    Calls Try.prog 66 #[.slice A l.length c, .slice A2 L.length c2, r.val] w (RcOut 82 l L r w) := by
  obtain ⟨i0, hi, hz0, hz1, hz2⟩ := info_parts infoP
  have H := Lib.hid h
  clear h
  have hb0 : ∀ o, Below w.heap.size w (w.alloc o) := fun o => (Below.refl _ _).alloc (Nat.le_refl _) o
  have HB := Lib.hid hb0
  clear hb0
  obtain ⟨ra, rj, rs⟩ := r
  unfold Rc.val
  dsimp only
  have hn := H.out.2.1
  go_enter Try.func66, Try.ntmps66
  go_wp2_with fail
  have hblk0 := (Blk.new w 44 #[.int .i64 ra, .int .i64 rj, .int .i64 rs]).alloc (.cells #[] 82)
  have hb00 : Below w.heap.size w ((w.alloc (.cells #[.int .i64 ra, .int .i64 rj, .int .i64 rs] 44)).alloc (.cells #[] 82)) := (((Below.refl _ _).alloc (Nat.le_refl _) _).alloc (by simp <;> omega) _)
  have hown0 := OPpl.empty (w.alloc (.cells #[.int .i64 ra, .int .i64 rj, .int .i64 rs] 44)) 82
  generalize hw0 : ((w.alloc (.cells #[.int .i64 ra, .int .i64 rj, .int .i64 rs] 44)).alloc (.cells #[] 82)) = w0 at *
  have hs0 : w0.heap.size = w.heap.size + 2 := by rw [← hw0]; simp
  have HS0 := Lib.hid hs0
  rw [World.size_alloc] at hown0
  clear hw0 hs0
  refine (specOk A A2 c c2 l L ⟨ra, rj, rs⟩ w0 (H.out.below hb00)).mono ?_
  rintro e w1 ⟨hrb, hb1⟩
  have hb01 := hb00.trans (hb1.mono hb00.size)
  have hblk1 := hblk0.below hb1 hblk0.lt
  have hown1 := OPpl.below hown0 hb1
  have hbw1 : w.heap.size + 2 ≤ w1.heap.size := by have := hb1.size; have := HS0.out; omega
  clear hb1 hblk0 hown0 hb00 HS0
  rcases hrb.split with ⟨rfl, HG⟩ | ⟨rfl, HG⟩
  · have HOK := Lib.hid HG.out
    obtain ⟨⟨hgood, h40⟩, hrec⟩ := HOK.out
    have HGD := Lib.hid hgood
    have HR := Lib.hid hrec
    have HA := Lib.hid (H.out.below hb01)
    clear hgood hrec HG hrb
    go_wp2
    go_loopw [8, 9] (fun v i wr => ∃ pre suf, Cut l pre suf ∧ i = .int .i64 pre.length ∧ OPpl wr (w.heap.size + 1) 82 v (recd L ⟨ra, rj, rs⟩ pre) ∧ Below (w.heap.size + 1) w1 wr) (fun _ i _ => l.length - (intOf i).toNat)
    case atStart => exact ⟨[], l, Cut.zero _, rfl, hown1, Below.refl _ _⟩
    case round =>
      obtain ⟨pre, suf, hcut, rfl, hown, hbel⟩ := hrel
      cases suf with
      | nil =>
        have hge := hcut.len0
        go_wp2
        go_ret2
        refine .inl ⟨HOK.out, _, rfl, ?_, hb01.trans (hbel.mono (by omega))⟩
        rw [hcut.done] at hown
        exact own_weaken hown (by omega)
      | cons p suf =>
        have hlt := hcut.len1
        have hpg := Lib.hid (HGD.out p hcut.mem)
        have hbwr : Below w.heap.size w wr := hb01.trans (hbel.mono (by omega))
        have hGr := Lib.hid ((H.out.2.2.1.below hbwr).more hbwr.size)
        obtain ⟨b, off, rfl, hb, hc0, hc1, hc2, hc3⟩ := (H.out.1.below hbwr).at_ hcut.at_
        have hblk3 := hblk1.below hbel (by omega)
        have hd0 := hblk3.cell 0
        have hd1 := hblk3.cell 1
        have hd2 := hblk3.cell 2
        simp at hd0 hd1 hd2
        have hbs := hbel.size
        have hbw : w.heap.size < wr.heap.size := hblk3.lt
        have hbb : b < wr.heap.size := by omega
        have hbb1 : b < w.heap.size + 1 := by omega
        have hk0 : (0 : Int) ≤ (pre.length : Int) := Int.natCast_nonneg _
        have hk1 : (pre.length : Int) < (l.length : Int) := by omega
        have HRL := Lib.hid (recd_len L ⟨ra, rj, rs⟩ pre)
        have HOWN := Lib.hid hown
        have HBEL := Lib.hid hbel
        clear hblk3 hown hbel
        have HBW := Lib.hid (show w.heap.size + 1 ≤ wr.heap.size by omega)
        go_wp2_with fail
        go_region_held3 (fun w' => w'.cell? ⟨b, off + pre.length * 4, none⟩ = some (.int .i64 p.a) ∧ w'.cell? ⟨b, off + pre.length * 4 + 1, none⟩ = some (.int .i64 p.j) ∧ w'.cell? ⟨b, off + pre.length * 4 + 2, none⟩ = some (.int .i64 p.s) ∧ w'.cell? ⟨b, off + pre.length * 4 + 3, none⟩ = some (.int .i64 p.p) ∧ w'.cell? ⟨w.heap.size, 0, none⟩ = some (.int .i64 ra) ∧ w'.cell? ⟨w.heap.size, 1, none⟩ = some (.int .i64 rj) ∧ w'.cell? ⟨w.heap.size, 2, none⟩ = some (.int .i64 rs))
          (go_keep)
          (first
            | (go_at_call 81; refine (specRecode p A2 c2 L ⟨ra, rj, rs⟩ _ (by exact hGr.out) hpg.out HR.out).mono ?_; rintro e w3 ⟨rfl, hb3⟩; have hcell : ∀ x o, x < wr.heap.size → w3.cell? ⟨x, o, none⟩ = wr.cell? ⟨x, o, none⟩ := fun x o hx => hb3.cell (p := ⟨x, o, none⟩) hx; have HB3 : Hid (Below wr.heap.size wr w3) := (Below.refl wr.heap.size wr).drew.trans hb3; clear hb3)
            | (refine step_append_lies _ (by rfl) _ _ _ (by rfl) (w.heap.size + 1) 82 i0 _ 4 32 Try.underlying40 hi hz0 hz1 hz2 rfl (by omega) _ _ _ (by rfl) (World.ownsRow.alloc (OPpl.below HOWN.out HB3.out) _) ⟨w3.heap.size, 0, none⟩ 1 1 (rec1 L ⟨ra, rj, rs⟩ p).vals (by rfl) (by rfl) (cells4 _ _ _) (one4 _) (by omega) (by rw [HRL.out]; unfold maxLen; omega) (by rw [HRL.out]; omega) (Nat.le_trans HBW.out (Nat.le_trans HB3.out.size (by simp))) (w3.heap.size + 1) (by simp) ?_; intro g cap w4 hown4 hgrow4 hat4 hlt4; have hb4 := (((HB3.out.mono HBW.out).alloc (Nat.le_trans HBW.out HB3.out.size) _).grown hgrow4 (Nat.le_trans HBW.out (Nat.le_trans HB3.out.size (by simp))) (own_base HOWN.out)); have hcell4 : ∀ x o, x < w.heap.size + 1 → w4.cell? ⟨x, o, none⟩ = wr.cell? ⟨x, o, none⟩ := fun x o hx => hb4.cell (p := ⟨x, o, none⟩) hx)
            | fail)
        have hbel4 := HBEL.out.trans hb4
        clear hcell hcell4 hb4 hgrow4
        go_wp2
        go_roundw
        case rel => exact ⟨pre ++ [p], suf, hcut.next, by simp, by rw [recd_snoc]; exact OPpl.snoc hown4, hbel4⟩
        case measure => simp [intOf]; omega
  · go_wp2
    go_ret2
    exact .inr ⟨HG.out, _, rfl, own_weaken hown1 (by omega), hb01⟩
end Go.Proofs.Ytfpddhehdfckjaa
