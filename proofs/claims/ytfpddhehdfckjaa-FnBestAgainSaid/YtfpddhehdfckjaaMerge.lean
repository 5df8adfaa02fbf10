/- The reference's LadderMerge: it returns rows of its own, few and short. -/
import Derived.Test.YtfpddhehdfckjaaOGr
import Derived.Test.YtfpddhehdfckjaaRecodeS
import Derived.OwnWalk
import Derived.Deep.DeepMust
namespace Go.Proofs.Ytfpddhehdfckjaa
open Go.RowKit

theorem infoI : (Try.prog.info? 3).map (fun i => (i.zero, i.size, i.bytes)) = some (some (.int .i64 0), 1, 8) := by kernel_rfl
theorem infoR : (Try.prog.info? 33).map (fun i => (i.zero, i.size, i.bytes)) = some (some (.slice none 0 0), 1, 24) := by kernel_rfl
theorem own_empty (w : World) (T : Nat) : (w.alloc (.cells #[] T)).ownsRow w.heap.size T 1 (.slice (some ⟨w.heap.size, 0, none⟩) 0 0) 0 [] :=
  ⟨by simp, .inr ⟨w.heap.size, 0, #[], rfl, Nat.le_refl _, heap_alloc_new w _, by simp, by unfold maxLen; omega, rfl, rfl⟩⟩
theorem cell1 (w : World) (u : Value) (T n : Nat) (hn : w.heap.size = n) : ∀ j x, [u][j]? = some x → (w.alloc (.cells #[u] T)).cell? ((⟨n, 0, none⟩ : Addr).add j) = some x := by
  subst hn
  intro j x hx
  have hj : j = 0 := by have := (List.getElem?_eq_some_iff.1 hx).1; simp at this; omega
  subst hj
  have h := (Blk.new w T #[u]).cell 0
  simp at hx
  subst hx
  exact h
theorem specIn2 (n lo hi : Int) (w : World) : Calls Try.prog 48 #[.int .i64 n, .int .i64 lo, .int .i64 hi] w fun e w' => e = .returned (.bool (inB n lo hi)) ∧ w = w' := (specIn n lo hi w).mono fun _ _ ⟨h1, h2⟩ => ⟨h1, h2.symm⟩

theorem own_snoc {w : World} {base T i : Nat} {v : Value} {s : List Int} {t : Int} (h : w.ownsRow base T 1 v (i + 1) (ints s ++ [.int .i64 t])) (hs : s.length = i) : ∃ s' : List Int, s'.length = i + 1 ∧ w.ownsRow base T 1 v (i + 1) (ints s') :=
  ⟨s ++ [t], by simp [hs], by simpa using h⟩
/-- What merging hands back: rows of its own, few and short. -/
def LMOut (w : World) (e : Ending) (w' : World) : Prop := ∃ v L' ok, e = .returned (.tuple #[v, .bool ok]) ∧ OGr w' w.heap.size 33 v L' ∧ L'.length ≤ 3 ∧ (∀ s ∈ L', s.length ≤ 4) ∧ Below w.heap.size w w'
theorem LMOut.none {w w0 : World} (hb : Below w.heap.size w w0) : LMOut w (.returned (.tuple #[.slice (some ⟨w0.heap.size, 0, none⟩) 0 0, .bool false])) (w0.alloc (.cells #[] 33)) :=
  ⟨_, [], false, rfl, (OGr.empty w0 _).weaken hb.size, by simp, by simp, hb.alloc hb.size _⟩

set_option maxRecDepth 100000 in
set_option maxHeartbeats 4000000 in
theorem specMerge (A : Option Addr) (c : Nat) (L : List (List Int)) (a b : Int) (w : World) (hg : Grd w w.heap.size A (grid L)) (hn : L.length ≤ 2000000) (hl : ∀ s ∈ L, s.length ≤ 2000000) :
    Calls Try.prog 75 #[.slice A L.length c, .int .i64 a, .int .i64 b] w (LMOut w) := by
  obtain ⟨i0, hi, hz0, hz1, hz2⟩ := info_parts infoI
  obtain ⟨j0, hj, hy0, hy1, hy2⟩ := info_parts infoR
  have HL := Lib.hid hl
  clear hl
  go_enter Try.func75, Try.ntmps75
  go_wp2_with fail
  refine (specLadderValid A c L w hg hn HL.out).mono ?_
  rintro e w' ⟨hrb, n, rfl⟩
  have hb0 : Below w.heap.size w (w.drewN n) := bdrewN (Below.refl _ _) n
  have hG0 := (hg.below hb0).more hb0.size
  have hs0 : w.heap.size ≤ (w.drewN n).heap.size := hb0.size
  generalize w.drewN n = w0 at *
  have HG := Lib.hid hG0
  clear hg hG0
  rcases hrb.split with ⟨rfl, HV⟩ | ⟨rfl, HV⟩
  · by_cases hL3 : L.length = 3
    · have e1 : ((L.length : Int) == 3) = true := by simp [hL3]
      have e2 : (L.length == 3) = true := by simp [hL3]
      have H3 := Lib.hid hL3
      clear hL3
      go_wp2
      go_ret2
      exact LMOut.none hb0
    have e1 : ((L.length : Int) == 3) = false := beq_eq_false_iff_ne.2 (by omega)
    have e2 : (L.length == 3) = false := beq_eq_false_iff_ne.2 (by omega)
    have hL2 : L.length ≤ 2 := by have := HV.out.1; omega
    clear hL3
    by_cases ha : 0 ≤ a ∧ a ≤ 3
    case neg =>
      have hia := inB_no (n := a) (lo := 0) (hi := 3) (by omega)
      go_wp2_with (go_at_call 48; refine (specIn2 _ _ _ _).mono ?_; rintro e w' ⟨rfl, rfl⟩)
      go_ret2
      exact LMOut.none hb0
    obtain ⟨ha0, ha1⟩ := ha
    have hia := inB_yes (n := a) (lo := 0) (hi := 3) ha0 ha1
    by_cases hbb : 0 ≤ b ∧ b ≤ 3
    case neg =>
      have hib := inB_no (n := b) (lo := 0) (hi := 3) (by omega)
      go_wp2_with (go_at_call 48; refine (specIn2 _ _ _ _).mono ?_; rintro e w' ⟨rfl, rfl⟩)
      go_ret2
      exact LMOut.none hb0
    obtain ⟨hbb0, hbb1⟩ := hbb
    have hib := inB_yes (n := b) (lo := 0) (hi := 3) hbb0 hbb1
    go_wp2_with (go_at_call 48; refine (specIn2 _ _ _ _).mono ?_; rintro e w' ⟨rfl, rfl⟩)
    refine (specCode A c L (L.length : Int) a _ HG.out HV.out (by omega) (by omega) ha0 ha1).mono ?_
    rintro e w' ⟨rfl, rfl⟩
    generalize lcode L (L.length : Int) a = x at *
    go_wp2_with fail
    refine (specCode A c L (L.length : Int) b _ HG.out HV.out (by omega) (by omega) hbb0 hbb1).mono ?_
    rintro e w' ⟨rfl, rfl⟩
    generalize lcode L (L.length : Int) b = y at *
    by_cases hxy : x = y
    · have exy : (x == y) = true := by simp [hxy]
      have HX := Lib.hid hxy
      clear hxy
      go_wp2
      go_ret2
      exact LMOut.none hb0
    have exy : (x == y) = false := by simp [hxy]
    clear hxy hia hib ha0 ha1 hbb0 hbb1 hrb
    go_wp2
    go_loopw [10, 11] (fun v t wr => ∃ i s, i ≤ 4 ∧ t = .int .i64 (i : Nat) ∧ Hid (s.length = i) ∧ wr.ownsRow w0.heap.size 3 1 v i (ints s) ∧ Below w0.heap.size w0 wr) (fun _ t _ => 4 - (intOf t).toNat)
    case atStart => exact ⟨0, [], by omega, rfl, (show ([] : List Int).length = 0 from rfl), own_empty w0 _, ((Below.refl _ _).alloc (Nat.le_refl _) _)⟩
    case round =>
      obtain ⟨i, s, hi4, rfl, HSL, hown, hbel⟩ := hrel
      by_cases hlt : i < 4
      · have hGr := (HG.out.below hbel).more hbel.size
        have hbs := hbel.size
        go_wp2_with fail
        refine (specCode A c L (L.length : Int) (i : Int) _ hGr HV.out (by omega) (by omega) (by omega) (by omega)).mono ?_
        rintro e w' ⟨rfl, rfl⟩
        generalize lcode L (L.length : Int) (i : Int) = z at *
        have HOWN := Lib.hid hown
        clear hown
        by_cases hzx : z = x
        · subst hzx
          go_wp2_with (at_builtin; go_must (refine wpList_append_own _ rfl _ _ 33 rfl w0.heap.size 3 i0 _ 1 8 Try.underlying33 hi hz0 hz1 hz2 rfl (by decide) _ _ _ rfl (World.ownsRow.alloc HOWN.out _) ⟨wr.heap.size, 0, none⟩ 1 1 [_] rfl rfl (cell1 _ _ _ _ rfl) (by simp [Value.oneCell']) (by unfold maxLen; omega) (by omega) (by simp; omega) ?_))
          all_goals
            intro v' w5 hown' hgrow _
            have hb5 := (hbel.alloc hbs _).grown hgrow (by simp; omega) (own_base HOWN.out)
            obtain ⟨s', hs', ho'⟩ := own_snoc hown' HSL.out
            have HS' := Lib.hid hs'
            clear hgrow hown' hs'
            go_wp2
            go_roundw
            case rel => exact ⟨i + 1, s', by omega, by go_num, HS', ho', hb5⟩
            case measure => simp [intOf]; omega
        · have ezx : (z == x) = false := by simp [hzx]
          clear hzx
          go_wp2_with (at_builtin; go_must (refine wpList_append_own _ rfl _ _ 33 rfl w0.heap.size 3 i0 _ 1 8 Try.underlying33 hi hz0 hz1 hz2 rfl (by decide) _ _ _ rfl (World.ownsRow.alloc HOWN.out _) ⟨wr.heap.size, 0, none⟩ 1 1 [_] rfl rfl (cell1 _ _ _ _ rfl) (by simp [Value.oneCell']) (by unfold maxLen; omega) (by omega) (by simp; omega) ?_))
          all_goals
            intro v' w5 hown' hgrow _
            have hb5 := (hbel.alloc hbs _).grown hgrow (by simp; omega) (own_base HOWN.out)
            obtain ⟨s', hs', ho'⟩ := own_snoc hown' HSL.out
            have HS' := Lib.hid hs'
            clear hgrow hown' hs'
            go_wp2
            go_roundw
            case rel => exact ⟨i + 1, s', by omega, by go_num, HS', ho', hb5⟩
            case measure => simp [intOf]; omega
      · have hie : 4 ≤ i := by omega
        -- the second loop: the old rows, copied
        have hb1 := hb0.trans (hbel.mono hs0)
        have HSTEP := Lib.hid hown
        have HGR := Lib.hid ((HG.out.below hbel).more hbel.size)
        clear hown hlt
        obtain ⟨wa, rfl⟩ : ∃ wa : World, wa = wr := ⟨_, rfl⟩
        go_wp2
        go_loopw [13, 14] (fun v t wr => ∃ pre suf, Cut L pre suf ∧ t = .int .i64 (pre.length : Nat) ∧ OGr wr wa.heap.size 33 v pre ∧ Below wa.heap.size wa wr) (fun _ t _ => L.length - (intOf t).toNat)
        case atStart => exact ⟨[], L, Cut.zero _, rfl, OGr.empty wa _, ((Below.refl _ _).alloc (Nat.le_refl _) _)⟩
        case round =>
          obtain ⟨pre, suf, hcut, rfl, hog, hbw⟩ := hrel
          cases suf with
          | nil =>
            have hge := hcut.len0
            have hpl : pre.length = L.length := by rw [hcut.done]
            have hbs := hbw.size
            have hwa := hb1.size
            obtain ⟨hs, hho, happ⟩ := (hog.weaken hwa).heads
            have HAPP := Lib.hid happ
            have HPL := Lib.hid hpl
            have HPD := Lib.hid hcut.done
            have hstep : RowAt wr w.heap.size u13 u10 s := RowAt.own (own_weaken (own_hold HSTEP.out (fun b _ hl => hbw.block b hl)) hs0) HSL.out.symm (fun b e e2 => by
              have h1 := own_lt HSTEP.out b e
              have h2 := hog.base_le b e2
              omega)
            obtain ⟨A1, c1, e10, hre⟩ := hstep
            subst e10
            have HST : Hid (RowAt wr w.heap.size u13 (.slice A1 s.length c1) s) := ⟨A1, c1, rfl, hre⟩
            clear hre
            have hb2 := hb1.trans (hbw.mono hwa)
            have hob := (hog.weaken hwa).base_le
            have HOB := Lib.hid hob
            clear happ hpl hog hob
            go_wp2_with (at_builtin; go_must (refine wpList_append_own_at _ rfl _ _ 22 rfl w.heap.size 33 j0 _ 1 24 Try.underlying22 hj hy0 hy1 hy2 rfl (by decide) _ _ _ rfl (World.ownsRow.alloc hho _) ⟨wr.heap.size, 0, none⟩ 1 1 [_] rfl rfl (cell1 _ _ _ _ rfl) (by simp [Value.oneCell']) (by have := HPL.out; unfold maxLen; omega) (by have := HPL.out; omega) (by simp; omega) ?_))
            intro v' w5 hown' hgrow _ hloc
            have HG5 := Lib.hid (HAPP.out w5 v' _ s _ HST.out hown' hgrow (by simpa using hloc))
            have HB5 := Lib.hid ((hb2.alloc hb2.size _).grown hgrow (by have := hb2.size; simp; omega) HOB.out)
            clear hown' hgrow hloc
            go_wp2
            go_ret2
            refine ⟨v', L ++ [s], true, rfl, ?_, by simp; omega, ?_, HB5.out⟩
            · have := HG5.out
              rw [HPD.out] at this
              exact this
            · intro q hq
              rcases List.mem_append.1 hq with hq | hq
              · obtain ⟨k, hk, rfl⟩ := List.getElem_of_mem hq
                have := (HV.out.2.1 k hk).1
                simp [ixs, hk] at this
                omega
              · rw [List.mem_singleton.1 hq, HSL.out]
                omega
          | cons q suf =>
            have hlt := hcut.len1
            have hq4 : q.length = 4 := by
              have h1 := (HV.out.2.1 pre.length hlt).1
              have h2 := hcut.at_
              simp [ixs, h2] at h1
              exact h1
            obtain ⟨bq, oq, Aq, cq, rfl, hbq, hcq, hlq, hcmq, hrq⟩ := (HGR.out.below hbw).at_ (hcut.map_at (fun s => s.map (Value.int .i64)))
            simp only [List.length_map] at hcq hlq hrq
            rw [hq4] at hcq hlq hrq
            obtain ⟨b2, o2, rfl, -⟩ := hrq.at_ (k := 0) (u := .int .i64 q[0]) (by simp)
            have HRQ := Lib.hid hrq
            have HQ4 := Lib.hid hq4
            have hbs := hbw.size
            have hbb : bq < wr.heap.size := by omega
            clear hrq hq4
            go_wp2_with (at_builtin; go_must (refine wpList_append_own_at _ rfl _ _ 33 rfl wr.heap.size 3 i0 _ 1 8 Try.underlying33 hi hz0 hz1 hz2 rfl (by decide) _ _ _ rfl (own_empty wr _) ⟨b2, o2, none⟩ 4 cq (ints q) rfl (by simp [HQ4.out]) (rds_news HRQ.out (fun b o hb => ((Below.refl wr.heap.size wr).alloc (Nat.le_refl _) _).cell (p := ⟨b, o, none⟩) (by simp; omega))) (by intro u hu; obtain ⟨z, _, rfl⟩ := List.mem_map.1 hu; rfl) (by unfold maxLen; omega) (by omega) (by simp) ?_))
            intro v1 w3 hown1 hgrow1 _ hloc1
            have hkeep3 : ∀ b, b < wr.heap.size → w3.heap[b]? = wr.heap[b]? := fun b hb => (hgrow1.block b (by simp; omega) (fun e => by simp [Value.ownBlock] at e; omega)).trans (Below.heap_alloc wr _ b hb)
            have hs3 : wr.heap.size ≤ w3.heap.size := by have := hgrow1.size; simp at this; omega
            have hog3 := hog.hold hs3 (fun b _ hb => hkeep3 b hb)
            have hrow : RowAt w3 wa.heap.size u13 v1 q := RowAt.own (n := 4) (own_weaken (by simpa using hown1) hbs) HQ4.out.symm (fun b e e2 => by
              have h1 := own_base hown1 b e
              have h2 := hog.blk_lt b e2
              omega)
            obtain ⟨A1, c1, e1', _⟩ := hrow
            have hrow : RowAt w3 wa.heap.size u13 v1 q := RowAt.own (n := 4) (own_weaken (by simpa using hown1) hbs) HQ4.out.symm (fun b e e2 => by
              have h1 := own_base hown1 b e
              have h2 := hog.blk_lt b e2
              omega)
            obtain ⟨hs, hho, happ⟩ := hog3.heads
            have HAPP := Lib.hid happ
            have HROW := Lib.hid hrow
            have HB3 : Hid (Below wa.heap.size wa w3) := hbw.trans ⟨hgrow1.os, hgrow1.tape, hgrow1.output, hs3, fun k hk => hkeep3 k (by omega)⟩
            have HOB := Lib.hid hog.base_le
            clear happ hrow hog hog3 hown1 hgrow1 hloc1 hkeep3
            subst e1'
            go_wp2_with (at_builtin; go_must (refine wpList_append_own_at _ rfl _ _ 22 rfl wa.heap.size 33 j0 _ 1 24 Try.underlying22 hj hy0 hy1 hy2 rfl (by decide) _ _ _ rfl (World.ownsRow.alloc hho _) ⟨w3.heap.size, 0, none⟩ 1 1 [_] rfl rfl (cell1 _ _ _ _ rfl) (by simp [Value.oneCell']) (by unfold maxLen; omega) (by omega) (by simp; omega) ?_))
            intro v' w5 hown' hgrow _ hloc
            have hg5 := HAPP.out w5 v' _ q _ HROW.out hown' hgrow (by simpa using hloc)
            have hb5 := (HB3.out.alloc HB3.out.size _).grown hgrow (by have := HB3.out.size; simp; omega) HOB.out
            clear hown' hgrow hloc
            go_wp2
            go_roundw
            case rel => exact ⟨pre ++ [q], suf, hcut.next, by simp, hg5, hb5⟩
            case measure => simp [intOf]; omega
  · go_wp2
    go_ret2
    exact LMOut.none hb0
end Go.Proofs.Ytfpddhehdfckjaa
