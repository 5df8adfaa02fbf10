/- The program's PeopleMany, at valid people and codes that are given. -/
import Derived.Test.YtiheheapghjpbaaRecodeS
import Derived.Test.YtiheheapghjpbaaGrp2
import Derived.Deep.DeepMust
namespace Go.Proofs.Ytiheheapghjpbaa
open Go.RowKit

def selTo (q : Pn) (pre : List Pn) : List Pn := pre.filter (fun p => sameG p q)
theorem selTo_snoc (q : Pn) (pre : List Pn) (p : Pn) : selTo q (pre ++ [p]) = selTo q pre ++ if sameG p q then [p] else [] := by
  unfold selTo
  rw [List.filter_append]
  cases h : sameG p q <;> simp [h]
theorem selTo_len (q : Pn) (pre : List Pn) : (selTo q pre).length = gsz pre q := by unfold selTo gsz; rw [List.countP_eq_length_filter]

theorem implSexY {z : Int} (h : z = 0 ∨ z = 1) (w : World) : Calls Try.prog 76 #[.int .i64 z] w fun e w' => e = .returned (.bool true) ∧ w = w' := by
  rcases h with rfl | rfl
  all_goals
    go_enter Try.func76, Try.ntmps76
    go_wp2
    go_ret
    exact ⟨rfl, rfl⟩
set_option maxRecDepth 100000 in
set_option maxHeartbeats 4000000 in
theorem implSelected (A : Option Addr) (c : Nat) (x : List Pn) (q : Pn) (w : World) (hP : Ppl w w.heap.size A x) (hgd : goodL x) (hq : q.good) :
    Calls Try.prog 62 #[.slice A x.length c, .int .i64 q.a, .int .i64 q.j, .int .i64 q.s] w fun e w' => ∃ v, e = .returned (.tuple #[v, .bool true]) ∧ OPpl w' w.heap.size 50 v (selTo q x) ∧ Below w.heap.size w w' := by
  obtain ⟨i0, hi, hz0, hz1, hz2⟩ := info_parts infoP
  obtain ⟨⟨qa0, qa1⟩, ⟨qj0, qj1⟩, ⟨qs0, qs1⟩, -, -⟩ := hq
  have h40 := hgd.2
  have HGD := Lib.hid hgd
  clear hgd
  have n1 : (q.a == -1) = false := beq_eq_false_iff_ne.2 (by omega)
  have n2 : (q.j == -1) = false := beq_eq_false_iff_ne.2 (by omega)
  have n3 : (q.s == -1) = false := beq_eq_false_iff_ne.2 (by omega)
  have n4 : (q.a != -1) = true := by simp; omega
  have n5 : (q.j != -1) = true := by simp; omega
  have n6 : (q.s != -1) = true := by simp; omega
  have HP := Lib.hid hP
  clear hP
  rcases (show q.s = 0 ∨ q.s = 1 by omega) with hs | hs
  all_goals
    rw [hs] at n3 n6 ⊢
    have HS := Lib.hid hs
    clear hs
    go_enter Try.func62, Try.ntmps62
    go_wp2_with (first | (go_at_call 52; refine (implPeopleValid A c x w HP.out (by omega)).mono ?_; rintro e w1 ⟨hrb, hb1⟩; have h9 := hrb.isTrue HGD.out; subst h9; clear hrb) | (go_at_call 76; refine (implSexY (by simp) _).mono ?_; rintro e w9 ⟨rfl, rfl⟩) | go_in)
    have HPw := Lib.hid ((HP.out.below hb1).more hb1.size)
    have HB1 := Lib.hid hb1
    clear hb1
    go_loopw [10, 45] (fun v i wr => ∃ pre suf, Cut x pre suf ∧ i = .int .i64 pre.length ∧ OPpl wr w1.heap.size 50 v (selTo q pre) ∧ Below w1.heap.size w1 wr) (fun _ i _ => x.length - (intOf i).toNat)
    case atStart => exact ⟨[], x, Cut.zero _, rfl, OPpl.nil _ _ _, Below.refl _ _⟩
    case round =>
      obtain ⟨pre, suf, hcut, rfl, hown, hbel⟩ := hrel
      cases suf with
      | nil =>
        have hge := hcut.len0
        go_wp2
        go_ret2
        rw [hcut.done] at hown
        exact ⟨_, rfl, own_weaken hown HB1.out.size, HB1.out.trans (hbel.mono HB1.out.size)⟩
      | cons p suf =>
        have hlt := hcut.len1
        have hsl := selTo_len q pre
        have hsl2 := gsz_le pre q
        have HSL := Lib.hid (show (selTo q pre).length ≤ 40 by omega)
        obtain ⟨b, off, rfl, hb, hc0, hc1, hc2, hc3⟩ := (HPw.out.below hbel).at_ hcut.at_
        have hbs := hbel.size
        have hbb : b < wr.heap.size := by omega
        have hown2 := World.ownsRow.alloc hown (.cells #[.int .i64 p.a, .int .i64 p.j, .int .i64 p.s, .int .i64 p.p] 50)
        have hb2 := hbel.alloc hbs (.cells #[.int .i64 p.a, .int .i64 p.j, .int .i64 p.s, .int .i64 p.p] 50)
        have HOWN := Lib.hid hown2
        have HSN := Lib.hid (selTo_snoc q pre p)
        clear hsl hsl2 hown hown2
        by_cases hsg : sameG p q = true
        · obtain ⟨ea, ej, es⟩ := sameG_iff.1 hsg
          have HSG := Lib.hid hsg
          have HV : Hid (p.vals = [.int .i64 q.a, .int .i64 q.j, .int .i64 q.s, .int .i64 p.p]) := by unfold Hid Pn.vals; rw [ea, ej, es]
          rw [HS.out] at HV
          rw [HS.out] at es
          rw [ea] at hc0 hb2 HOWN
          rw [ej] at hc1 hb2 HOWN
          rw [es] at hc2 hb2 HOWN
          clear hsg ea ej es
          go_wp2_with (at_builtin; go_must (refine wpList_append_own _ rfl _ _ 23 rfl w1.heap.size 50 i0 _ 4 32 Try.underlying23 hi hz0 hz1 hz2 rfl (by decide) _ _ _ rfl (World.ownsRow.alloc HOWN.out _) ⟨wr.heap.size + 1, 0, none⟩ 1 1 p.vals rfl rfl (by rw [HV.out]; exact cells4h _ ⟨q.a, q.j, _, p.p⟩ _ _ (by simp)) (one4 _) (by have := HSL.out; unfold maxLen; omega) (by have := HSL.out; omega) (by simp; omega) ?_))
          intro v' w5 hown' hgrow _
          have hb5 := (hb2.alloc (by simp; omega) _).grown hgrow (by simp; omega) (own_base HOWN.out)
          clear hgrow
          go_wp2
          go_roundw
          case rel =>
            exact ⟨pre ++ [p], suf, hcut.next, by simp, by rw [HSN.out, HSG.out]; exact OPpl.snoc hown', hb5⟩
          case measure => simp [intOf]; omega
        · have hsf : sameG p q = false := by cases h : sameG p q <;> simp_all
          have hno : ¬ (p.a = q.a ∧ p.j = q.j ∧ p.s = q.s) := fun h => hsg (sameG_iff.2 h)
          rw [HS.out] at hno
          have HSG := Lib.hid hsf
          clear hsg hsf
          by_cases g1 : p.a = q.a
          · by_cases g2 : p.j = q.j
            · have g3 : (p.s == _) = false := beq_eq_false_iff_ne.2 (fun h => hno ⟨g1, g2, h⟩)
              have f1 : (p.a == q.a) = true := by simp [g1]
              have f2 : (p.j == q.j) = true := by simp [g2]
              clear g1 g2 hno
              go_wp2
              go_roundw
              case rel => exact ⟨pre ++ [p], suf, hcut.next, by simp, by rw [HSN.out, HSG.out]; simp only [Bool.false_eq_true, if_false, List.append_nil]; exact HOWN.out, hb2⟩
              case measure => simp [intOf]; omega
            · have f1 : (p.a == q.a) = true := by simp [g1]
              have f2 : (p.j == q.j) = false := by simp [g2]
              clear g1 g2 hno
              go_wp2
              go_roundw
              case rel => exact ⟨pre ++ [p], suf, hcut.next, by simp, by rw [HSN.out, HSG.out]; simp only [Bool.false_eq_true, if_false, List.append_nil]; exact HOWN.out, hb2⟩
              case measure => simp [intOf]; omega
          · have f1 : (p.a == q.a) = false := by simp [g1]
            clear g1 hno
            go_wp2
            go_roundw
            case rel => exact ⟨pre ++ [p], suf, hcut.next, by simp, by rw [HSN.out, HSG.out]; simp only [Bool.false_eq_true, if_false, List.append_nil]; exact HOWN.out, hb2⟩
            case measure => simp [intOf]; omega

theorem implPeopleMany (A : Option Addr) (c : Nat) (x : List Pn) (q : Pn) (w : World) (hP : Ppl w w.heap.size A x) (hgd : goodL x) (hq : q.good) :
    Calls Try.prog 33 #[.slice A x.length c, .int .i64 q.a, .int .i64 q.j, .int .i64 q.s] w fun e w' => e = .returned (.int .i64 (gsz x q)) ∧ Below w.heap.size w w' := by
  have HG := Lib.hid hgd
  have HQ := Lib.hid hq
  clear hgd hq
  go_enter Try.func33, Try.ntmps33
  go_wp2_with fail
  refine (implSelected A c x q w hP HG.out HQ.out).mono ?_
  rintro e w1 ⟨v, rfl, hown, hb⟩
  obtain ⟨A', c', rfl, -, -, -⟩ := hown.form
  have HL := Lib.hid (selTo_len q x)
  go_wp2
  go_ret
  exact ⟨ret_int (by rw [HL.out]), hb⟩
end Go.Proofs.Ytiheheapghjpbaa
