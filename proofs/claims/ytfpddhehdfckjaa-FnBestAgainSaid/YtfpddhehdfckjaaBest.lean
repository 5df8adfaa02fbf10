/- The program's AnonBest: it ranges over a function that yields all recodings. -/
import Derived.Test.YtfpddhehdfckjaaBridge
import Derived.Test.YtfpddhehdfckjaaAnonOk
import Derived.Test.YtfpddhehdfckjaaCost
import Derived.Test.YtfpddhehdfckjaaPlain4
import Derived.RangeFuncNested
import Derived.RangeFuncBound
import Derived.RangeFuncCalls
import Derived.RangeFuncLeaves
import Derived.Shelf.Abstract
import Derived.WalkKit
import Derived.OwnWalkIn
import Derived.TacticsInMore
import Derived.LoopNIn
import Derived.LoopIn
namespace Go.Proofs.Ytfpddhehdfckjaa
open Go.RowKit Go.Shelf
set_option linter.unusedSimpArgs false
attribute [local go_sem] Oper.semAt_some

/-- The first n recodings. -/
def cands (n : Nat) : List Rc := (List.range n).map cand
theorem cands_len (n : Nat) : (cands n).length = n := by simp [cands]
theorem cands_next (n : Nat) : cands (n + 1) = cands n ++ [cand n] := by simp [cands, List.range_succ]
theorem cands_pre (n d : Nat) : cands n <+: cands (n + d) := by
  induction d with
  | zero => exact List.prefix_refl _
  | succ d ih =>
    rw [← Nat.add_assoc, cands_next]
    exact ih.trans (List.prefix_append _ _)
theorem cand_at (i j : Nat) (h : j < 4) : cand (4 * i + j) = ⟨(i : Int), (j : Int) / 2, (j : Int) % 2⟩ := by
  unfold cand
  have e1 : (4 * i + j) / 4 = i := by omega
  have e2 : (4 * i + j) % 4 = j := by omega
  rw [e1, e2]
  rfl

set_option maxRecDepth 100000 in
set_option maxHeartbeats 2000000 in
theorem recs1_in (F : Fence) (n : Nat) (hF : F.fn 77) (hro : F.round = none) (hn : 1 ≤ n) (l Bn : Nat) (s : Nat) (hs : s ≤ 100) (Kp : World → World → Prop) (J Jx : List Rc → World → Prop)
    (hY : ∀ pre x W, J pre W → pre.length < 4 * (s + 1) → YieldAt F (n - 1) Try.prog l #[Rc.val x] W fun e W' =>
      (e = .returned (.bool true) ∧ J (pre ++ [x]) W' ∧ Kp W W') ∨ (e = .returned (.bool false) ∧ Jx (pre ++ [x]) W'))
    (W : World) (hBn : W.cell? ⟨Bn, 0, none⟩ = some (.int .i64 s)) (h0 : J [] W) :
    CallsIn F n Try.prog 77 #[.func (.yield l) #[] #[], .pointer (some ⟨Bn, 0, none⟩)] W fun e W' => (∃ v, e = .returned v) ∧
      ((∃ ys, ys = cands (4 * (s + 1)) ∧ J ys W') ∨ (∃ pre, pre <+: cands (4 * (s + 1)) ∧ Jx pre W')) := by
  refine callsIn_of_wp Try.func77 rfl hF ?_ hro
  simp only [Try.ntmps77, List.size_toArray, List.length_cons, List.length_nil, Nat.reduceAdd, Nat.reduceSub, Array.replicate_succ, Array.replicate_zero, List.push_toArray, List.append_toArray, List.nil_append, List.cons_append]
  gi_wp2
  gi_loopw [7] (fun t wr => ∃ i : Nat, i ≤ s + 1 ∧ t = .int .i64 i ∧ J (cands (4 * i)) wr) (fun t _ => s + 1 - (intOf t).toNat)
  case atStart => exact ⟨0, by omega, rfl, h0⟩
  case round =>
    obtain ⟨i, hi, rfl, hJ⟩ := hrel
    by_cases hlt : i < s + 1
    · have hb8 : decide ((i : Int) < (s : Int) + 1) = true := decide_eq_true (by omega)
      gi_wp2
      gi_loopw [10] (fun t wr => ∃ j : Nat, j ≤ 4 ∧ t = .int .i64 j ∧ J (cands (4 * i + j)) wr) (fun t _ => 4 - (intOf t).toNat)
      case atStart => exact ⟨0, by omega, rfl, hJ⟩
      case round =>
        obtain ⟨j, hj, rfl, hJ2⟩ := hrel
        by_cases hlt2 : j < 4
        · have HC := Lib.hid (cand_at i j hlt2)
          have HN := Lib.hid (cands_next (4 * i + j))
          obtain ⟨fn, tmps, assign, body, hy, hR⟩ := hY (cands (4 * i + j)) ⟨(i : Int), (j : Int) / 2, (j : Int) % 2⟩ wr hJ2 (by rw [cands_len]; omega)
          try dsimp only at hy
          rw [← HC.out, ← HN.out] at hR
          gi_wp2
          refine hR.mono ?_
          rintro e W3 (⟨rfl, hJ3, hk3⟩ | ⟨rfl, hJx3⟩)
          · gi_wp2
            go_roundw
            case rel => exact ⟨j + 1, by omega, by go_num, hJ3⟩
            case measure => simp [intOf]; omega
          · have HP := Lib.hid (cands_pre (4 * i + j + 1) (4 * (s + 1) - (4 * i + j + 1)))
            gi_wp2
            refine bodyPost_ret (results_none rfl _ _ _) rfl ?_
            refine ⟨⟨_, rfl⟩, .inr ⟨_, ?_, hJx3⟩⟩
            have := HP.out
            rw [show 4 * i + j + 1 + (4 * (s + 1) - (4 * i + j + 1)) = 4 * (s + 1) by omega] at this
            exact this
        · have HE := Lib.hid (show j = 4 by omega)
          have hJ4 : J (cands (4 * (i + 1))) wr := by have := hJ2; rw [HE.out] at this; exact this
          gi_wp2
          go_roundw
          case rel => exact ⟨i + 1, by omega, by go_num, hJ4⟩
          case measure => simp [intOf]; omega
    · have HE := Lib.hid (show i = s + 1 by omega)
      gi_wp2
      go_end0
      exact ⟨⟨_, rfl⟩, .inl ⟨_, by rw [HE.out], hJ⟩⟩
theorem recs_stops (F : Fence) (n : Nat) (hF : F.fn 77) (hro : F.round = none) (hn : 1 ≤ n) (Bn s : Nat) (hs : s ≤ 100) (n₀ : Nat) (w : World) (hBn : Bn < w.heap.size) (hc : w.cell? ⟨Bn, 0, none⟩ = some (.int .i64 s)) :
    SeqStopsK F n Try.prog 77 #[.pointer (some ⟨Bn, 0, none⟩)] (fun x : Rc => #[Rc.val x]) (Below n₀) (fun ys => ys = cands (4 * (s + 1))) (fun pre => pre <+: cands (4 * (s + 1))) (4 * (s + 1)) w := fun l J Jx W hW _ _ hY h0 =>
  recs1_in F n hF hro hn l Bn s hs (Below n₀) J Jx hY W ((hW.cell (p := ⟨Bn, 0, none⟩) hBn).trans hc) h0
theorem implRecodings (s : Int) (w : World) : Calls Try.prog 61 #[.int .i64 s] w fun e w' => e = .returned (.func (.func 77) #[] #[.pointer (some ⟨w.heap.size, 0, none⟩)]) ∧ w' = w.alloc (.cells #[.int .i64 s] 3) := by
  go_enter Try.func61, Try.ntmps61
  go_wp2
  go_ret
  exact ⟨rfl, rfl⟩

/-! ### The loop over them -/
def bestL (l : List Pn) (L : List (List Int)) (k d : Int) (pre : List Rc) : Option Rc := pre.foldl (bstep l L k d) none
theorem bestL_next (l : List Pn) (L : List (List Int)) (k d : Int) (pre : List Rc) (x : Rc) : bestL l L k d (pre ++ [x]) = bstep l L k d (bestL l L k d pre) x := by simp [bestL]
theorem bestL_cands (l : List Pn) (L : List (List Int)) (k d : Int) (n : Nat) : bestL l L k d (cands n) = bestTo l L k d n := by
  induction n with
  | zero => rfl
  | succ n ih => rw [cands_next, bestL_next, ih, bestTo]
theorem bstep_no {l : List Pn} {L : List (List Int)} {k d : Int} {o : Option Rc} {x : Rc} (h : ¬ aDrop l L x k ≤ d) : bstep l L k d o x = o := by
  cases o with
  | none => exact if_neg h
  | some b => exact if_neg (fun h2 => h h2.1)
theorem bstep_none {l : List Pn} {L : List (List Int)} {k d : Int} {x : Rc} (h : aDrop l L x k ≤ d) : bstep l L k d none x = some x := if_pos h
theorem bstep_yes {l : List Pn} {L : List (List Int)} {k d : Int} {b x : Rc} (h : aDrop l L x k ≤ d) (h2 : aCost L x < aCost L b) : bstep l L k d (some b) x = some x := if_pos ⟨h, h2⟩
theorem bstep_keep {l : List Pn} {L : List (List Int)} {k d : Int} {b x : Rc} (h2 : ¬ aCost L x < aCost L b) : bstep l L k d (some b) x = some b := if_neg (fun h => h2 h.2)
def noDef (ops : Array Oper) : Bool := ops.all (fun o => match o.op with | .defer _ => false | _ => true)
theorem noDef_spec {ops : Array Oper} (h : noDef ops = true) : ∀ (i : Nat) (o : Oper), ops[i]? = some o → ∀ c, o.op ≠ Op.defer c := by
  intro i o ho c hc
  obtain ⟨hi, e⟩ := Array.getElem?_eq_some_iff.1 ho
  have := (Array.all_eq_true.1 h) i hi
  rw [e, hc] at this
  cases this
def bestV (o : Option Rc) : Value := match o with
  | none => .tuple #[.agg #[.int .i64 0, .int .i64 0, .int .i64 0], .bool false]
  | some b => .tuple #[b.val, .bool true]
def rcOr (o : Option Rc) : Rc := o.getD zeroR
/-- What lies in memory between two rounds. -/
def BI (w : World) (BB : Nat) (A A2 : Option Addr) (c c2 : Nat) (l : List Pn) (L : List (List Int)) (k d : Int) (o : Option Rc) (W : World) : Prop :=
  (Blk W w.heap.size 40 [.slice A l.length c] ∧ Blk W (w.heap.size + 1) 22 [.slice A2 L.length c2] ∧ Blk W (w.heap.size + 1 + 1) 3 [.int .i64 k] ∧ Blk W (w.heap.size + 1 + 1 + 1) 3 [.int .i64 d] ∧ Blk W (w.heap.size + 1 + 1 + 1 + 1) 44 [.int .i64 0, .int .i64 0, .int .i64 0]) ∧
  Blk W BB 44 [.int .i64 (rcOr o).a, .int .i64 (rcOr o).j, .int .i64 (rcOr o).s] ∧ Blk W (BB + 1) 4 [.bool o.isSome] ∧ Below w.heap.size w W
theorem BI.below {w W W' : World} {BB : Nat} {A A2 : Option Addr} {c c2 : Nat} {l : List Pn} {L : List (List Int)} {k d : Int} {o : Option Rc} (h : BI w BB A A2 c c2 l L k d o W) (hb : Below W.heap.size W W') : BI w BB A A2 c c2 l L k d o W' := by
  obtain ⟨⟨h0, h1, h2, h3, h4⟩, h5, h6, h7⟩ := h
  exact ⟨⟨h0.below hb h0.lt, h1.below hb h1.lt, h2.below hb h2.lt, h3.below hb h3.lt, h4.below hb h4.lt⟩, h5.below hb h5.lt, h6.below hb h6.lt, h7.trans (hb.mono h7.size)⟩
theorem blk_turn {W W' : World} {g t : Nat} {xs : List Value} {row : Option Nat} (h : Blk W g t xs) (hg : W.grownBy W' row) (hr : ∀ r, row = some r → ∃ o : Obj, W.heap[r]? = some o ∧ o.isCells = false) : Blk W' g t xs :=
  h.of (hg.block g h.lt (fun e => by
    obtain ⟨o, ho, hc⟩ := hr g e.symm
    rw [show W.heap[g]? = _ from h] at ho
    cases ho
    cases hc))
theorem BI.own {w : World} {BB : Nat} {A A2 : Option Addr} {c c2 : Nat} {l : List Pn} {L : List (List Int)} {k d : Int} {N : Nat} (hN : w.heap.size ≤ N) : OwnFrom N (fun (pre : List Rc) W => BI w BB A A2 c c2 l L k d (bestL l L k d pre) W) := by
  intro s W W' row h hg hr
  have hr2 := fun r e => (hr r e).2
  obtain ⟨⟨h0, h1, h2, h3, h4⟩, h5, h6, h7⟩ := h
  exact ⟨⟨blk_turn h0 hg hr2, blk_turn h1 hg hr2, blk_turn h2 hg hr2, blk_turn h3 hg hr2, blk_turn h4 hg hr2⟩, blk_turn h5 hg hr2, blk_turn h6 hg hr2, h7.grown hg h7.size (fun r e => Nat.le_trans hN (hr r e).1)⟩
theorem keeps_below {B : Nat} {W W' : World} (h : Below W.heap.size W W') : KeepsFrom B W W' := ⟨h.size, fun k _ _ hk _ => (h.block k (Array.getElem?_eq_some_iff.1 hk).1).trans hk⟩

theorem implIsPNb (k : Int) (w : World) : Calls Try.prog 60 #[.int .i64 k] w fun e w' => e = .returned (.bool (inB k 1 40)) ∧ w = w' := by
  by_cases h1 : 1 ≤ k
  · by_cases h2 : k ≤ 40
    · have HI := Lib.hid (inB_yes h1 h2)
      go_enter Try.func60, Try.ntmps60
      go_wp2
      go_ret
      exact ⟨by rw [HI.out]; rfl, rfl⟩
    · have HI := Lib.hid (inB_no (n := k) (lo := 1) (hi := 40) (.inr (by omega)))
      go_enter Try.func60, Try.ntmps60
      go_wp2
      go_ret
      exact ⟨by rw [HI.out]; rfl, rfl⟩
  · have HI := Lib.hid (inB_no (n := k) (lo := 1) (hi := 40) (.inl (by omega)))
    have h1' : k < 1 := by omega
    go_enter Try.func60, Try.ntmps60
    go_wp2
    go_ret
    exact ⟨by rw [HI.out]; rfl, rfl⟩

theorem best_end {w W v : World} {BB N : Nat} {A A2 : Option Addr} {c c2 : Nat} {l : List Pn} {L : List (List Int)} {k d : Int} {o o' : Option Rc} {x : Rc} (h : BI w BB A A2 c c2 l L k d o v) (ho : o' = some x) (hb : Below W.heap.size W v) (hB : w.heap.size + 5 ≤ BB) (hW : w.heap.size ≤ W.heap.size) :
    KeepsFrom N W ((((v.setCell ⟨BB, 0, none⟩ (.int .i64 x.a)).setCell ⟨BB, 1, none⟩ (.int .i64 x.j)).setCell ⟨BB, 2, none⟩ (.int .i64 x.s)).setCell ⟨BB + 1, 0, none⟩ (.bool true)) ∧ Below w.heap.size W ((((v.setCell ⟨BB, 0, none⟩ (.int .i64 x.a)).setCell ⟨BB, 1, none⟩ (.int .i64 x.j)).setCell ⟨BB, 2, none⟩ (.int .i64 x.s)).setCell ⟨BB + 1, 0, none⟩ (.bool true)) ∧
    BI w BB A A2 c c2 l L k d o' ((((v.setCell ⟨BB, 0, none⟩ (.int .i64 x.a)).setCell ⟨BB, 1, none⟩ (.int .i64 x.j)).setCell ⟨BB, 2, none⟩ (.int .i64 x.s)).setCell ⟨BB + 1, 0, none⟩ (.bool true)) := by
  subst ho
  obtain ⟨⟨h0, h1, h2, h3, h4⟩, h5, h6, h7⟩ := h
  have f : ∀ {g t : Nat} {xs : List Value}, Blk v g t xs → g < BB → Blk ((((v.setCell ⟨BB, 0, none⟩ (.int .i64 x.a)).setCell ⟨BB, 1, none⟩ (.int .i64 x.j)).setCell ⟨BB, 2, none⟩ (.int .i64 x.s)).setCell ⟨BB + 1, 0, none⟩ (.bool true)) g t xs := fun hk hg => ((((hk.far (p := ⟨BB, 0, none⟩) (Nat.ne_of_lt hg) _).far (p := ⟨BB, 1, none⟩) (Nat.ne_of_lt hg) _).far (p := ⟨BB, 2, none⟩) (Nat.ne_of_lt hg) _).far (p := ⟨BB + 1, 0, none⟩) (Nat.ne_of_lt (Nat.lt_succ_of_lt hg)) _)
  have e5 := (((h5.set 0 (.int .i64 x.a)).set 1 (.int .i64 x.j)).set 2 (.int .i64 x.s)).far (p := ⟨BB + 1, 0, none⟩) (Nat.ne_of_lt (Nat.lt_succ_self BB)) (.bool true)
  have e6 := (((h6.far (p := ⟨BB, 0, none⟩) (Nat.ne_of_gt (Nat.lt_succ_self BB)) (.int .i64 x.a)).far (p := ⟨BB, 1, none⟩) (Nat.ne_of_gt (Nat.lt_succ_self BB)) (.int .i64 x.j)).far (p := ⟨BB, 2, none⟩) (Nat.ne_of_gt (Nat.lt_succ_self BB)) (.int .i64 x.s)).set 0 (.bool true)
  have hb2 : ∀ {Y : World}, Below w.heap.size Y v → Below w.heap.size Y ((((v.setCell ⟨BB, 0, none⟩ (.int .i64 x.a)).setCell ⟨BB, 1, none⟩ (.int .i64 x.j)).setCell ⟨BB, 2, none⟩ (.int .i64 x.s)).setCell ⟨BB + 1, 0, none⟩ (.bool true)) := fun hY =>
    (((hY.setCell (p := ⟨BB, 0, none⟩) (by show w.heap.size ≤ BB; omega) _).setCell (p := ⟨BB, 1, none⟩) (by show w.heap.size ≤ BB; omega) _).setCell (p := ⟨BB, 2, none⟩) (by show w.heap.size ≤ BB; omega) _).setCell (p := ⟨BB + 1, 0, none⟩) (by show w.heap.size ≤ BB + 1; omega) _
  refine ⟨(keeps_below hb).trans (((((KeepsOthers.setCell v _ _).trans (KeepsOthers.setCell _ _ _)).trans (KeepsOthers.setCell _ _ _)).trans (KeepsOthers.setCell _ _ _)).from N), hb2 (hb.mono hW), ⟨f h0 (by omega), f h1 (by omega), f h2 (by omega), f h3 (by omega), f h4 (by omega)⟩, e5, e6, hb2 h7⟩

set_option maxRecDepth 100000 in
set_option maxHeartbeats 8000000 in
theorem implAnonBest (A A2 : Option Addr) (c c2 : Nat) (l : List Pn) (L : List (List Int)) (k d : Int) (w : World) (h : Arg w A l A2 L) :
    Calls Try.prog 30 #[.slice A l.length c, .slice A2 L.length c2, .int .i64 k, .int .i64 d] w fun e w' => e = .returned (bestV (aBest l L k d)) ∧ Below w.heap.size w w' := by
  have hn : l.length ≤ 2000000 := h.2.1
  have hn2 : L.length ≤ 2000000 := h.2.2.2.1
  have H := Lib.hid h
  clear h
  have hb5 : Below w.heap.size w (((((w.alloc (.cells #[.slice A l.length c] 40)).alloc (.cells #[.slice A2 L.length c2] 22)).alloc (.cells #[.int .i64 k] 3)).alloc (.cells #[.int .i64 d] 3)).alloc (.cells #[.int .i64 0, .int .i64 0, .int .i64 0] 44)) := ((((((Below.refl _ _).alloc (Nat.le_refl _) _).alloc (by simp <;> omega) _).alloc (by simp <;> omega) _).alloc (by simp <;> omega) _).alloc (by simp <;> omega) _)
  have g0 := ((((Blk.new w 40 #[.slice A l.length c]).alloc (.cells #[.slice A2 L.length c2] 22)).alloc (.cells #[.int .i64 k] 3)).alloc (.cells #[.int .i64 d] 3)).alloc (.cells #[.int .i64 0, .int .i64 0, .int .i64 0] 44)
  have g1 := (((Blk.new (w.alloc (.cells #[.slice A l.length c] 40)) 22 #[.slice A2 L.length c2]).alloc (.cells #[.int .i64 k] 3)).alloc (.cells #[.int .i64 d] 3)).alloc (.cells #[.int .i64 0, .int .i64 0, .int .i64 0] 44)
  have g2 := ((Blk.new ((w.alloc (.cells #[.slice A l.length c] 40)).alloc (.cells #[.slice A2 L.length c2] 22)) 3 #[.int .i64 k]).alloc (.cells #[.int .i64 d] 3)).alloc (.cells #[.int .i64 0, .int .i64 0, .int .i64 0] 44)
  have g3 := (Blk.new (((w.alloc (.cells #[.slice A l.length c] 40)).alloc (.cells #[.slice A2 L.length c2] 22)).alloc (.cells #[.int .i64 k] 3)) 3 #[.int .i64 d]).alloc (.cells #[.int .i64 0, .int .i64 0, .int .i64 0] 44)
  have g4 := Blk.new ((((w.alloc (.cells #[.slice A l.length c] 40)).alloc (.cells #[.slice A2 L.length c2] 22)).alloc (.cells #[.int .i64 k] 3)).alloc (.cells #[.int .i64 d] 3)) 44 #[.int .i64 0, .int .i64 0, .int .i64 0]
  simp only [World.size_alloc] at g1 g2 g3 g4
  have hs5 : (((((w.alloc (.cells #[.slice A l.length c] 40)).alloc (.cells #[.slice A2 L.length c2] 22)).alloc (.cells #[.int .i64 k] 3)).alloc (.cells #[.int .i64 d] 3)).alloc (.cells #[.int .i64 0, .int .i64 0, .int .i64 0] 44)).heap.size = w.heap.size + 5 := by simp
  refine (callsIn_wide (n := 9)).1 ?_
  refine callsIn_of_wp_marks Try.func30 rfl trivial ?_ rfl
  simp only [Try.ntmps30, List.size_toArray, List.length_cons, List.length_nil, Nat.reduceAdd, Nat.reduceSub, Array.replicate_succ, Array.replicate_zero, List.push_toArray, List.append_toArray, List.nil_append, List.cons_append]
  by_cases hok : bOk l L k d
  · have HOK := Lib.hid hok
    obtain ⟨hgl, hgL, ⟨hk1, hk2⟩, hd0⟩ := hok
    have HGL := Lib.hid hgl
    have HGLL := Lib.hid hgL
    clear hgl hgL
    gi_wp2_with fail
    refine ⟨trivial, (callsIn_wide.2 (implPeopleValid A c l _ (H.out.below hb5).1 hn)).mono ?_⟩
    generalize ((((w.alloc (.cells #[.slice A l.length c] 40)).alloc (.cells #[.slice A2 L.length c2] 22)).alloc (.cells #[.int .i64 k] 3)).alloc (.cells #[.int .i64 d] 3)).alloc (.cells #[.int .i64 0, .int .i64 0, .int .i64 0] 44) = w5 at *
    rintro e w6 ⟨hrb, hb6⟩
    obtain rfl := hrb.isTrue HGL.out
    have hs6 := hb6.size
    have q0 := g0.below hb6 g0.lt
    have q1 := g1.below hb6 g1.lt
    have q2 := g2.below hb6 g2.lt
    have q3 := g3.below hb6 g3.lt
    have q4 := g4.below hb6 g4.lt
    have hbw6 := hb5.trans (hb6.mono hb5.size)
    have hA6 := Lib.hid (H.out.below hbw6)
    have c0 := q0.cell 0
    have c1 := q1.cell 0
    have c2' := q2.cell 0
    have c3 := q3.cell 0
    simp only [List.getElem?_cons_zero] at c0 c1 c2' c3
    clear hrb hb6 hb5 g0 g1 g2 g3 g4
    gi_wp2_with fail
    refine ⟨trivial, (callsIn_wide.2 (implLadderValid A2 c2 L w6 hA6.out.2.2.1 hn2)).mono ?_⟩
    rintro e w' ⟨hrb, rfl⟩
    obtain rfl := hrb.isTrue HGLL.out
    clear hrb
    gi_wp2_with fail
    refine ⟨trivial, (callsIn_wide.2 (implIsPNb k w6)).mono ?_⟩
    rw [inB_yes hk1 hk2]
    rintro e w' ⟨rfl, rfl⟩
    have hb68 : Below w6.heap.size w6 ((w6.alloc (.cells #[.int .i64 0, .int .i64 0, .int .i64 0] 44)).alloc (.cells #[.bool false] 4)) := (((Below.refl _ _).alloc (Nat.le_refl _) _).alloc (by simp <;> omega) _)
    have c1' := (hb68.cell (p := ⟨w.heap.size + 1, 0, none⟩) q1.lt).trans c1
    clear c0 c1 c2'
    gi_wp2_with fail
    refine ⟨trivial, (callsIn_wide.2 (implRecodings (L.length : Int) _)).mono ?_⟩
    rintro e w' ⟨rfl, rfl⟩
    have hdB : decide (d < 0) = false := decide_eq_false (by omega)
    have hL3 : L.length ≤ 3 := HGLL.out.1
    gi_wp2_with fail
    have hbW : Below w6.heap.size w6 (((w6.alloc (.cells #[.int .i64 0, .int .i64 0, .int .i64 0] 44)).alloc (.cells #[.bool false] 4)).alloc (.cells #[.int .i64 L.length] 3)) := ((((Below.refl _ _).alloc (Nat.le_refl _) _).alloc (by simp <;> omega) _).alloc (by simp <;> omega) _)
    have hBI : BI w w6.heap.size A A2 c c2 l L k d none (((w6.alloc (.cells #[.int .i64 0, .int .i64 0, .int .i64 0] 44)).alloc (.cells #[.bool false] 4)).alloc (.cells #[.int .i64 L.length] 3)) := by
      have p5 := ((Blk.new w6 44 #[.int .i64 0, .int .i64 0, .int .i64 0]).alloc (.cells #[.bool false] 4)).alloc (.cells #[.int .i64 L.length] 3)
      have p6 := (Blk.new (w6.alloc (.cells #[.int .i64 0, .int .i64 0, .int .i64 0] 44)) 4 #[.bool false]).alloc (.cells #[.int .i64 L.length] 3)
      rw [World.size_alloc] at p6
      exact ⟨⟨q0.below hbW q0.lt, q1.below hbW q1.lt, q2.below hbW q2.lt, q3.below hbW q3.lt, q4.below hbW q4.lt⟩, p5, p6, hbw6.trans (hbW.mono hbw6.size)⟩
    have hcN : World.cell? (((w6.alloc (.cells #[.int .i64 0, .int .i64 0, .int .i64 0] 44)).alloc (.cells #[.bool false] 4)).alloc (.cells #[.int .i64 L.length] 3)) ⟨w6.heap.size + 1 + 1, 0, none⟩ = some (.int .i64 L.length) := by
      have p := (Blk.new ((w6.alloc (.cells #[.int .i64 0, .int .i64 0, .int .i64 0] 44)).alloc (.cells #[.bool false] 4)) 3 #[.int .i64 L.length]).cell 0
      simp only [World.size_alloc] at p
      exact p
    have hsz : (((w6.alloc (.cells #[.int .i64 0, .int .i64 0, .int .i64 0] 44)).alloc (.cells #[.bool false] 4)).alloc (.cells #[.int .i64 L.length] 3)).heap.size = w6.heap.size + 1 + 1 + 1 := by simp
    generalize (((w6.alloc (.cells #[.int .i64 0, .int .i64 0, .int .i64 0] 44)).alloc (.cells #[.bool false] 4)).alloc (.cells #[.int .i64 L.length] 3)) = W0 at *
    have HBI := Lib.hid hBI
    have hw6 : w.heap.size + 5 ≤ w6.heap.size := by omega
    have HSW := Lib.hid hw6
    clear q0 q1 q2 q3 q4 hbW hBI c1' c3 hb68
    refine wpIn_rangeFunc_ownH (F := Fence.wide) (n := 9) rfl (by omega) (gf := 77) (lb := #[.pointer (some ⟨w6.heap.size + 1 + 1, 0, none⟩)]) rfl trivial (enters_of Try.func77 (by kernel_rfl) rfl)
      (recs_stops Fence.wide 8 trivial rfl (by omega) (w6.heap.size + 1 + 1) L.length (by omega) w.heap.size W0 (by omega) hcN) belowK_t (belowK_b (by omega)) (Below.refl _ _) (fun _ => rfl)
      (fun pre W => BI w w6.heap.size A A2 c c2 l L k d (bestL l L k d pre) W)
      (fun _ _ _ => False)
      (BI.own (by omega))
      (fun _ _ _ _ _ hs _ _ => hs)
      HBI.out
      (fun x a' W => ∃ Bx, w6.heap.size + 1 < Bx ∧ Blk W Bx 44 [.int .i64 x.a, .int .i64 x.j, .int .i64 x.s] ∧ a' = { tmps := #[.slice A l.length c, .slice A2 L.length c2, .int .i64 k, .int .i64 d, .pointer (some ⟨w.heap.size, 0, none⟩), .pointer (some ⟨w.heap.size + 1, 0, none⟩), .pointer (some ⟨w.heap.size + 1 + 1, 0, none⟩), .pointer (some ⟨w.heap.size + 1 + 1 + 1, 0, none⟩), .pointer (some ⟨w.heap.size + 1 + 1 + 1 + 1, 0, none⟩), .bool false, .pointer (some ⟨w6.heap.size, 0, none⟩), .pointer (some ⟨w6.heap.size + 1, 0, none⟩), .pointer (some ⟨Bx, 0, none⟩), .slice A l.length c, .bool true, .bool false, .bool false, .slice A2 L.length c2, .bool true, .bool false, .bool false, .bool false, .int .i64 k, .bool true, .bool false, .bool false, .bool false, .int .i64 d, .bool false, .bool false, undef, .agg #[.int .i64 0, .int .i64 0, .int .i64 0], .slice A2 L.length c2, .int .i64 L.length, .func (.func 77) #[] #[.pointer (some ⟨w6.heap.size + 1 + 1, 0, none⟩)], Rc.val x, undef, undef, undef, undef, undef, undef, undef, undef, undef, undef, undef, undef, undef, undef, undef, undef, undef, undef, undef, undef, undef, undef, undef], defers := [] })
      (fun x a' _ X Y row hs hg hr => by obtain ⟨Bx, h1, h2, h3⟩ := hs; exact ⟨Bx, h1, blk_turn h2 hg (fun r e => (hr r e).2), h3⟩)
      ?assign ?body ?done ?stop
    case assign =>
      rintro l9 pre x W K hi hK
      gi_wp2
      exact hK _ _ (keeps_below ((Below.refl _ _).alloc (Nat.le_refl _) _)) ((((Below.refl _ _).alloc (Nat.le_refl _) _) : Below W.heap.size W (W.alloc (.cells #[.int .i64 x.a, .int .i64 x.j, .int .i64 x.s] 44))).mono hi.2.2.2.size) (hi.below ((Below.refl _ _).alloc (Nat.le_refl _) _)) ⟨W.heap.size, hi.2.2.1.lt, Blk.new W 44 #[.int .i64 x.a, .int .i64 x.j, .int .i64 x.s], rfl⟩
    case body =>
      rintro l9 pre x a' W hl ⟨r, hr⟩ hi ⟨Bx, hBx, bX, rfl⟩ hlt
      have hbn := bestL_next l L k d pre x
      obtain ⟨o, ho⟩ : ∃ o, o = bestL l L k d pre := ⟨_, rfl⟩
      rw [← ho] at hi hbn
      obtain ⟨D, hD⟩ : ∃ D, D = aDrop l L x k := ⟨_, rfl⟩
      have HD := Lib.hid hD
      have hArg := H.out.below hi.2.2.2
      have HS : Hid (∀ V : World, Below W.heap.size W V → (V.cell? ⟨w.heap.size, 0, none⟩ = some (.slice A l.length c) ∧ V.cell? ⟨w.heap.size + 1, 0, none⟩ = some (.slice A2 L.length c2) ∧ V.cell? ⟨w.heap.size + 1 + 1, 0, none⟩ = some (.int .i64 k) ∧ V.cell? ⟨w.heap.size + 1 + 1 + 1, 0, none⟩ = some (.int .i64 d) ∧ V.cell? ⟨Bx, 0, none⟩ = some (.int .i64 x.a) ∧ V.cell? ⟨Bx, 1, none⟩ = some (.int .i64 x.j) ∧ V.cell? ⟨Bx, 2, none⟩ = some (.int .i64 x.s) ∧ V.cell? ⟨w6.heap.size, 0, none⟩ = some (.int .i64 (rcOr o).a) ∧ V.cell? ⟨w6.heap.size, 1, none⟩ = some (.int .i64 (rcOr o).j) ∧ V.cell? ⟨w6.heap.size, 2, none⟩ = some (.int .i64 (rcOr o).s) ∧ V.cell? ⟨w6.heap.size + 1, 0, none⟩ = some (.bool o.isSome))) := fun V hV => by
        obtain ⟨⟨h0, h1, h2, h3, h4⟩, h5, h6, h7⟩ := hi.below hV
        have h8 := bX.below hV bX.lt
        exact ⟨h0.cell 0, h1.cell 0, h2.cell 0, h3.cell 0, h8.cell 0, h8.cell 1, h8.cell 2, h5.cell 0, h5.cell 1, h5.cell 2, h6.cell 0⟩
      clear ho hr hl hlt
      by_cases hle : D ≤ d
      · have g1 : decide (D ≤ d) = true := decide_eq_true hle
        cases o with
        | none =>
          have HST := Lib.hid (hbn.trans (bstep_none (x := x) (show aDrop l L x k ≤ d by rw [← hD]; exact hle)))
          clear hD hle hbn
          gi_wp2_with fail
          refine wpIn_region_heldR (S := fun w' => w'.cell? ⟨w.heap.size, 0, none⟩ = some (.slice A l.length c) ∧ w'.cell? ⟨w.heap.size + 1, 0, none⟩ = some (.slice A2 L.length c2) ∧ w'.cell? ⟨w.heap.size + 1 + 1, 0, none⟩ = some (.int .i64 k) ∧ w'.cell? ⟨w.heap.size + 1 + 1 + 1, 0, none⟩ = some (.int .i64 d) ∧ w'.cell? ⟨Bx, 0, none⟩ = some (.int .i64 x.a) ∧ w'.cell? ⟨Bx, 1, none⟩ = some (.int .i64 x.j) ∧ w'.cell? ⟨Bx, 2, none⟩ = some (.int .i64 x.s) ∧ w'.cell? ⟨w6.heap.size, 0, none⟩ = some (.int .i64 (rcOr none).a) ∧ w'.cell? ⟨w6.heap.size, 1, none⟩ = some (.int .i64 (rcOr none).j) ∧ w'.cell? ⟨w6.heap.size, 2, none⟩ = some (.int .i64 (rcOr none).s) ∧ w'.cell? ⟨w6.heap.size + 1, 0, none⟩ = some (.bool false)) (by kernel_rfl) (noDef_spec (by kernel_rfl)) (fun ⟨_, _, h⟩ => h) (HS.out _ (Below.refl _ _).drew) (fun hHeld => ?_)
          refine wpAnyH_take (i := 0) (v := ?vv1) rfl (by kernel_rfl) (by kernel_rfl) (by kernel_rfl) (fun _ _ _ h => h) (Or.inl ⟨by rfl, ?hy1⟩) (by assumption) ?rest1
          case hy1 => (intro w hSw; (try dsimp only at hSw); (try simp only [List.getElem_toArray, List.getElem_cons_zero, List.getElem_cons_succ]); go_simp <;> with_reducible rfl)
          try simp only [List.getElem_toArray, List.getElem_cons_zero, List.getElem_cons_succ, Act.put, List.setIfInBounds_toArray, List.set_cons_zero, List.set_cons_succ]
          refine wpAnyH_take (i := 1) (v := ?vv2) rfl (by kernel_rfl) (by kernel_rfl) (by kernel_rfl) (fun _ _ _ h => h) (Or.inl ⟨by rfl, ?hy2⟩) (by assumption) ?rest2
          case hy2 => (intro w hSw; (try dsimp only at hSw); (try simp only [List.getElem_toArray, List.getElem_cons_zero, List.getElem_cons_succ]); go_simp <;> with_reducible rfl)
          try simp only [List.getElem_toArray, List.getElem_cons_zero, List.getElem_cons_succ, Act.put, List.setIfInBounds_toArray, List.set_cons_zero, List.set_cons_succ]
          refine wpAnyH_take (i := 2) (v := ?vv3) rfl (by kernel_rfl) (by kernel_rfl) (by kernel_rfl) (fun _ _ _ h => h) (Or.inl ⟨by rfl, ?hy3⟩) (by assumption) ?rest3
          case hy3 => (intro w hSw; (try dsimp only at hSw); (try simp only [List.getElem_toArray, List.getElem_cons_zero, List.getElem_cons_succ]); go_simp <;> with_reducible rfl)
          try simp only [List.getElem_toArray, List.getElem_cons_zero, List.getElem_cons_succ, Act.put, List.setIfInBounds_toArray, List.set_cons_zero, List.set_cons_succ]
          refine wpAnyH_take (i := 3) (v := ?vv4) rfl (by kernel_rfl) (by kernel_rfl) (by kernel_rfl) (fun _ _ _ h => h) (Or.inl ⟨by rfl, ?hy4⟩) (by assumption) ?rest4
          case hy4 => (intro w hSw; (try dsimp only at hSw); (try simp only [List.getElem_toArray, List.getElem_cons_zero, List.getElem_cons_succ]); go_simp <;> with_reducible rfl)
          try simp only [List.getElem_toArray, List.getElem_cons_zero, List.getElem_cons_succ, Act.put, List.setIfInBounds_toArray, List.set_cons_zero, List.set_cons_succ]
          refine wpAnyH_take (i := 5) (v := ?vv5) rfl (by kernel_rfl) (by kernel_rfl) (by kernel_rfl) (fun _ _ _ h => h) (Or.inl ⟨by rfl, ?hy5⟩) (by assumption) ?rest5
          case hy5 => (intro w hSw; (try dsimp only at hSw); (try simp only [List.getElem_toArray, List.getElem_cons_zero, List.getElem_cons_succ]); go_simp <;> with_reducible rfl)
          try simp only [List.getElem_toArray, List.getElem_cons_zero, List.getElem_cons_succ, Act.put, List.setIfInBounds_toArray, List.set_cons_zero, List.set_cons_succ]
          refine wpAnyH_ready (rs := [4]) (by kernel_rfl) (by simp) ?_
          refine AllReadyH.cons rfl (fun K hK => ?_) AllReadyH.nil
          go_simp
          refine (implAnonDrop A A2 c c2 l L x k _ (hArg.below (Below.refl _ _).drew)).mono ?_
          rw [← HD.out]
          rintro e v1 ⟨rfl, hq1⟩
          have hb1 : Below W.heap.size W v1 := (Below.refl _ _).drew.trans hq1
          clear hq1
          dsimp only
          refine hK.out _ _ (HS.out _ hb1) (fun hHeld => ?_)
          clear hK K
          try simp only [List.getElem_toArray, List.getElem_cons_zero, List.getElem_cons_succ, Act.put, List.setIfInBounds_toArray, List.set_cons_zero, List.set_cons_succ]
          refine wpAnyH_take (i := 6) (v := ?vv6) rfl (by kernel_rfl) (by kernel_rfl) (by kernel_rfl) (fun _ _ _ h => h) (Or.inl ⟨by rfl, ?hy6⟩) (by assumption) ?rest6
          case hy6 => (intro w hSw; (try dsimp only at hSw); (try simp only [List.getElem_toArray, List.getElem_cons_zero, List.getElem_cons_succ]); go_simp <;> with_reducible rfl)
          try simp only [List.getElem_toArray, List.getElem_cons_zero, List.getElem_cons_succ, Act.put, List.setIfInBounds_toArray, List.set_cons_zero, List.set_cons_succ]
          refine wpAnyH_take (i := 7) (v := ?vv7) rfl (by kernel_rfl) (by kernel_rfl) (by kernel_rfl) (fun _ _ _ h => h) (Or.inl ⟨by rfl, ?hy7⟩) (by assumption) ?rest7
          case hy7 => (intro w hSw; (try dsimp only at hSw); (try simp only [List.getElem_toArray, List.getElem_cons_zero, List.getElem_cons_succ]); go_simp <;> with_reducible rfl)
          try simp only [List.getElem_toArray, List.getElem_cons_zero, List.getElem_cons_succ, Act.put, List.setIfInBounds_toArray, List.set_cons_zero, List.set_cons_succ]
          refine wpAnyH_take (i := 8) (v := ?vv8) rfl (by kernel_rfl) (by kernel_rfl) (by kernel_rfl) (fun _ _ _ h => h) (Or.inl ⟨by rfl, ?hy8⟩) (by assumption) ?rest8
          case hy8 => (intro w hSw; (try dsimp only at hSw); (try simp only [List.getElem_toArray, List.getElem_cons_zero, List.getElem_cons_succ]); go_simp <;> with_reducible rfl)
          try simp only [List.getElem_toArray, List.getElem_cons_zero, List.getElem_cons_succ, Act.put, List.setIfInBounds_toArray, List.set_cons_zero, List.set_cons_succ]
          refine wpAnyH_take (i := 9) (v := ?vv9) rfl (by kernel_rfl) (by kernel_rfl) (by kernel_rfl) (fun _ _ _ h => h) (Or.inl ⟨by rfl, ?hy9⟩) (by assumption) ?rest9
          case hy9 => (intro w hSw; (try dsimp only at hSw); (try simp only [List.getElem_toArray, List.getElem_cons_zero, List.getElem_cons_succ]); go_simp <;> with_reducible rfl)
          try simp only [List.getElem_toArray, List.getElem_cons_zero, List.getElem_cons_succ, Act.put, List.setIfInBounds_toArray, List.set_cons_zero, List.set_cons_succ]
          refine wpAnyH_take (i := 10) (v := ?vv10) rfl (by kernel_rfl) (by kernel_rfl) (by kernel_rfl) (fun _ _ _ h => h) (Or.inl ⟨by rfl, ?hy10⟩) (by assumption) ?rest10
          case hy10 => (intro w hSw; (try dsimp only at hSw); (try simp only [List.getElem_toArray, List.getElem_cons_zero, List.getElem_cons_succ]); go_simp <;> with_reducible rfl)
          try simp only [List.getElem_toArray, List.getElem_cons_zero, List.getElem_cons_succ, Act.put, List.setIfInBounds_toArray, List.set_cons_zero, List.set_cons_succ]
          refine wpAnyH_take (i := 11) (v := undef) rfl (by kernel_rfl) (by kernel_rfl) (by kernel_rfl) (fun _ _ _ h => h) (Or.inr ⟨by rfl, rfl⟩) (by assumption) ?_
          try simp only [List.getElem_toArray, List.getElem_cons_zero, List.getElem_cons_succ, Act.put, List.setIfInBounds_toArray, List.set_cons_zero, List.set_cons_succ]
          refine wpAnyH_take (i := 12) (v := undef) rfl (by kernel_rfl) (by kernel_rfl) (by kernel_rfl) (fun _ _ _ h => h) (Or.inr ⟨by rfl, rfl⟩) (by assumption) ?_
          try simp only [List.getElem_toArray, List.getElem_cons_zero, List.getElem_cons_succ, Act.put, List.setIfInBounds_toArray, List.set_cons_zero, List.set_cons_succ]
          refine wpAnyH_take (i := 13) (v := undef) rfl (by kernel_rfl) (by kernel_rfl) (by kernel_rfl) (fun _ _ _ h => h) (Or.inr ⟨by rfl, rfl⟩) (by assumption) ?_
          try simp only [List.getElem_toArray, List.getElem_cons_zero, List.getElem_cons_succ, Act.put, List.setIfInBounds_toArray, List.set_cons_zero, List.set_cons_succ]
          refine wpAnyH_take (i := 14) (v := undef) rfl (by kernel_rfl) (by kernel_rfl) (by kernel_rfl) (fun _ _ _ h => h) (Or.inr ⟨by rfl, rfl⟩) (by assumption) ?_
          try simp only [List.getElem_toArray, List.getElem_cons_zero, List.getElem_cons_succ, Act.put, List.setIfInBounds_toArray, List.set_cons_zero, List.set_cons_succ]
          refine wpAnyH_take (i := 15) (v := undef) rfl (by kernel_rfl) (by kernel_rfl) (by kernel_rfl) (fun _ _ _ h => h) (Or.inr ⟨by rfl, rfl⟩) (by assumption) ?_
          try simp only [List.getElem_toArray, List.getElem_cons_zero, List.getElem_cons_succ, Act.put, List.setIfInBounds_toArray, List.set_cons_zero, List.set_cons_succ]
          refine wpAnyH_take (i := 16) (v := undef) rfl (by kernel_rfl) (by kernel_rfl) (by kernel_rfl) (fun _ _ _ h => h) (Or.inr ⟨by rfl, rfl⟩) (by assumption) ?_
          try simp only [List.getElem_toArray, List.getElem_cons_zero, List.getElem_cons_succ, Act.put, List.setIfInBounds_toArray, List.set_cons_zero, List.set_cons_succ]
          refine wpAnyH_take (i := 17) (v := undef) rfl (by kernel_rfl) (by kernel_rfl) (by kernel_rfl) (fun _ _ _ h => h) (Or.inr ⟨by rfl, rfl⟩) (by assumption) ?_
          try simp only [List.getElem_toArray, List.getElem_cons_zero, List.getElem_cons_succ, Act.put, List.setIfInBounds_toArray, List.set_cons_zero, List.set_cons_succ]
          refine wpAnyH_take (i := 18) (v := ?vv11) rfl (by kernel_rfl) (by kernel_rfl) (by kernel_rfl) (fun _ _ _ h => h) (Or.inl ⟨by rfl, ?hy11⟩) (by assumption) ?rest11
          case hy11 => (intro w hSw; (try dsimp only at hSw); (try simp only [List.getElem_toArray, List.getElem_cons_zero, List.getElem_cons_succ]); go_simp <;> with_reducible rfl)
          try simp only [List.getElem_toArray, List.getElem_cons_zero, List.getElem_cons_succ, Act.put, List.setIfInBounds_toArray, List.set_cons_zero, List.set_cons_succ]
          refine wpAnyH_take (i := 19) (v := ?vv12) rfl (by kernel_rfl) (by kernel_rfl) (by kernel_rfl) (fun _ _ _ h => h) (Or.inl ⟨by rfl, ?hy12⟩) (by assumption) ?rest12
          case hy12 => (intro w hSw; (try dsimp only at hSw); (try simp only [List.getElem_toArray, List.getElem_cons_zero, List.getElem_cons_succ]); go_simp <;> with_reducible rfl)
          try simp only [List.getElem_toArray, List.getElem_cons_zero, List.getElem_cons_succ, Act.put, List.setIfInBounds_toArray, List.set_cons_zero, List.set_cons_succ]
          refine wpAnyH_done (by kernel_rfl) ?_ _
          clear hHeld
          have hbX1 := bX.below hb1 bX.lt
          have hi1 := hi.below hb1
          have x0 := hbX1.cell 0
          have x1 := hbX1.cell 1
          have x2 := hbX1.cell 2
          have b0 := hi1.2.1.cell 0
          have b1 := hi1.2.1.cell 1
          have b2 := hi1.2.1.cell 2
          have f0 := hi1.2.1.frozen 0
          have f1 := hi1.2.1.frozen 1
          have f2 := hi1.2.1.frozen 2
          have m0 := hi1.2.2.1.cell 0
          have m1 := hi1.2.2.1.frozen 0
          simp only [List.getElem?_cons_zero, List.getElem?_cons_succ] at x0 x1 x2 b0 b1 b2 m0
          have HI1 := Lib.hid hi1
          clear hi1 hbX1
          gi_wp2
          exact best_end HI1.out HST.out (hb1) (by have := HSW.out; omega) hi.2.2.2.size
        | some b =>
          obtain ⟨cx, hcx⟩ : ∃ cx, cx = aCost L x := ⟨_, rfl⟩
          obtain ⟨cb, hcb⟩ : ∃ cb, cb = aCost L b := ⟨_, rfl⟩
          have HCX := Lib.hid hcx
          have HCB := Lib.hid hcb
          by_cases hlc : cx < cb
          case pos =>
            have g2 : decide (cx < cb) = true := decide_eq_true hlc
            have HST := Lib.hid (hbn.trans (bstep_yes (show aDrop l L x k ≤ d by rw [← hD]; exact hle) (show aCost L x < aCost L b by rw [← hcx, ← hcb]; exact hlc)))
            clear hD hle hbn hcx hcb hlc
            gi_wp2_with fail
            refine wpIn_region_heldR (S := fun w' => w'.cell? ⟨w.heap.size, 0, none⟩ = some (.slice A l.length c) ∧ w'.cell? ⟨w.heap.size + 1, 0, none⟩ = some (.slice A2 L.length c2) ∧ w'.cell? ⟨w.heap.size + 1 + 1, 0, none⟩ = some (.int .i64 k) ∧ w'.cell? ⟨w.heap.size + 1 + 1 + 1, 0, none⟩ = some (.int .i64 d) ∧ w'.cell? ⟨Bx, 0, none⟩ = some (.int .i64 x.a) ∧ w'.cell? ⟨Bx, 1, none⟩ = some (.int .i64 x.j) ∧ w'.cell? ⟨Bx, 2, none⟩ = some (.int .i64 x.s) ∧ w'.cell? ⟨w6.heap.size, 0, none⟩ = some (.int .i64 b.a) ∧ w'.cell? ⟨w6.heap.size, 1, none⟩ = some (.int .i64 b.j) ∧ w'.cell? ⟨w6.heap.size, 2, none⟩ = some (.int .i64 b.s) ∧ w'.cell? ⟨w6.heap.size + 1, 0, none⟩ = some (.bool true)) (by kernel_rfl) (noDef_spec (by kernel_rfl)) (fun ⟨_, _, h⟩ => h) (HS.out _ (Below.refl _ _).drew) (fun hHeld => ?_)
            refine wpAnyH_take (i := 0) (v := ?vv13) rfl (by kernel_rfl) (by kernel_rfl) (by kernel_rfl) (fun _ _ _ h => h) (Or.inl ⟨by rfl, ?hy13⟩) (by assumption) ?rest13
            case hy13 => (intro w hSw; (try dsimp only at hSw); (try simp only [List.getElem_toArray, List.getElem_cons_zero, List.getElem_cons_succ]); go_simp <;> with_reducible rfl)
            try simp only [List.getElem_toArray, List.getElem_cons_zero, List.getElem_cons_succ, Act.put, List.setIfInBounds_toArray, List.set_cons_zero, List.set_cons_succ]
            refine wpAnyH_take (i := 1) (v := ?vv14) rfl (by kernel_rfl) (by kernel_rfl) (by kernel_rfl) (fun _ _ _ h => h) (Or.inl ⟨by rfl, ?hy14⟩) (by assumption) ?rest14
            case hy14 => (intro w hSw; (try dsimp only at hSw); (try simp only [List.getElem_toArray, List.getElem_cons_zero, List.getElem_cons_succ]); go_simp <;> with_reducible rfl)
            try simp only [List.getElem_toArray, List.getElem_cons_zero, List.getElem_cons_succ, Act.put, List.setIfInBounds_toArray, List.set_cons_zero, List.set_cons_succ]
            refine wpAnyH_take (i := 2) (v := ?vv15) rfl (by kernel_rfl) (by kernel_rfl) (by kernel_rfl) (fun _ _ _ h => h) (Or.inl ⟨by rfl, ?hy15⟩) (by assumption) ?rest15
            case hy15 => (intro w hSw; (try dsimp only at hSw); (try simp only [List.getElem_toArray, List.getElem_cons_zero, List.getElem_cons_succ]); go_simp <;> with_reducible rfl)
            try simp only [List.getElem_toArray, List.getElem_cons_zero, List.getElem_cons_succ, Act.put, List.setIfInBounds_toArray, List.set_cons_zero, List.set_cons_succ]
            refine wpAnyH_take (i := 3) (v := ?vv16) rfl (by kernel_rfl) (by kernel_rfl) (by kernel_rfl) (fun _ _ _ h => h) (Or.inl ⟨by rfl, ?hy16⟩) (by assumption) ?rest16
            case hy16 => (intro w hSw; (try dsimp only at hSw); (try simp only [List.getElem_toArray, List.getElem_cons_zero, List.getElem_cons_succ]); go_simp <;> with_reducible rfl)
            try simp only [List.getElem_toArray, List.getElem_cons_zero, List.getElem_cons_succ, Act.put, List.setIfInBounds_toArray, List.set_cons_zero, List.set_cons_succ]
            refine wpAnyH_take (i := 5) (v := ?vv17) rfl (by kernel_rfl) (by kernel_rfl) (by kernel_rfl) (fun _ _ _ h => h) (Or.inl ⟨by rfl, ?hy17⟩) (by assumption) ?rest17
            case hy17 => (intro w hSw; (try dsimp only at hSw); (try simp only [List.getElem_toArray, List.getElem_cons_zero, List.getElem_cons_succ]); go_simp <;> with_reducible rfl)
            try simp only [List.getElem_toArray, List.getElem_cons_zero, List.getElem_cons_succ, Act.put, List.setIfInBounds_toArray, List.set_cons_zero, List.set_cons_succ]
            refine wpAnyH_ready (rs := [4]) (by kernel_rfl) (by simp) ?_
            refine AllReadyH.cons rfl (fun K hK => ?_) AllReadyH.nil
            go_simp
            refine (implAnonDrop A A2 c c2 l L x k _ (hArg.below (Below.refl _ _).drew)).mono ?_
            rw [← HD.out]
            rintro e v1 ⟨rfl, hq1⟩
            have hb1 : Below W.heap.size W v1 := (Below.refl _ _).drew.trans hq1
            clear hq1
            dsimp only
            refine hK.out _ _ (HS.out _ hb1) (fun hHeld => ?_)
            clear hK K
            try simp only [List.getElem_toArray, List.getElem_cons_zero, List.getElem_cons_succ, Act.put, List.setIfInBounds_toArray, List.set_cons_zero, List.set_cons_succ]
            refine wpAnyH_take (i := 6) (v := ?vv18) rfl (by kernel_rfl) (by kernel_rfl) (by kernel_rfl) (fun _ _ _ h => h) (Or.inl ⟨by rfl, ?hy18⟩) (by assumption) ?rest18
            case hy18 => (intro w hSw; (try dsimp only at hSw); (try simp only [List.getElem_toArray, List.getElem_cons_zero, List.getElem_cons_succ]); go_simp <;> with_reducible rfl)
            try simp only [List.getElem_toArray, List.getElem_cons_zero, List.getElem_cons_succ, Act.put, List.setIfInBounds_toArray, List.set_cons_zero, List.set_cons_succ]
            refine wpAnyH_take (i := 7) (v := ?vv19) rfl (by kernel_rfl) (by kernel_rfl) (by kernel_rfl) (fun _ _ _ h => h) (Or.inl ⟨by rfl, ?hy19⟩) (by assumption) ?rest19
            case hy19 => (intro w hSw; (try dsimp only at hSw); (try simp only [List.getElem_toArray, List.getElem_cons_zero, List.getElem_cons_succ]); go_simp <;> with_reducible rfl)
            try simp only [List.getElem_toArray, List.getElem_cons_zero, List.getElem_cons_succ, Act.put, List.setIfInBounds_toArray, List.set_cons_zero, List.set_cons_succ]
            refine wpAnyH_take (i := 8) (v := ?vv20) rfl (by kernel_rfl) (by kernel_rfl) (by kernel_rfl) (fun _ _ _ h => h) (Or.inl ⟨by rfl, ?hy20⟩) (by assumption) ?rest20
            case hy20 => (intro w hSw; (try dsimp only at hSw); (try simp only [List.getElem_toArray, List.getElem_cons_zero, List.getElem_cons_succ]); go_simp <;> with_reducible rfl)
            try simp only [List.getElem_toArray, List.getElem_cons_zero, List.getElem_cons_succ, Act.put, List.setIfInBounds_toArray, List.set_cons_zero, List.set_cons_succ]
            refine wpAnyH_take (i := 9) (v := ?vv21) rfl (by kernel_rfl) (by kernel_rfl) (by kernel_rfl) (fun _ _ _ h => h) (Or.inl ⟨by rfl, ?hy21⟩) (by assumption) ?rest21
            case hy21 => (intro w hSw; (try dsimp only at hSw); (try simp only [List.getElem_toArray, List.getElem_cons_zero, List.getElem_cons_succ]); go_simp <;> with_reducible rfl)
            try simp only [List.getElem_toArray, List.getElem_cons_zero, List.getElem_cons_succ, Act.put, List.setIfInBounds_toArray, List.set_cons_zero, List.set_cons_succ]
            refine wpAnyH_take (i := 10) (v := ?vv22) rfl (by kernel_rfl) (by kernel_rfl) (by kernel_rfl) (fun _ _ _ h => h) (Or.inl ⟨by rfl, ?hy22⟩) (by assumption) ?rest22
            case hy22 => (intro w hSw; (try dsimp only at hSw); (try simp only [List.getElem_toArray, List.getElem_cons_zero, List.getElem_cons_succ]); go_simp <;> with_reducible rfl)
            try simp only [List.getElem_toArray, List.getElem_cons_zero, List.getElem_cons_succ, Act.put, List.setIfInBounds_toArray, List.set_cons_zero, List.set_cons_succ]
            refine wpAnyH_take (i := 11) (v := ?vv23) rfl (by kernel_rfl) (by kernel_rfl) (by kernel_rfl) (fun _ _ _ h => h) (Or.inl ⟨by rfl, ?hy23⟩) (by assumption) ?rest23
            case hy23 => (intro w hSw; (try dsimp only at hSw); (try simp only [List.getElem_toArray, List.getElem_cons_zero, List.getElem_cons_succ]); go_simp <;> with_reducible rfl)
            try simp only [List.getElem_toArray, List.getElem_cons_zero, List.getElem_cons_succ, Act.put, List.setIfInBounds_toArray, List.set_cons_zero, List.set_cons_succ]
            refine wpAnyH_take (i := 12) (v := ?vv24) rfl (by kernel_rfl) (by kernel_rfl) (by kernel_rfl) (fun _ _ _ h => h) (Or.inl ⟨by rfl, ?hy24⟩) (by assumption) ?rest24
            case hy24 => (intro w hSw; (try dsimp only at hSw); (try simp only [List.getElem_toArray, List.getElem_cons_zero, List.getElem_cons_succ]); go_simp <;> with_reducible rfl)
            try simp only [List.getElem_toArray, List.getElem_cons_zero, List.getElem_cons_succ, Act.put, List.setIfInBounds_toArray, List.set_cons_zero, List.set_cons_succ]
            refine wpAnyH_take (i := 14) (v := ?vv25) rfl (by kernel_rfl) (by kernel_rfl) (by kernel_rfl) (fun _ _ _ h => h) (Or.inl ⟨by rfl, ?hy25⟩) (by assumption) ?rest25
            case hy25 => (intro w hSw; (try dsimp only at hSw); (try simp only [List.getElem_toArray, List.getElem_cons_zero, List.getElem_cons_succ]); go_simp <;> with_reducible rfl)
            try simp only [List.getElem_toArray, List.getElem_cons_zero, List.getElem_cons_succ, Act.put, List.setIfInBounds_toArray, List.set_cons_zero, List.set_cons_succ]
            refine wpAnyH_take (i := 15) (v := ?vv26) rfl (by kernel_rfl) (by kernel_rfl) (by kernel_rfl) (fun _ _ _ h => h) (Or.inl ⟨by rfl, ?hy26⟩) (by assumption) ?rest26
            case hy26 => (intro w hSw; (try dsimp only at hSw); (try simp only [List.getElem_toArray, List.getElem_cons_zero, List.getElem_cons_succ]); go_simp <;> with_reducible rfl)
            try simp only [List.getElem_toArray, List.getElem_cons_zero, List.getElem_cons_succ, Act.put, List.setIfInBounds_toArray, List.set_cons_zero, List.set_cons_succ]
            refine wpAnyH_ready (rs := [13]) (by kernel_rfl) (by simp) ?_
            refine AllReadyH.cons rfl (fun K hK => ?_) AllReadyH.nil
            go_simp
            refine (implAnonCost _ _ L x _ (hArg.below hb1).2.2.1 hn2 hArg.2.2.2.2).mono ?_
            rw [← HCX.out]
            rintro e v2 ⟨rfl, hq2⟩
            have hb2 : Below W.heap.size W v2 := hb1.trans (hq2.mono hb1.size)
            clear hq2
            dsimp only
            refine hK.out _ _ (HS.out _ hb2) (fun hHeld => ?_)
            clear hK K
            try simp only [List.getElem_toArray, List.getElem_cons_zero, List.getElem_cons_succ, Act.put, List.setIfInBounds_toArray, List.set_cons_zero, List.set_cons_succ]
            refine wpAnyH_ready (rs := [16]) (by kernel_rfl) (by simp) ?_
            refine AllReadyH.cons rfl (fun K hK => ?_) AllReadyH.nil
            go_simp
            refine (implAnonCost _ _ L b _ (hArg.below hb2).2.2.1 hn2 hArg.2.2.2.2).mono ?_
            rw [← HCB.out]
            rintro e v3 ⟨rfl, hq3⟩
            have hb3 : Below W.heap.size W v3 := hb2.trans (hq3.mono hb2.size)
            clear hq3
            dsimp only
            refine hK.out _ _ (HS.out _ hb3) (fun hHeld => ?_)
            clear hK K
            try simp only [List.getElem_toArray, List.getElem_cons_zero, List.getElem_cons_succ, Act.put, List.setIfInBounds_toArray, List.set_cons_zero, List.set_cons_succ]
            refine wpAnyH_take (i := 17) (v := ?vv27) rfl (by kernel_rfl) (by kernel_rfl) (by kernel_rfl) (fun _ _ _ h => h) (Or.inl ⟨by rfl, ?hy27⟩) (by assumption) ?rest27
            case hy27 => (intro w hSw; (try dsimp only at hSw); (try simp only [List.getElem_toArray, List.getElem_cons_zero, List.getElem_cons_succ]); go_simp <;> with_reducible rfl)
            try simp only [List.getElem_toArray, List.getElem_cons_zero, List.getElem_cons_succ, Act.put, List.setIfInBounds_toArray, List.set_cons_zero, List.set_cons_succ]
            refine wpAnyH_take (i := 18) (v := ?vv28) rfl (by kernel_rfl) (by kernel_rfl) (by kernel_rfl) (fun _ _ _ h => h) (Or.inl ⟨by rfl, ?hy28⟩) (by assumption) ?rest28
            case hy28 => (intro w hSw; (try dsimp only at hSw); (try simp only [List.getElem_toArray, List.getElem_cons_zero, List.getElem_cons_succ]); go_simp <;> with_reducible rfl)
            try simp only [List.getElem_toArray, List.getElem_cons_zero, List.getElem_cons_succ, Act.put, List.setIfInBounds_toArray, List.set_cons_zero, List.set_cons_succ]
            refine wpAnyH_take (i := 19) (v := ?vv29) rfl (by kernel_rfl) (by kernel_rfl) (by kernel_rfl) (fun _ _ _ h => h) (Or.inl ⟨by rfl, ?hy29⟩) (by assumption) ?rest29
            case hy29 => (intro w hSw; (try dsimp only at hSw); (try simp only [List.getElem_toArray, List.getElem_cons_zero, List.getElem_cons_succ]); go_simp <;> with_reducible rfl)
            try simp only [List.getElem_toArray, List.getElem_cons_zero, List.getElem_cons_succ, Act.put, List.setIfInBounds_toArray, List.set_cons_zero, List.set_cons_succ]
            refine wpAnyH_done (by kernel_rfl) ?_ _
            clear hHeld
            have hbX1 := bX.below hb3 bX.lt
            have hi1 := hi.below hb3
            have x0 := hbX1.cell 0
            have x1 := hbX1.cell 1
            have x2 := hbX1.cell 2
            have b0 := hi1.2.1.cell 0
            have b1 := hi1.2.1.cell 1
            have b2 := hi1.2.1.cell 2
            have f0 := hi1.2.1.frozen 0
            have f1 := hi1.2.1.frozen 1
            have f2 := hi1.2.1.frozen 2
            have m0 := hi1.2.2.1.cell 0
            have m1 := hi1.2.2.1.frozen 0
            simp only [List.getElem?_cons_zero, List.getElem?_cons_succ] at x0 x1 x2 b0 b1 b2 m0
            have HI1 := Lib.hid hi1
            clear hi1 hbX1
            gi_wp2
            exact best_end HI1.out HST.out (hb3) (by have := HSW.out; omega) hi.2.2.2.size
          case neg =>
            have g2 : decide (cx < cb) = false := decide_eq_false hlc
            have HST := Lib.hid (hbn.trans (bstep_keep (k := k) (d := d) (l := l) (show ¬ aCost L x < aCost L b by rw [← hcx, ← hcb]; exact hlc)))
            clear hD hle hbn hcx hcb hlc
            gi_wp2_with fail
            refine wpIn_region_heldR (S := fun w' => w'.cell? ⟨w.heap.size, 0, none⟩ = some (.slice A l.length c) ∧ w'.cell? ⟨w.heap.size + 1, 0, none⟩ = some (.slice A2 L.length c2) ∧ w'.cell? ⟨w.heap.size + 1 + 1, 0, none⟩ = some (.int .i64 k) ∧ w'.cell? ⟨w.heap.size + 1 + 1 + 1, 0, none⟩ = some (.int .i64 d) ∧ w'.cell? ⟨Bx, 0, none⟩ = some (.int .i64 x.a) ∧ w'.cell? ⟨Bx, 1, none⟩ = some (.int .i64 x.j) ∧ w'.cell? ⟨Bx, 2, none⟩ = some (.int .i64 x.s) ∧ w'.cell? ⟨w6.heap.size, 0, none⟩ = some (.int .i64 b.a) ∧ w'.cell? ⟨w6.heap.size, 1, none⟩ = some (.int .i64 b.j) ∧ w'.cell? ⟨w6.heap.size, 2, none⟩ = some (.int .i64 b.s) ∧ w'.cell? ⟨w6.heap.size + 1, 0, none⟩ = some (.bool true)) (by kernel_rfl) (noDef_spec (by kernel_rfl)) (fun ⟨_, _, h⟩ => h) (HS.out _ (Below.refl _ _).drew) (fun hHeld => ?_)
            refine wpAnyH_take (i := 0) (v := ?vv30) rfl (by kernel_rfl) (by kernel_rfl) (by kernel_rfl) (fun _ _ _ h => h) (Or.inl ⟨by rfl, ?hy30⟩) (by assumption) ?rest30
            case hy30 => (intro w hSw; (try dsimp only at hSw); (try simp only [List.getElem_toArray, List.getElem_cons_zero, List.getElem_cons_succ]); go_simp <;> with_reducible rfl)
            try simp only [List.getElem_toArray, List.getElem_cons_zero, List.getElem_cons_succ, Act.put, List.setIfInBounds_toArray, List.set_cons_zero, List.set_cons_succ]
            refine wpAnyH_take (i := 1) (v := ?vv31) rfl (by kernel_rfl) (by kernel_rfl) (by kernel_rfl) (fun _ _ _ h => h) (Or.inl ⟨by rfl, ?hy31⟩) (by assumption) ?rest31
            case hy31 => (intro w hSw; (try dsimp only at hSw); (try simp only [List.getElem_toArray, List.getElem_cons_zero, List.getElem_cons_succ]); go_simp <;> with_reducible rfl)
            try simp only [List.getElem_toArray, List.getElem_cons_zero, List.getElem_cons_succ, Act.put, List.setIfInBounds_toArray, List.set_cons_zero, List.set_cons_succ]
            refine wpAnyH_take (i := 2) (v := ?vv32) rfl (by kernel_rfl) (by kernel_rfl) (by kernel_rfl) (fun _ _ _ h => h) (Or.inl ⟨by rfl, ?hy32⟩) (by assumption) ?rest32
            case hy32 => (intro w hSw; (try dsimp only at hSw); (try simp only [List.getElem_toArray, List.getElem_cons_zero, List.getElem_cons_succ]); go_simp <;> with_reducible rfl)
            try simp only [List.getElem_toArray, List.getElem_cons_zero, List.getElem_cons_succ, Act.put, List.setIfInBounds_toArray, List.set_cons_zero, List.set_cons_succ]
            refine wpAnyH_take (i := 3) (v := ?vv33) rfl (by kernel_rfl) (by kernel_rfl) (by kernel_rfl) (fun _ _ _ h => h) (Or.inl ⟨by rfl, ?hy33⟩) (by assumption) ?rest33
            case hy33 => (intro w hSw; (try dsimp only at hSw); (try simp only [List.getElem_toArray, List.getElem_cons_zero, List.getElem_cons_succ]); go_simp <;> with_reducible rfl)
            try simp only [List.getElem_toArray, List.getElem_cons_zero, List.getElem_cons_succ, Act.put, List.setIfInBounds_toArray, List.set_cons_zero, List.set_cons_succ]
            refine wpAnyH_take (i := 5) (v := ?vv34) rfl (by kernel_rfl) (by kernel_rfl) (by kernel_rfl) (fun _ _ _ h => h) (Or.inl ⟨by rfl, ?hy34⟩) (by assumption) ?rest34
            case hy34 => (intro w hSw; (try dsimp only at hSw); (try simp only [List.getElem_toArray, List.getElem_cons_zero, List.getElem_cons_succ]); go_simp <;> with_reducible rfl)
            try simp only [List.getElem_toArray, List.getElem_cons_zero, List.getElem_cons_succ, Act.put, List.setIfInBounds_toArray, List.set_cons_zero, List.set_cons_succ]
            refine wpAnyH_ready (rs := [4]) (by kernel_rfl) (by simp) ?_
            refine AllReadyH.cons rfl (fun K hK => ?_) AllReadyH.nil
            go_simp
            refine (implAnonDrop A A2 c c2 l L x k _ (hArg.below (Below.refl _ _).drew)).mono ?_
            rw [← HD.out]
            rintro e v1 ⟨rfl, hq1⟩
            have hb1 : Below W.heap.size W v1 := (Below.refl _ _).drew.trans hq1
            clear hq1
            dsimp only
            refine hK.out _ _ (HS.out _ hb1) (fun hHeld => ?_)
            clear hK K
            try simp only [List.getElem_toArray, List.getElem_cons_zero, List.getElem_cons_succ, Act.put, List.setIfInBounds_toArray, List.set_cons_zero, List.set_cons_succ]
            refine wpAnyH_take (i := 6) (v := ?vv35) rfl (by kernel_rfl) (by kernel_rfl) (by kernel_rfl) (fun _ _ _ h => h) (Or.inl ⟨by rfl, ?hy35⟩) (by assumption) ?rest35
            case hy35 => (intro w hSw; (try dsimp only at hSw); (try simp only [List.getElem_toArray, List.getElem_cons_zero, List.getElem_cons_succ]); go_simp <;> with_reducible rfl)
            try simp only [List.getElem_toArray, List.getElem_cons_zero, List.getElem_cons_succ, Act.put, List.setIfInBounds_toArray, List.set_cons_zero, List.set_cons_succ]
            refine wpAnyH_take (i := 7) (v := ?vv36) rfl (by kernel_rfl) (by kernel_rfl) (by kernel_rfl) (fun _ _ _ h => h) (Or.inl ⟨by rfl, ?hy36⟩) (by assumption) ?rest36
            case hy36 => (intro w hSw; (try dsimp only at hSw); (try simp only [List.getElem_toArray, List.getElem_cons_zero, List.getElem_cons_succ]); go_simp <;> with_reducible rfl)
            try simp only [List.getElem_toArray, List.getElem_cons_zero, List.getElem_cons_succ, Act.put, List.setIfInBounds_toArray, List.set_cons_zero, List.set_cons_succ]
            refine wpAnyH_take (i := 8) (v := ?vv37) rfl (by kernel_rfl) (by kernel_rfl) (by kernel_rfl) (fun _ _ _ h => h) (Or.inl ⟨by rfl, ?hy37⟩) (by assumption) ?rest37
            case hy37 => (intro w hSw; (try dsimp only at hSw); (try simp only [List.getElem_toArray, List.getElem_cons_zero, List.getElem_cons_succ]); go_simp <;> with_reducible rfl)
            try simp only [List.getElem_toArray, List.getElem_cons_zero, List.getElem_cons_succ, Act.put, List.setIfInBounds_toArray, List.set_cons_zero, List.set_cons_succ]
            refine wpAnyH_take (i := 9) (v := ?vv38) rfl (by kernel_rfl) (by kernel_rfl) (by kernel_rfl) (fun _ _ _ h => h) (Or.inl ⟨by rfl, ?hy38⟩) (by assumption) ?rest38
            case hy38 => (intro w hSw; (try dsimp only at hSw); (try simp only [List.getElem_toArray, List.getElem_cons_zero, List.getElem_cons_succ]); go_simp <;> with_reducible rfl)
            try simp only [List.getElem_toArray, List.getElem_cons_zero, List.getElem_cons_succ, Act.put, List.setIfInBounds_toArray, List.set_cons_zero, List.set_cons_succ]
            refine wpAnyH_take (i := 10) (v := ?vv39) rfl (by kernel_rfl) (by kernel_rfl) (by kernel_rfl) (fun _ _ _ h => h) (Or.inl ⟨by rfl, ?hy39⟩) (by assumption) ?rest39
            case hy39 => (intro w hSw; (try dsimp only at hSw); (try simp only [List.getElem_toArray, List.getElem_cons_zero, List.getElem_cons_succ]); go_simp <;> with_reducible rfl)
            try simp only [List.getElem_toArray, List.getElem_cons_zero, List.getElem_cons_succ, Act.put, List.setIfInBounds_toArray, List.set_cons_zero, List.set_cons_succ]
            refine wpAnyH_take (i := 11) (v := ?vv40) rfl (by kernel_rfl) (by kernel_rfl) (by kernel_rfl) (fun _ _ _ h => h) (Or.inl ⟨by rfl, ?hy40⟩) (by assumption) ?rest40
            case hy40 => (intro w hSw; (try dsimp only at hSw); (try simp only [List.getElem_toArray, List.getElem_cons_zero, List.getElem_cons_succ]); go_simp <;> with_reducible rfl)
            try simp only [List.getElem_toArray, List.getElem_cons_zero, List.getElem_cons_succ, Act.put, List.setIfInBounds_toArray, List.set_cons_zero, List.set_cons_succ]
            refine wpAnyH_take (i := 12) (v := ?vv41) rfl (by kernel_rfl) (by kernel_rfl) (by kernel_rfl) (fun _ _ _ h => h) (Or.inl ⟨by rfl, ?hy41⟩) (by assumption) ?rest41
            case hy41 => (intro w hSw; (try dsimp only at hSw); (try simp only [List.getElem_toArray, List.getElem_cons_zero, List.getElem_cons_succ]); go_simp <;> with_reducible rfl)
            try simp only [List.getElem_toArray, List.getElem_cons_zero, List.getElem_cons_succ, Act.put, List.setIfInBounds_toArray, List.set_cons_zero, List.set_cons_succ]
            refine wpAnyH_take (i := 14) (v := ?vv42) rfl (by kernel_rfl) (by kernel_rfl) (by kernel_rfl) (fun _ _ _ h => h) (Or.inl ⟨by rfl, ?hy42⟩) (by assumption) ?rest42
            case hy42 => (intro w hSw; (try dsimp only at hSw); (try simp only [List.getElem_toArray, List.getElem_cons_zero, List.getElem_cons_succ]); go_simp <;> with_reducible rfl)
            try simp only [List.getElem_toArray, List.getElem_cons_zero, List.getElem_cons_succ, Act.put, List.setIfInBounds_toArray, List.set_cons_zero, List.set_cons_succ]
            refine wpAnyH_take (i := 15) (v := ?vv43) rfl (by kernel_rfl) (by kernel_rfl) (by kernel_rfl) (fun _ _ _ h => h) (Or.inl ⟨by rfl, ?hy43⟩) (by assumption) ?rest43
            case hy43 => (intro w hSw; (try dsimp only at hSw); (try simp only [List.getElem_toArray, List.getElem_cons_zero, List.getElem_cons_succ]); go_simp <;> with_reducible rfl)
            try simp only [List.getElem_toArray, List.getElem_cons_zero, List.getElem_cons_succ, Act.put, List.setIfInBounds_toArray, List.set_cons_zero, List.set_cons_succ]
            refine wpAnyH_ready (rs := [13]) (by kernel_rfl) (by simp) ?_
            refine AllReadyH.cons rfl (fun K hK => ?_) AllReadyH.nil
            go_simp
            refine (implAnonCost _ _ L x _ (hArg.below hb1).2.2.1 hn2 hArg.2.2.2.2).mono ?_
            rw [← HCX.out]
            rintro e v2 ⟨rfl, hq2⟩
            have hb2 : Below W.heap.size W v2 := hb1.trans (hq2.mono hb1.size)
            clear hq2
            dsimp only
            refine hK.out _ _ (HS.out _ hb2) (fun hHeld => ?_)
            clear hK K
            try simp only [List.getElem_toArray, List.getElem_cons_zero, List.getElem_cons_succ, Act.put, List.setIfInBounds_toArray, List.set_cons_zero, List.set_cons_succ]
            refine wpAnyH_ready (rs := [16]) (by kernel_rfl) (by simp) ?_
            refine AllReadyH.cons rfl (fun K hK => ?_) AllReadyH.nil
            go_simp
            refine (implAnonCost _ _ L b _ (hArg.below hb2).2.2.1 hn2 hArg.2.2.2.2).mono ?_
            rw [← HCB.out]
            rintro e v3 ⟨rfl, hq3⟩
            have hb3 : Below W.heap.size W v3 := hb2.trans (hq3.mono hb2.size)
            clear hq3
            dsimp only
            refine hK.out _ _ (HS.out _ hb3) (fun hHeld => ?_)
            clear hK K
            try simp only [List.getElem_toArray, List.getElem_cons_zero, List.getElem_cons_succ, Act.put, List.setIfInBounds_toArray, List.set_cons_zero, List.set_cons_succ]
            refine wpAnyH_take (i := 17) (v := ?vv44) rfl (by kernel_rfl) (by kernel_rfl) (by kernel_rfl) (fun _ _ _ h => h) (Or.inl ⟨by rfl, ?hy44⟩) (by assumption) ?rest44
            case hy44 => (intro w hSw; (try dsimp only at hSw); (try simp only [List.getElem_toArray, List.getElem_cons_zero, List.getElem_cons_succ]); go_simp <;> with_reducible rfl)
            try simp only [List.getElem_toArray, List.getElem_cons_zero, List.getElem_cons_succ, Act.put, List.setIfInBounds_toArray, List.set_cons_zero, List.set_cons_succ]
            refine wpAnyH_take (i := 18) (v := ?vv45) rfl (by kernel_rfl) (by kernel_rfl) (by kernel_rfl) (fun _ _ _ h => h) (Or.inl ⟨by rfl, ?hy45⟩) (by assumption) ?rest45
            case hy45 => (intro w hSw; (try dsimp only at hSw); (try simp only [List.getElem_toArray, List.getElem_cons_zero, List.getElem_cons_succ]); go_simp <;> with_reducible rfl)
            try simp only [List.getElem_toArray, List.getElem_cons_zero, List.getElem_cons_succ, Act.put, List.setIfInBounds_toArray, List.set_cons_zero, List.set_cons_succ]
            refine wpAnyH_take (i := 19) (v := ?vv46) rfl (by kernel_rfl) (by kernel_rfl) (by kernel_rfl) (fun _ _ _ h => h) (Or.inl ⟨by rfl, ?hy46⟩) (by assumption) ?rest46
            case hy46 => (intro w hSw; (try dsimp only at hSw); (try simp only [List.getElem_toArray, List.getElem_cons_zero, List.getElem_cons_succ]); go_simp <;> with_reducible rfl)
            try simp only [List.getElem_toArray, List.getElem_cons_zero, List.getElem_cons_succ, Act.put, List.setIfInBounds_toArray, List.set_cons_zero, List.set_cons_succ]
            refine wpAnyH_done (by kernel_rfl) ?_ _
            clear hHeld
            gi_wp2
            exact ⟨keeps_below hb3, hb3.mono hi.2.2.2.size, by show BI w w6.heap.size A A2 c c2 l L k d (bestL l L k d (pre ++ [x])) v3; rw [HST.out]; exact hi.below hb3⟩
      · have g1 : decide (D ≤ d) = false := decide_eq_false hle
        have HST := Lib.hid (hbn.trans (bstep_no (o := o) (x := x) (show ¬ aDrop l L x k ≤ d by rw [← hD]; exact hle)))
        clear hD hle hbn
        gi_wp2_with fail
        refine wpIn_region_heldR (S := fun w' => w'.cell? ⟨w.heap.size, 0, none⟩ = some (.slice A l.length c) ∧ w'.cell? ⟨w.heap.size + 1, 0, none⟩ = some (.slice A2 L.length c2) ∧ w'.cell? ⟨w.heap.size + 1 + 1, 0, none⟩ = some (.int .i64 k) ∧ w'.cell? ⟨w.heap.size + 1 + 1 + 1, 0, none⟩ = some (.int .i64 d) ∧ w'.cell? ⟨Bx, 0, none⟩ = some (.int .i64 x.a) ∧ w'.cell? ⟨Bx, 1, none⟩ = some (.int .i64 x.j) ∧ w'.cell? ⟨Bx, 2, none⟩ = some (.int .i64 x.s) ∧ w'.cell? ⟨w6.heap.size, 0, none⟩ = some (.int .i64 (rcOr o).a) ∧ w'.cell? ⟨w6.heap.size, 1, none⟩ = some (.int .i64 (rcOr o).j) ∧ w'.cell? ⟨w6.heap.size, 2, none⟩ = some (.int .i64 (rcOr o).s) ∧ w'.cell? ⟨w6.heap.size + 1, 0, none⟩ = some (.bool o.isSome)) (by kernel_rfl) (noDef_spec (by kernel_rfl)) (fun ⟨_, _, h⟩ => h) (HS.out _ (Below.refl _ _).drew) (fun hHeld => ?_)
        refine wpAnyH_take (i := 0) (v := ?vv47) rfl (by kernel_rfl) (by kernel_rfl) (by kernel_rfl) (fun _ _ _ h => h) (Or.inl ⟨by rfl, ?hy47⟩) (by assumption) ?rest47
        case hy47 => (intro w hSw; (try dsimp only at hSw); (try simp only [List.getElem_toArray, List.getElem_cons_zero, List.getElem_cons_succ]); go_simp <;> with_reducible rfl)
        try simp only [List.getElem_toArray, List.getElem_cons_zero, List.getElem_cons_succ, Act.put, List.setIfInBounds_toArray, List.set_cons_zero, List.set_cons_succ]
        refine wpAnyH_take (i := 1) (v := ?vv48) rfl (by kernel_rfl) (by kernel_rfl) (by kernel_rfl) (fun _ _ _ h => h) (Or.inl ⟨by rfl, ?hy48⟩) (by assumption) ?rest48
        case hy48 => (intro w hSw; (try dsimp only at hSw); (try simp only [List.getElem_toArray, List.getElem_cons_zero, List.getElem_cons_succ]); go_simp <;> with_reducible rfl)
        try simp only [List.getElem_toArray, List.getElem_cons_zero, List.getElem_cons_succ, Act.put, List.setIfInBounds_toArray, List.set_cons_zero, List.set_cons_succ]
        refine wpAnyH_take (i := 2) (v := ?vv49) rfl (by kernel_rfl) (by kernel_rfl) (by kernel_rfl) (fun _ _ _ h => h) (Or.inl ⟨by rfl, ?hy49⟩) (by assumption) ?rest49
        case hy49 => (intro w hSw; (try dsimp only at hSw); (try simp only [List.getElem_toArray, List.getElem_cons_zero, List.getElem_cons_succ]); go_simp <;> with_reducible rfl)
        try simp only [List.getElem_toArray, List.getElem_cons_zero, List.getElem_cons_succ, Act.put, List.setIfInBounds_toArray, List.set_cons_zero, List.set_cons_succ]
        refine wpAnyH_take (i := 3) (v := ?vv50) rfl (by kernel_rfl) (by kernel_rfl) (by kernel_rfl) (fun _ _ _ h => h) (Or.inl ⟨by rfl, ?hy50⟩) (by assumption) ?rest50
        case hy50 => (intro w hSw; (try dsimp only at hSw); (try simp only [List.getElem_toArray, List.getElem_cons_zero, List.getElem_cons_succ]); go_simp <;> with_reducible rfl)
        try simp only [List.getElem_toArray, List.getElem_cons_zero, List.getElem_cons_succ, Act.put, List.setIfInBounds_toArray, List.set_cons_zero, List.set_cons_succ]
        refine wpAnyH_take (i := 5) (v := ?vv51) rfl (by kernel_rfl) (by kernel_rfl) (by kernel_rfl) (fun _ _ _ h => h) (Or.inl ⟨by rfl, ?hy51⟩) (by assumption) ?rest51
        case hy51 => (intro w hSw; (try dsimp only at hSw); (try simp only [List.getElem_toArray, List.getElem_cons_zero, List.getElem_cons_succ]); go_simp <;> with_reducible rfl)
        try simp only [List.getElem_toArray, List.getElem_cons_zero, List.getElem_cons_succ, Act.put, List.setIfInBounds_toArray, List.set_cons_zero, List.set_cons_succ]
        refine wpAnyH_ready (rs := [4]) (by kernel_rfl) (by simp) ?_
        refine AllReadyH.cons rfl (fun K hK => ?_) AllReadyH.nil
        go_simp
        refine (implAnonDrop A A2 c c2 l L x k _ (hArg.below (Below.refl _ _).drew)).mono ?_
        rw [← HD.out]
        rintro e v1 ⟨rfl, hq1⟩
        have hb1 : Below W.heap.size W v1 := (Below.refl _ _).drew.trans hq1
        clear hq1
        dsimp only
        refine hK.out _ _ (HS.out _ hb1) (fun hHeld => ?_)
        clear hK K
        try simp only [List.getElem_toArray, List.getElem_cons_zero, List.getElem_cons_succ, Act.put, List.setIfInBounds_toArray, List.set_cons_zero, List.set_cons_succ]
        refine wpAnyH_take (i := 6) (v := ?vv52) rfl (by kernel_rfl) (by kernel_rfl) (by kernel_rfl) (fun _ _ _ h => h) (Or.inl ⟨by rfl, ?hy52⟩) (by assumption) ?rest52
        case hy52 => (intro w hSw; (try dsimp only at hSw); (try simp only [List.getElem_toArray, List.getElem_cons_zero, List.getElem_cons_succ]); go_simp <;> with_reducible rfl)
        try simp only [List.getElem_toArray, List.getElem_cons_zero, List.getElem_cons_succ, Act.put, List.setIfInBounds_toArray, List.set_cons_zero, List.set_cons_succ]
        refine wpAnyH_take (i := 7) (v := ?vv53) rfl (by kernel_rfl) (by kernel_rfl) (by kernel_rfl) (fun _ _ _ h => h) (Or.inl ⟨by rfl, ?hy53⟩) (by assumption) ?rest53
        case hy53 => (intro w hSw; (try dsimp only at hSw); (try simp only [List.getElem_toArray, List.getElem_cons_zero, List.getElem_cons_succ]); go_simp <;> with_reducible rfl)
        try simp only [List.getElem_toArray, List.getElem_cons_zero, List.getElem_cons_succ, Act.put, List.setIfInBounds_toArray, List.set_cons_zero, List.set_cons_succ]
        refine wpAnyH_take (i := 8) (v := undef) rfl (by kernel_rfl) (by kernel_rfl) (by kernel_rfl) (fun _ _ _ h => h) (Or.inr ⟨by rfl, rfl⟩) (by assumption) ?_
        try simp only [List.getElem_toArray, List.getElem_cons_zero, List.getElem_cons_succ, Act.put, List.setIfInBounds_toArray, List.set_cons_zero, List.set_cons_succ]
        refine wpAnyH_take (i := 9) (v := undef) rfl (by kernel_rfl) (by kernel_rfl) (by kernel_rfl) (fun _ _ _ h => h) (Or.inr ⟨by rfl, rfl⟩) (by assumption) ?_
        try simp only [List.getElem_toArray, List.getElem_cons_zero, List.getElem_cons_succ, Act.put, List.setIfInBounds_toArray, List.set_cons_zero, List.set_cons_succ]
        refine wpAnyH_take (i := 10) (v := undef) rfl (by kernel_rfl) (by kernel_rfl) (by kernel_rfl) (fun _ _ _ h => h) (Or.inr ⟨by rfl, rfl⟩) (by assumption) ?_
        try simp only [List.getElem_toArray, List.getElem_cons_zero, List.getElem_cons_succ, Act.put, List.setIfInBounds_toArray, List.set_cons_zero, List.set_cons_succ]
        refine wpAnyH_take (i := 11) (v := undef) rfl (by kernel_rfl) (by kernel_rfl) (by kernel_rfl) (fun _ _ _ h => h) (Or.inr ⟨by rfl, rfl⟩) (by assumption) ?_
        try simp only [List.getElem_toArray, List.getElem_cons_zero, List.getElem_cons_succ, Act.put, List.setIfInBounds_toArray, List.set_cons_zero, List.set_cons_succ]
        refine wpAnyH_take (i := 12) (v := undef) rfl (by kernel_rfl) (by kernel_rfl) (by kernel_rfl) (fun _ _ _ h => h) (Or.inr ⟨by rfl, rfl⟩) (by assumption) ?_
        try simp only [List.getElem_toArray, List.getElem_cons_zero, List.getElem_cons_succ, Act.put, List.setIfInBounds_toArray, List.set_cons_zero, List.set_cons_succ]
        refine wpAnyH_take (i := 13) (v := undef) rfl (by kernel_rfl) (by kernel_rfl) (by kernel_rfl) (fun _ _ _ h => h) (Or.inr ⟨by rfl, rfl⟩) (by assumption) ?_
        try simp only [List.getElem_toArray, List.getElem_cons_zero, List.getElem_cons_succ, Act.put, List.setIfInBounds_toArray, List.set_cons_zero, List.set_cons_succ]
        refine wpAnyH_take (i := 14) (v := undef) rfl (by kernel_rfl) (by kernel_rfl) (by kernel_rfl) (fun _ _ _ h => h) (Or.inr ⟨by rfl, rfl⟩) (by assumption) ?_
        try simp only [List.getElem_toArray, List.getElem_cons_zero, List.getElem_cons_succ, Act.put, List.setIfInBounds_toArray, List.set_cons_zero, List.set_cons_succ]
        refine wpAnyH_take (i := 15) (v := undef) rfl (by kernel_rfl) (by kernel_rfl) (by kernel_rfl) (fun _ _ _ h => h) (Or.inr ⟨by rfl, rfl⟩) (by assumption) ?_
        try simp only [List.getElem_toArray, List.getElem_cons_zero, List.getElem_cons_succ, Act.put, List.setIfInBounds_toArray, List.set_cons_zero, List.set_cons_succ]
        refine wpAnyH_take (i := 16) (v := undef) rfl (by kernel_rfl) (by kernel_rfl) (by kernel_rfl) (fun _ _ _ h => h) (Or.inr ⟨by rfl, rfl⟩) (by assumption) ?_
        try simp only [List.getElem_toArray, List.getElem_cons_zero, List.getElem_cons_succ, Act.put, List.setIfInBounds_toArray, List.set_cons_zero, List.set_cons_succ]
        refine wpAnyH_take (i := 17) (v := undef) rfl (by kernel_rfl) (by kernel_rfl) (by kernel_rfl) (fun _ _ _ h => h) (Or.inr ⟨by rfl, rfl⟩) (by assumption) ?_
        try simp only [List.getElem_toArray, List.getElem_cons_zero, List.getElem_cons_succ, Act.put, List.setIfInBounds_toArray, List.set_cons_zero, List.set_cons_succ]
        refine wpAnyH_take (i := 18) (v := undef) rfl (by kernel_rfl) (by kernel_rfl) (by kernel_rfl) (fun _ _ _ h => h) (Or.inr ⟨by rfl, rfl⟩) (by assumption) ?_
        try simp only [List.getElem_toArray, List.getElem_cons_zero, List.getElem_cons_succ, Act.put, List.setIfInBounds_toArray, List.set_cons_zero, List.set_cons_succ]
        refine wpAnyH_take (i := 19) (v := ?vv54) rfl (by kernel_rfl) (by kernel_rfl) (by kernel_rfl) (fun _ _ _ h => h) (Or.inl ⟨by rfl, ?hy54⟩) (by assumption) ?rest54
        case hy54 => (intro w hSw; (try dsimp only at hSw); (try simp only [List.getElem_toArray, List.getElem_cons_zero, List.getElem_cons_succ]); go_simp <;> with_reducible rfl)
        try simp only [List.getElem_toArray, List.getElem_cons_zero, List.getElem_cons_succ, Act.put, List.setIfInBounds_toArray, List.set_cons_zero, List.set_cons_succ]
        refine wpAnyH_done (by kernel_rfl) ?_ _
        clear hHeld
        gi_wp2
        exact ⟨keeps_below hb1, hb1.mono hi.2.2.2.size, by show BI w w6.heap.size A A2 c c2 l L k d (bestL l L k d (pre ++ [x])) v1; rw [HST.out]; exact hi.below hb1⟩
    case done =>
      rintro Df ys W hDf rfl hi hK
      have HV : Hid (aBest l L k d = bestL l L k d (cands (4 * (L.length + 1)))) := Lib.hid (by rw [bestL_cands]; exact if_pos HOK.out)
      generalize bestL l L k d (cands (4 * (L.length + 1))) = o at *
      obtain ⟨⟨h0, h1, h2, h3, h4⟩, h5, h6, h7⟩ := hi
      have b0 := h5.cell 0
      have b1 := h5.cell 1
      have b2 := h5.cell 2
      have m0 := h6.cell 0
      have z0 := h4.cell 0
      have z1 := h4.cell 1
      have z2 := h4.cell 2
      have f0 := h4.frozen 0
      have f1 := h4.frozen 1
      have f2 := h4.frozen 2
      simp only [List.getElem?_cons_zero, List.getElem?_cons_succ] at b0 b1 b2 m0 z0 z1 z2
      gi_wp2_with fail
      refine wpIn_wide.2 ?_
      go_region
      gi_wp2
      have r0 := ((((h4.set 0 (.int .i64 (rcOr o).a)).set 1 (.int .i64 (rcOr o).j)).set 2 (.int .i64 (rcOr o).s)).below (Below.refl _ _).drew (by simpa using h4.lt))
      have hK' : ((((W.setCell ⟨w.heap.size + 1 + 1 + 1 + 1, 0, none⟩ (.int .i64 (rcOr o).a)).setCell ⟨w.heap.size + 1 + 1 + 1 + 1, 1, none⟩ (.int .i64 (rcOr o).j)).setCell ⟨w.heap.size + 1 + 1 + 1 + 1, 2, none⟩ (.int .i64 (rcOr o).s)).drew).heap[Df]? = some (.deferred (some [])) :=
        ((((KeepsOthers.setCell W _ _).trans (KeepsOthers.setCell _ _ _)).trans (KeepsOthers.setCell _ _ _)).trans (KeepsOthers.drew _)).same Df _ hK rfl
      have hbX : Below w.heap.size w ((((W.setCell ⟨w.heap.size + 1 + 1 + 1 + 1, 0, none⟩ (.int .i64 (rcOr o).a)).setCell ⟨w.heap.size + 1 + 1 + 1 + 1, 1, none⟩ (.int .i64 (rcOr o).j)).setCell ⟨w.heap.size + 1 + 1 + 1 + 1, 2, none⟩ (.int .i64 (rcOr o).s)).drew) :=
        (((h7.setCell (p := ⟨w.heap.size + 1 + 1 + 1 + 1, 0, none⟩) (by show w.heap.size ≤ w.heap.size + 1 + 1 + 1 + 1; omega) _).setCell (p := ⟨w.heap.size + 1 + 1 + 1 + 1, 1, none⟩) (by show w.heap.size ≤ w.heap.size + 1 + 1 + 1 + 1; omega) _).setCell (p := ⟨w.heap.size + 1 + 1 + 1 + 1, 2, none⟩) (by show w.heap.size ≤ w.heap.size + 1 + 1 + 1 + 1; omega) _).drew
      refine ⟨by simp, .inl ⟨_, _, rfl, run_takeDeferred hK', ?_⟩⟩
      have r1 := blk_turn r0 (grownBy_putObj' _ Df (.deferred none)) (fun r e => by cases e; exact ⟨_, hK', rfl⟩)
      have y0 := r1.cell 0
      have y1 := r1.cell 1
      have y2 := r1.cell 2
      simp only [List.set_cons_zero, List.set_cons_succ, List.getElem?_cons_zero, List.getElem?_cons_succ] at y0 y1 y2
      refine ⟨bestV o, ?_, by rw [HV.out], hbX.trans (belowK_b (w := w) (Nat.le_refl _) _ Df _ _ (by have := hbw6.size; omega) hK' rfl rfl)⟩
      clear hDf hbX r0 r1 hK' h0 h1 h2 h3 h4 h5 h6 h7
      generalize hX : World.putObj _ Df (.deferred none) = X at y0 y1 y2 ⊢
      clear hX
      cases o
      · simp [results, Try.func30, go_sem, y0, y1, y2, bestV, rcOr, zeroR]
        done
      · simp [results, Try.func30, go_sem, y0, y1, y2, bestV, rcOr, zeroR]
        done
    case stop =>
      rintro Df c9 pre W _ _ h _
      exact h.elim
  · have HB := Lib.hid (show aBest l L k d = none from if_neg hok)
    gi_wp2_with fail
    refine ⟨trivial, (callsIn_wide.2 (implPeopleValid A c l _ (H.out.below hb5).1 hn)).mono ?_⟩
    generalize ((((w.alloc (.cells #[.slice A l.length c] 40)).alloc (.cells #[.slice A2 L.length c2] 22)).alloc (.cells #[.int .i64 k] 3)).alloc (.cells #[.int .i64 d] 3)).alloc (.cells #[.int .i64 0, .int .i64 0, .int .i64 0] 44) = w5 at *
    rintro e w6 ⟨hrb, hb6⟩
    have hs6 := hb6.size
    have q0 := g0.below hb6 g0.lt
    have q1 := g1.below hb6 g1.lt
    have q2 := g2.below hb6 g2.lt
    have q3 := g3.below hb6 g3.lt
    have q4 := g4.below hb6 g4.lt
    have hbw6 := hb5.trans (hb6.mono hb5.size)
    have hA6 := Lib.hid (H.out.below hbw6)
    have c0 := q0.cell 0
    have c1 := q1.cell 0
    have c2' := q2.cell 0
    have c3 := q3.cell 0
    have z0 := q4.cell 0
    have z1 := q4.cell 1
    have z2 := q4.cell 2
    have f0 := q4.frozen 0
    have f1 := q4.frozen 1
    have f2 := q4.frozen 2
    have HQ := Lib.hid q4
    simp only [List.getElem?_cons_zero, List.getElem?_cons_succ] at c0 c1 c2' c3 z0 z1 z2
    clear hb6 hb5 g0 g1 g2 g3 g4 q0 q1 q2 q3 q4
    by_cases hgl : goodL l
    · obtain rfl := hrb.isTrue hgl
      gi_wp2_with fail
      refine ⟨trivial, (callsIn_wide.2 (implLadderValid A2 c2 L w6 hA6.out.2.2.1 hn2)).mono ?_⟩
      rintro e w' ⟨hrb2, rfl⟩
      by_cases hgL : goodLad L
      · obtain rfl := hrb2.isTrue hgL
        gi_wp2_with fail
        refine ⟨trivial, (callsIn_wide.2 (implIsPNb k w6)).mono ?_⟩
        rintro e w' ⟨rfl, rfl⟩
        by_cases hk : 1 ≤ k ∧ k ≤ 40
        · rw [inB_yes hk.1 hk.2]
          have hdB : decide (d < 0) = true := decide_eq_true (by
            rcases Int.lt_or_le d 0 with h1 | h1
            · exact h1
            · exact absurd ⟨hgl, hgL, hk, h1⟩ hok)
          clear hrb hrb2 hok
          gi_wp2
          have r0 := (((HQ.out.set 0 (.int .i64 0)).set 1 (.int .i64 0)).set 2 (.int .i64 0))
          have y0 := r0.cell 0
          have y1 := r0.cell 1
          have y2 := r0.cell 2
          simp only [List.set_cons_zero, List.set_cons_succ, List.getElem?_cons_zero, List.getElem?_cons_succ] at y0 y1 y2
          have hbX : Below w.heap.size w (((w6.setCell ⟨w.heap.size + 1 + 1 + 1 + 1, 0, none⟩ (.int .i64 0)).setCell ⟨w.heap.size + 1 + 1 + 1 + 1, 1, none⟩ (.int .i64 0)).setCell ⟨w.heap.size + 1 + 1 + 1 + 1, 2, none⟩ (.int .i64 0)) :=
            (((hbw6.setCell (p := ⟨w.heap.size + 1 + 1 + 1 + 1, 0, none⟩) (by show w.heap.size ≤ w.heap.size + 1 + 1 + 1 + 1; omega) _).setCell (p := ⟨w.heap.size + 1 + 1 + 1 + 1, 1, none⟩) (by show w.heap.size ≤ w.heap.size + 1 + 1 + 1 + 1; omega) _).setCell (p := ⟨w.heap.size + 1 + 1 + 1 + 1, 2, none⟩) (by show w.heap.size ≤ w.heap.size + 1 + 1 + 1 + 1; omega) _)
          refine ⟨bestV none, ?_, by rw [HB.out], hbX⟩
          clear hbX r0 HQ hbw6 H hA6 z0 z1 z2 f0 f1 f2
          generalize hX : World.setCell _ ⟨w.heap.size + 1 + 1 + 1 + 1, 2, none⟩ _ = X at y0 y1 y2 ⊢
          clear hX
          simp [results, Try.func30, go_sem, y0, y1, y2, bestV, rcOr, zeroR]
        · rw [inB_no (by omega)]
          clear hrb hrb2 hok
          gi_wp2
          have r0 := (((HQ.out.set 0 (.int .i64 0)).set 1 (.int .i64 0)).set 2 (.int .i64 0))
          have y0 := r0.cell 0
          have y1 := r0.cell 1
          have y2 := r0.cell 2
          simp only [List.set_cons_zero, List.set_cons_succ, List.getElem?_cons_zero, List.getElem?_cons_succ] at y0 y1 y2
          have hbX : Below w.heap.size w (((w6.setCell ⟨w.heap.size + 1 + 1 + 1 + 1, 0, none⟩ (.int .i64 0)).setCell ⟨w.heap.size + 1 + 1 + 1 + 1, 1, none⟩ (.int .i64 0)).setCell ⟨w.heap.size + 1 + 1 + 1 + 1, 2, none⟩ (.int .i64 0)) :=
            (((hbw6.setCell (p := ⟨w.heap.size + 1 + 1 + 1 + 1, 0, none⟩) (by show w.heap.size ≤ w.heap.size + 1 + 1 + 1 + 1; omega) _).setCell (p := ⟨w.heap.size + 1 + 1 + 1 + 1, 1, none⟩) (by show w.heap.size ≤ w.heap.size + 1 + 1 + 1 + 1; omega) _).setCell (p := ⟨w.heap.size + 1 + 1 + 1 + 1, 2, none⟩) (by show w.heap.size ≤ w.heap.size + 1 + 1 + 1 + 1; omega) _)
          refine ⟨bestV none, ?_, by rw [HB.out], hbX⟩
          clear hbX r0 HQ hbw6 H hA6 z0 z1 z2 f0 f1 f2
          generalize hX : World.setCell _ ⟨w.heap.size + 1 + 1 + 1 + 1, 2, none⟩ _ = X at y0 y1 y2 ⊢
          clear hX
          simp [results, Try.func30, go_sem, y0, y1, y2, bestV, rcOr, zeroR]
      · obtain rfl := hrb2.isFalse hgL
        clear hrb hrb2 hok
        gi_wp2
        refine ⟨trivial, ?_⟩
        gi_wp2
        have r0 := (((HQ.out.set 0 (.int .i64 0)).set 1 (.int .i64 0)).set 2 (.int .i64 0))
        have y0 := r0.cell 0
        have y1 := r0.cell 1
        have y2 := r0.cell 2
        simp only [List.set_cons_zero, List.set_cons_succ, List.getElem?_cons_zero, List.getElem?_cons_succ] at y0 y1 y2
        have hbX : Below w.heap.size w (((w6.setCell ⟨w.heap.size + 1 + 1 + 1 + 1, 0, none⟩ (.int .i64 0)).setCell ⟨w.heap.size + 1 + 1 + 1 + 1, 1, none⟩ (.int .i64 0)).setCell ⟨w.heap.size + 1 + 1 + 1 + 1, 2, none⟩ (.int .i64 0)) :=
          (((hbw6.setCell (p := ⟨w.heap.size + 1 + 1 + 1 + 1, 0, none⟩) (by show w.heap.size ≤ w.heap.size + 1 + 1 + 1 + 1; omega) _).setCell (p := ⟨w.heap.size + 1 + 1 + 1 + 1, 1, none⟩) (by show w.heap.size ≤ w.heap.size + 1 + 1 + 1 + 1; omega) _).setCell (p := ⟨w.heap.size + 1 + 1 + 1 + 1, 2, none⟩) (by show w.heap.size ≤ w.heap.size + 1 + 1 + 1 + 1; omega) _)
        refine ⟨bestV none, ?_, by rw [HB.out], hbX⟩
        clear hbX r0 HQ hbw6 H hA6 z0 z1 z2 f0 f1 f2
        generalize hX : World.setCell _ ⟨w.heap.size + 1 + 1 + 1 + 1, 2, none⟩ _ = X at y0 y1 y2 ⊢
        clear hX
        simp [results, Try.func30, go_sem, y0, y1, y2, bestV, rcOr, zeroR]
    · obtain rfl := hrb.isFalse hgl
      clear hrb hok
      gi_wp2
      refine ⟨trivial, ?_⟩
      gi_wp2
      refine ⟨trivial, ?_⟩
      gi_wp2
      have r0 := (((HQ.out.set 0 (.int .i64 0)).set 1 (.int .i64 0)).set 2 (.int .i64 0))
      have y0 := r0.cell 0
      have y1 := r0.cell 1
      have y2 := r0.cell 2
      simp only [List.set_cons_zero, List.set_cons_succ, List.getElem?_cons_zero, List.getElem?_cons_succ] at y0 y1 y2
      have hbX : Below w.heap.size w (((w6.setCell ⟨w.heap.size + 1 + 1 + 1 + 1, 0, none⟩ (.int .i64 0)).setCell ⟨w.heap.size + 1 + 1 + 1 + 1, 1, none⟩ (.int .i64 0)).setCell ⟨w.heap.size + 1 + 1 + 1 + 1, 2, none⟩ (.int .i64 0)) :=
        (((hbw6.setCell (p := ⟨w.heap.size + 1 + 1 + 1 + 1, 0, none⟩) (by show w.heap.size ≤ w.heap.size + 1 + 1 + 1 + 1; omega) _).setCell (p := ⟨w.heap.size + 1 + 1 + 1 + 1, 1, none⟩) (by show w.heap.size ≤ w.heap.size + 1 + 1 + 1 + 1; omega) _).setCell (p := ⟨w.heap.size + 1 + 1 + 1 + 1, 2, none⟩) (by show w.heap.size ≤ w.heap.size + 1 + 1 + 1 + 1; omega) _)
      refine ⟨bestV none, ?_, by rw [HB.out], hbX⟩
      clear hbX r0 HQ hbw6 H hA6 z0 z1 z2 f0 f1 f2
      generalize hX : World.setCell _ ⟨w.heap.size + 1 + 1 + 1 + 1, 2, none⟩ _ = X at y0 y1 y2 ⊢
      clear hX
      simp [results, Try.func30, go_sem, y0, y1, y2, bestV, rcOr, zeroR]
end Go.Proofs.Ytfpddhehdfckjaa
