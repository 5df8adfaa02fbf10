/- The specification's AnonBest. -/
import Derived.Test.YtfpddhehdfckjaaBest
namespace Go.Proofs.Ytfpddhehdfckjaa
open Go.RowKit Go.Shelf
set_option linter.unusedSimpArgs false
attribute [local go_sem ↓] Go.wp_at_zero Go.wp_at_succ

def bIn (l : List Pn) (L : List (List Int)) (k : Int) : Prop := goodL l ∧ goodLad L ∧ 1 ≤ k ∧ k ≤ 40
theorem bIn_drop {l : List Pn} {L : List (List Int)} {k : Int} (h : bIn l L k) {n : Nat} (hn : n < 4 * (L.length + 1)) : 0 ≤ aDrop l L (cand n) k := by
  unfold aDrop
  rw [if_pos ⟨⟨h.1, cand_good h.2.1 hn⟩, h.2.2⟩]
  omega
theorem bIn_not {l : List Pn} {L : List (List Int)} {k d : Int} (h : ¬ bIn l L k) : aDrop l L (cand 0) k = -1 ∧ aBest l L k d = none :=
  ⟨if_neg (fun h2 => h ⟨h2.1.1, h2.1.2.1, h2.2⟩), if_neg (fun h2 => h ⟨h2.1, h2.2.1, h2.2.2.1⟩)⟩
theorem bestTo_neg {l : List Pn} {L : List (List Int)} {k d : Int} (h : bIn l L k) (hd : d < 0) (n : Nat) (hn : n ≤ 4 * (L.length + 1)) : bestTo l L k d n = none := by
  induction n with
  | zero => rfl
  | succ n ih =>
    rw [bestTo, ih (by omega)]
    exact if_neg (by have := bIn_drop h (n := n) (by omega); omega)
theorem aBest_cands {l : List Pn} {L : List (List Int)} {k d : Int} (h : bIn l L k) : aBest l L k d = bestL l L k d (cands (4 * (L.length + 1))) := by
  rw [bestL_cands]
  unfold aBest
  by_cases hd : 0 ≤ d
  · exact if_pos ⟨h.1, h.2.1, h.2.2, hd⟩
  · rw [if_neg (fun h2 => hd h2.2.2.2), bestTo_neg h (by omega) _ (Nat.le_refl _)]
/-- What lies in memory between two rounds. -/
def BS (w : World) (o : Option Rc) (W : World) : Prop := Blk W w.heap.size 44 [.int .i64 0, .int .i64 0, .int .i64 0] ∧
  Blk W (w.heap.size + 1) 44 [.int .i64 (rcOr o).a, .int .i64 (rcOr o).j, .int .i64 (rcOr o).s] ∧ Below w.heap.size w W
theorem BS.below {w W W' : World} {o : Option Rc} (h : BS w o W) (hb : Below W.heap.size W W') : BS w o W' := by
  obtain ⟨h0, h1, h2⟩ := h
  exact ⟨h0.below hb h0.lt, h1.below hb h1.lt, h2.trans (hb.mono h2.size)⟩
theorem BS.put {w W : World} {o o' : Option Rc} {x : Rc} (h : BS w o W) (ho : o' = some x) : BS w o' (((W.setCell ⟨w.heap.size + 1, 0, none⟩ (.int .i64 x.a)).setCell ⟨w.heap.size + 1, 1, none⟩ (.int .i64 x.j)).setCell ⟨w.heap.size + 1, 2, none⟩ (.int .i64 x.s)) := by
  subst ho
  obtain ⟨h0, h1, h2⟩ := h
  have hne : w.heap.size ≠ w.heap.size + 1 := by omega
  exact ⟨((h0.far (p := ⟨w.heap.size + 1, 0, none⟩) hne _).far (p := ⟨w.heap.size + 1, 1, none⟩) hne _).far (p := ⟨w.heap.size + 1, 2, none⟩) hne _, ((h1.set 0 _).set 1 _).set 2 _,
    ((h2.setCell (p := ⟨w.heap.size + 1, 0, none⟩) (Nat.le_succ _) _).setCell (p := ⟨w.heap.size + 1, 1, none⟩) (Nat.le_succ _) _).setCell (p := ⟨w.heap.size + 1, 2, none⟩) (Nat.le_succ _) _⟩

set_option maxRecDepth 100000 in
set_option maxHeartbeats 8000000 in
theorem specAnonBest (A A2 : Option Addr) (c c2 : Nat) (l : List Pn) (L : List (List Int)) (k d : Int) (w : World) (h : Arg w A l A2 L) :
    Calls Try.prog 31 #[.slice A l.length c, .slice A2 L.length c2, .int .i64 k, .int .i64 d] w fun e w' => e = .returned (bestV (aBest l L k d)) ∧ Below w.heap.size w w' := by
  have hn : l.length ≤ 2000000 := h.2.1
  have hn2 : L.length ≤ 2000000 := h.2.2.2.1
  have H := Lib.hid h
  clear h
  have h00 : BS w none ((w.alloc (.cells #[.int .i64 0, .int .i64 0, .int .i64 0] 44)).alloc (.cells #[.int .i64 0, .int .i64 0, .int .i64 0] 44)) := by
    have q0 := (Blk.new w 44 #[.int .i64 0, .int .i64 0, .int .i64 0]).alloc (.cells #[.int .i64 0, .int .i64 0, .int .i64 0] 44)
    have q1 := Blk.new (w.alloc (.cells #[.int .i64 0, .int .i64 0, .int .i64 0] 44)) 44 #[.int .i64 0, .int .i64 0, .int .i64 0]
    rw [World.size_alloc] at q1
    exact ⟨q0, q1, (((Below.refl _ _).alloc (Nat.le_refl _) _).alloc (by simp <;> omega) _)⟩
  have H00 := Lib.hid h00
  clear h00
  by_cases hin : bIn l L k
  · have HIN := Lib.hid hin
    have HV := Lib.hid (aBest_cands (d := d) hin)
    clear hin
    go_enter Try.func31, Try.ntmps31
    go_wp2
    go_loopw [11, 12] (fun f t wr => ∃ (i : Nat) (o : Option Rc), i ≤ L.length + 1 ∧ t = .int .i64 i ∧ Hid (o = bestL l L k d (cands (4 * i))) ∧ f = .bool o.isSome ∧ BS w o wr) (fun _ t _ => L.length + 1 - (intOf t).toNat)
    case atStart => exact ⟨0, none, by omega, rfl, Lib.hid rfl, rfl, H00.out⟩
    case round =>
      obtain ⟨i, o, hi, rfl, HO, rfl, hB⟩ := hrel
      have HB := Lib.hid hB
      clear hB
      by_cases hlt : i ≤ L.length
      · go_wp2
        go_loopw [11, 13] (fun f t wr => ∃ (j : Nat) (o : Option Rc), j ≤ 4 ∧ t = .int .i64 j ∧ Hid (o = bestL l L k d (cands (4 * i + j))) ∧ f = .bool o.isSome ∧ BS w o wr) (fun _ t _ => 4 - (intOf t).toNat)
        case atStart => exact ⟨0, o, by omega, rfl, HO, rfl, HB.out⟩
        case round =>
          obtain ⟨j, o, hj, rfl, HO, rfl, hB⟩ := hrel
          have HB := Lib.hid hB
          by_cases hlt2 : j < 4
          · have HC := Lib.hid (cand_at i j hlt2)
            have HN := Lib.hid ((cands_next (4 * i + j)).trans (congrArg (fun y => cands (4 * i + j) ++ [y]) (cand_at i j hlt2)))
            have hb1 : Below wr.heap.size wr (wr.alloc (.cells #[.int .i64 i, .int .i64 ((j : Int) / 2), .int .i64 ((j : Int) % 2)] 44)) := ((Below.refl _ _).alloc (Nat.le_refl _) _)
            have q0 := Blk.new wr 44 #[.int .i64 i, .int .i64 ((j : Int) / 2), .int .i64 ((j : Int) % 2)]
            have HQ := Lib.hid q0
            have x0 := q0.cell 0
            have x1 := q0.cell 1
            have x2 := q0.cell 2
            simp only [List.getElem?_cons_zero, List.getElem?_cons_succ] at x0 x1 x2
            have hH1 := H.out.below (hB.below hb1).2.2
            clear hB q0
            go_wp2_with fail
            obtain ⟨D, hD⟩ : ∃ D, D = aDrop l L ⟨(i : Int), (j : Int) / 2, (j : Int) % 2⟩ k := ⟨_, rfl⟩
            have hD0 : 0 ≤ D := by rw [hD, ← HC.out]; exact bIn_drop HIN.out (by omega)
            have hbn := (congrArg (bestL l L k d) HN.out).trans (bestL_next l L k d _ ⟨(i : Int), (j : Int) / 2, (j : Int) % 2⟩)
            rw [← HO.out] at hbn
            refine (specAnonDrop A A2 c c2 l L ⟨(i : Int), (j : Int) / 2, (j : Int) % 2⟩ k _ hH1).mono ?_
            rw [← hD]
            rintro e v1 ⟨rfl, hq⟩
            have hlt0 : decide (D < 0) = false := decide_eq_false (by omega)
            have hB1 := (HB.out.below hb1).below hq
            have bX1 := HQ.out.below hq HQ.out.lt
            have HS : Hid (∀ V : World, Below v1.heap.size v1 V → (V.cell? ⟨wr.heap.size, 0, none⟩ = some (.int .i64 i) ∧ V.cell? ⟨wr.heap.size, 1, none⟩ = some (.int .i64 ((j : Int) / 2)) ∧ V.cell? ⟨wr.heap.size, 2, none⟩ = some (.int .i64 ((j : Int) % 2)) ∧ V.cell? ⟨w.heap.size + 1, 0, none⟩ = some (.int .i64 (rcOr o).a) ∧ V.cell? ⟨w.heap.size + 1, 1, none⟩ = some (.int .i64 (rcOr o).j) ∧ V.cell? ⟨w.heap.size + 1, 2, none⟩ = some (.int .i64 (rcOr o).s))) := fun V hV => by
              have hBV := hB1.below hV
              have hXV := bX1.below hV bX1.lt
              exact ⟨hXV.cell 0, hXV.cell 1, hXV.cell 2, hBV.2.1.cell 0, hBV.2.1.cell 1, hBV.2.1.cell 2⟩
            clear hq x0 x1 x2 hb1 hH1
            by_cases hle : D ≤ d
            · have g1 : decide (D ≤ d) = true := decide_eq_true hle
              cases o with
              | none =>
                have HST := Lib.hid (hbn.trans (bstep_none (x := ⟨(i : Int), (j : Int) / 2, (j : Int) % 2⟩) (show aDrop l L ⟨(i : Int), (j : Int) / 2, (j : Int) % 2⟩ k ≤ d by rw [← hD]; exact hle)))
                clear hD hle hbn
                go_wp2_with fail
                refine wp_region_held_drew (S := fun w' => w'.cell? ⟨wr.heap.size, 0, none⟩ = some (.int .i64 i) ∧ w'.cell? ⟨wr.heap.size, 1, none⟩ = some (.int .i64 ((j : Int) / 2)) ∧ w'.cell? ⟨wr.heap.size, 2, none⟩ = some (.int .i64 ((j : Int) % 2)) ∧ w'.cell? ⟨w.heap.size + 1, 0, none⟩ = some (.int .i64 (rcOr none).a) ∧ w'.cell? ⟨w.heap.size + 1, 1, none⟩ = some (.int .i64 (rcOr none).j) ∧ w'.cell? ⟨w.heap.size + 1, 2, none⟩ = some (.int .i64 (rcOr none).s)) (by kernel_rfl) (HS.out _ (Below.refl _ _).drew) (fun hHeld => ?_)
                refine wpAnyH_take (i := 0) (v := ?vv1) rfl (by kernel_rfl) (by kernel_rfl) (by kernel_rfl) (fun _ _ _ h => h) (Or.inl ⟨by rfl, ?hy1⟩) (by assumption) ?rest1
                case hy1 => (intro w hSw; (try dsimp only at hSw); (try simp only [List.getElem_toArray, List.getElem_cons_zero, List.getElem_cons_succ]); go_simp <;> with_reducible rfl)
                try simp only [List.getElem_toArray, List.getElem_cons_zero, List.getElem_cons_succ, Act.put, List.setIfInBounds_toArray, List.set_cons_zero, List.set_cons_succ]
                refine wpAnyH_take (i := 1) (v := ?vv2) rfl (by kernel_rfl) (by kernel_rfl) (by kernel_rfl) (fun _ _ _ h => h) (Or.inl ⟨by rfl, ?hy2⟩) (by assumption) ?rest2
                case hy2 => (intro w hSw; (try dsimp only at hSw); (try simp only [List.getElem_toArray, List.getElem_cons_zero, List.getElem_cons_succ]); go_simp <;> with_reducible rfl)
                try simp only [List.getElem_toArray, List.getElem_cons_zero, List.getElem_cons_succ, Act.put, List.setIfInBounds_toArray, List.set_cons_zero, List.set_cons_succ]
                refine wpAnyH_take (i := 2) (v := ?vv3) rfl (by kernel_rfl) (by kernel_rfl) (by kernel_rfl) (fun _ _ _ h => h) (Or.inl ⟨by rfl, ?hy3⟩) (by assumption) ?rest3
                case hy3 => (intro w hSw; (try dsimp only at hSw); (try simp only [List.getElem_toArray, List.getElem_cons_zero, List.getElem_cons_succ]); go_simp <;> with_reducible rfl)
                try simp only [List.getElem_toArray, List.getElem_cons_zero, List.getElem_cons_succ, Act.put, List.setIfInBounds_toArray, List.set_cons_zero, List.set_cons_succ]
                refine wpAnyH_take (i := 3) (v := ?vv4) rfl (by kernel_rfl) (by kernel_rfl) (by kernel_rfl) (fun _ _ _ h => h) (Or.inl ⟨by rfl, ?hy4⟩) (by assumption) ?rest4
                case hy4 => (intro w hSw; (try dsimp only at hSw); (try simp only [List.getElem_toArray, List.getElem_cons_zero, List.getElem_cons_succ]); go_simp <;> with_reducible rfl)
                try simp only [List.getElem_toArray, List.getElem_cons_zero, List.getElem_cons_succ, Act.put, List.setIfInBounds_toArray, List.set_cons_zero, List.set_cons_succ]
                refine wpAnyH_take (i := 4) (v := ?vv5) rfl (by kernel_rfl) (by kernel_rfl) (by kernel_rfl) (fun _ _ _ h => h) (Or.inl ⟨by rfl, ?hy5⟩) (by assumption) ?rest5
                case hy5 => (intro w hSw; (try dsimp only at hSw); (try simp only [List.getElem_toArray, List.getElem_cons_zero, List.getElem_cons_succ]); go_simp <;> with_reducible rfl)
                try simp only [List.getElem_toArray, List.getElem_cons_zero, List.getElem_cons_succ, Act.put, List.setIfInBounds_toArray, List.set_cons_zero, List.set_cons_succ]
                refine wpAnyH_take (i := 5) (v := ?vv6) rfl (by kernel_rfl) (by kernel_rfl) (by kernel_rfl) (fun _ _ _ h => h) (Or.inl ⟨by rfl, ?hy6⟩) (by assumption) ?rest6
                case hy6 => (intro w hSw; (try dsimp only at hSw); (try simp only [List.getElem_toArray, List.getElem_cons_zero, List.getElem_cons_succ]); go_simp <;> with_reducible rfl)
                try simp only [List.getElem_toArray, List.getElem_cons_zero, List.getElem_cons_succ, Act.put, List.setIfInBounds_toArray, List.set_cons_zero, List.set_cons_succ]
                refine wpAnyH_take (i := 6) (v := ?vv7) rfl (by kernel_rfl) (by kernel_rfl) (by kernel_rfl) (fun _ _ _ h => h) (Or.inl ⟨by rfl, ?hy7⟩) (by assumption) ?rest7
                case hy7 => (intro w hSw; (try dsimp only at hSw); (try simp only [List.getElem_toArray, List.getElem_cons_zero, List.getElem_cons_succ]); go_simp <;> with_reducible rfl)
                try simp only [List.getElem_toArray, List.getElem_cons_zero, List.getElem_cons_succ, Act.put, List.setIfInBounds_toArray, List.set_cons_zero, List.set_cons_succ]
                refine wpAnyH_take (i := 7) (v := undef) rfl (by kernel_rfl) (by kernel_rfl) (by kernel_rfl) (fun _ _ _ h => h) (Or.inr ⟨by rfl, rfl⟩) (by assumption) ?_
                try simp only [List.getElem_toArray, List.getElem_cons_zero, List.getElem_cons_succ, Act.put, List.setIfInBounds_toArray, List.set_cons_zero, List.set_cons_succ]
                refine wpAnyH_take (i := 8) (v := undef) rfl (by kernel_rfl) (by kernel_rfl) (by kernel_rfl) (fun _ _ _ h => h) (Or.inr ⟨by rfl, rfl⟩) (by assumption) ?_
                try simp only [List.getElem_toArray, List.getElem_cons_zero, List.getElem_cons_succ, Act.put, List.setIfInBounds_toArray, List.set_cons_zero, List.set_cons_succ]
                refine wpAnyH_take (i := 9) (v := undef) rfl (by kernel_rfl) (by kernel_rfl) (by kernel_rfl) (fun _ _ _ h => h) (Or.inr ⟨by rfl, rfl⟩) (by assumption) ?_
                try simp only [List.getElem_toArray, List.getElem_cons_zero, List.getElem_cons_succ, Act.put, List.setIfInBounds_toArray, List.set_cons_zero, List.set_cons_succ]
                refine wpAnyH_take (i := 10) (v := undef) rfl (by kernel_rfl) (by kernel_rfl) (by kernel_rfl) (fun _ _ _ h => h) (Or.inr ⟨by rfl, rfl⟩) (by assumption) ?_
                try simp only [List.getElem_toArray, List.getElem_cons_zero, List.getElem_cons_succ, Act.put, List.setIfInBounds_toArray, List.set_cons_zero, List.set_cons_succ]
                refine wpAnyH_take (i := 11) (v := undef) rfl (by kernel_rfl) (by kernel_rfl) (by kernel_rfl) (fun _ _ _ h => h) (Or.inr ⟨by rfl, rfl⟩) (by assumption) ?_
                try simp only [List.getElem_toArray, List.getElem_cons_zero, List.getElem_cons_succ, Act.put, List.setIfInBounds_toArray, List.set_cons_zero, List.set_cons_succ]
                refine wpAnyH_take (i := 12) (v := undef) rfl (by kernel_rfl) (by kernel_rfl) (by kernel_rfl) (fun _ _ _ h => h) (Or.inr ⟨by rfl, rfl⟩) (by assumption) ?_
                try simp only [List.getElem_toArray, List.getElem_cons_zero, List.getElem_cons_succ, Act.put, List.setIfInBounds_toArray, List.set_cons_zero, List.set_cons_succ]
                refine wpAnyH_take (i := 13) (v := undef) rfl (by kernel_rfl) (by kernel_rfl) (by kernel_rfl) (fun _ _ _ h => h) (Or.inr ⟨by rfl, rfl⟩) (by assumption) ?_
                try simp only [List.getElem_toArray, List.getElem_cons_zero, List.getElem_cons_succ, Act.put, List.setIfInBounds_toArray, List.set_cons_zero, List.set_cons_succ]
                refine wpAnyH_take (i := 14) (v := ?vv8) rfl (by kernel_rfl) (by kernel_rfl) (by kernel_rfl) (fun _ _ _ h => h) (Or.inl ⟨by rfl, ?hy8⟩) (by assumption) ?rest8
                case hy8 => (intro w hSw; (try dsimp only at hSw); (try simp only [List.getElem_toArray, List.getElem_cons_zero, List.getElem_cons_succ]); go_simp <;> with_reducible rfl)
                try simp only [List.getElem_toArray, List.getElem_cons_zero, List.getElem_cons_succ, Act.put, List.setIfInBounds_toArray, List.set_cons_zero, List.set_cons_succ]
                refine wpAnyH_take (i := 15) (v := ?vv9) rfl (by kernel_rfl) (by kernel_rfl) (by kernel_rfl) (fun _ _ _ h => h) (Or.inl ⟨by rfl, ?hy9⟩) (by assumption) ?rest9
                case hy9 => (intro w hSw; (try dsimp only at hSw); (try simp only [List.getElem_toArray, List.getElem_cons_zero, List.getElem_cons_succ]); go_simp <;> with_reducible rfl)
                try simp only [List.getElem_toArray, List.getElem_cons_zero, List.getElem_cons_succ, Act.put, List.setIfInBounds_toArray, List.set_cons_zero, List.set_cons_succ]
                refine wpAnyH_done (by kernel_rfl) ?_ _
                clear hHeld
                obtain ⟨v3, hv3⟩ : ∃ v3, v3 = v1.drew := ⟨_, rfl⟩
                have hb3 : Below v1.heap.size v1 v3 := by rw [hv3]; exact (Below.refl _ _).drew
                rw [← hv3]
                clear hv3
                have hB3 := hB1.below hb3
                have bX3 := bX1.below hb3 bX1.lt
                clear hB1 bX1
                have x0 := bX3.cell 0
                have x1 := bX3.cell 1
                have x2 := bX3.cell 2
                have b0 := hB3.2.1.cell 0
                have b1 := hB3.2.1.cell 1
                have b2 := hB3.2.1.cell 2
                have f0 := hB3.2.1.frozen 0
                have f1 := hB3.2.1.frozen 1
                have f2 := hB3.2.1.frozen 2
                simp only [List.getElem?_cons_zero, List.getElem?_cons_succ] at x0 x1 x2 b0 b1 b2
                have HB3 := Lib.hid hB3
                clear hB3 bX3
                go_wp2
                go_roundw
                case rel => exact ⟨j + 1, some ⟨(i : Int), (j : Int) / 2, (j : Int) % 2⟩, by omega, by go_num, Lib.hid HST.out.symm, rfl, HB3.out.put (x := ⟨(i : Int), (j : Int) / 2, (j : Int) % 2⟩) rfl⟩
                case measure => simp [intOf]; omega
              | some b =>
                obtain ⟨cx, hcx⟩ : ∃ cx, cx = aCost L ⟨(i : Int), (j : Int) / 2, (j : Int) % 2⟩ := ⟨_, rfl⟩
                obtain ⟨cb, hcb⟩ : ∃ cb, cb = aCost L b := ⟨_, rfl⟩
                have HCX := Lib.hid hcx
                have HCB := Lib.hid hcb
                have HST := Lib.hid (⟨fun h => hbn.trans (bstep_yes (show aDrop l L ⟨(i : Int), (j : Int) / 2, (j : Int) % 2⟩ k ≤ d by rw [← hD]; exact hle) (by rw [← hcx, ← hcb]; exact h)), fun h => hbn.trans (bstep_keep (show ¬ aCost L ⟨(i : Int), (j : Int) / 2, (j : Int) % 2⟩ < aCost L b by rw [← hcx, ← hcb]; exact Int.not_lt.2 h))⟩ : (cx < cb → bestL l L k d (cands (4 * i + j + 1)) = some ⟨(i : Int), (j : Int) / 2, (j : Int) % 2⟩) ∧ (cb ≤ cx → bestL l L k d (cands (4 * i + j + 1)) = some b))
                clear hD hle hbn hcx hcb
                go_wp2_with fail
                refine wp_region_held_drew (S := fun w' => w'.cell? ⟨wr.heap.size, 0, none⟩ = some (.int .i64 i) ∧ w'.cell? ⟨wr.heap.size, 1, none⟩ = some (.int .i64 ((j : Int) / 2)) ∧ w'.cell? ⟨wr.heap.size, 2, none⟩ = some (.int .i64 ((j : Int) % 2)) ∧ w'.cell? ⟨w.heap.size + 1, 0, none⟩ = some (.int .i64 (rcOr (some b)).a) ∧ w'.cell? ⟨w.heap.size + 1, 1, none⟩ = some (.int .i64 (rcOr (some b)).j) ∧ w'.cell? ⟨w.heap.size + 1, 2, none⟩ = some (.int .i64 (rcOr (some b)).s)) (by kernel_rfl) (HS.out _ (Below.refl _ _).drew) (fun hHeld => ?_)
                refine wpAnyH_take (i := 0) (v := ?vv10) rfl (by kernel_rfl) (by kernel_rfl) (by kernel_rfl) (fun _ _ _ h => h) (Or.inl ⟨by rfl, ?hy10⟩) (by assumption) ?rest10
                case hy10 => (intro w hSw; (try dsimp only at hSw); (try simp only [List.getElem_toArray, List.getElem_cons_zero, List.getElem_cons_succ]); go_simp <;> with_reducible rfl)
                try simp only [List.getElem_toArray, List.getElem_cons_zero, List.getElem_cons_succ, Act.put, List.setIfInBounds_toArray, List.set_cons_zero, List.set_cons_succ]
                refine wpAnyH_take (i := 1) (v := ?vv11) rfl (by kernel_rfl) (by kernel_rfl) (by kernel_rfl) (fun _ _ _ h => h) (Or.inl ⟨by rfl, ?hy11⟩) (by assumption) ?rest11
                case hy11 => (intro w hSw; (try dsimp only at hSw); (try simp only [List.getElem_toArray, List.getElem_cons_zero, List.getElem_cons_succ]); go_simp <;> with_reducible rfl)
                try simp only [List.getElem_toArray, List.getElem_cons_zero, List.getElem_cons_succ, Act.put, List.setIfInBounds_toArray, List.set_cons_zero, List.set_cons_succ]
                refine wpAnyH_take (i := 2) (v := ?vv12) rfl (by kernel_rfl) (by kernel_rfl) (by kernel_rfl) (fun _ _ _ h => h) (Or.inl ⟨by rfl, ?hy12⟩) (by assumption) ?rest12
                case hy12 => (intro w hSw; (try dsimp only at hSw); (try simp only [List.getElem_toArray, List.getElem_cons_zero, List.getElem_cons_succ]); go_simp <;> with_reducible rfl)
                try simp only [List.getElem_toArray, List.getElem_cons_zero, List.getElem_cons_succ, Act.put, List.setIfInBounds_toArray, List.set_cons_zero, List.set_cons_succ]
                refine wpAnyH_take (i := 3) (v := ?vv13) rfl (by kernel_rfl) (by kernel_rfl) (by kernel_rfl) (fun _ _ _ h => h) (Or.inl ⟨by rfl, ?hy13⟩) (by assumption) ?rest13
                case hy13 => (intro w hSw; (try dsimp only at hSw); (try simp only [List.getElem_toArray, List.getElem_cons_zero, List.getElem_cons_succ]); go_simp <;> with_reducible rfl)
                try simp only [List.getElem_toArray, List.getElem_cons_zero, List.getElem_cons_succ, Act.put, List.setIfInBounds_toArray, List.set_cons_zero, List.set_cons_succ]
                refine wpAnyH_take (i := 4) (v := ?vv14) rfl (by kernel_rfl) (by kernel_rfl) (by kernel_rfl) (fun _ _ _ h => h) (Or.inl ⟨by rfl, ?hy14⟩) (by assumption) ?rest14
                case hy14 => (intro w hSw; (try dsimp only at hSw); (try simp only [List.getElem_toArray, List.getElem_cons_zero, List.getElem_cons_succ]); go_simp <;> with_reducible rfl)
                try simp only [List.getElem_toArray, List.getElem_cons_zero, List.getElem_cons_succ, Act.put, List.setIfInBounds_toArray, List.set_cons_zero, List.set_cons_succ]
                refine wpAnyH_take (i := 5) (v := ?vv15) rfl (by kernel_rfl) (by kernel_rfl) (by kernel_rfl) (fun _ _ _ h => h) (Or.inl ⟨by rfl, ?hy15⟩) (by assumption) ?rest15
                case hy15 => (intro w hSw; (try dsimp only at hSw); (try simp only [List.getElem_toArray, List.getElem_cons_zero, List.getElem_cons_succ]); go_simp <;> with_reducible rfl)
                try simp only [List.getElem_toArray, List.getElem_cons_zero, List.getElem_cons_succ, Act.put, List.setIfInBounds_toArray, List.set_cons_zero, List.set_cons_succ]
                refine wpAnyH_take (i := 6) (v := ?vv16) rfl (by kernel_rfl) (by kernel_rfl) (by kernel_rfl) (fun _ _ _ h => h) (Or.inl ⟨by rfl, ?hy16⟩) (by assumption) ?rest16
                case hy16 => (intro w hSw; (try dsimp only at hSw); (try simp only [List.getElem_toArray, List.getElem_cons_zero, List.getElem_cons_succ]); go_simp <;> with_reducible rfl)
                try simp only [List.getElem_toArray, List.getElem_cons_zero, List.getElem_cons_succ, Act.put, List.setIfInBounds_toArray, List.set_cons_zero, List.set_cons_succ]
                refine wpAnyH_take (i := 7) (v := ?vv17) rfl (by kernel_rfl) (by kernel_rfl) (by kernel_rfl) (fun _ _ _ h => h) (Or.inl ⟨by rfl, ?hy17⟩) (by assumption) ?rest17
                case hy17 => (intro w hSw; (try dsimp only at hSw); (try simp only [List.getElem_toArray, List.getElem_cons_zero, List.getElem_cons_succ]); go_simp <;> with_reducible rfl)
                try simp only [List.getElem_toArray, List.getElem_cons_zero, List.getElem_cons_succ, Act.put, List.setIfInBounds_toArray, List.set_cons_zero, List.set_cons_succ]
                refine wpAnyH_take (i := 8) (v := ?vv18) rfl (by kernel_rfl) (by kernel_rfl) (by kernel_rfl) (fun _ _ _ h => h) (Or.inl ⟨by rfl, ?hy18⟩) (by assumption) ?rest18
                case hy18 => (intro w hSw; (try dsimp only at hSw); (try simp only [List.getElem_toArray, List.getElem_cons_zero, List.getElem_cons_succ]); go_simp <;> with_reducible rfl)
                try simp only [List.getElem_toArray, List.getElem_cons_zero, List.getElem_cons_succ, Act.put, List.setIfInBounds_toArray, List.set_cons_zero, List.set_cons_succ]
                refine wpAnyH_take (i := 10) (v := ?vv19) rfl (by kernel_rfl) (by kernel_rfl) (by kernel_rfl) (fun _ _ _ h => h) (Or.inl ⟨by rfl, ?hy19⟩) (by assumption) ?rest19
                case hy19 => (intro w hSw; (try dsimp only at hSw); (try simp only [List.getElem_toArray, List.getElem_cons_zero, List.getElem_cons_succ]); go_simp <;> with_reducible rfl)
                try simp only [List.getElem_toArray, List.getElem_cons_zero, List.getElem_cons_succ, Act.put, List.setIfInBounds_toArray, List.set_cons_zero, List.set_cons_succ]
                refine wpAnyH_take (i := 11) (v := ?vv20) rfl (by kernel_rfl) (by kernel_rfl) (by kernel_rfl) (fun _ _ _ h => h) (Or.inl ⟨by rfl, ?hy20⟩) (by assumption) ?rest20
                case hy20 => (intro w hSw; (try dsimp only at hSw); (try simp only [List.getElem_toArray, List.getElem_cons_zero, List.getElem_cons_succ]); go_simp <;> with_reducible rfl)
                try simp only [List.getElem_toArray, List.getElem_cons_zero, List.getElem_cons_succ, Act.put, List.setIfInBounds_toArray, List.set_cons_zero, List.set_cons_succ]
                refine wpAnyH_ready (rs := [9]) (by kernel_rfl) (by simp) ?_
                refine AllReadyH.cons rfl (fun K hK => ?_) AllReadyH.nil
                go_simp
                refine (specAnonCost _ _ L ⟨(i : Int), (j : Int) / 2, (j : Int) % 2⟩ _ (H.out.below (hB1.below (Below.refl _ _).drew).2.2).2.2.1 hn2 H.out.2.2.2.2).mono ?_
                rw [← HCX.out]
                rintro e v2 ⟨rfl, hq2⟩
                have hb2 : Below v1.heap.size v1 v2 := (Below.refl _ _).drew.trans hq2
                clear hq2
                dsimp only
                refine hK.out _ _ (HS.out _ hb2) (fun hHeld => ?_)
                clear hK K
                try simp only [List.getElem_toArray, List.getElem_cons_zero, List.getElem_cons_succ, Act.put, List.setIfInBounds_toArray, List.set_cons_zero, List.set_cons_succ]
                refine wpAnyH_ready (rs := [12]) (by kernel_rfl) (by simp) ?_
                refine AllReadyH.cons rfl (fun K hK => ?_) AllReadyH.nil
                go_simp
                refine (specAnonCost _ _ L b _ (H.out.below (hB1.below hb2).2.2).2.2.1 hn2 H.out.2.2.2.2).mono ?_
                rw [← HCB.out]
                rintro e v3 ⟨rfl, hq3⟩
                have hb3 : Below v1.heap.size v1 v3 := hb2.trans (hq3.mono hb2.size)
                clear hq3
                dsimp only
                refine hK.out _ _ (HS.out _ hb3) (fun hHeld => ?_)
                clear hK K
                try simp only [List.getElem_toArray, List.getElem_cons_zero, List.getElem_cons_succ, Act.put, List.setIfInBounds_toArray, List.set_cons_zero, List.set_cons_succ]
                by_cases hlc : cx < cb
                · have g2 : decide (cx < cb) = true := decide_eq_true hlc
                  have HST2 := Lib.hid (HST.out.1 hlc)
                  clear hlc HST
                  refine wpAnyH_take (i := 13) (v := ?vv21) rfl (by kernel_rfl) (by kernel_rfl) (by kernel_rfl) (fun _ _ _ h => h) (Or.inl ⟨by rfl, ?hy21⟩) (by assumption) ?rest21
                  case hy21 => (intro w hSw; (try dsimp only at hSw); (try simp only [List.getElem_toArray, List.getElem_cons_zero, List.getElem_cons_succ]); go_simp <;> with_reducible rfl)
                  try simp only [List.getElem_toArray, List.getElem_cons_zero, List.getElem_cons_succ, Act.put, List.setIfInBounds_toArray, List.set_cons_zero, List.set_cons_succ]
                  refine wpAnyH_take (i := 14) (v := ?vv22) rfl (by kernel_rfl) (by kernel_rfl) (by kernel_rfl) (fun _ _ _ h => h) (Or.inl ⟨by rfl, ?hy22⟩) (by assumption) ?rest22
                  case hy22 => (intro w hSw; (try dsimp only at hSw); (try simp only [List.getElem_toArray, List.getElem_cons_zero, List.getElem_cons_succ]); go_simp <;> with_reducible rfl)
                  try simp only [List.getElem_toArray, List.getElem_cons_zero, List.getElem_cons_succ, Act.put, List.setIfInBounds_toArray, List.set_cons_zero, List.set_cons_succ]
                  refine wpAnyH_take (i := 15) (v := ?vv23) rfl (by kernel_rfl) (by kernel_rfl) (by kernel_rfl) (fun _ _ _ h => h) (Or.inl ⟨by rfl, ?hy23⟩) (by assumption) ?rest23
                  case hy23 => (intro w hSw; (try dsimp only at hSw); (try simp only [List.getElem_toArray, List.getElem_cons_zero, List.getElem_cons_succ]); go_simp <;> with_reducible rfl)
                  try simp only [List.getElem_toArray, List.getElem_cons_zero, List.getElem_cons_succ, Act.put, List.setIfInBounds_toArray, List.set_cons_zero, List.set_cons_succ]
                  refine wpAnyH_done (by kernel_rfl) ?_ _
                  clear hHeld
                  have hB3 := hB1.below hb3
                  have bX3 := bX1.below hb3 bX1.lt
                  clear hB1 bX1
                  have x0 := bX3.cell 0
                  have x1 := bX3.cell 1
                  have x2 := bX3.cell 2
                  have b0 := hB3.2.1.cell 0
                  have b1 := hB3.2.1.cell 1
                  have b2 := hB3.2.1.cell 2
                  have f0 := hB3.2.1.frozen 0
                  have f1 := hB3.2.1.frozen 1
                  have f2 := hB3.2.1.frozen 2
                  simp only [List.getElem?_cons_zero, List.getElem?_cons_succ] at x0 x1 x2 b0 b1 b2
                  have HB3 := Lib.hid hB3
                  clear hB3 bX3
                  go_wp2
                  go_roundw
                  case rel => exact ⟨j + 1, some ⟨(i : Int), (j : Int) / 2, (j : Int) % 2⟩, by omega, by go_num, Lib.hid HST2.out.symm, rfl, HB3.out.put (x := ⟨(i : Int), (j : Int) / 2, (j : Int) % 2⟩) rfl⟩
                  case measure => simp [intOf]; omega
                · have g2 : decide (cx < cb) = false := decide_eq_false hlc
                  have HST2 := Lib.hid (HST.out.2 (Int.not_lt.1 hlc))
                  clear hlc HST
                  refine wpAnyH_take (i := 13) (v := ?vv24) rfl (by kernel_rfl) (by kernel_rfl) (by kernel_rfl) (fun _ _ _ h => h) (Or.inl ⟨by rfl, ?hy24⟩) (by assumption) ?rest24
                  case hy24 => (intro w hSw; (try dsimp only at hSw); (try simp only [List.getElem_toArray, List.getElem_cons_zero, List.getElem_cons_succ]); go_simp <;> with_reducible rfl)
                  try simp only [List.getElem_toArray, List.getElem_cons_zero, List.getElem_cons_succ, Act.put, List.setIfInBounds_toArray, List.set_cons_zero, List.set_cons_succ]
                  refine wpAnyH_take (i := 14) (v := ?vv25) rfl (by kernel_rfl) (by kernel_rfl) (by kernel_rfl) (fun _ _ _ h => h) (Or.inl ⟨by rfl, ?hy25⟩) (by assumption) ?rest25
                  case hy25 => (intro w hSw; (try dsimp only at hSw); (try simp only [List.getElem_toArray, List.getElem_cons_zero, List.getElem_cons_succ]); go_simp <;> with_reducible rfl)
                  try simp only [List.getElem_toArray, List.getElem_cons_zero, List.getElem_cons_succ, Act.put, List.setIfInBounds_toArray, List.set_cons_zero, List.set_cons_succ]
                  refine wpAnyH_take (i := 15) (v := ?vv26) rfl (by kernel_rfl) (by kernel_rfl) (by kernel_rfl) (fun _ _ _ h => h) (Or.inl ⟨by rfl, ?hy26⟩) (by assumption) ?rest26
                  case hy26 => (intro w hSw; (try dsimp only at hSw); (try simp only [List.getElem_toArray, List.getElem_cons_zero, List.getElem_cons_succ]); go_simp <;> with_reducible rfl)
                  try simp only [List.getElem_toArray, List.getElem_cons_zero, List.getElem_cons_succ, Act.put, List.setIfInBounds_toArray, List.set_cons_zero, List.set_cons_succ]
                  refine wpAnyH_done (by kernel_rfl) ?_ _
                  clear hHeld
                  have HB3 := Lib.hid (hB1.below hb3)
                  clear hB1 bX1
                  go_wp2
                  go_roundw
                  case rel => exact ⟨j + 1, some b, by omega, by go_num, Lib.hid HST2.out.symm, rfl, HB3.out⟩
                  case measure => simp [intOf]; omega
            · have g1 : decide (D ≤ d) = false := decide_eq_false hle
              have HST := Lib.hid (hbn.trans (bstep_no (o := o) (show ¬ aDrop l L ⟨(i : Int), (j : Int) / 2, (j : Int) % 2⟩ k ≤ d by rw [← hD]; exact hle)))
              clear hD hle hbn
              go_wp2_with fail
              refine wp_region_held_drew (S := fun w' => w'.cell? ⟨wr.heap.size, 0, none⟩ = some (.int .i64 i) ∧ w'.cell? ⟨wr.heap.size, 1, none⟩ = some (.int .i64 ((j : Int) / 2)) ∧ w'.cell? ⟨wr.heap.size, 2, none⟩ = some (.int .i64 ((j : Int) % 2)) ∧ w'.cell? ⟨w.heap.size + 1, 0, none⟩ = some (.int .i64 (rcOr o).a) ∧ w'.cell? ⟨w.heap.size + 1, 1, none⟩ = some (.int .i64 (rcOr o).j) ∧ w'.cell? ⟨w.heap.size + 1, 2, none⟩ = some (.int .i64 (rcOr o).s)) (by kernel_rfl) (HS.out _ (Below.refl _ _).drew) (fun hHeld => ?_)
              refine wpAnyH_take (i := 0) (v := ?vv27) rfl (by kernel_rfl) (by kernel_rfl) (by kernel_rfl) (fun _ _ _ h => h) (Or.inl ⟨by rfl, ?hy27⟩) (by assumption) ?rest27
              case hy27 => (intro w hSw; (try dsimp only at hSw); (try simp only [List.getElem_toArray, List.getElem_cons_zero, List.getElem_cons_succ]); go_simp <;> with_reducible rfl)
              try simp only [List.getElem_toArray, List.getElem_cons_zero, List.getElem_cons_succ, Act.put, List.setIfInBounds_toArray, List.set_cons_zero, List.set_cons_succ]
              refine wpAnyH_take (i := 1) (v := ?vv28) rfl (by kernel_rfl) (by kernel_rfl) (by kernel_rfl) (fun _ _ _ h => h) (Or.inl ⟨by rfl, ?hy28⟩) (by assumption) ?rest28
              case hy28 => (intro w hSw; (try dsimp only at hSw); (try simp only [List.getElem_toArray, List.getElem_cons_zero, List.getElem_cons_succ]); go_simp <;> with_reducible rfl)
              try simp only [List.getElem_toArray, List.getElem_cons_zero, List.getElem_cons_succ, Act.put, List.setIfInBounds_toArray, List.set_cons_zero, List.set_cons_succ]
              refine wpAnyH_take (i := 2) (v := ?vv29) rfl (by kernel_rfl) (by kernel_rfl) (by kernel_rfl) (fun _ _ _ h => h) (Or.inl ⟨by rfl, ?hy29⟩) (by assumption) ?rest29
              case hy29 => (intro w hSw; (try dsimp only at hSw); (try simp only [List.getElem_toArray, List.getElem_cons_zero, List.getElem_cons_succ]); go_simp <;> with_reducible rfl)
              try simp only [List.getElem_toArray, List.getElem_cons_zero, List.getElem_cons_succ, Act.put, List.setIfInBounds_toArray, List.set_cons_zero, List.set_cons_succ]
              refine wpAnyH_take (i := 3) (v := ?vv30) rfl (by kernel_rfl) (by kernel_rfl) (by kernel_rfl) (fun _ _ _ h => h) (Or.inl ⟨by rfl, ?hy30⟩) (by assumption) ?rest30
              case hy30 => (intro w hSw; (try dsimp only at hSw); (try simp only [List.getElem_toArray, List.getElem_cons_zero, List.getElem_cons_succ]); go_simp <;> with_reducible rfl)
              try simp only [List.getElem_toArray, List.getElem_cons_zero, List.getElem_cons_succ, Act.put, List.setIfInBounds_toArray, List.set_cons_zero, List.set_cons_succ]
              refine wpAnyH_take (i := 4) (v := undef) rfl (by kernel_rfl) (by kernel_rfl) (by kernel_rfl) (fun _ _ _ h => h) (Or.inr ⟨by rfl, rfl⟩) (by assumption) ?_
              try simp only [List.getElem_toArray, List.getElem_cons_zero, List.getElem_cons_succ, Act.put, List.setIfInBounds_toArray, List.set_cons_zero, List.set_cons_succ]
              refine wpAnyH_take (i := 5) (v := undef) rfl (by kernel_rfl) (by kernel_rfl) (by kernel_rfl) (fun _ _ _ h => h) (Or.inr ⟨by rfl, rfl⟩) (by assumption) ?_
              try simp only [List.getElem_toArray, List.getElem_cons_zero, List.getElem_cons_succ, Act.put, List.setIfInBounds_toArray, List.set_cons_zero, List.set_cons_succ]
              refine wpAnyH_take (i := 6) (v := undef) rfl (by kernel_rfl) (by kernel_rfl) (by kernel_rfl) (fun _ _ _ h => h) (Or.inr ⟨by rfl, rfl⟩) (by assumption) ?_
              try simp only [List.getElem_toArray, List.getElem_cons_zero, List.getElem_cons_succ, Act.put, List.setIfInBounds_toArray, List.set_cons_zero, List.set_cons_succ]
              refine wpAnyH_take (i := 7) (v := undef) rfl (by kernel_rfl) (by kernel_rfl) (by kernel_rfl) (fun _ _ _ h => h) (Or.inr ⟨by rfl, rfl⟩) (by assumption) ?_
              try simp only [List.getElem_toArray, List.getElem_cons_zero, List.getElem_cons_succ, Act.put, List.setIfInBounds_toArray, List.set_cons_zero, List.set_cons_succ]
              refine wpAnyH_take (i := 8) (v := undef) rfl (by kernel_rfl) (by kernel_rfl) (by kernel_rfl) (fun _ _ _ h => h) (Or.inr ⟨by rfl, rfl⟩) (by assumption) ?_
              try simp only [List.getElem_toArray, List.getElem_cons_zero, List.getElem_cons_succ, Act.put, List.setIfInBounds_toArray, List.set_cons_zero, List.set_cons_succ]
              refine wpAnyH_take (i := 9) (v := undef) rfl (by kernel_rfl) (by kernel_rfl) (by kernel_rfl) (fun _ _ _ h => h) (Or.inr ⟨by rfl, rfl⟩) (by assumption) ?_
              try simp only [List.getElem_toArray, List.getElem_cons_zero, List.getElem_cons_succ, Act.put, List.setIfInBounds_toArray, List.set_cons_zero, List.set_cons_succ]
              refine wpAnyH_take (i := 10) (v := undef) rfl (by kernel_rfl) (by kernel_rfl) (by kernel_rfl) (fun _ _ _ h => h) (Or.inr ⟨by rfl, rfl⟩) (by assumption) ?_
              try simp only [List.getElem_toArray, List.getElem_cons_zero, List.getElem_cons_succ, Act.put, List.setIfInBounds_toArray, List.set_cons_zero, List.set_cons_succ]
              refine wpAnyH_take (i := 11) (v := undef) rfl (by kernel_rfl) (by kernel_rfl) (by kernel_rfl) (fun _ _ _ h => h) (Or.inr ⟨by rfl, rfl⟩) (by assumption) ?_
              try simp only [List.getElem_toArray, List.getElem_cons_zero, List.getElem_cons_succ, Act.put, List.setIfInBounds_toArray, List.set_cons_zero, List.set_cons_succ]
              refine wpAnyH_take (i := 12) (v := undef) rfl (by kernel_rfl) (by kernel_rfl) (by kernel_rfl) (fun _ _ _ h => h) (Or.inr ⟨by rfl, rfl⟩) (by assumption) ?_
              try simp only [List.getElem_toArray, List.getElem_cons_zero, List.getElem_cons_succ, Act.put, List.setIfInBounds_toArray, List.set_cons_zero, List.set_cons_succ]
              refine wpAnyH_take (i := 13) (v := undef) rfl (by kernel_rfl) (by kernel_rfl) (by kernel_rfl) (fun _ _ _ h => h) (Or.inr ⟨by rfl, rfl⟩) (by assumption) ?_
              try simp only [List.getElem_toArray, List.getElem_cons_zero, List.getElem_cons_succ, Act.put, List.setIfInBounds_toArray, List.set_cons_zero, List.set_cons_succ]
              refine wpAnyH_take (i := 14) (v := undef) rfl (by kernel_rfl) (by kernel_rfl) (by kernel_rfl) (fun _ _ _ h => h) (Or.inr ⟨by rfl, rfl⟩) (by assumption) ?_
              try simp only [List.getElem_toArray, List.getElem_cons_zero, List.getElem_cons_succ, Act.put, List.setIfInBounds_toArray, List.set_cons_zero, List.set_cons_succ]
              refine wpAnyH_take (i := 15) (v := ?vv31) rfl (by kernel_rfl) (by kernel_rfl) (by kernel_rfl) (fun _ _ _ h => h) (Or.inl ⟨by rfl, ?hy31⟩) (by assumption) ?rest31
              case hy31 => (intro w hSw; (try dsimp only at hSw); (try simp only [List.getElem_toArray, List.getElem_cons_zero, List.getElem_cons_succ]); go_simp <;> with_reducible rfl)
              try simp only [List.getElem_toArray, List.getElem_cons_zero, List.getElem_cons_succ, Act.put, List.setIfInBounds_toArray, List.set_cons_zero, List.set_cons_succ]
              refine wpAnyH_done (by kernel_rfl) ?_ _
              clear hHeld
              have HB3 := Lib.hid (hB1.below (Below.refl _ _).drew)
              clear hB1 bX1
              go_wp2
              go_roundw
              case rel => exact ⟨j + 1, o, by omega, by go_num, Lib.hid HST.out.symm, rfl, HB3.out⟩
              case measure => simp [intOf]; omega
          · have HE := Lib.hid (show j = 4 by omega)
            clear hB
            go_wp2
            go_roundw
            case rel => exact ⟨i + 1, o, by omega, by go_num, Lib.hid (by rw [HO.out, HE.out, show 4 * (i + 1) = 4 * i + 4 by omega]), rfl, HB.out⟩
            case measure => simp [intOf]; omega
      · have HE := Lib.hid (show i = L.length + 1 by omega)
        obtain ⟨h0, h1, h2⟩ := HB.out
        have b0 := h1.cell 0
        have b1 := h1.cell 1
        have b2 := h1.cell 2
        have z0 := h0.cell 0
        have z1 := h0.cell 1
        have z2 := h0.cell 2
        have f0 := h0.frozen 0
        have f1 := h0.frozen 1
        have f2 := h0.frozen 2
        simp only [List.getElem?_cons_zero, List.getElem?_cons_succ] at b0 b1 b2 z0 z1 z2
        have HVo := Lib.hid (show aBest l L k d = o by rw [HV.out, HO.out, HE.out])
        have r0 := ((h0.set 0 (.int .i64 (rcOr o).a)).set 1 (.int .i64 (rcOr o).j)).set 2 (.int .i64 (rcOr o).s)
        have hbX : Below w.heap.size w (((wr.setCell ⟨w.heap.size, 0, none⟩ (.int .i64 (rcOr o).a)).setCell ⟨w.heap.size, 1, none⟩ (.int .i64 (rcOr o).j)).setCell ⟨w.heap.size, 2, none⟩ (.int .i64 (rcOr o).s)) :=
          ((h2.setCell (p := ⟨w.heap.size, 0, none⟩) (Nat.le_refl _) _).setCell (p := ⟨w.heap.size, 1, none⟩) (Nat.le_refl _) _).setCell (p := ⟨w.heap.size, 2, none⟩) (Nat.le_refl _) _
        have HR := Lib.hid r0
        have HBX := Lib.hid hbX
        clear r0 hbX h0 h1 h2 HO
        go_wp2
        have y0 := HR.out.cell 0
        have y1 := HR.out.cell 1
        have y2 := HR.out.cell 2
        simp only [List.set_cons_zero, List.set_cons_succ, List.getElem?_cons_zero, List.getElem?_cons_succ] at y0 y1 y2
        refine bodyPost_ret (v := bestV o) ?_ rfl ⟨by rw [HVo.out], HBX.out⟩
        clear z0 z1 z2 f0 f1 f2 b0 b1 b2 HBX HR HVo
        generalize hX : World.setCell _ ⟨w.heap.size, 2, none⟩ _ = X at y0 y1 y2 ⊢
        clear hX
        cases o
        · simp [results, Try.results31, go_sem, y0, y1, y2, bestV, rcOr, zeroR]
          done
        · simp [results, Try.results31, go_sem, y0, y1, y2, bestV, rcOr, zeroR]
          done
  · have HD := Lib.hid (bIn_not (d := d) hin)
    clear hin
    go_enter Try.func31, Try.ntmps31
    go_wp2
    go_loopw [11, 12] (fun f t wr => t = .int .i64 0 ∧ f = .bool false ∧ BS w none wr) (fun _ _ _ => 0)
    case atStart => exact ⟨rfl, rfl, H00.out⟩
    case round =>
      obtain ⟨rfl, rfl, hB⟩ := hrel
      have HB := Lib.hid hB
      clear hB
      have hle : decide ((0 : Int) ≤ (L.length : Int)) = true := decide_eq_true (by omega)
      go_wp2
      go_loopw [11, 13] (fun f t wr => t = .int .i64 0 ∧ f = .bool false ∧ BS w none wr) (fun _ _ _ => 0)
      case atStart => exact ⟨rfl, rfl, HB.out⟩
      case round =>
        obtain ⟨rfl, rfl, hB⟩ := hrel
        have HB := Lib.hid hB
        have hb1 : Below wr.heap.size wr (wr.alloc (.cells #[.int .i64 0, .int .i64 0, .int .i64 0] 44)) := ((Below.refl _ _).alloc (Nat.le_refl _) _)
        have q0 := Blk.new wr 44 #[.int .i64 0, .int .i64 0, .int .i64 0]
        have x0 := q0.cell 0
        have x1 := q0.cell 1
        have x2 := q0.cell 2
        simp only [List.getElem?_cons_zero, List.getElem?_cons_succ] at x0 x1 x2
        have hH1 := H.out.below (hB.below hb1).2.2
        clear hB q0
        go_wp2_with fail
        refine (specAnonDrop A A2 c c2 l L (cand 0) k _ hH1).mono ?_
        rw [HD.out.1]
        rintro e v1 ⟨rfl, hq⟩
        obtain ⟨h0, h1, h2⟩ := (HB.out.below hb1).below hq
        have z0 := h0.cell 0
        have z1 := h0.cell 1
        have z2 := h0.cell 2
        have f0 := h0.frozen 0
        have f1 := h0.frozen 1
        have f2 := h0.frozen 2
        simp only [List.getElem?_cons_zero, List.getElem?_cons_succ] at z0 z1 z2
        have r0 := ((h0.set 0 (.int .i64 0)).set 1 (.int .i64 0)).set 2 (.int .i64 0)
        have hbX : Below w.heap.size w (((v1.setCell ⟨w.heap.size, 0, none⟩ (.int .i64 0)).setCell ⟨w.heap.size, 1, none⟩ (.int .i64 0)).setCell ⟨w.heap.size, 2, none⟩ (.int .i64 0)) :=
          ((h2.setCell (p := ⟨w.heap.size, 0, none⟩) (Nat.le_refl _) _).setCell (p := ⟨w.heap.size, 1, none⟩) (Nat.le_refl _) _).setCell (p := ⟨w.heap.size, 2, none⟩) (Nat.le_refl _) _
        have HR := Lib.hid r0
        have HBX := Lib.hid hbX
        clear r0 hbX h0 h1 h2 hq x0 x1 x2 hH1 hb1
        go_wp2
        have y0 := HR.out.cell 0
        have y1 := HR.out.cell 1
        have y2 := HR.out.cell 2
        simp only [List.set_cons_zero, List.set_cons_succ, List.getElem?_cons_zero, List.getElem?_cons_succ] at y0 y1 y2
        refine bodyPost_ret (v := bestV none) ?_ rfl ⟨by rw [HD.out.2], HBX.out⟩
        clear z0 z1 z2 f0 f1 f2 HBX HR
        generalize hX : World.setCell _ ⟨w.heap.size, 2, none⟩ _ = X at y0 y1 y2 ⊢
        clear hX
        simp [results, Try.results31, go_sem, y0, y1, y2, bestV, rcOr, zeroR]
end Go.Proofs.Ytfpddhehdfckjaa
