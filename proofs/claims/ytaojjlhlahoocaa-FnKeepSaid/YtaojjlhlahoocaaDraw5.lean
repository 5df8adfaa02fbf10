/- People, a ladder, a recoding and an index. -/
import Derived.Test.YtaojjlhlahoocaaDraw4
import Derived.Deep.RegionHeld3
namespace Go.Proofs.Ytaojjlhlahoocaa
open Go.RowKit
set_option linter.unusedSimpArgs false
attribute [local go_sem ↓] Go.wp_at_zero Go.wp_at_succ

/-- Two boxes beside what was drawn: the result's (bo) and the variable's (bi). -/
def BX (w : World) (g N : Nat) (v : Value) (l : List Pn) (v2 : Value) (L : List (List Int)) (bo bi : Nat) (o i : List Value) (w' : World) : Prop :=
  Blk w' bo 26 o ∧ Blk w' bi 26 i ∧ ASt (w.heap.size + 1) g N v l v2 L w' ∧ w.grownBy w' (some g)
section
variable {w w' w4 : World} {g N N' bo bi : Nat} {v v2 : Value} {l : List Pn} {L : List (List Int)} {o i : List Value} {x0 x1 x2 : Value}
theorem BX.drew (h : BX w g N v l v2 L bo bi o i w') : BX w g N v l v2 L bo bi o i w'.drew := ⟨h.1, h.2.1, h.2.2.1.below ⟨rfl, rfl, rfl, Nat.le_refl _, fun _ _ => rfl⟩, ⟨h.2.2.2.os, h.2.2.2.tape, h.2.2.2.output, h.2.2.2.size, h.2.2.2.block⟩⟩
theorem BX.alloc (h : BX w g N v l v2 L bo bi o i w') (x : Obj) : BX w g N v l v2 L bo bi o i (w'.alloc x) :=
  ⟨h.1.alloc x, h.2.1.alloc x, h.2.2.1.below ((Below.refl _ _).alloc (Nat.le_refl _) x), h.2.2.2.trans (World.grownBy_alloc _ _ _)⟩
theorem BX.pick (h : BX w g N v l v2 L bo bi o i w') (h0 : bo ≠ g) (h1 : bi ≠ g) (hg : w'.grownBy w4 (some g)) (hr : Rdr w4 g N') (hw : g ≤ w.heap.size := by omega) : BX w g N' v l v2 L bo bi o i w4 :=
  ⟨h.1.grown hg h0, h.2.1.grown hg h1, h.2.2.1.pick (by omega) hg hr, h.2.2.2.trans hg⟩
theorem BX.inner (h : BX w g N v l v2 L bo bi o [x0, x1, x2] w') : w'.cell? ⟨bi, 0, none⟩ = some x0 ∧ w'.cell? ⟨bi, 1, none⟩ = some x1 ∧ w'.cell? ⟨bi, 2, none⟩ = some x2 := ⟨h.2.1.cell 0, h.2.1.cell 1, h.2.1.cell 2⟩
theorem BX.set3 (h : BX w g N v l v2 L bo bi [x0, x1, x2] i w') (y0 y1 y2 : Value) (hw : g < bo) (hb : bo ≤ w.heap.size) (hw2 : w.heap.size ≤ bo) (hne : bi ≠ bo) : BX w g N v l v2 L bo bi [y0, y1, y2] i (((w'.setCell ⟨bo, 0, none⟩ y0).setCell ⟨bo, 1, none⟩ y1).setCell ⟨bo, 2, none⟩ y2) :=
  ⟨Go.Proofs.Ytaojjlhlahoocaa.set3 h.1 y0 y1 y2, ((h.2.1.far hne _).far hne _).far hne _, h.2.2.1.box (grown3 w' bo y0 y1 y2) (by omega) (by omega), h.2.2.2.andThen (grown3 w' bo y0 y1 y2) (fun j e => by cases e; exact .inl hw2)⟩
theorem BX.rdr (h : BX w g N v l v2 L bo bi o i w') : Rdr w' g N := h.2.2.1.2.2.1
end
theorem two_of {w : World} {b t : Nat} {x y z : Int} (h : Blk w b t [.int .i64 x, .int .i64 y]) (z0 : 0 ≤ z) (z1 : z < 2) {lo hi : Int} (hx : lo ≤ x) (hx2 : x ≤ hi) (hy : lo ≤ y) (hy2 : y ≤ hi) : ∃ kk : Int, lo ≤ kk ∧ kk ≤ hi ∧ w.cell? ⟨b, z.toNat, none⟩ = some (.int .i64 kk) := by
  rcases (show z = 0 ∨ z = 1 by omega) with rfl | rfl
  · exact ⟨x, hx, hx2, h.cell 0⟩
  · exact ⟨y, hy, hy2, h.cell 1⟩
theorem wpAnyH_and {P : Program} {md : Region.Mode} {ops : Array Oper} {Q : Exit → Act → World → Prop} {S T : World → Prop} : ∀ {fuel : Nat} {listed : Array Bool} {a : Act} {w : World}, wpAnyH P md ops Q (fun w => T w ∧ S w) fuel listed a w → wpAnyH P md ops Q S fuel listed a w
  | 0, _, _, _, h => h
  | _ + 1, _, _, _, h => ⟨h.1, fun i hi => wpOp_mono (fun _ _ h' => ⟨h'.1.2, wpAnyH_and h'.2⟩) (h.2 i hi)⟩
theorem Blk.other {w : World} {b t : Nat} {xs : List Value} {o : Nat} {u : Value} (_ : Blk w b t xs) (hc : w.cell? ⟨b, o, none⟩ = some u) {g : Nat} (hne : b ≠ g) {y0 y1 y2 : Value} : (((w.setCell ⟨g, 0, none⟩ y0).setCell ⟨g, 1, none⟩ y1).setCell ⟨g, 2, none⟩ y2).cell? ⟨b, o, none⟩ = some u := by
  rw [World.cell?_setCell_far _ _ _ _ (by simpa using Ne.symm hne), World.cell?_setCell_far _ _ _ _ (by simpa using Ne.symm hne), World.cell?_setCell_far _ _ _ _ (by simpa using Ne.symm hne), hc]
/-- What drawing all three and a number hands back. -/
def DAt (g N : Nat) (w : World) (e : Ending) (w' : World) : Prop := ∃ v l v2 L, ∃ x : Rc, ∃ k : Int, e = .returned (.tuple #[v, v2, x.val, .int .i64 k]) ∧ x.small ∧ (-10 ≤ k ∧ k ≤ 2000) ∧ ASt w.heap.size g (N + 98) v l v2 L w' ∧ w.grownBy w' (some g)

set_option maxRecDepth 100000 in
set_option maxHeartbeats 8000000 in
theorem specDAt (g N : Nat) (w : World) (h : Rdr w g N) (hN : N ≤ 500) : Calls Try.prog 49 #[.pointer (some ⟨g, 0, none⟩)] w (DAt g N w) := by
  have hg := h.lt
  have hr0 := h.below (((Below.refl _ _).alloc (Nat.le_refl _) _) : Below w.heap.size w (w.alloc (.cells #[.int .i64 0, .int .i64 0, .int .i64 0] 26)))
  have hk0 := Blk.new w 26 #[.int .i64 0, .int .i64 0, .int .i64 0]
  have hg0 : w.grownBy (w.alloc (.cells #[.int .i64 0, .int .i64 0, .int .i64 0] 26)) (some g) := World.grownBy_alloc _ _ _
  have HNE := Lib.hid (show w.heap.size ≠ g by omega)
  go_enter Try.func49, Try.ntmps49
  go_wp2_with fail
  refine (specDAll g N _ hr0 (by omega)).mono ?_
  rintro e w1 ⟨v, l, v2, L, ⟨xa, xj, xs⟩, rfl, hx, hA, hg1⟩
  have hg01 := (hg0.trans hg1).trans (World.grownBy_alloc w1 (.cells #[.int .i64 xa, .int .i64 xj, .int .i64 xs] 26) _)
  have hk1 := (hk0.grown hg1 HNE.out).alloc (.cells #[.int .i64 xa, .int .i64 xj, .int .i64 xs] 26)
  have hm1 := Blk.new w1 26 #[.int .i64 xa, .int .i64 xj, .int .i64 xs]
  have hw01 : w.heap.size < w1.heap.size := (hk0.grown hg1 HNE.out).lt
  rw [World.size_alloc] at hA
  obtain ⟨A1, c1, A2, c2, rfl, rfl, -, h1, h2, h3, h4⟩ := hA.arg
  have hl10 := hA.2.2.2.1
  have HA1 := Lib.hid (hA.below ((Below.refl _ _).alloc (Nat.le_refl _) (.cells #[.int .i64 xa, .int .i64 xj, .int .i64 xs] 26)))
  have HNE1 := Lib.hid (show w1.heap.size ≠ g by omega)
  clear hA hk0 hg0 hr0 hg1
  by_cases hl0 : l.length = 0
  · have e1 : ((l.length : Int) == 0) = true := by simp [hl0]
    have e2 : (l.length == 0) = true := by simp [hl0]
    have HL0 := Lib.hid hl0
    clear hl0
    go_wp2
    generalize w1.alloc (.cells #[.int .i64 xa, .int .i64 xj, .int .i64 xs] 26) = W at *
    have hi0 := hm1.cell 0
    have hi1 := hm1.cell 1
    have hi2 := hm1.cell 2
    simp only [List.getElem?_cons_zero, List.getElem?_cons_succ] at hi0 hi1 hi2
    have HX : BX w g (N + 96) (.slice A1 l.length c1) l (.slice A2 L.length c2) L w.heap.size w1.heap.size _ _ W := ⟨hk1, hm1, HA1.out, hg01⟩
    have hne0 := HNE.out
    have hne1 := HNE1.out
    have hwW : w1.heap.size < W.heap.size := hm1.lt
    have hneW : W.heap.size ≠ g := by omega
    have hnWw : W.heap.size ≠ w.heap.size := by omega
    refine wp_region_held_drew (S := fun w' => w'.cell? ⟨w1.heap.size, 0, none⟩ = some (.int .i64 xa) ∧ w'.cell? ⟨w1.heap.size, 1, none⟩ = some (.int .i64 xj) ∧ w'.cell? ⟨w1.heap.size, 2, none⟩ = some (.int .i64 xs)) (by kernel_rfl) ⟨hi0, hi1, hi2⟩ (fun hHeld => ?_)
    refine wpAnyH_take (i := 0) (v := ?vv1) rfl (by kernel_rfl) (by kernel_rfl) (by kernel_rfl) (fun _ _ _ h => h) (Or.inl ⟨by rfl, ?hy1⟩) (by assumption) ?rest1
    case hy1 => (intro w hSw; (try dsimp only at hSw); (try simp only [List.getElem_toArray, List.getElem_cons_zero, List.getElem_cons_succ]); go_simp <;> with_reducible rfl)
    try simp only [List.getElem_toArray, List.getElem_cons_zero, List.getElem_cons_succ, Act.put, List.setIfInBounds_toArray, List.set_cons_zero, List.set_cons_succ]
    refine wpAnyH_take (i := 1) (v := ?vv2) rfl (by kernel_rfl) (by kernel_rfl) (by kernel_rfl) (fun _ _ _ h => h) (Or.inl ⟨by rfl, ?hy2⟩) (by assumption) ?rest2
    case hy2 => (intro w hSw; (try dsimp only at hSw); (try simp only [List.getElem_toArray, List.getElem_cons_zero, List.getElem_cons_succ]); go_simp <;> with_reducible rfl)
    try simp only [List.getElem_toArray, List.getElem_cons_zero, List.getElem_cons_succ, Act.put, List.setIfInBounds_toArray, List.set_cons_zero, List.set_cons_succ]
    refine wpAnyH_take (i := 2) (v := ?vv3) rfl (by kernel_rfl) (by kernel_rfl) (by kernel_rfl) (fun _ _ _ h => h) (Or.inl ⟨by rfl, ?hy3⟩) (by assumption) ?rest3
    case hy3 => (intro w hSw; (try dsimp only at hSw); (try simp only [List.getElem_toArray, List.getElem_cons_zero, List.getElem_cons_succ]); go_simp <;> with_reducible rfl)
    try simp only [List.getElem_toArray, List.getElem_cons_zero, List.getElem_cons_succ, Act.put, List.setIfInBounds_toArray, List.set_cons_zero, List.set_cons_succ]
    refine wpAnyH_take (i := 3) (v := ?vv4) rfl (by kernel_rfl) (by kernel_rfl) (by kernel_rfl) (fun _ _ _ h => h) (Or.inl ⟨by rfl, ?hy4⟩) (by assumption) ?rest4
    case hy4 => (intro w hSw; (try dsimp only at hSw); (try simp only [List.getElem_toArray, List.getElem_cons_zero, List.getElem_cons_succ]); go_simp <;> with_reducible rfl)
    try simp only [List.getElem_toArray, List.getElem_cons_zero, List.getElem_cons_succ, Act.put, List.setIfInBounds_toArray, List.set_cons_zero, List.set_cons_succ]
    refine wpAnyH_take (i := 4) (v := ?vv5) rfl (by kernel_rfl) (by kernel_rfl) (by kernel_rfl) (fun _ _ _ h => h) (Or.inl ⟨by rfl, ?hy5⟩) (by assumption) ?rest5
    case hy5 => (intro w hSw; (try dsimp only at hSw); (try simp only [List.getElem_toArray, List.getElem_cons_zero, List.getElem_cons_succ]); go_simp <;> with_reducible rfl)
    try simp only [List.getElem_toArray, List.getElem_cons_zero, List.getElem_cons_succ, Act.put, List.setIfInBounds_toArray, List.set_cons_zero, List.set_cons_succ]
    refine wpAnyH_take (i := 6) (v := ?vv6) rfl (by kernel_rfl) (by kernel_rfl) (by kernel_rfl) (fun _ _ _ h => h) (Or.inl ⟨by rfl, ?hy6⟩) (by assumption) ?rest6
    case hy6 => (intro w hSw; (try dsimp only at hSw); (try simp only [List.getElem_toArray, List.getElem_cons_zero, List.getElem_cons_succ]); go_simp <;> with_reducible rfl)
    try simp only [List.getElem_toArray, List.getElem_cons_zero, List.getElem_cons_succ, Act.put, List.setIfInBounds_toArray, List.set_cons_zero, List.set_cons_succ]
    refine wpAnyH_ready (rs := [5,7]) (by kernel_rfl) (by simp) ?_
    refine AllReadyH.cons rfl (fun K hK => ?_) ?_
    · go_simp
      refine hK.out _ _ (((HX.drew.alloc _).inner)) (fun hHeld => ?_)
      clear hK K
      try simp only [List.getElem_toArray, List.getElem_cons_zero, List.getElem_cons_succ, Act.put, List.setIfInBounds_toArray, List.set_cons_zero, List.set_cons_succ]
      have hn1 := Blk.new W.drew 3 #[.int .i64 (-1), .int .i64 (l.length : Int)]
      refine wpAnyH_ready (rs := [7]) (by kernel_rfl) (by simp) ?_
      refine AllReadyH.cons rfl (fun K hK => ?_) AllReadyH.nil
      go_simp
      refine (specPick g (N + 96) 2 _ (HX.drew.alloc _).rdr (by omega) (by omega)).mono ?_
      rintro e w4 ⟨z, rfl, ⟨z0, z1, -⟩, hr4, hgr4, -⟩
      have z1 := z1 (by omega)
      have hn4 := hn1.grown hgr4 hneW
      have HX4 := (HX.drew.alloc _).pick hne0 hne1 hgr4 hr4
      clear hr4 hgr4 hn1
      dsimp only
      refine hK.out _ _ (HX4.inner) (fun hHeld => ?_)
      clear hK K
      try simp only [List.getElem_toArray, List.getElem_cons_zero, List.getElem_cons_succ, Act.put, List.setIfInBounds_toArray, List.set_cons_zero, List.set_cons_succ]
      obtain ⟨kk, hk0, hk9, hck⟩ : ∃ kk : Int, -1 ≤ kk ∧ kk ≤ 10 ∧ w4.cell? ⟨W.heap.size, z.toNat, none⟩ = some (.int .i64 kk) := two_of hn4 z0 z1 (by omega) (by omega) (by omega) (by omega)
      refine wpAnyH_and (T := fun w' => w'.cell? ⟨W.heap.size, z.toNat, none⟩ = some (.int .i64 kk)) ?_
      have hHeld := And.intro hck hHeld
      refine wpAnyH_take (i := 8) (v := ?vv7) rfl (by kernel_rfl) (by kernel_rfl) (by kernel_rfl) (fun _ _ _ h => h) (Or.inl ⟨by rfl, ?hy7⟩) (by assumption) ?rest7
      case hy7 => (intro w hSw; (try dsimp only at hSw); (try simp only [List.getElem_toArray, List.getElem_cons_zero, List.getElem_cons_succ]); go_simp <;> with_reducible rfl)
      try simp only [List.getElem_toArray, List.getElem_cons_zero, List.getElem_cons_succ, Act.put, List.setIfInBounds_toArray, List.set_cons_zero, List.set_cons_succ]
      refine wpAnyH_take (i := 9) (v := ?vv8) rfl (by kernel_rfl) (by kernel_rfl) (by kernel_rfl) (fun _ _ _ h => h) (Or.inl ⟨by rfl, ?hy8⟩) (by assumption) ?rest8
      case hy8 => (intro w hSw; (try dsimp only at hSw); (try simp only [List.getElem_toArray, List.getElem_cons_zero, List.getElem_cons_succ]); go_simp <;> with_reducible rfl)
      try simp only [List.getElem_toArray, List.getElem_cons_zero, List.getElem_cons_succ, Act.put, List.setIfInBounds_toArray, List.set_cons_zero, List.set_cons_succ]
      refine wpAnyH_take (i := 10) (v := ?vv9) rfl (by kernel_rfl) (by kernel_rfl) (by kernel_rfl) (fun _ _ _ h => h) (Or.inl ⟨by rfl, ?hy9⟩) (by assumption) ?rest9
      case hy9 => (intro w hSw; (try dsimp only at hSw); (try simp only [List.getElem_toArray, List.getElem_cons_zero, List.getElem_cons_succ]); go_simp <;> with_reducible rfl)
      try simp only [List.getElem_toArray, List.getElem_cons_zero, List.getElem_cons_succ, Act.put, List.setIfInBounds_toArray, List.set_cons_zero, List.set_cons_succ]
      refine wpAnyH_take (i := 11) (v := ?vv10) rfl (by kernel_rfl) (by kernel_rfl) (by kernel_rfl) (fun _ _ _ h => h) (Or.inl ⟨by rfl, ?hy10⟩) (by assumption) ?rest10
      case hy10 => (intro w hSw; (try dsimp only at hSw); (try simp only [List.getElem_toArray, List.getElem_cons_zero, List.getElem_cons_succ]); go_simp <;> with_reducible rfl)
      try simp only [List.getElem_toArray, List.getElem_cons_zero, List.getElem_cons_succ, Act.put, List.setIfInBounds_toArray, List.set_cons_zero, List.set_cons_succ]
      have hf0 := HX4.1.frozen 0
      have hf1 := HX4.1.frozen 1
      have hf2 := HX4.1.frozen 2
      have ho0 := HX4.1.cell 0
      have ho1 := HX4.1.cell 1
      have ho2 := HX4.1.cell 2
      simp only [List.getElem?_cons_zero, List.getElem?_cons_succ] at ho0 ho1 ho2
      have HX5 := HX4.set3 (.int .i64 xa) (.int .i64 xj) (.int .i64 xs) (by omega) (by omega) (by omega) (by omega)
      refine wpAnyH_ready (rs := [12]) (by kernel_rfl) (by simp) ?_
      refine AllReadyH.cons rfl (fun K hK => ?_) AllReadyH.nil
      go_simp
      refine hK.out _ _ (⟨hn4.other hck hnWw, HX5.inner⟩) (fun hHeld => ?_)
      clear hK K
      try simp only [List.getElem_toArray, List.getElem_cons_zero, List.getElem_cons_succ, Act.put, List.setIfInBounds_toArray, List.set_cons_zero, List.set_cons_succ]
      clear hf0 hf1 hf2 ho0 ho1 ho2
      refine wpAnyH_take (i := 13) (v := ?vv11) rfl (by kernel_rfl) (by kernel_rfl) (by kernel_rfl) (fun _ _ _ h => h) (Or.inl ⟨by rfl, ?hy11⟩) (by assumption) ?rest11
      case hy11 => (intro w hSw; (try dsimp only at hSw); (try simp only [List.getElem_toArray, List.getElem_cons_zero, List.getElem_cons_succ]); go_simp <;> with_reducible rfl)
      try simp only [List.getElem_toArray, List.getElem_cons_zero, List.getElem_cons_succ, Act.put, List.setIfInBounds_toArray, List.set_cons_zero, List.set_cons_succ]
      refine wpAnyH_done (by kernel_rfl) ?_ _
      clear hHeld
      have hq0 := HX5.1.cell 0
      have hq1 := HX5.1.cell 1
      have hq2 := HX5.1.cell 2
      simp only [List.getElem?_cons_zero, List.getElem?_cons_succ] at hq0 hq1 hq2
      go_wp2
      refine bodyPost_ret (v := .tuple #[.slice A1 l.length c1, .slice A2 L.length c2, Rc.val ⟨xa, xj, xs⟩, .int .i64 kk]) ?_ rfl ⟨_, l, _, L, ⟨xa, xj, xs⟩, kk, rfl, hx, by omega, (HX5.2.2.1.weaken (by omega)).mono (by omega), HX5.2.2.2⟩
      simp [results, Try.results49, go_sem, hq0, hq1, hq2]
    refine AllReadyH.cons rfl (fun K hK => ?_) AllReadyH.nil
    · go_simp
      refine (specPick g (N + 96) 2 _ HX.drew.rdr (by omega) (by omega)).mono ?_
      rintro e w4 ⟨z, rfl, ⟨z0, z1, -⟩, hr4, hgr4, hs4'⟩
      have z1 := z1 (by omega)
      have HX4 := HX.drew.pick hne0 hne1 hgr4 hr4
      clear hr4 hgr4
      have hs4 : w4.heap.size = W.heap.size := by simpa using hs4'
      clear hs4'
      dsimp only
      refine hK.out _ _ (HX4.inner) (fun hHeld => ?_)
      clear hK K
      try simp only [List.getElem_toArray, List.getElem_cons_zero, List.getElem_cons_succ, Act.put, List.setIfInBounds_toArray, List.set_cons_zero, List.set_cons_succ]
      refine wpAnyH_take (i := 10) (v := ?vv12) rfl (by kernel_rfl) (by kernel_rfl) (by kernel_rfl) (fun _ _ _ h => h) (Or.inl ⟨by rfl, ?hy12⟩) (by assumption) ?rest12
      case hy12 => (intro w hSw; (try dsimp only at hSw); (try simp only [List.getElem_toArray, List.getElem_cons_zero, List.getElem_cons_succ]); go_simp <;> with_reducible rfl)
      try simp only [List.getElem_toArray, List.getElem_cons_zero, List.getElem_cons_succ, Act.put, List.setIfInBounds_toArray, List.set_cons_zero, List.set_cons_succ]
      refine wpAnyH_take (i := 11) (v := ?vv13) rfl (by kernel_rfl) (by kernel_rfl) (by kernel_rfl) (fun _ _ _ h => h) (Or.inl ⟨by rfl, ?hy13⟩) (by assumption) ?rest13
      case hy13 => (intro w hSw; (try dsimp only at hSw); (try simp only [List.getElem_toArray, List.getElem_cons_zero, List.getElem_cons_succ]); go_simp <;> with_reducible rfl)
      try simp only [List.getElem_toArray, List.getElem_cons_zero, List.getElem_cons_succ, Act.put, List.setIfInBounds_toArray, List.set_cons_zero, List.set_cons_succ]
      refine wpAnyH_ready (rs := [5,12]) (by kernel_rfl) (by simp) ?_
      refine AllReadyH.cons rfl (fun K hK => ?_) ?_
      · go_simp
        refine hK.out _ _ (((HX4.alloc _).inner)) (fun hHeld => ?_)
        clear hK K
        try simp only [List.getElem_toArray, List.getElem_cons_zero, List.getElem_cons_succ, Act.put, List.setIfInBounds_toArray, List.set_cons_zero, List.set_cons_succ]
        have hn4 := Blk.new w4 3 #[.int .i64 (-1), .int .i64 (l.length : Int)]
        have HX4 := HX4.alloc (.cells #[.int .i64 (-1), .int .i64 (l.length : Int)] 3)
        have HS4 := Lib.hid hs4
        clear hs4
        rw [HS4.out] at hn4
        generalize w4.alloc (.cells #[.int .i64 (-1), .int .i64 (l.length : Int)] 3) = w5 at *
        obtain ⟨kk, hk0, hk9, hck⟩ : ∃ kk : Int, -1 ≤ kk ∧ kk ≤ 10 ∧ w5.cell? ⟨W.heap.size, z.toNat, none⟩ = some (.int .i64 kk) := two_of hn4 z0 z1 (by omega) (by omega) (by omega) (by omega)
        refine wpAnyH_and (T := fun w' => w'.cell? ⟨W.heap.size, z.toNat, none⟩ = some (.int .i64 kk)) ?_
        have hHeld := And.intro hck hHeld
        refine wpAnyH_take (i := 8) (v := ?vv14) rfl (by kernel_rfl) (by kernel_rfl) (by kernel_rfl) (fun _ _ _ h => h) (Or.inl ⟨by rfl, ?hy14⟩) (by assumption) ?rest14
        case hy14 => (intro w hSw; (try dsimp only at hSw); (try simp only [List.getElem_toArray, List.getElem_cons_zero, List.getElem_cons_succ]); go_simp <;> with_reducible rfl)
        try simp only [List.getElem_toArray, List.getElem_cons_zero, List.getElem_cons_succ, Act.put, List.setIfInBounds_toArray, List.set_cons_zero, List.set_cons_succ]
        refine wpAnyH_take (i := 9) (v := ?vv15) rfl (by kernel_rfl) (by kernel_rfl) (by kernel_rfl) (fun _ _ _ h => h) (Or.inl ⟨by rfl, ?hy15⟩) (by assumption) ?rest15
        case hy15 => (intro w hSw; (try dsimp only at hSw); (try simp only [List.getElem_toArray, List.getElem_cons_zero, List.getElem_cons_succ]); go_simp <;> with_reducible rfl)
        try simp only [List.getElem_toArray, List.getElem_cons_zero, List.getElem_cons_succ, Act.put, List.setIfInBounds_toArray, List.set_cons_zero, List.set_cons_succ]
        have hf0 := HX4.1.frozen 0
        have hf1 := HX4.1.frozen 1
        have hf2 := HX4.1.frozen 2
        have ho0 := HX4.1.cell 0
        have ho1 := HX4.1.cell 1
        have ho2 := HX4.1.cell 2
        simp only [List.getElem?_cons_zero, List.getElem?_cons_succ] at ho0 ho1 ho2
        have HX5 := HX4.set3 (.int .i64 xa) (.int .i64 xj) (.int .i64 xs) (by omega) (by omega) (by omega) (by omega)
        refine wpAnyH_ready (rs := [12]) (by kernel_rfl) (by simp) ?_
        refine AllReadyH.cons rfl (fun K hK => ?_) AllReadyH.nil
        go_simp
        refine hK.out _ _ (⟨hn4.other hck hnWw, HX5.inner⟩) (fun hHeld => ?_)
        clear hK K
        try simp only [List.getElem_toArray, List.getElem_cons_zero, List.getElem_cons_succ, Act.put, List.setIfInBounds_toArray, List.set_cons_zero, List.set_cons_succ]
        clear hf0 hf1 hf2 ho0 ho1 ho2
        refine wpAnyH_take (i := 13) (v := ?vv16) rfl (by kernel_rfl) (by kernel_rfl) (by kernel_rfl) (fun _ _ _ h => h) (Or.inl ⟨by rfl, ?hy16⟩) (by assumption) ?rest16
        case hy16 => (intro w hSw; (try dsimp only at hSw); (try simp only [List.getElem_toArray, List.getElem_cons_zero, List.getElem_cons_succ]); go_simp <;> with_reducible rfl)
        try simp only [List.getElem_toArray, List.getElem_cons_zero, List.getElem_cons_succ, Act.put, List.setIfInBounds_toArray, List.set_cons_zero, List.set_cons_succ]
        refine wpAnyH_done (by kernel_rfl) ?_ _
        clear hHeld
        have hq0 := HX5.1.cell 0
        have hq1 := HX5.1.cell 1
        have hq2 := HX5.1.cell 2
        simp only [List.getElem?_cons_zero, List.getElem?_cons_succ] at hq0 hq1 hq2
        go_wp2
        refine bodyPost_ret (v := .tuple #[.slice A1 l.length c1, .slice A2 L.length c2, Rc.val ⟨xa, xj, xs⟩, .int .i64 kk]) ?_ rfl ⟨_, l, _, L, ⟨xa, xj, xs⟩, kk, rfl, hx, by omega, (HX5.2.2.1.weaken (by omega)).mono (by omega), HX5.2.2.2⟩
        simp [results, Try.results49, go_sem, hq0, hq1, hq2]
      refine AllReadyH.cons rfl (fun K hK => ?_) AllReadyH.nil
      · skip
        have hf0 := HX4.1.frozen 0
        have hf1 := HX4.1.frozen 1
        have hf2 := HX4.1.frozen 2
        have ho0 := HX4.1.cell 0
        have ho1 := HX4.1.cell 1
        have ho2 := HX4.1.cell 2
        simp only [List.getElem?_cons_zero, List.getElem?_cons_succ] at ho0 ho1 ho2
        have HX5 := HX4.set3 (.int .i64 xa) (.int .i64 xj) (.int .i64 xs) (by omega) (by omega) (by omega) (by omega)
        go_simp
        refine hK.out _ _ (HX5.inner) (fun hHeld => ?_)
        clear hK K
        try simp only [List.getElem_toArray, List.getElem_cons_zero, List.getElem_cons_succ, Act.put, List.setIfInBounds_toArray, List.set_cons_zero, List.set_cons_succ]
        clear hf0 hf1 hf2 ho0 ho1 ho2
        have hs5 : (((w4.setCell ⟨w.heap.size, 0, none⟩ (.int .i64 xa)).setCell ⟨w.heap.size, 1, none⟩ (.int .i64 xj)).setCell ⟨w.heap.size, 2, none⟩ (.int .i64 xs)).heap.size = W.heap.size := by simpa using hs4
        clear hs4
        generalize ((w4.setCell ⟨w.heap.size, 0, none⟩ (.int .i64 xa)).setCell ⟨w.heap.size, 1, none⟩ (.int .i64 xj)).setCell ⟨w.heap.size, 2, none⟩ (.int .i64 xs) = w5 at *
        refine wpAnyH_ready (rs := [5]) (by kernel_rfl) (by simp) ?_
        refine AllReadyH.cons rfl (fun K hK => ?_) AllReadyH.nil
        go_simp
        refine hK.out _ _ (((HX5.alloc _).inner)) (fun hHeld => ?_)
        clear hK K
        try simp only [List.getElem_toArray, List.getElem_cons_zero, List.getElem_cons_succ, Act.put, List.setIfInBounds_toArray, List.set_cons_zero, List.set_cons_succ]
        have hn4 := Blk.new w5 3 #[.int .i64 (-1), .int .i64 (l.length : Int)]
        have HX6 := HX5.alloc (.cells #[.int .i64 (-1), .int .i64 (l.length : Int)] 3)
        rw [hs5] at hn4
        clear hs5
        generalize w5.alloc (.cells #[.int .i64 (-1), .int .i64 (l.length : Int)] 3) = w6 at *
        obtain ⟨kk, hk0, hk9, hck⟩ : ∃ kk : Int, -1 ≤ kk ∧ kk ≤ 10 ∧ w6.cell? ⟨W.heap.size, z.toNat, none⟩ = some (.int .i64 kk) := two_of hn4 z0 z1 (by omega) (by omega) (by omega) (by omega)
        refine wpAnyH_and (T := fun w' => w'.cell? ⟨W.heap.size, z.toNat, none⟩ = some (.int .i64 kk)) ?_
        have hHeld := And.intro hck hHeld
        refine wpAnyH_take (i := 8) (v := ?vv17) rfl (by kernel_rfl) (by kernel_rfl) (by kernel_rfl) (fun _ _ _ h => h) (Or.inl ⟨by rfl, ?hy17⟩) (by assumption) ?rest17
        case hy17 => (intro w hSw; (try dsimp only at hSw); (try simp only [List.getElem_toArray, List.getElem_cons_zero, List.getElem_cons_succ]); go_simp <;> with_reducible rfl)
        try simp only [List.getElem_toArray, List.getElem_cons_zero, List.getElem_cons_succ, Act.put, List.setIfInBounds_toArray, List.set_cons_zero, List.set_cons_succ]
        refine wpAnyH_take (i := 9) (v := ?vv18) rfl (by kernel_rfl) (by kernel_rfl) (by kernel_rfl) (fun _ _ _ h => h) (Or.inl ⟨by rfl, ?hy18⟩) (by assumption) ?rest18
        case hy18 => (intro w hSw; (try dsimp only at hSw); (try simp only [List.getElem_toArray, List.getElem_cons_zero, List.getElem_cons_succ]); go_simp <;> with_reducible rfl)
        try simp only [List.getElem_toArray, List.getElem_cons_zero, List.getElem_cons_succ, Act.put, List.setIfInBounds_toArray, List.set_cons_zero, List.set_cons_succ]
        refine wpAnyH_take (i := 13) (v := ?vv19) rfl (by kernel_rfl) (by kernel_rfl) (by kernel_rfl) (fun _ _ _ h => h) (Or.inl ⟨by rfl, ?hy19⟩) (by assumption) ?rest19
        case hy19 => (intro w hSw; (try dsimp only at hSw); (try simp only [List.getElem_toArray, List.getElem_cons_zero, List.getElem_cons_succ]); go_simp <;> with_reducible rfl)
        try simp only [List.getElem_toArray, List.getElem_cons_zero, List.getElem_cons_succ, Act.put, List.setIfInBounds_toArray, List.set_cons_zero, List.set_cons_succ]
        refine wpAnyH_done (by kernel_rfl) ?_ _
        clear hHeld
        have hq0 := HX6.1.cell 0
        have hq1 := HX6.1.cell 1
        have hq2 := HX6.1.cell 2
        simp only [List.getElem?_cons_zero, List.getElem?_cons_succ] at hq0 hq1 hq2
        go_wp2
        refine bodyPost_ret (v := .tuple #[.slice A1 l.length c1, .slice A2 L.length c2, Rc.val ⟨xa, xj, xs⟩, .int .i64 kk]) ?_ rfl ⟨_, l, _, L, ⟨xa, xj, xs⟩, kk, rfl, hx, by omega, (HX6.2.2.1.weaken (by omega)).mono (by omega), HX6.2.2.2⟩
        simp [results, Try.results49, go_sem, hq0, hq1, hq2]
  · have e1 : ((l.length : Int) == 0) = false := beq_eq_false_iff_ne.2 (by omega)
    have e2 : (l.length == 0) = false := beq_eq_false_iff_ne.2 (by omega)
    have hl1 : 1 ≤ l.length := by omega
    clear hl0
    go_wp2_with fail
    refine (specPick g (N + 96) 24 _ HA1.out.2.2.1 (by omega) (by omega)).mono ?_
    rintro e W ⟨z24, rfl, -, hrW, hgW, -⟩
    have hg01 := hg01.trans hgW
    have hk1 := hk1.grown hgW HNE.out
    have hm1 := hm1.grown hgW HNE1.out
    have HA1 := Lib.hid (HA1.out.pick (by omega) hgW hrW)
    clear hrW hgW
    by_cases hz24 : z24 = 0
    · subst hz24
      go_wp2
      have hi0 := hm1.cell 0
      have hi1 := hm1.cell 1
      have hi2 := hm1.cell 2
      simp only [List.getElem?_cons_zero, List.getElem?_cons_succ] at hi0 hi1 hi2
      have HX : BX w g (N + 96 + 1) (.slice A1 l.length c1) l (.slice A2 L.length c2) L w.heap.size w1.heap.size _ _ W := ⟨hk1, hm1, HA1.out, hg01⟩
      have hne0 := HNE.out
      have hne1 := HNE1.out
      have hwW : w1.heap.size < W.heap.size := hm1.lt
      have hneW : W.heap.size ≠ g := by omega
      have hnWw : W.heap.size ≠ w.heap.size := by omega
      refine wp_region_held_drew (S := fun w' => w'.cell? ⟨w1.heap.size, 0, none⟩ = some (.int .i64 xa) ∧ w'.cell? ⟨w1.heap.size, 1, none⟩ = some (.int .i64 xj) ∧ w'.cell? ⟨w1.heap.size, 2, none⟩ = some (.int .i64 xs)) (by kernel_rfl) ⟨hi0, hi1, hi2⟩ (fun hHeld => ?_)
      refine wpAnyH_take (i := 0) (v := ?vv20) rfl (by kernel_rfl) (by kernel_rfl) (by kernel_rfl) (fun _ _ _ h => h) (Or.inl ⟨by rfl, ?hy20⟩) (by assumption) ?rest20
      case hy20 => (intro w hSw; (try dsimp only at hSw); (try simp only [List.getElem_toArray, List.getElem_cons_zero, List.getElem_cons_succ]); go_simp <;> with_reducible rfl)
      try simp only [List.getElem_toArray, List.getElem_cons_zero, List.getElem_cons_succ, Act.put, List.setIfInBounds_toArray, List.set_cons_zero, List.set_cons_succ]
      refine wpAnyH_take (i := 1) (v := ?vv21) rfl (by kernel_rfl) (by kernel_rfl) (by kernel_rfl) (fun _ _ _ h => h) (Or.inl ⟨by rfl, ?hy21⟩) (by assumption) ?rest21
      case hy21 => (intro w hSw; (try dsimp only at hSw); (try simp only [List.getElem_toArray, List.getElem_cons_zero, List.getElem_cons_succ]); go_simp <;> with_reducible rfl)
      try simp only [List.getElem_toArray, List.getElem_cons_zero, List.getElem_cons_succ, Act.put, List.setIfInBounds_toArray, List.set_cons_zero, List.set_cons_succ]
      refine wpAnyH_take (i := 2) (v := ?vv22) rfl (by kernel_rfl) (by kernel_rfl) (by kernel_rfl) (fun _ _ _ h => h) (Or.inl ⟨by rfl, ?hy22⟩) (by assumption) ?rest22
      case hy22 => (intro w hSw; (try dsimp only at hSw); (try simp only [List.getElem_toArray, List.getElem_cons_zero, List.getElem_cons_succ]); go_simp <;> with_reducible rfl)
      try simp only [List.getElem_toArray, List.getElem_cons_zero, List.getElem_cons_succ, Act.put, List.setIfInBounds_toArray, List.set_cons_zero, List.set_cons_succ]
      refine wpAnyH_take (i := 3) (v := ?vv23) rfl (by kernel_rfl) (by kernel_rfl) (by kernel_rfl) (fun _ _ _ h => h) (Or.inl ⟨by rfl, ?hy23⟩) (by assumption) ?rest23
      case hy23 => (intro w hSw; (try dsimp only at hSw); (try simp only [List.getElem_toArray, List.getElem_cons_zero, List.getElem_cons_succ]); go_simp <;> with_reducible rfl)
      try simp only [List.getElem_toArray, List.getElem_cons_zero, List.getElem_cons_succ, Act.put, List.setIfInBounds_toArray, List.set_cons_zero, List.set_cons_succ]
      refine wpAnyH_take (i := 4) (v := ?vv24) rfl (by kernel_rfl) (by kernel_rfl) (by kernel_rfl) (fun _ _ _ h => h) (Or.inl ⟨by rfl, ?hy24⟩) (by assumption) ?rest24
      case hy24 => (intro w hSw; (try dsimp only at hSw); (try simp only [List.getElem_toArray, List.getElem_cons_zero, List.getElem_cons_succ]); go_simp <;> with_reducible rfl)
      try simp only [List.getElem_toArray, List.getElem_cons_zero, List.getElem_cons_succ, Act.put, List.setIfInBounds_toArray, List.set_cons_zero, List.set_cons_succ]
      refine wpAnyH_take (i := 6) (v := ?vv25) rfl (by kernel_rfl) (by kernel_rfl) (by kernel_rfl) (fun _ _ _ h => h) (Or.inl ⟨by rfl, ?hy25⟩) (by assumption) ?rest25
      case hy25 => (intro w hSw; (try dsimp only at hSw); (try simp only [List.getElem_toArray, List.getElem_cons_zero, List.getElem_cons_succ]); go_simp <;> with_reducible rfl)
      try simp only [List.getElem_toArray, List.getElem_cons_zero, List.getElem_cons_succ, Act.put, List.setIfInBounds_toArray, List.set_cons_zero, List.set_cons_succ]
      refine wpAnyH_ready (rs := [5,7]) (by kernel_rfl) (by simp) ?_
      refine AllReadyH.cons rfl (fun K hK => ?_) ?_
      · go_simp
        refine hK.out _ _ (((HX.drew.alloc _).inner)) (fun hHeld => ?_)
        clear hK K
        try simp only [List.getElem_toArray, List.getElem_cons_zero, List.getElem_cons_succ, Act.put, List.setIfInBounds_toArray, List.set_cons_zero, List.set_cons_succ]
        have hn1 := Blk.new W.drew 3 #[.int .i64 (-1), .int .i64 (l.length : Int)]
        refine wpAnyH_ready (rs := [7]) (by kernel_rfl) (by simp) ?_
        refine AllReadyH.cons rfl (fun K hK => ?_) AllReadyH.nil
        go_simp
        refine (specPick g (N + 96 + 1) 2 _ (HX.drew.alloc _).rdr (by omega) (by omega)).mono ?_
        rintro e w4 ⟨z, rfl, ⟨z0, z1, -⟩, hr4, hgr4, -⟩
        have z1 := z1 (by omega)
        have hn4 := hn1.grown hgr4 hneW
        have HX4 := (HX.drew.alloc _).pick hne0 hne1 hgr4 hr4
        clear hr4 hgr4 hn1
        dsimp only
        refine hK.out _ _ (HX4.inner) (fun hHeld => ?_)
        clear hK K
        try simp only [List.getElem_toArray, List.getElem_cons_zero, List.getElem_cons_succ, Act.put, List.setIfInBounds_toArray, List.set_cons_zero, List.set_cons_succ]
        obtain ⟨kk, hk0, hk9, hck⟩ : ∃ kk : Int, -1 ≤ kk ∧ kk ≤ 10 ∧ w4.cell? ⟨W.heap.size, z.toNat, none⟩ = some (.int .i64 kk) := two_of hn4 z0 z1 (by omega) (by omega) (by omega) (by omega)
        refine wpAnyH_and (T := fun w' => w'.cell? ⟨W.heap.size, z.toNat, none⟩ = some (.int .i64 kk)) ?_
        have hHeld := And.intro hck hHeld
        refine wpAnyH_take (i := 8) (v := ?vv26) rfl (by kernel_rfl) (by kernel_rfl) (by kernel_rfl) (fun _ _ _ h => h) (Or.inl ⟨by rfl, ?hy26⟩) (by assumption) ?rest26
        case hy26 => (intro w hSw; (try dsimp only at hSw); (try simp only [List.getElem_toArray, List.getElem_cons_zero, List.getElem_cons_succ]); go_simp <;> with_reducible rfl)
        try simp only [List.getElem_toArray, List.getElem_cons_zero, List.getElem_cons_succ, Act.put, List.setIfInBounds_toArray, List.set_cons_zero, List.set_cons_succ]
        refine wpAnyH_take (i := 9) (v := ?vv27) rfl (by kernel_rfl) (by kernel_rfl) (by kernel_rfl) (fun _ _ _ h => h) (Or.inl ⟨by rfl, ?hy27⟩) (by assumption) ?rest27
        case hy27 => (intro w hSw; (try dsimp only at hSw); (try simp only [List.getElem_toArray, List.getElem_cons_zero, List.getElem_cons_succ]); go_simp <;> with_reducible rfl)
        try simp only [List.getElem_toArray, List.getElem_cons_zero, List.getElem_cons_succ, Act.put, List.setIfInBounds_toArray, List.set_cons_zero, List.set_cons_succ]
        refine wpAnyH_take (i := 10) (v := ?vv28) rfl (by kernel_rfl) (by kernel_rfl) (by kernel_rfl) (fun _ _ _ h => h) (Or.inl ⟨by rfl, ?hy28⟩) (by assumption) ?rest28
        case hy28 => (intro w hSw; (try dsimp only at hSw); (try simp only [List.getElem_toArray, List.getElem_cons_zero, List.getElem_cons_succ]); go_simp <;> with_reducible rfl)
        try simp only [List.getElem_toArray, List.getElem_cons_zero, List.getElem_cons_succ, Act.put, List.setIfInBounds_toArray, List.set_cons_zero, List.set_cons_succ]
        refine wpAnyH_take (i := 11) (v := ?vv29) rfl (by kernel_rfl) (by kernel_rfl) (by kernel_rfl) (fun _ _ _ h => h) (Or.inl ⟨by rfl, ?hy29⟩) (by assumption) ?rest29
        case hy29 => (intro w hSw; (try dsimp only at hSw); (try simp only [List.getElem_toArray, List.getElem_cons_zero, List.getElem_cons_succ]); go_simp <;> with_reducible rfl)
        try simp only [List.getElem_toArray, List.getElem_cons_zero, List.getElem_cons_succ, Act.put, List.setIfInBounds_toArray, List.set_cons_zero, List.set_cons_succ]
        have hf0 := HX4.1.frozen 0
        have hf1 := HX4.1.frozen 1
        have hf2 := HX4.1.frozen 2
        have ho0 := HX4.1.cell 0
        have ho1 := HX4.1.cell 1
        have ho2 := HX4.1.cell 2
        simp only [List.getElem?_cons_zero, List.getElem?_cons_succ] at ho0 ho1 ho2
        have HX5 := HX4.set3 (.int .i64 xa) (.int .i64 xj) (.int .i64 xs) (by omega) (by omega) (by omega) (by omega)
        refine wpAnyH_ready (rs := [12]) (by kernel_rfl) (by simp) ?_
        refine AllReadyH.cons rfl (fun K hK => ?_) AllReadyH.nil
        go_simp
        refine hK.out _ _ (⟨hn4.other hck hnWw, HX5.inner⟩) (fun hHeld => ?_)
        clear hK K
        try simp only [List.getElem_toArray, List.getElem_cons_zero, List.getElem_cons_succ, Act.put, List.setIfInBounds_toArray, List.set_cons_zero, List.set_cons_succ]
        clear hf0 hf1 hf2 ho0 ho1 ho2
        refine wpAnyH_take (i := 13) (v := ?vv30) rfl (by kernel_rfl) (by kernel_rfl) (by kernel_rfl) (fun _ _ _ h => h) (Or.inl ⟨by rfl, ?hy30⟩) (by assumption) ?rest30
        case hy30 => (intro w hSw; (try dsimp only at hSw); (try simp only [List.getElem_toArray, List.getElem_cons_zero, List.getElem_cons_succ]); go_simp <;> with_reducible rfl)
        try simp only [List.getElem_toArray, List.getElem_cons_zero, List.getElem_cons_succ, Act.put, List.setIfInBounds_toArray, List.set_cons_zero, List.set_cons_succ]
        refine wpAnyH_done (by kernel_rfl) ?_ _
        clear hHeld
        have hq0 := HX5.1.cell 0
        have hq1 := HX5.1.cell 1
        have hq2 := HX5.1.cell 2
        simp only [List.getElem?_cons_zero, List.getElem?_cons_succ] at hq0 hq1 hq2
        go_wp2
        refine bodyPost_ret (v := .tuple #[.slice A1 l.length c1, .slice A2 L.length c2, Rc.val ⟨xa, xj, xs⟩, .int .i64 kk]) ?_ rfl ⟨_, l, _, L, ⟨xa, xj, xs⟩, kk, rfl, hx, by omega, (HX5.2.2.1.weaken (by omega)).mono (by omega), HX5.2.2.2⟩
        simp [results, Try.results49, go_sem, hq0, hq1, hq2]
      refine AllReadyH.cons rfl (fun K hK => ?_) AllReadyH.nil
      · go_simp
        refine (specPick g (N + 96 + 1) 2 _ HX.drew.rdr (by omega) (by omega)).mono ?_
        rintro e w4 ⟨z, rfl, ⟨z0, z1, -⟩, hr4, hgr4, hs4'⟩
        have z1 := z1 (by omega)
        have HX4 := HX.drew.pick hne0 hne1 hgr4 hr4
        clear hr4 hgr4
        have hs4 : w4.heap.size = W.heap.size := by simpa using hs4'
        clear hs4'
        dsimp only
        refine hK.out _ _ (HX4.inner) (fun hHeld => ?_)
        clear hK K
        try simp only [List.getElem_toArray, List.getElem_cons_zero, List.getElem_cons_succ, Act.put, List.setIfInBounds_toArray, List.set_cons_zero, List.set_cons_succ]
        refine wpAnyH_take (i := 10) (v := ?vv31) rfl (by kernel_rfl) (by kernel_rfl) (by kernel_rfl) (fun _ _ _ h => h) (Or.inl ⟨by rfl, ?hy31⟩) (by assumption) ?rest31
        case hy31 => (intro w hSw; (try dsimp only at hSw); (try simp only [List.getElem_toArray, List.getElem_cons_zero, List.getElem_cons_succ]); go_simp <;> with_reducible rfl)
        try simp only [List.getElem_toArray, List.getElem_cons_zero, List.getElem_cons_succ, Act.put, List.setIfInBounds_toArray, List.set_cons_zero, List.set_cons_succ]
        refine wpAnyH_take (i := 11) (v := ?vv32) rfl (by kernel_rfl) (by kernel_rfl) (by kernel_rfl) (fun _ _ _ h => h) (Or.inl ⟨by rfl, ?hy32⟩) (by assumption) ?rest32
        case hy32 => (intro w hSw; (try dsimp only at hSw); (try simp only [List.getElem_toArray, List.getElem_cons_zero, List.getElem_cons_succ]); go_simp <;> with_reducible rfl)
        try simp only [List.getElem_toArray, List.getElem_cons_zero, List.getElem_cons_succ, Act.put, List.setIfInBounds_toArray, List.set_cons_zero, List.set_cons_succ]
        refine wpAnyH_ready (rs := [5,12]) (by kernel_rfl) (by simp) ?_
        refine AllReadyH.cons rfl (fun K hK => ?_) ?_
        · go_simp
          refine hK.out _ _ (((HX4.alloc _).inner)) (fun hHeld => ?_)
          clear hK K
          try simp only [List.getElem_toArray, List.getElem_cons_zero, List.getElem_cons_succ, Act.put, List.setIfInBounds_toArray, List.set_cons_zero, List.set_cons_succ]
          have hn4 := Blk.new w4 3 #[.int .i64 (-1), .int .i64 (l.length : Int)]
          have HX4 := HX4.alloc (.cells #[.int .i64 (-1), .int .i64 (l.length : Int)] 3)
          have HS4 := Lib.hid hs4
          clear hs4
          rw [HS4.out] at hn4
          generalize w4.alloc (.cells #[.int .i64 (-1), .int .i64 (l.length : Int)] 3) = w5 at *
          obtain ⟨kk, hk0, hk9, hck⟩ : ∃ kk : Int, -1 ≤ kk ∧ kk ≤ 10 ∧ w5.cell? ⟨W.heap.size, z.toNat, none⟩ = some (.int .i64 kk) := two_of hn4 z0 z1 (by omega) (by omega) (by omega) (by omega)
          refine wpAnyH_and (T := fun w' => w'.cell? ⟨W.heap.size, z.toNat, none⟩ = some (.int .i64 kk)) ?_
          have hHeld := And.intro hck hHeld
          refine wpAnyH_take (i := 8) (v := ?vv33) rfl (by kernel_rfl) (by kernel_rfl) (by kernel_rfl) (fun _ _ _ h => h) (Or.inl ⟨by rfl, ?hy33⟩) (by assumption) ?rest33
          case hy33 => (intro w hSw; (try dsimp only at hSw); (try simp only [List.getElem_toArray, List.getElem_cons_zero, List.getElem_cons_succ]); go_simp <;> with_reducible rfl)
          try simp only [List.getElem_toArray, List.getElem_cons_zero, List.getElem_cons_succ, Act.put, List.setIfInBounds_toArray, List.set_cons_zero, List.set_cons_succ]
          refine wpAnyH_take (i := 9) (v := ?vv34) rfl (by kernel_rfl) (by kernel_rfl) (by kernel_rfl) (fun _ _ _ h => h) (Or.inl ⟨by rfl, ?hy34⟩) (by assumption) ?rest34
          case hy34 => (intro w hSw; (try dsimp only at hSw); (try simp only [List.getElem_toArray, List.getElem_cons_zero, List.getElem_cons_succ]); go_simp <;> with_reducible rfl)
          try simp only [List.getElem_toArray, List.getElem_cons_zero, List.getElem_cons_succ, Act.put, List.setIfInBounds_toArray, List.set_cons_zero, List.set_cons_succ]
          have hf0 := HX4.1.frozen 0
          have hf1 := HX4.1.frozen 1
          have hf2 := HX4.1.frozen 2
          have ho0 := HX4.1.cell 0
          have ho1 := HX4.1.cell 1
          have ho2 := HX4.1.cell 2
          simp only [List.getElem?_cons_zero, List.getElem?_cons_succ] at ho0 ho1 ho2
          have HX5 := HX4.set3 (.int .i64 xa) (.int .i64 xj) (.int .i64 xs) (by omega) (by omega) (by omega) (by omega)
          refine wpAnyH_ready (rs := [12]) (by kernel_rfl) (by simp) ?_
          refine AllReadyH.cons rfl (fun K hK => ?_) AllReadyH.nil
          go_simp
          refine hK.out _ _ (⟨hn4.other hck hnWw, HX5.inner⟩) (fun hHeld => ?_)
          clear hK K
          try simp only [List.getElem_toArray, List.getElem_cons_zero, List.getElem_cons_succ, Act.put, List.setIfInBounds_toArray, List.set_cons_zero, List.set_cons_succ]
          clear hf0 hf1 hf2 ho0 ho1 ho2
          refine wpAnyH_take (i := 13) (v := ?vv35) rfl (by kernel_rfl) (by kernel_rfl) (by kernel_rfl) (fun _ _ _ h => h) (Or.inl ⟨by rfl, ?hy35⟩) (by assumption) ?rest35
          case hy35 => (intro w hSw; (try dsimp only at hSw); (try simp only [List.getElem_toArray, List.getElem_cons_zero, List.getElem_cons_succ]); go_simp <;> with_reducible rfl)
          try simp only [List.getElem_toArray, List.getElem_cons_zero, List.getElem_cons_succ, Act.put, List.setIfInBounds_toArray, List.set_cons_zero, List.set_cons_succ]
          refine wpAnyH_done (by kernel_rfl) ?_ _
          clear hHeld
          have hq0 := HX5.1.cell 0
          have hq1 := HX5.1.cell 1
          have hq2 := HX5.1.cell 2
          simp only [List.getElem?_cons_zero, List.getElem?_cons_succ] at hq0 hq1 hq2
          go_wp2
          refine bodyPost_ret (v := .tuple #[.slice A1 l.length c1, .slice A2 L.length c2, Rc.val ⟨xa, xj, xs⟩, .int .i64 kk]) ?_ rfl ⟨_, l, _, L, ⟨xa, xj, xs⟩, kk, rfl, hx, by omega, (HX5.2.2.1.weaken (by omega)).mono (by omega), HX5.2.2.2⟩
          simp [results, Try.results49, go_sem, hq0, hq1, hq2]
        refine AllReadyH.cons rfl (fun K hK => ?_) AllReadyH.nil
        · skip
          have hf0 := HX4.1.frozen 0
          have hf1 := HX4.1.frozen 1
          have hf2 := HX4.1.frozen 2
          have ho0 := HX4.1.cell 0
          have ho1 := HX4.1.cell 1
          have ho2 := HX4.1.cell 2
          simp only [List.getElem?_cons_zero, List.getElem?_cons_succ] at ho0 ho1 ho2
          have HX5 := HX4.set3 (.int .i64 xa) (.int .i64 xj) (.int .i64 xs) (by omega) (by omega) (by omega) (by omega)
          go_simp
          refine hK.out _ _ (HX5.inner) (fun hHeld => ?_)
          clear hK K
          try simp only [List.getElem_toArray, List.getElem_cons_zero, List.getElem_cons_succ, Act.put, List.setIfInBounds_toArray, List.set_cons_zero, List.set_cons_succ]
          clear hf0 hf1 hf2 ho0 ho1 ho2
          have hs5 : (((w4.setCell ⟨w.heap.size, 0, none⟩ (.int .i64 xa)).setCell ⟨w.heap.size, 1, none⟩ (.int .i64 xj)).setCell ⟨w.heap.size, 2, none⟩ (.int .i64 xs)).heap.size = W.heap.size := by simpa using hs4
          clear hs4
          generalize ((w4.setCell ⟨w.heap.size, 0, none⟩ (.int .i64 xa)).setCell ⟨w.heap.size, 1, none⟩ (.int .i64 xj)).setCell ⟨w.heap.size, 2, none⟩ (.int .i64 xs) = w5 at *
          refine wpAnyH_ready (rs := [5]) (by kernel_rfl) (by simp) ?_
          refine AllReadyH.cons rfl (fun K hK => ?_) AllReadyH.nil
          go_simp
          refine hK.out _ _ (((HX5.alloc _).inner)) (fun hHeld => ?_)
          clear hK K
          try simp only [List.getElem_toArray, List.getElem_cons_zero, List.getElem_cons_succ, Act.put, List.setIfInBounds_toArray, List.set_cons_zero, List.set_cons_succ]
          have hn4 := Blk.new w5 3 #[.int .i64 (-1), .int .i64 (l.length : Int)]
          have HX6 := HX5.alloc (.cells #[.int .i64 (-1), .int .i64 (l.length : Int)] 3)
          rw [hs5] at hn4
          clear hs5
          generalize w5.alloc (.cells #[.int .i64 (-1), .int .i64 (l.length : Int)] 3) = w6 at *
          obtain ⟨kk, hk0, hk9, hck⟩ : ∃ kk : Int, -1 ≤ kk ∧ kk ≤ 10 ∧ w6.cell? ⟨W.heap.size, z.toNat, none⟩ = some (.int .i64 kk) := two_of hn4 z0 z1 (by omega) (by omega) (by omega) (by omega)
          refine wpAnyH_and (T := fun w' => w'.cell? ⟨W.heap.size, z.toNat, none⟩ = some (.int .i64 kk)) ?_
          have hHeld := And.intro hck hHeld
          refine wpAnyH_take (i := 8) (v := ?vv36) rfl (by kernel_rfl) (by kernel_rfl) (by kernel_rfl) (fun _ _ _ h => h) (Or.inl ⟨by rfl, ?hy36⟩) (by assumption) ?rest36
          case hy36 => (intro w hSw; (try dsimp only at hSw); (try simp only [List.getElem_toArray, List.getElem_cons_zero, List.getElem_cons_succ]); go_simp <;> with_reducible rfl)
          try simp only [List.getElem_toArray, List.getElem_cons_zero, List.getElem_cons_succ, Act.put, List.setIfInBounds_toArray, List.set_cons_zero, List.set_cons_succ]
          refine wpAnyH_take (i := 9) (v := ?vv37) rfl (by kernel_rfl) (by kernel_rfl) (by kernel_rfl) (fun _ _ _ h => h) (Or.inl ⟨by rfl, ?hy37⟩) (by assumption) ?rest37
          case hy37 => (intro w hSw; (try dsimp only at hSw); (try simp only [List.getElem_toArray, List.getElem_cons_zero, List.getElem_cons_succ]); go_simp <;> with_reducible rfl)
          try simp only [List.getElem_toArray, List.getElem_cons_zero, List.getElem_cons_succ, Act.put, List.setIfInBounds_toArray, List.set_cons_zero, List.set_cons_succ]
          refine wpAnyH_take (i := 13) (v := ?vv38) rfl (by kernel_rfl) (by kernel_rfl) (by kernel_rfl) (fun _ _ _ h => h) (Or.inl ⟨by rfl, ?hy38⟩) (by assumption) ?rest38
          case hy38 => (intro w hSw; (try dsimp only at hSw); (try simp only [List.getElem_toArray, List.getElem_cons_zero, List.getElem_cons_succ]); go_simp <;> with_reducible rfl)
          try simp only [List.getElem_toArray, List.getElem_cons_zero, List.getElem_cons_succ, Act.put, List.setIfInBounds_toArray, List.set_cons_zero, List.set_cons_succ]
          refine wpAnyH_done (by kernel_rfl) ?_ _
          clear hHeld
          have hq0 := HX6.1.cell 0
          have hq1 := HX6.1.cell 1
          have hq2 := HX6.1.cell 2
          simp only [List.getElem?_cons_zero, List.getElem?_cons_succ] at hq0 hq1 hq2
          go_wp2
          refine bodyPost_ret (v := .tuple #[.slice A1 l.length c1, .slice A2 L.length c2, Rc.val ⟨xa, xj, xs⟩, .int .i64 kk]) ?_ rfl ⟨_, l, _, L, ⟨xa, xj, xs⟩, kk, rfl, hx, by omega, (HX6.2.2.1.weaken (by omega)).mono (by omega), HX6.2.2.2⟩
          simp [results, Try.results49, go_sem, hq0, hq1, hq2]
    · have hz24' : (z24 == 0) = false := beq_eq_false_iff_ne.2 hz24
      go_wp2
      have hi0 := hm1.cell 0
      have hi1 := hm1.cell 1
      have hi2 := hm1.cell 2
      simp only [List.getElem?_cons_zero, List.getElem?_cons_succ] at hi0 hi1 hi2
      have HX : BX w g (N + 96 + 1) (.slice A1 l.length c1) l (.slice A2 L.length c2) L w.heap.size w1.heap.size _ _ W := ⟨hk1, hm1, HA1.out, hg01⟩
      have hne0 := HNE.out
      have hne1 := HNE1.out
      refine wp_region_held_drew (S := fun w' => w'.cell? ⟨w1.heap.size, 0, none⟩ = some (.int .i64 xa) ∧ w'.cell? ⟨w1.heap.size, 1, none⟩ = some (.int .i64 xj) ∧ w'.cell? ⟨w1.heap.size, 2, none⟩ = some (.int .i64 xs)) (by kernel_rfl) ⟨hi0, hi1, hi2⟩ (fun hHeld => ?_)
      refine wpAnyH_take (i := 0) (v := ?vv39) rfl (by kernel_rfl) (by kernel_rfl) (by kernel_rfl) (fun _ _ _ h => h) (Or.inl ⟨by rfl, ?hy39⟩) (by assumption) ?rest39
      case hy39 => (intro w hSw; (try dsimp only at hSw); (try simp only [List.getElem_toArray, List.getElem_cons_zero, List.getElem_cons_succ]); go_simp <;> with_reducible rfl)
      try simp only [List.getElem_toArray, List.getElem_cons_zero, List.getElem_cons_succ, Act.put, List.setIfInBounds_toArray, List.set_cons_zero, List.set_cons_succ]
      refine wpAnyH_take (i := 1) (v := ?vv40) rfl (by kernel_rfl) (by kernel_rfl) (by kernel_rfl) (fun _ _ _ h => h) (Or.inl ⟨by rfl, ?hy40⟩) (by assumption) ?rest40
      case hy40 => (intro w hSw; (try dsimp only at hSw); (try simp only [List.getElem_toArray, List.getElem_cons_zero, List.getElem_cons_succ]); go_simp <;> with_reducible rfl)
      try simp only [List.getElem_toArray, List.getElem_cons_zero, List.getElem_cons_succ, Act.put, List.setIfInBounds_toArray, List.set_cons_zero, List.set_cons_succ]
      refine wpAnyH_take (i := 2) (v := ?vv41) rfl (by kernel_rfl) (by kernel_rfl) (by kernel_rfl) (fun _ _ _ h => h) (Or.inl ⟨by rfl, ?hy41⟩) (by assumption) ?rest41
      case hy41 => (intro w hSw; (try dsimp only at hSw); (try simp only [List.getElem_toArray, List.getElem_cons_zero, List.getElem_cons_succ]); go_simp <;> with_reducible rfl)
      try simp only [List.getElem_toArray, List.getElem_cons_zero, List.getElem_cons_succ, Act.put, List.setIfInBounds_toArray, List.set_cons_zero, List.set_cons_succ]
      refine wpAnyH_take (i := 3) (v := ?vv42) rfl (by kernel_rfl) (by kernel_rfl) (by kernel_rfl) (fun _ _ _ h => h) (Or.inl ⟨by rfl, ?hy42⟩) (by assumption) ?rest42
      case hy42 => (intro w hSw; (try dsimp only at hSw); (try simp only [List.getElem_toArray, List.getElem_cons_zero, List.getElem_cons_succ]); go_simp <;> with_reducible rfl)
      try simp only [List.getElem_toArray, List.getElem_cons_zero, List.getElem_cons_succ, Act.put, List.setIfInBounds_toArray, List.set_cons_zero, List.set_cons_succ]
      refine wpAnyH_take (i := 4) (v := ?vv43) rfl (by kernel_rfl) (by kernel_rfl) (by kernel_rfl) (fun _ _ _ h => h) (Or.inl ⟨by rfl, ?hy43⟩) (by assumption) ?rest43
      case hy43 => (intro w hSw; (try dsimp only at hSw); (try simp only [List.getElem_toArray, List.getElem_cons_zero, List.getElem_cons_succ]); go_simp <;> with_reducible rfl)
      try simp only [List.getElem_toArray, List.getElem_cons_zero, List.getElem_cons_succ, Act.put, List.setIfInBounds_toArray, List.set_cons_zero, List.set_cons_succ]
      refine wpAnyH_take (i := 5) (v := ?vv44) rfl (by kernel_rfl) (by kernel_rfl) (by kernel_rfl) (fun _ _ _ h => h) (Or.inl ⟨by rfl, ?hy44⟩) (by assumption) ?rest44
      case hy44 => (intro w hSw; (try dsimp only at hSw); (try simp only [List.getElem_toArray, List.getElem_cons_zero, List.getElem_cons_succ]); go_simp <;> with_reducible rfl)
      try simp only [List.getElem_toArray, List.getElem_cons_zero, List.getElem_cons_succ, Act.put, List.setIfInBounds_toArray, List.set_cons_zero, List.set_cons_succ]
      refine wpAnyH_ready (rs := [6]) (by kernel_rfl) (by simp) ?_
      refine AllReadyH.cons rfl (fun K hK => ?_) AllReadyH.nil
      go_simp
      refine (specPick g (N + 96 + 1) (l.length : Int) _ HX.drew.rdr (by omega) (by omega)).mono ?_
      rintro e w4 ⟨kk, rfl, ⟨z0, z1, -⟩, hr4, hgr4, -⟩
      have z1 := z1 (by omega)
      have HX4 := HX.drew.pick hne0 hne1 hgr4 hr4
      clear hr4 hgr4
      dsimp only
      refine hK.out _ _ (HX4.inner) (fun hHeld => ?_)
      clear hK K
      try simp only [List.getElem_toArray, List.getElem_cons_zero, List.getElem_cons_succ, Act.put, List.setIfInBounds_toArray, List.set_cons_zero, List.set_cons_succ]
      refine wpAnyH_take (i := 7) (v := ?vv45) rfl (by kernel_rfl) (by kernel_rfl) (by kernel_rfl) (fun _ _ _ h => h) (Or.inl ⟨by rfl, ?hy45⟩) (by assumption) ?rest45
      case hy45 => (intro w hSw; (try dsimp only at hSw); (try simp only [List.getElem_toArray, List.getElem_cons_zero, List.getElem_cons_succ]); go_simp <;> with_reducible rfl)
      try simp only [List.getElem_toArray, List.getElem_cons_zero, List.getElem_cons_succ, Act.put, List.setIfInBounds_toArray, List.set_cons_zero, List.set_cons_succ]
      refine wpAnyH_take (i := 8) (v := ?vv46) rfl (by kernel_rfl) (by kernel_rfl) (by kernel_rfl) (fun _ _ _ h => h) (Or.inl ⟨by rfl, ?hy46⟩) (by assumption) ?rest46
      case hy46 => (intro w hSw; (try dsimp only at hSw); (try simp only [List.getElem_toArray, List.getElem_cons_zero, List.getElem_cons_succ]); go_simp <;> with_reducible rfl)
      try simp only [List.getElem_toArray, List.getElem_cons_zero, List.getElem_cons_succ, Act.put, List.setIfInBounds_toArray, List.set_cons_zero, List.set_cons_succ]
      have hf0 := HX4.1.frozen 0
      have hf1 := HX4.1.frozen 1
      have hf2 := HX4.1.frozen 2
      have ho0 := HX4.1.cell 0
      have ho1 := HX4.1.cell 1
      have ho2 := HX4.1.cell 2
      simp only [List.getElem?_cons_zero, List.getElem?_cons_succ] at ho0 ho1 ho2
      have HX5 := HX4.set3 (.int .i64 xa) (.int .i64 xj) (.int .i64 xs) (by omega) (by omega) (by omega) (by omega)
      refine wpAnyH_ready (rs := [9]) (by kernel_rfl) (by simp) ?_
      refine AllReadyH.cons rfl (fun K hK => ?_) AllReadyH.nil
      go_simp
      refine hK.out _ _ (HX5.inner) (fun hHeld => ?_)
      clear hK K
      try simp only [List.getElem_toArray, List.getElem_cons_zero, List.getElem_cons_succ, Act.put, List.setIfInBounds_toArray, List.set_cons_zero, List.set_cons_succ]
      clear hf0 hf1 hf2 ho0 ho1 ho2
      refine wpAnyH_take (i := 10) (v := ?vv47) rfl (by kernel_rfl) (by kernel_rfl) (by kernel_rfl) (fun _ _ _ h => h) (Or.inl ⟨by rfl, ?hy47⟩) (by assumption) ?rest47
      case hy47 => (intro w hSw; (try dsimp only at hSw); (try simp only [List.getElem_toArray, List.getElem_cons_zero, List.getElem_cons_succ]); go_simp <;> with_reducible rfl)
      try simp only [List.getElem_toArray, List.getElem_cons_zero, List.getElem_cons_succ, Act.put, List.setIfInBounds_toArray, List.set_cons_zero, List.set_cons_succ]
      refine wpAnyH_done (by kernel_rfl) ?_ _
      clear hHeld
      have hq0 := HX5.1.cell 0
      have hq1 := HX5.1.cell 1
      have hq2 := HX5.1.cell 2
      simp only [List.getElem?_cons_zero, List.getElem?_cons_succ] at hq0 hq1 hq2
      go_wp2
      refine bodyPost_ret (v := .tuple #[.slice A1 l.length c1, .slice A2 L.length c2, Rc.val ⟨xa, xj, xs⟩, .int .i64 kk]) ?_ rfl ⟨_, l, _, L, ⟨xa, xj, xs⟩, kk, rfl, hx, by omega, (HX5.2.2.1.weaken (by omega)).mono (by omega), HX5.2.2.2⟩
      simp [results, Try.results49, go_sem, hq0, hq1, hq2]
end Go.Proofs.Ytaojjlhlahoocaa
