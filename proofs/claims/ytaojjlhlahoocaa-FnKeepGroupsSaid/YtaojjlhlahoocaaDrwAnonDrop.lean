/- spec.DrawAnonDrop: what it draws, all of the draw's own. -/
import Derived.Test.YtaojjlhlahoocaaDrwBox
namespace Go.Proofs.Ytaojjlhlahoocaa
open Go.RowKit
set_option linter.unusedSimpArgs false
attribute [local go_sem ↓] Go.wp_at_zero Go.wp_at_succ

set_option maxRecDepth 100000 in
set_option maxHeartbeats 8000000 in
theorem specDrawAnonDropO (A : Option Addr) (c : Nat) (bs : List Int) (w : World) (h : Byt w A c bs) : Calls Try.prog 34 #[.slice A bs.length c] w (DrO w) := by
  have hb0 := (((Below.refl _ _).alloc (Nat.le_refl _) _) : Below w.heap.size w (w.alloc (.cells #[.int .i64 0, .int .i64 0, .int .i64 0] 26)))
  have hk0 := Blk.new w 26 #[.int .i64 0, .int .i64 0, .int .i64 0]
  have HB0 := Lib.hid (h.below hb0)
  have HBT := Lib.hid h
  clear h
  go_enter Try.func34, Try.ntmps34
  go_wp2_with fail
  refine (specOpen A c bs _ HB0.out).mono ?_
  rw [World.size_alloc]
  rintro e w1 ⟨rfl, hr1, hb1⟩
  have hk1 := hk0.below hb1 (by omega)
  have hs1 : w.heap.size + 1 < w1.heap.size := hr1.lt
  have hb01 := hb0.trans (hb1.mono (by omega))
  clear hk0 hb1 HB0 hb0
  go_wp2_with fail
  refine (specDAll (w.heap.size + 1) 0 w1 hr1 (by omega)).mono ?_
  rintro e w2 ⟨v, l, v2, L, ⟨xa, xj, xs⟩, rfl, hx, hA, hg2⟩
  have hw12 := hg2.size
  have HX0 : BY w w1.heap.size v l v2 L w.heap.size w2.heap.size _ _ (w2.alloc (.cells #[.int .i64 xa, .int .i64 xj, .int .i64 xs] 26)) :=
    ⟨(hk1.grown hg2 (by omega)).alloc _, Blk.new w2 26 #[.int .i64 xa, .int .i64 xj, .int .i64 xs], own_hold hA.1 (fun b _ hl => Below.heap_alloc w2 _ b hl), hA.2.1.below ((Below.refl _ _).alloc (Nat.le_refl _) _), (bel_of hb01 hg2 (by omega)).alloc (Nat.le_trans (Nat.le_trans (Nat.le_succ _) (Nat.le_of_lt hs1)) hw12) _⟩
  have HR0 := Lib.hid (hA.2.2.1.below (((Below.refl _ _).alloc (Nat.le_refl _) _) : Below w2.heap.size w2 (w2.alloc (.cells #[.int .i64 xa, .int .i64 xj, .int .i64 xs] 26))))
  have HD : Hid (Drb l L ⟨xa, xj, xs⟩) := ⟨hA.2.2.2.1, hA.2.2.2.2.1, hx, hA.2.2.2.2.2.2, hA.2.2.2.2.2.1⟩
  obtain ⟨A1, c1, A2, c2, rfl, rfl, hA1, h1, h2, h3, h4⟩ := hA.arg
  have hl10 := hA.2.2.2.1
  have hL4 := hA.2.2.2.2.1
  have HA1 := Lib.hid (hA1.below (((Below.refl _ _).alloc (Nat.le_refl _) _) : Below w2.heap.size w2 (w2.alloc (.cells #[.int .i64 xa, .int .i64 xj, .int .i64 xs] 26))))
  clear hA hA1 hg2 hk1 hb01 hr1 hx
  go_wp2
  have HX := HX0
  have HR := HR0
  clear HX0 HR0 HA1
  generalize w2.alloc (.cells #[.int .i64 xa, .int .i64 xj, .int .i64 xs] 26) = W at *
  have hi := HX.inner
  refine wp_region_held_drew (S := fun w' => w'.cell? ⟨w2.heap.size, 0, none⟩ = some (.int .i64 xa) ∧ w'.cell? ⟨w2.heap.size, 1, none⟩ = some (.int .i64 xj) ∧ w'.cell? ⟨w2.heap.size, 2, none⟩ = some (.int .i64 xs)) (by kernel_rfl) hi (fun hHeld => ?_)
  clear hi
  refine wpAnyH_take (i := 0) (v := ?vv1) rfl (by kernel_rfl) (by kernel_rfl) (by kernel_rfl) (fun _ _ _ h => h) (Or.inl ⟨by rfl, ?hy1⟩) (by assumption) ?rest1
  case hy1 => (intro w hSw; (try dsimp only at hSw); (try simp only [List.getElem_toArray, List.getElem_cons_zero, List.getElem_cons_succ]); go_simp <;> with_reducible rfl)
  try simp only [List.getElem_toArray, List.getElem_cons_zero, List.getElem_cons_succ, Act.put, List.setIfInBounds_toArray, List.set_cons_zero, List.set_cons_succ]
  refine wpAnyH_take (i := 1) (v := ?vv2) rfl (by kernel_rfl) (by kernel_rfl) (by kernel_rfl) (fun _ _ _ h => h) (Or.inl ⟨by rfl, ?hy2⟩) (by assumption) ?rest2
  case hy2 => (intro w hSw; (try dsimp only at hSw); (try simp only [List.getElem_toArray, List.getElem_cons_zero, List.getElem_cons_succ]); go_simp <;> with_reducible rfl)
  try simp only [List.getElem_toArray, List.getElem_cons_zero, List.getElem_cons_succ, Act.put, List.setIfInBounds_toArray, List.set_cons_zero, List.set_cons_succ]
  refine wpAnyH_take (i := 2) (v := ?vv3) rfl (by kernel_rfl) (by kernel_rfl) (by kernel_rfl) (fun _ _ _ h => h) (Or.inl ⟨by rfl, ?hy3⟩) (by assumption) ?rest3
  case hy3 => (intro w hSw; (try dsimp only at hSw); (try simp only [List.getElem_toArray, List.getElem_cons_zero, List.getElem_cons_succ]); go_simp <;> with_reducible rfl)
  try simp only [List.getElem_toArray, List.getElem_cons_zero, List.getElem_cons_succ, Act.put, List.setIfInBounds_toArray, List.set_cons_zero, List.set_cons_succ]
  refine wpAnyH_take (i := 3) (v := ?vv4) rfl (by kernel_rfl) (by kernel_rfl) (by kernel_rfl) (fun _ _ _ h => h) (Or.inl ⟨by rfl, ?hy4⟩) (by assumption) ?rest4
  case hy4 => (intro w hSw; (try dsimp only at hSw); (try simp only [List.getElem_toArray, List.getElem_cons_zero, List.getElem_cons_succ]); go_simp <;> with_reducible rfl)
  try simp only [List.getElem_toArray, List.getElem_cons_zero, List.getElem_cons_succ, Act.put, List.setIfInBounds_toArray, List.set_cons_zero, List.set_cons_succ]
  refine wpAnyH_ready (rs := [4]) (by kernel_rfl) (by simp) ?_
  refine AllReadyH.cons rfl (fun K hK => ?_) AllReadyH.nil
  go_simp
  refine (specDK (w.heap.size + 1) (0 + 96) _ (HR.out.below (Below.refl _ _).drew) (by omega)).mono ?_
  rintro e w4 ⟨kk, rfl, hkk, -, hgr4⟩
  have HX4 := HX.drew.pick hgr4 (by omega) (by omega) (by omega) (by omega)
  clear hgr4
  dsimp only
  refine hK.out _ _ (HX4.inner) (fun hHeld => ?_)
  clear hK K
  try simp only [List.getElem_toArray, List.getElem_cons_zero, List.getElem_cons_succ, Act.put, List.setIfInBounds_toArray, List.set_cons_zero, List.set_cons_succ]
  refine wpAnyH_take (i := 5) (v := ?vv5) rfl (by kernel_rfl) (by kernel_rfl) (by kernel_rfl) (fun _ _ _ h => h) (Or.inl ⟨by rfl, ?hy5⟩) (by assumption) ?rest5
  case hy5 => (intro w hSw; (try dsimp only at hSw); (try simp only [List.getElem_toArray, List.getElem_cons_zero, List.getElem_cons_succ]); go_simp <;> with_reducible rfl)
  try simp only [List.getElem_toArray, List.getElem_cons_zero, List.getElem_cons_succ, Act.put, List.setIfInBounds_toArray, List.set_cons_zero, List.set_cons_succ]
  refine wpAnyH_take (i := 6) (v := ?vv6) rfl (by kernel_rfl) (by kernel_rfl) (by kernel_rfl) (fun _ _ _ h => h) (Or.inl ⟨by rfl, ?hy6⟩) (by assumption) ?rest6
  case hy6 => (intro w hSw; (try dsimp only at hSw); (try simp only [List.getElem_toArray, List.getElem_cons_zero, List.getElem_cons_succ]); go_simp <;> with_reducible rfl)
  try simp only [List.getElem_toArray, List.getElem_cons_zero, List.getElem_cons_succ, Act.put, List.setIfInBounds_toArray, List.set_cons_zero, List.set_cons_succ]
  have hf0 := HX4.1.frozen 0
  have hf1 := HX4.1.frozen 1
  have hf2 := HX4.1.frozen 2
  have ho0 := HX4.1.cell 0
  have ho1 := HX4.1.cell 1
  have ho2 := HX4.1.cell 2
  simp only [List.getElem?_cons_zero, List.getElem?_cons_succ] at ho0 ho1 ho2
  have HX5 := HX4.set3 (.int .i64 xa) (.int .i64 xj) (.int .i64 xs) (by omega) (by omega) (by omega)
  refine wpAnyH_ready (rs := [7]) (by kernel_rfl) (by simp) ?_
  refine AllReadyH.cons rfl (fun K hK => ?_) AllReadyH.nil
  go_simp
  refine hK.out _ _ (HX5.inner) (fun hHeld => ?_)
  clear hK K
  try simp only [List.getElem_toArray, List.getElem_cons_zero, List.getElem_cons_succ, Act.put, List.setIfInBounds_toArray, List.set_cons_zero, List.set_cons_succ]
  clear hf0 hf1 hf2 ho0 ho1 ho2
  refine wpAnyH_take (i := 8) (v := ?vv7) rfl (by kernel_rfl) (by kernel_rfl) (by kernel_rfl) (fun _ _ _ h => h) (Or.inl ⟨by rfl, ?hy7⟩) (by assumption) ?rest7
  case hy7 => (intro w hSw; (try dsimp only at hSw); (try simp only [List.getElem_toArray, List.getElem_cons_zero, List.getElem_cons_succ]); go_simp <;> with_reducible rfl)
  try simp only [List.getElem_toArray, List.getElem_cons_zero, List.getElem_cons_succ, Act.put, List.setIfInBounds_toArray, List.set_cons_zero, List.set_cons_succ]
  refine wpAnyH_done (by kernel_rfl) ?_ _
  clear hHeld
  have hq0 := HX5.1.cell 0
  have hq1 := HX5.1.cell 1
  have hq2 := HX5.1.cell 2
  simp only [List.getElem?_cons_zero, List.getElem?_cons_succ] at hq0 hq1 hq2
  go_wp2
  refine bodyPost_ret (v := .tuple #[.slice A1 l.length c1, .slice A2 L.length c2, Rc.val ⟨xa, xj, xs⟩, .int .i64 kk]) ?_ rfl ⟨_, l, _, L, ⟨xa, xj, xs⟩, kk, rfl, own_weaken HX5.2.2.1 (by omega), HX5.2.2.2.1.weaken (by omega), HD.out, by omega, HX5.2.2.2.2⟩
  simp [results, Try.results34, go_sem, hq0, hq1, hq2]
theorem specDrawAnonDrop (A : Option Addr) (c : Nat) (bs : List Int) (w : World) (h : Byt w A c bs) : Calls Try.prog 34 #[.slice A bs.length c] w (DrK w) := (specDrawAnonDropO A c bs w h).mono fun _ _ h => h.drK
end Go.Proofs.Ytaojjlhlahoocaa
