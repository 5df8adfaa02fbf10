/- spec.DrawDiverseOk: what it draws, all of the draw's own. -/
import Derived.Test.YtiheheapghjpbaaDrwAnonOk
namespace Go.Proofs.Ytiheheapghjpbaa
open Go.RowKit
set_option linter.unusedSimpArgs false
attribute [local go_sem ↓] Go.wp_at_zero Go.wp_at_succ

theorem dM {w w' : World} {bs bo bi c1 c2 : Nat} {A1 A2 : Option Addr} {l : List Pn} {L : List (List Int)} {o i : List Value} {x : Rc} {k m : Int} (h : BY w bs (.slice A1 l.length c1) l (.slice A2 L.length c2) L bo bi o i w') (hd : Drb l L x) (hk : -10 ≤ k ∧ k ≤ 2000) (hm : -10 ≤ m) (hm2 : m ≤ 2000) :
    DrM w (.returned (.tuple #[.slice A1 l.length c1, .slice A2 L.length c2, x.val, .int .i64 k, .int .i64 m])) w' := by
  obtain ⟨A, c, B, d, e1, e2, hA, hD⟩ := own_arg h.2.2.1 h.2.2.2.1 hd
  simp only [Value.slice.injEq, true_and] at e1 e2
  obtain ⟨rfl, rfl⟩ := e1
  obtain ⟨rfl, rfl⟩ := e2
  exact ⟨_, _, l, _, _, L, x, k, m, rfl, hA, hD, hk, ⟨hm, hm2⟩, h.2.2.2.2⟩
set_option maxRecDepth 100000 in
set_option maxHeartbeats 8000000 in
theorem specDrawDiverseOk (A : Option Addr) (c : Nat) (bs : List Int) (w : World) (h : Byt w A c bs) : Calls Try.prog 15 #[.slice A bs.length c] w (DrM w) := by
  have hb0 := (((Below.refl _ _).alloc (Nat.le_refl _) _) : Below w.heap.size w (w.alloc (.cells #[.int .i64 0, .int .i64 0, .int .i64 0] 26)))
  have hk0 := Blk.new w 26 #[.int .i64 0, .int .i64 0, .int .i64 0]
  have HB0 := Lib.hid (h.below hb0)
  have HBT := Lib.hid h
  clear h
  go_enter Try.func15, Try.ntmps15
  go_wp2_with fail
  refine (specOpen A c bs _ HB0.out).mono ?_
  rw [World.size_alloc]
  rintro e w1 ⟨rfl, hr1, hb1⟩
  have hk1 := hk0.below hb1 (by omega)
  have hs1 : w.heap.size + 1 < w1.heap.size := hr1.lt
  have hb01 := hb0.trans (hb1.mono (by omega))
  clear hk0 hb1 HB0 hb0
  go_wp2_with fail
  refine (specDrawAnonOkO A c bs _ (HBT.out.below hb01)).mono ?_
  rintro e w2 ⟨v, l, v2, L, ⟨xa, xj, xs⟩, k, rfl, hO1, hO2, hd, hkb, hb2⟩
  have hw12 := hb2.size
  have HX0 : BY w w1.heap.size v l v2 L w.heap.size w2.heap.size _ _ (w2.alloc (.cells #[.int .i64 xa, .int .i64 xj, .int .i64 xs] 26)) :=
    ⟨(hk1.below hb2 (by omega)).alloc _, Blk.new w2 26 #[.int .i64 xa, .int .i64 xj, .int .i64 xs], own_hold hO1 (fun b _ hl => Below.heap_alloc w2 _ b hl), hO2.below ((Below.refl _ _).alloc (Nat.le_refl _) _), (hb01.trans (hb2.mono hb01.size)).alloc (Nat.le_trans hb01.size hw12) _⟩
  have HR0 := Lib.hid ((hr1.below hb2).below (((Below.refl _ _).alloc (Nat.le_refl _) _) : Below w2.heap.size w2 (w2.alloc (.cells #[.int .i64 xa, .int .i64 xj, .int .i64 xs] 26))))
  have HD := Lib.hid hd
  obtain ⟨A1, c1, A2, c2, rfl, rfl, hA1, hDB⟩ := own_arg hO1 hO2 hd
  have hl10 := hd.1
  have hL4 := hd.2.1
  have h1 := hDB.2.2.2.2.2.1
  have h2 := hDB.2.2.2.2.2.2
  clear hO1 hO2 hd hA1 hDB hk1 hb01 hr1 hb2 HBT
  go_wp2_with fail
  generalize w2.alloc (.cells #[.int .i64 xa, .int .i64 xj, .int .i64 xs] 26) = W0 at *
  refine (specPick (w.heap.size + 1) 0 16 _ HR0.out (by omega) (by omega)).mono ?_
  rintro e W ⟨z16, rfl, -, hrW, hgW, -⟩
  have HX := HX0.pick hgW (by omega) (by omega) (by omega) (by omega)
  have HR := Lib.hid hrW
  have hWs : w2.heap.size < W.heap.size := HX.2.1.lt
  clear HX0 HR0 hgW hrW
  have hneW : W.heap.size ≠ w.heap.size + 1 := by omega
  have hnWw : W.heap.size ≠ w.heap.size := by omega
  have hi := HX.inner
  by_cases hz : z16 = 0
  · subst hz
    go_wp2
    refine wp_region_held_drew (S := fun w' => w'.cell? ⟨w2.heap.size, 0, none⟩ = some (.int .i64 xa) ∧ w'.cell? ⟨w2.heap.size, 1, none⟩ = some (.int .i64 xj) ∧ w'.cell? ⟨w2.heap.size, 2, none⟩ = some (.int .i64 xs)) (by kernel_rfl) hi (fun hHeld => ?_)
    clear hi
    refine wpAnyH_take (i := 0) (v := ?vv1) rfl (by kernel_rfl) (by kernel_rfl) (by kernel_rfl) (fun _ _ _ h => h) (Or.inl ⟨by rfl, ?hy1⟩) (by assumption) ?rest1
    case hy1 => (intro w hSw; (try dsimp only at hSw); (try simp only [List.getElem_toArray, List.getElem_cons_zero, List.getElem_cons_succ]); go_simp <;> with_reducible rfl)
    try simp only [List.getElem_toArray, List.getElem_cons_zero, List.getElem_cons_succ, Act.put, List.setIfInBounds_toArray, List.set_cons_zero, List.set_cons_succ]
    refine wpAnyH_take (i := 1) (v := ?vv2) rfl (by kernel_rfl) (by kernel_rfl) (by kernel_rfl) (fun _ _ _ h => h) (Or.inl ⟨by rfl, ?hy2⟩) (by assumption) ?rest2
    case hy2 => (intro w hSw; (try dsimp only at hSw); (try simp only [List.getElem_toArray, List.getElem_cons_zero, List.getElem_cons_succ]); go_simp <;> with_reducible rfl)
    try simp only [List.getElem_toArray, List.getElem_cons_zero, List.getElem_cons_succ, Act.put, List.setIfInBounds_toArray, List.set_cons_zero, List.set_cons_succ]
    refine wpAnyH_take (i := 2) (v := ?vv3) rfl (by kernel_rfl) (by kernel_rfl) (by kernel_rfl) (fun _ _ _ h => h) (Or.inl ⟨by rfl, ?hy3⟩) (by assumption) ?rest3
    case hy3 => (intro w hSw; (try dsimp only at hSw); (try simp only [List.getElem_toArray, List.getElem_cons_zero, List.getElem_cons_succ]); go_simp <;> with_reducible rfl)
    try simp only [List.getElem_toArray, List.getElem_cons_zero, List.getElem_cons_succ, Act.put, List.setIfInBounds_toArray, List.set_cons_zero, List.set_cons_succ]
    refine wpAnyH_take (i := 3) (v := ?vv4) rfl (by kernel_rfl) (by kernel_rfl) (by kernel_rfl) (fun _ _ _ h => h) (Or.inl ⟨by rfl, ?hy4⟩) (by assumption) ?rest4
    case hy4 => (intro w hSw; (try dsimp only at hSw); (try simp only [List.getElem_toArray, List.getElem_cons_zero, List.getElem_cons_succ]); go_simp <;> with_reducible rfl)
    try simp only [List.getElem_toArray, List.getElem_cons_zero, List.getElem_cons_succ, Act.put, List.setIfInBounds_toArray, List.set_cons_zero, List.set_cons_succ]
    refine wpAnyH_take (i := 5) (v := ?vv5) rfl (by kernel_rfl) (by kernel_rfl) (by kernel_rfl) (fun _ _ _ h => h) (Or.inl ⟨by rfl, ?hy5⟩) (by assumption) ?rest5
    case hy5 => (intro w hSw; (try dsimp only at hSw); (try simp only [List.getElem_toArray, List.getElem_cons_zero, List.getElem_cons_succ]); go_simp <;> with_reducible rfl)
    try simp only [List.getElem_toArray, List.getElem_cons_zero, List.getElem_cons_succ, Act.put, List.setIfInBounds_toArray, List.set_cons_zero, List.set_cons_succ]
    refine wpAnyH_ready (rs := [4,6]) (by kernel_rfl) (by simp) ?_
    refine AllReadyH.cons rfl (fun K hK => ?_) ?_
    · go_simp
      refine hK.out _ _ (((HX.drew.alloc _).inner)) (fun hHeld => ?_)
      clear hK K
      try simp only [List.getElem_toArray, List.getElem_cons_zero, List.getElem_cons_succ, Act.put, List.setIfInBounds_toArray, List.set_cons_zero, List.set_cons_succ]
      have hn1 := Blk.new W.drew 3 #[.int .i64 0, .int .i64 41]
      refine wpAnyH_ready (rs := [6]) (by kernel_rfl) (by simp) ?_
      refine AllReadyH.cons rfl (fun K hK => ?_) AllReadyH.nil
      go_simp
      refine (specPick (w.heap.size + 1) (0 + 1) 2 _ ((HR.out.below (Below.refl _ _).drew).below ((Below.refl _ _).alloc (Nat.le_refl _) _)) (by omega) (by omega)).mono ?_
      rintro e w4 ⟨z, rfl, ⟨z0, z1, -⟩, -, hgr4, -⟩
      have z1 := z1 (by omega)
      have hn4 := hn1.grown hgr4 hneW
      have HX4 := (HX.drew.alloc _).pick hgr4 (by omega) (by omega) (by omega) (by omega)
      clear hgr4 hn1
      dsimp only
      refine hK.out _ _ (HX4.inner) (fun hHeld => ?_)
      clear hK K
      try simp only [List.getElem_toArray, List.getElem_cons_zero, List.getElem_cons_succ, Act.put, List.setIfInBounds_toArray, List.set_cons_zero, List.set_cons_succ]
      obtain ⟨kk, hk0, hk9, hck⟩ : ∃ kk : Int, 0 ≤ kk ∧ kk ≤ 41 ∧ w4.cell? ⟨W.heap.size, z.toNat, none⟩ = some (.int .i64 kk) := two_of hn4 z0 z1 (by omega) (by omega) (by omega) (by omega)
      refine wpAnyH_and (T := fun w' => w'.cell? ⟨W.heap.size, z.toNat, none⟩ = some (.int .i64 kk)) ?_
      have hHeld := And.intro hck hHeld
      refine wpAnyH_take (i := 7) (v := ?vv6) rfl (by kernel_rfl) (by kernel_rfl) (by kernel_rfl) (fun _ _ _ h => h) (Or.inl ⟨by rfl, ?hy6⟩) (by assumption) ?rest6
      case hy6 => (intro w hSw; (try dsimp only at hSw); (try simp only [List.getElem_toArray, List.getElem_cons_zero, List.getElem_cons_succ]); go_simp <;> with_reducible rfl)
      try simp only [List.getElem_toArray, List.getElem_cons_zero, List.getElem_cons_succ, Act.put, List.setIfInBounds_toArray, List.set_cons_zero, List.set_cons_succ]
      refine wpAnyH_take (i := 8) (v := ?vv7) rfl (by kernel_rfl) (by kernel_rfl) (by kernel_rfl) (fun _ _ _ h => h) (Or.inl ⟨by rfl, ?hy7⟩) (by assumption) ?rest7
      case hy7 => (intro w hSw; (try dsimp only at hSw); (try simp only [List.getElem_toArray, List.getElem_cons_zero, List.getElem_cons_succ]); go_simp <;> with_reducible rfl)
      try simp only [List.getElem_toArray, List.getElem_cons_zero, List.getElem_cons_succ, Act.put, List.setIfInBounds_toArray, List.set_cons_zero, List.set_cons_succ]
      refine wpAnyH_take (i := 9) (v := ?vv8) rfl (by kernel_rfl) (by kernel_rfl) (by kernel_rfl) (fun _ _ _ h => h) (Or.inl ⟨by rfl, ?hy8⟩) (by assumption) ?rest8
      case hy8 => (intro w hSw; (try dsimp only at hSw); (try simp only [List.getElem_toArray, List.getElem_cons_zero, List.getElem_cons_succ]); go_simp <;> with_reducible rfl)
      try simp only [List.getElem_toArray, List.getElem_cons_zero, List.getElem_cons_succ, Act.put, List.setIfInBounds_toArray, List.set_cons_zero, List.set_cons_succ]
      refine wpAnyH_take (i := 10) (v := ?vv9) rfl (by kernel_rfl) (by kernel_rfl) (by kernel_rfl) (fun _ _ _ h => h) (Or.inl ⟨by rfl, ?hy9⟩) (by assumption) ?rest9
      case hy9 => (intro w hSw; (try dsimp only at hSw); (try simp only [List.getElem_toArray, List.getElem_cons_zero, List.getElem_cons_succ]); go_simp <;> with_reducible rfl)
      try simp only [List.getElem_toArray, List.getElem_cons_zero, List.getElem_cons_succ, Act.put, List.setIfInBounds_toArray, List.set_cons_zero, List.set_cons_succ]
      have hf0 := HX4.1.frozen 0
      have hf1 := HX4.1.frozen 1
      have hf2 := HX4.1.frozen 2
      have ho0 := HX4.1.cell 0
      have ho1 := HX4.1.cell 1
      have ho2 := HX4.1.cell 2
      simp only [List.getElem?_cons_zero, List.getElem?_cons_succ] at ho0 ho1 ho2
      have HX5 := HX4.set3 (.int .i64 xa) (.int .i64 xj) (.int .i64 xs) (by omega) (by omega) (by omega)
      refine wpAnyH_ready (rs := [11]) (by kernel_rfl) (by simp) ?_
      refine AllReadyH.cons rfl (fun K hK => ?_) AllReadyH.nil
      go_simp
      refine hK.out _ _ (⟨hn4.other hck hnWw, HX5.inner⟩) (fun hHeld => ?_)
      clear hK K
      try simp only [List.getElem_toArray, List.getElem_cons_zero, List.getElem_cons_succ, Act.put, List.setIfInBounds_toArray, List.set_cons_zero, List.set_cons_succ]
      clear hf0 hf1 hf2 ho0 ho1 ho2
      refine wpAnyH_take (i := 12) (v := ?vv10) rfl (by kernel_rfl) (by kernel_rfl) (by kernel_rfl) (fun _ _ _ h => h) (Or.inl ⟨by rfl, ?hy10⟩) (by assumption) ?rest10
      case hy10 => (intro w hSw; (try dsimp only at hSw); (try simp only [List.getElem_toArray, List.getElem_cons_zero, List.getElem_cons_succ]); go_simp <;> with_reducible rfl)
      try simp only [List.getElem_toArray, List.getElem_cons_zero, List.getElem_cons_succ, Act.put, List.setIfInBounds_toArray, List.set_cons_zero, List.set_cons_succ]
      refine wpAnyH_take (i := 13) (v := ?vv11) rfl (by kernel_rfl) (by kernel_rfl) (by kernel_rfl) (fun _ _ _ h => h) (Or.inl ⟨by rfl, ?hy11⟩) (by assumption) ?rest11
      case hy11 => (intro w hSw; (try dsimp only at hSw); (try simp only [List.getElem_toArray, List.getElem_cons_zero, List.getElem_cons_succ]); go_simp <;> with_reducible rfl)
      try simp only [List.getElem_toArray, List.getElem_cons_zero, List.getElem_cons_succ, Act.put, List.setIfInBounds_toArray, List.set_cons_zero, List.set_cons_succ]
      refine wpAnyH_done (by kernel_rfl) ?_ _
      clear hHeld
      have hq0 := HX5.1.cell 0
      have hq1 := HX5.1.cell 1
      have hq2 := HX5.1.cell 2
      simp only [List.getElem?_cons_zero, List.getElem?_cons_succ] at hq0 hq1 hq2
      go_wp2
      refine bodyPost_ret (v := .tuple #[.slice A1 l.length c1, .slice A2 L.length c2, Rc.val ⟨xa, xj, xs⟩, .int .i64 k, .int .i64 kk]) ?_ rfl (dM HX5 HD.out hkb (by omega) (by omega))
      simp [results, Try.results15, go_sem, hq0, hq1, hq2]
    refine AllReadyH.cons rfl (fun K hK => ?_) AllReadyH.nil
    · go_simp
      refine (specPick (w.heap.size + 1) (0 + 1) 2 _ (HR.out.below (Below.refl _ _).drew) (by omega) (by omega)).mono ?_
      rintro e w4 ⟨z, rfl, ⟨z0, z1, -⟩, -, hgr4, hs4'⟩
      have z1 := z1 (by omega)
      have HX4 := HX.drew.pick hgr4 (by omega) (by omega) (by omega) (by omega)
      clear hgr4
      have hs4 : w4.heap.size = W.heap.size := by simpa using hs4'
      clear hs4'
      dsimp only
      refine hK.out _ _ (HX4.inner) (fun hHeld => ?_)
      clear hK K
      try simp only [List.getElem_toArray, List.getElem_cons_zero, List.getElem_cons_succ, Act.put, List.setIfInBounds_toArray, List.set_cons_zero, List.set_cons_succ]
      refine wpAnyH_take (i := 9) (v := ?vv12) rfl (by kernel_rfl) (by kernel_rfl) (by kernel_rfl) (fun _ _ _ h => h) (Or.inl ⟨by rfl, ?hy12⟩) (by assumption) ?rest12
      case hy12 => (intro w hSw; (try dsimp only at hSw); (try simp only [List.getElem_toArray, List.getElem_cons_zero, List.getElem_cons_succ]); go_simp <;> with_reducible rfl)
      try simp only [List.getElem_toArray, List.getElem_cons_zero, List.getElem_cons_succ, Act.put, List.setIfInBounds_toArray, List.set_cons_zero, List.set_cons_succ]
      refine wpAnyH_take (i := 10) (v := ?vv13) rfl (by kernel_rfl) (by kernel_rfl) (by kernel_rfl) (fun _ _ _ h => h) (Or.inl ⟨by rfl, ?hy13⟩) (by assumption) ?rest13
      case hy13 => (intro w hSw; (try dsimp only at hSw); (try simp only [List.getElem_toArray, List.getElem_cons_zero, List.getElem_cons_succ]); go_simp <;> with_reducible rfl)
      try simp only [List.getElem_toArray, List.getElem_cons_zero, List.getElem_cons_succ, Act.put, List.setIfInBounds_toArray, List.set_cons_zero, List.set_cons_succ]
      refine wpAnyH_ready (rs := [4,11]) (by kernel_rfl) (by simp) ?_
      refine AllReadyH.cons rfl (fun K hK => ?_) ?_
      · go_simp
        refine hK.out _ _ (((HX4.alloc _).inner)) (fun hHeld => ?_)
        clear hK K
        try simp only [List.getElem_toArray, List.getElem_cons_zero, List.getElem_cons_succ, Act.put, List.setIfInBounds_toArray, List.set_cons_zero, List.set_cons_succ]
        have hn4 := Blk.new w4 3 #[.int .i64 0, .int .i64 41]
        have HX4 := HX4.alloc (.cells #[.int .i64 0, .int .i64 41] 3)
        have HS4 := Lib.hid hs4
        clear hs4
        rw [HS4.out] at hn4
        generalize w4.alloc (.cells #[.int .i64 0, .int .i64 41] 3) = w5 at *
        obtain ⟨kk, hk0, hk9, hck⟩ : ∃ kk : Int, 0 ≤ kk ∧ kk ≤ 41 ∧ w5.cell? ⟨W.heap.size, z.toNat, none⟩ = some (.int .i64 kk) := two_of hn4 z0 z1 (by omega) (by omega) (by omega) (by omega)
        refine wpAnyH_and (T := fun w' => w'.cell? ⟨W.heap.size, z.toNat, none⟩ = some (.int .i64 kk)) ?_
        have hHeld := And.intro hck hHeld
        refine wpAnyH_take (i := 7) (v := ?vv14) rfl (by kernel_rfl) (by kernel_rfl) (by kernel_rfl) (fun _ _ _ h => h) (Or.inl ⟨by rfl, ?hy14⟩) (by assumption) ?rest14
        case hy14 => (intro w hSw; (try dsimp only at hSw); (try simp only [List.getElem_toArray, List.getElem_cons_zero, List.getElem_cons_succ]); go_simp <;> with_reducible rfl)
        try simp only [List.getElem_toArray, List.getElem_cons_zero, List.getElem_cons_succ, Act.put, List.setIfInBounds_toArray, List.set_cons_zero, List.set_cons_succ]
        refine wpAnyH_take (i := 8) (v := ?vv15) rfl (by kernel_rfl) (by kernel_rfl) (by kernel_rfl) (fun _ _ _ h => h) (Or.inl ⟨by rfl, ?hy15⟩) (by assumption) ?rest15
        case hy15 => (intro w hSw; (try dsimp only at hSw); (try simp only [List.getElem_toArray, List.getElem_cons_zero, List.getElem_cons_succ]); go_simp <;> with_reducible rfl)
        try simp only [List.getElem_toArray, List.getElem_cons_zero, List.getElem_cons_succ, Act.put, List.setIfInBounds_toArray, List.set_cons_zero, List.set_cons_succ]
        have hf0 := HX4.1.frozen 0
        have hf1 := HX4.1.frozen 1
        have hf2 := HX4.1.frozen 2
        have ho0 := HX4.1.cell 0
        have ho1 := HX4.1.cell 1
        have ho2 := HX4.1.cell 2
        simp only [List.getElem?_cons_zero, List.getElem?_cons_succ] at ho0 ho1 ho2
        have HX5 := HX4.set3 (.int .i64 xa) (.int .i64 xj) (.int .i64 xs) (by omega) (by omega) (by omega)
        refine wpAnyH_ready (rs := [11]) (by kernel_rfl) (by simp) ?_
        refine AllReadyH.cons rfl (fun K hK => ?_) AllReadyH.nil
        go_simp
        refine hK.out _ _ (⟨hn4.other hck hnWw, HX5.inner⟩) (fun hHeld => ?_)
        clear hK K
        try simp only [List.getElem_toArray, List.getElem_cons_zero, List.getElem_cons_succ, Act.put, List.setIfInBounds_toArray, List.set_cons_zero, List.set_cons_succ]
        clear hf0 hf1 hf2 ho0 ho1 ho2
        refine wpAnyH_take (i := 12) (v := ?vv16) rfl (by kernel_rfl) (by kernel_rfl) (by kernel_rfl) (fun _ _ _ h => h) (Or.inl ⟨by rfl, ?hy16⟩) (by assumption) ?rest16
        case hy16 => (intro w hSw; (try dsimp only at hSw); (try simp only [List.getElem_toArray, List.getElem_cons_zero, List.getElem_cons_succ]); go_simp <;> with_reducible rfl)
        try simp only [List.getElem_toArray, List.getElem_cons_zero, List.getElem_cons_succ, Act.put, List.setIfInBounds_toArray, List.set_cons_zero, List.set_cons_succ]
        refine wpAnyH_take (i := 13) (v := ?vv17) rfl (by kernel_rfl) (by kernel_rfl) (by kernel_rfl) (fun _ _ _ h => h) (Or.inl ⟨by rfl, ?hy17⟩) (by assumption) ?rest17
        case hy17 => (intro w hSw; (try dsimp only at hSw); (try simp only [List.getElem_toArray, List.getElem_cons_zero, List.getElem_cons_succ]); go_simp <;> with_reducible rfl)
        try simp only [List.getElem_toArray, List.getElem_cons_zero, List.getElem_cons_succ, Act.put, List.setIfInBounds_toArray, List.set_cons_zero, List.set_cons_succ]
        refine wpAnyH_done (by kernel_rfl) ?_ _
        clear hHeld
        have hq0 := HX5.1.cell 0
        have hq1 := HX5.1.cell 1
        have hq2 := HX5.1.cell 2
        simp only [List.getElem?_cons_zero, List.getElem?_cons_succ] at hq0 hq1 hq2
        go_wp2
        refine bodyPost_ret (v := .tuple #[.slice A1 l.length c1, .slice A2 L.length c2, Rc.val ⟨xa, xj, xs⟩, .int .i64 k, .int .i64 kk]) ?_ rfl (dM HX5 HD.out hkb (by omega) (by omega))
        simp [results, Try.results15, go_sem, hq0, hq1, hq2]
      refine AllReadyH.cons rfl (fun K hK => ?_) AllReadyH.nil
      · skip
        have hf0 := HX4.1.frozen 0
        have hf1 := HX4.1.frozen 1
        have hf2 := HX4.1.frozen 2
        have ho0 := HX4.1.cell 0
        have ho1 := HX4.1.cell 1
        have ho2 := HX4.1.cell 2
        simp only [List.getElem?_cons_zero, List.getElem?_cons_succ] at ho0 ho1 ho2
        have HX5 := HX4.set3 (.int .i64 xa) (.int .i64 xj) (.int .i64 xs) (by omega) (by omega) (by omega)
        go_simp
        refine hK.out _ _ (HX5.inner) (fun hHeld => ?_)
        clear hK K
        try simp only [List.getElem_toArray, List.getElem_cons_zero, List.getElem_cons_succ, Act.put, List.setIfInBounds_toArray, List.set_cons_zero, List.set_cons_succ]
        clear hf0 hf1 hf2 ho0 ho1 ho2
        refine wpAnyH_take (i := 12) (v := ?vv18) rfl (by kernel_rfl) (by kernel_rfl) (by kernel_rfl) (fun _ _ _ h => h) (Or.inl ⟨by rfl, ?hy18⟩) (by assumption) ?rest18
        case hy18 => (intro w hSw; (try dsimp only at hSw); (try simp only [List.getElem_toArray, List.getElem_cons_zero, List.getElem_cons_succ]); go_simp <;> with_reducible rfl)
        try simp only [List.getElem_toArray, List.getElem_cons_zero, List.getElem_cons_succ, Act.put, List.setIfInBounds_toArray, List.set_cons_zero, List.set_cons_succ]
        have hs5 : (((w4.setCell ⟨w.heap.size, 0, none⟩ (.int .i64 xa)).setCell ⟨w.heap.size, 1, none⟩ (.int .i64 xj)).setCell ⟨w.heap.size, 2, none⟩ (.int .i64 xs)).heap.size = W.heap.size := by simpa using hs4
        clear hs4
        generalize ((w4.setCell ⟨w.heap.size, 0, none⟩ (.int .i64 xa)).setCell ⟨w.heap.size, 1, none⟩ (.int .i64 xj)).setCell ⟨w.heap.size, 2, none⟩ (.int .i64 xs) = w5 at *
        refine wpAnyH_ready (rs := [4]) (by kernel_rfl) (by simp) ?_
        refine AllReadyH.cons rfl (fun K hK => ?_) AllReadyH.nil
        go_simp
        refine hK.out _ _ (((HX5.alloc _).inner)) (fun hHeld => ?_)
        clear hK K
        try simp only [List.getElem_toArray, List.getElem_cons_zero, List.getElem_cons_succ, Act.put, List.setIfInBounds_toArray, List.set_cons_zero, List.set_cons_succ]
        have hn4 := Blk.new w5 3 #[.int .i64 0, .int .i64 41]
        have HX6 := HX5.alloc (.cells #[.int .i64 0, .int .i64 41] 3)
        rw [hs5] at hn4
        clear hs5
        generalize w5.alloc (.cells #[.int .i64 0, .int .i64 41] 3) = w6 at *
        obtain ⟨kk, hk0, hk9, hck⟩ : ∃ kk : Int, 0 ≤ kk ∧ kk ≤ 41 ∧ w6.cell? ⟨W.heap.size, z.toNat, none⟩ = some (.int .i64 kk) := two_of hn4 z0 z1 (by omega) (by omega) (by omega) (by omega)
        refine wpAnyH_and (T := fun w' => w'.cell? ⟨W.heap.size, z.toNat, none⟩ = some (.int .i64 kk)) ?_
        have hHeld := And.intro hck hHeld
        refine wpAnyH_take (i := 7) (v := ?vv19) rfl (by kernel_rfl) (by kernel_rfl) (by kernel_rfl) (fun _ _ _ h => h) (Or.inl ⟨by rfl, ?hy19⟩) (by assumption) ?rest19
        case hy19 => (intro w hSw; (try dsimp only at hSw); (try simp only [List.getElem_toArray, List.getElem_cons_zero, List.getElem_cons_succ]); go_simp <;> with_reducible rfl)
        try simp only [List.getElem_toArray, List.getElem_cons_zero, List.getElem_cons_succ, Act.put, List.setIfInBounds_toArray, List.set_cons_zero, List.set_cons_succ]
        refine wpAnyH_take (i := 8) (v := ?vv20) rfl (by kernel_rfl) (by kernel_rfl) (by kernel_rfl) (fun _ _ _ h => h) (Or.inl ⟨by rfl, ?hy20⟩) (by assumption) ?rest20
        case hy20 => (intro w hSw; (try dsimp only at hSw); (try simp only [List.getElem_toArray, List.getElem_cons_zero, List.getElem_cons_succ]); go_simp <;> with_reducible rfl)
        try simp only [List.getElem_toArray, List.getElem_cons_zero, List.getElem_cons_succ, Act.put, List.setIfInBounds_toArray, List.set_cons_zero, List.set_cons_succ]
        refine wpAnyH_take (i := 13) (v := ?vv21) rfl (by kernel_rfl) (by kernel_rfl) (by kernel_rfl) (fun _ _ _ h => h) (Or.inl ⟨by rfl, ?hy21⟩) (by assumption) ?rest21
        case hy21 => (intro w hSw; (try dsimp only at hSw); (try simp only [List.getElem_toArray, List.getElem_cons_zero, List.getElem_cons_succ]); go_simp <;> with_reducible rfl)
        try simp only [List.getElem_toArray, List.getElem_cons_zero, List.getElem_cons_succ, Act.put, List.setIfInBounds_toArray, List.set_cons_zero, List.set_cons_succ]
        refine wpAnyH_done (by kernel_rfl) ?_ _
        clear hHeld
        have hq0 := HX6.1.cell 0
        have hq1 := HX6.1.cell 1
        have hq2 := HX6.1.cell 2
        simp only [List.getElem?_cons_zero, List.getElem?_cons_succ] at hq0 hq1 hq2
        go_wp2
        refine bodyPost_ret (v := .tuple #[.slice A1 l.length c1, .slice A2 L.length c2, Rc.val ⟨xa, xj, xs⟩, .int .i64 k, .int .i64 kk]) ?_ rfl (dM HX6 HD.out hkb (by omega) (by omega))
        simp [results, Try.results15, go_sem, hq0, hq1, hq2]
  · have hz' : (z16 == 0) = false := beq_eq_false_iff_ne.2 hz
    go_wp2
    refine wp_region_held_drew (S := fun w' => w'.cell? ⟨w2.heap.size, 0, none⟩ = some (.int .i64 xa) ∧ w'.cell? ⟨w2.heap.size, 1, none⟩ = some (.int .i64 xj) ∧ w'.cell? ⟨w2.heap.size, 2, none⟩ = some (.int .i64 xs)) (by kernel_rfl) hi (fun hHeld => ?_)
    clear hi
    refine wpAnyH_take (i := 0) (v := ?vv22) rfl (by kernel_rfl) (by kernel_rfl) (by kernel_rfl) (fun _ _ _ h => h) (Or.inl ⟨by rfl, ?hy22⟩) (by assumption) ?rest22
    case hy22 => (intro w hSw; (try dsimp only at hSw); (try simp only [List.getElem_toArray, List.getElem_cons_zero, List.getElem_cons_succ]); go_simp <;> with_reducible rfl)
    try simp only [List.getElem_toArray, List.getElem_cons_zero, List.getElem_cons_succ, Act.put, List.setIfInBounds_toArray, List.set_cons_zero, List.set_cons_succ]
    refine wpAnyH_take (i := 1) (v := ?vv23) rfl (by kernel_rfl) (by kernel_rfl) (by kernel_rfl) (fun _ _ _ h => h) (Or.inl ⟨by rfl, ?hy23⟩) (by assumption) ?rest23
    case hy23 => (intro w hSw; (try dsimp only at hSw); (try simp only [List.getElem_toArray, List.getElem_cons_zero, List.getElem_cons_succ]); go_simp <;> with_reducible rfl)
    try simp only [List.getElem_toArray, List.getElem_cons_zero, List.getElem_cons_succ, Act.put, List.setIfInBounds_toArray, List.set_cons_zero, List.set_cons_succ]
    refine wpAnyH_take (i := 2) (v := ?vv24) rfl (by kernel_rfl) (by kernel_rfl) (by kernel_rfl) (fun _ _ _ h => h) (Or.inl ⟨by rfl, ?hy24⟩) (by assumption) ?rest24
    case hy24 => (intro w hSw; (try dsimp only at hSw); (try simp only [List.getElem_toArray, List.getElem_cons_zero, List.getElem_cons_succ]); go_simp <;> with_reducible rfl)
    try simp only [List.getElem_toArray, List.getElem_cons_zero, List.getElem_cons_succ, Act.put, List.setIfInBounds_toArray, List.set_cons_zero, List.set_cons_succ]
    refine wpAnyH_take (i := 3) (v := ?vv25) rfl (by kernel_rfl) (by kernel_rfl) (by kernel_rfl) (fun _ _ _ h => h) (Or.inl ⟨by rfl, ?hy25⟩) (by assumption) ?rest25
    case hy25 => (intro w hSw; (try dsimp only at hSw); (try simp only [List.getElem_toArray, List.getElem_cons_zero, List.getElem_cons_succ]); go_simp <;> with_reducible rfl)
    try simp only [List.getElem_toArray, List.getElem_cons_zero, List.getElem_cons_succ, Act.put, List.setIfInBounds_toArray, List.set_cons_zero, List.set_cons_succ]
    refine wpAnyH_take (i := 4) (v := ?vv26) rfl (by kernel_rfl) (by kernel_rfl) (by kernel_rfl) (fun _ _ _ h => h) (Or.inl ⟨by rfl, ?hy26⟩) (by assumption) ?rest26
    case hy26 => (intro w hSw; (try dsimp only at hSw); (try simp only [List.getElem_toArray, List.getElem_cons_zero, List.getElem_cons_succ]); go_simp <;> with_reducible rfl)
    try simp only [List.getElem_toArray, List.getElem_cons_zero, List.getElem_cons_succ, Act.put, List.setIfInBounds_toArray, List.set_cons_zero, List.set_cons_succ]
    refine wpAnyH_ready (rs := [5]) (by kernel_rfl) (by simp) ?_
    refine AllReadyH.cons rfl (fun K hK => ?_) AllReadyH.nil
    go_simp
    refine (specPick (w.heap.size + 1) (0 + 1) 3 _ (HR.out.below (Below.refl _ _).drew) (by omega) (by omega)).mono ?_
    rintro e w4 ⟨z, rfl, ⟨z0, z1, -⟩, -, hgr4, -⟩
    have z1 := z1 (by omega)
    have HX4 := HX.drew.pick hgr4 (by omega) (by omega) (by omega) (by omega)
    clear hgr4
    obtain ⟨kk, hkk⟩ : ∃ kk, kk = 1 + z := ⟨_, rfl⟩
    have hwr : IntKind.i64.wrap (1 + z) = kk := by rw [IntWalk.i64_in _ (by omega)]; exact hkk.symm
    have hk0 : 0 ≤ kk := by omega
    have hk9 : kk ≤ 41 := by omega
    clear hkk
    dsimp only
    refine hK.out _ _ (HX4.inner) (fun hHeld => ?_)
    clear hK K
    try simp only [List.getElem_toArray, List.getElem_cons_zero, List.getElem_cons_succ, Act.put, List.setIfInBounds_toArray, List.set_cons_zero, List.set_cons_succ]
    refine wpAnyH_take (i := 6) (v := ?vv27) rfl (by kernel_rfl) (by kernel_rfl) (by kernel_rfl) (fun _ _ _ h => h) (Or.inl ⟨by rfl, ?hy27⟩) (by assumption) ?rest27
    case hy27 => (intro w hSw; (try dsimp only at hSw); (try simp only [List.getElem_toArray, List.getElem_cons_zero, List.getElem_cons_succ]); go_simp <;> with_reducible rfl)
    try simp only [List.getElem_toArray, List.getElem_cons_zero, List.getElem_cons_succ, Act.put, List.setIfInBounds_toArray, List.set_cons_zero, List.set_cons_succ]
    refine wpAnyH_take (i := 7) (v := ?vv28) rfl (by kernel_rfl) (by kernel_rfl) (by kernel_rfl) (fun _ _ _ h => h) (Or.inl ⟨by rfl, ?hy28⟩) (by assumption) ?rest28
    case hy28 => (intro w hSw; (try dsimp only at hSw); (try simp only [List.getElem_toArray, List.getElem_cons_zero, List.getElem_cons_succ]); go_simp <;> with_reducible rfl)
    try simp only [List.getElem_toArray, List.getElem_cons_zero, List.getElem_cons_succ, Act.put, List.setIfInBounds_toArray, List.set_cons_zero, List.set_cons_succ]
    refine wpAnyH_take (i := 8) (v := ?vv29) rfl (by kernel_rfl) (by kernel_rfl) (by kernel_rfl) (fun _ _ _ h => h) (Or.inl ⟨by rfl, ?hy29⟩) (by assumption) ?rest29
    case hy29 => (intro w hSw; (try dsimp only at hSw); (try simp only [List.getElem_toArray, List.getElem_cons_zero, List.getElem_cons_succ]); go_simp <;> with_reducible rfl)
    try simp only [List.getElem_toArray, List.getElem_cons_zero, List.getElem_cons_succ, Act.put, List.setIfInBounds_toArray, List.set_cons_zero, List.set_cons_succ]
    have hf0 := HX4.1.frozen 0
    have hf1 := HX4.1.frozen 1
    have hf2 := HX4.1.frozen 2
    have ho0 := HX4.1.cell 0
    have ho1 := HX4.1.cell 1
    have ho2 := HX4.1.cell 2
    simp only [List.getElem?_cons_zero, List.getElem?_cons_succ] at ho0 ho1 ho2
    have HX5 := HX4.set3 (.int .i64 xa) (.int .i64 xj) (.int .i64 xs) (by omega) (by omega) (by omega)
    refine wpAnyH_ready (rs := [9]) (by kernel_rfl) (by simp) ?_
    refine AllReadyH.cons rfl (fun K hK => ?_) AllReadyH.nil
    go_simp
    refine hK.out _ _ (HX5.inner) (fun hHeld => ?_)
    clear hK K
    try simp only [List.getElem_toArray, List.getElem_cons_zero, List.getElem_cons_succ, Act.put, List.setIfInBounds_toArray, List.set_cons_zero, List.set_cons_succ]
    clear hf0 hf1 hf2 ho0 ho1 ho2
    refine wpAnyH_take (i := 10) (v := ?vv30) rfl (by kernel_rfl) (by kernel_rfl) (by kernel_rfl) (fun _ _ _ h => h) (Or.inl ⟨by rfl, ?hy30⟩) (by assumption) ?rest30
    case hy30 => (intro w hSw; (try dsimp only at hSw); (try simp only [List.getElem_toArray, List.getElem_cons_zero, List.getElem_cons_succ]); go_simp <;> with_reducible rfl)
    try simp only [List.getElem_toArray, List.getElem_cons_zero, List.getElem_cons_succ, Act.put, List.setIfInBounds_toArray, List.set_cons_zero, List.set_cons_succ]
    refine wpAnyH_take (i := 11) (v := ?vv31) rfl (by kernel_rfl) (by kernel_rfl) (by kernel_rfl) (fun _ _ _ h => h) (Or.inl ⟨by rfl, ?hy31⟩) (by assumption) ?rest31
    case hy31 => (intro w hSw; (try dsimp only at hSw); (try simp only [List.getElem_toArray, List.getElem_cons_zero, List.getElem_cons_succ]); go_simp <;> with_reducible rfl)
    try simp only [List.getElem_toArray, List.getElem_cons_zero, List.getElem_cons_succ, Act.put, List.setIfInBounds_toArray, List.set_cons_zero, List.set_cons_succ]
    refine wpAnyH_done (by kernel_rfl) ?_ _
    clear hHeld
    have hq0 := HX5.1.cell 0
    have hq1 := HX5.1.cell 1
    have hq2 := HX5.1.cell 2
    simp only [List.getElem?_cons_zero, List.getElem?_cons_succ] at hq0 hq1 hq2
    go_wp2
    refine bodyPost_ret (v := .tuple #[.slice A1 l.length c1, .slice A2 L.length c2, Rc.val ⟨xa, xj, xs⟩, .int .i64 k, .int .i64 kk]) ?_ rfl (dM HX5 HD.out hkb (by omega) (by omega))
    simp [results, Try.results15, go_sem, hq0, hq1, hq2]
end Go.Proofs.Ytiheheapghjpbaa
