/- The program's bands: the closure of a group, bandsOf, groupBands, different. -/
import Derived.Test.YtaojjlhlahoocaaMap
import Derived.Test.YtaojjlhlahoocaaDiv
namespace Go.Proofs.Ytaojjlhlahoocaa
open Go.RowKit
set_option linter.unusedSimpArgs false
attribute [local go_sem ↓] Go.wp_at_zero Go.wp_at_succ

theorem implBand (y : Int) (w : World) (h0 : 0 ≤ y) (h1 : y ≤ 999) : Calls Try.prog 69 #[.int .i64 y] w fun e w' => e = .returned (.int .i64 (y / 100)) ∧ w = w' := by
  have ed : Int.tdiv y 100 = y / 100 := Int.tdiv_eq_ediv_of_nonneg h0
  go_enter Try.func69, Try.ntmps69
  go_wp2
  go_ret
  exact ⟨rfl, rfl⟩

theorem eql_same (qa qj qs qp pa pj ps pp : Int) (w : World) : (if (g0 ⟨qa, qj, qs, qp⟩).a = (g0 ⟨pa, pj, ps, pp⟩).a then if (g0 ⟨qa, qj, qs, qp⟩).j = (g0 ⟨pa, pj, ps, pp⟩).j then if (g0 ⟨qa, qj, qs, qp⟩).s = (g0 ⟨pa, pj, ps, pp⟩).s then if (g0 ⟨qa, qj, qs, qp⟩).p = (g0 ⟨pa, pj, ps, pp⟩).p then Result.ok (Next.value (Value.bool true)) w else Result.ok (Next.value (Value.bool false)) w else Result.ok (Next.value (Value.bool false)) w else Result.ok (Next.value (Value.bool false)) w else Result.ok (Next.value (Value.bool false)) w) = Result.ok (Next.value (Value.bool (sameG ⟨qa, qj, qs, qp⟩ ⟨pa, pj, ps, pp⟩))) w := by
  unfold sameG g0
  by_cases h1 : qa = pa <;> by_cases h2 : qj = pj <;> by_cases h3 : qs = ps <;> simp [h1, h2, h3]

/-- What a group's closure has caught: boxes of the people and of the index. -/
def Caught (w : World) (bp bk : Nat) (A : Option Addr) (c : Nat) (x : List Pn) (k : Nat) : Prop := Blk w bp 23 [.slice A x.length c] ∧ Blk w bk 3 [.int .i64 k] ∧ Ppl w w.heap.size A x
theorem Caught.below {w w' : World} {B bp bk : Nat} {A : Option Addr} {c : Nat} {x : List Pn} {k : Nat} (h : Caught w bp bk A c x k) (hb : Below B w w') (hB : w.heap.size ≤ B) : Caught w' bp bk A c x k :=
  ⟨h.1.below hb (Nat.lt_of_lt_of_le h.1.lt hB), h.2.1.below hb (Nat.lt_of_lt_of_le h.2.1.lt hB), (h.2.2.below (hb.mono hB)).more hb.size⟩

set_option maxRecDepth 100000 in
set_option maxHeartbeats 2000000 in
theorem implGB1 (A : Option Addr) (c bp bk : Nat) (x : List Pn) (k : Nat) (p q : Pn) (w : World) (h : Caught w bp bk A c x k) (hp : x[k]? = some p) :
    Calls Try.prog 70 #[q.val, .pointer (some ⟨bp, 0, none⟩), .pointer (some ⟨bk, 0, none⟩)] w fun e w' => e = .returned (.bool (sameG q p)) ∧ Below w.heap.size w w' := by
  obtain ⟨h1, h2, h3⟩ := h
  obtain ⟨b, off, rfl, hb, hd0, hd1, hd2, hd3⟩ := h3.at_ hp
  have hkl : k < x.length := (List.getElem?_eq_some_iff.1 hp).1
  have hk0 : (0 : Int) ≤ (k : Int) := Int.natCast_nonneg _
  have hk1 : (k : Int) < (x.length : Int) := by omega
  have hc1 := h1.cell 0
  have hc2 := h2.cell 0
  simp only [List.getElem?_cons_zero] at hc1 hc2
  obtain ⟨qa, qj, qs, qp⟩ := q
  obtain ⟨pa, pj, ps, pp⟩ := p
  dsimp only at hd0 hd1 hd2 hd3
  have hbp : bp < w.heap.size := h1.lt
  have hbk : bk < w.heap.size := h2.lt
  clear h1 h2 h3 hp
  have hB0 := (((Below.refl _ _).alloc (Nat.le_refl _) _) : Below w.heap.size w (w.alloc (.cells #[.int .i64 qa, .int .i64 qj, .int .i64 qs, .int .i64 qp] 35)))
  have hN0 := Blk.new w 35 #[.int .i64 qa, .int .i64 qj, .int .i64 qs, .int .i64 qp]
  have HS : Hid ((fun w' => w'.cell? ⟨w.heap.size, 0, none⟩ = some (.int .i64 qa) ∧ w'.cell? ⟨w.heap.size, 1, none⟩ = some (.int .i64 qj) ∧ w'.cell? ⟨w.heap.size, 2, none⟩ = some (.int .i64 qs) ∧ w'.cell? ⟨w.heap.size, 3, none⟩ = some (.int .i64 qp) ∧ w'.cell? ⟨bp, 0, none⟩ = some (.slice (some ⟨b, off, none⟩) x.length c) ∧ w'.cell? ⟨bk, 0, none⟩ = some (.int .i64 k) ∧ w'.cell? ⟨b, off + k * 4, none⟩ = some (.int .i64 pa) ∧ w'.cell? ⟨b, off + k * 4 + 1, none⟩ = some (.int .i64 pj) ∧ w'.cell? ⟨b, off + k * 4 + 2, none⟩ = some (.int .i64 ps) ∧ w'.cell? ⟨b, off + k * 4 + 3, none⟩ = some (.int .i64 pp)) (w.alloc (.cells #[.int .i64 qa, .int .i64 qj, .int .i64 qs, .int .i64 qp] 35))) :=
    ⟨hN0.cell 0, hN0.cell 1, hN0.cell 2, hN0.cell 3, (hB0.cell (p := ⟨bp, _, none⟩) hbp).trans hc1, (hB0.cell (p := ⟨bk, _, none⟩) hbk).trans hc2, (hB0.cell (p := ⟨b, _, none⟩) hb).trans hd0, (hB0.cell (p := ⟨b, _, none⟩) hb).trans hd1, (hB0.cell (p := ⟨b, _, none⟩) hb).trans hd2, (hB0.cell (p := ⟨b, _, none⟩) hb).trans hd3⟩
  have HK : Hid (∀ W : World, Below (w.heap.size + 1) (w.alloc (.cells #[.int .i64 qa, .int .i64 qj, .int .i64 qs, .int .i64 qp] 35)) W → (fun w' => w'.cell? ⟨w.heap.size, 0, none⟩ = some (.int .i64 qa) ∧ w'.cell? ⟨w.heap.size, 1, none⟩ = some (.int .i64 qj) ∧ w'.cell? ⟨w.heap.size, 2, none⟩ = some (.int .i64 qs) ∧ w'.cell? ⟨w.heap.size, 3, none⟩ = some (.int .i64 qp) ∧ w'.cell? ⟨bp, 0, none⟩ = some (.slice (some ⟨b, off, none⟩) x.length c) ∧ w'.cell? ⟨bk, 0, none⟩ = some (.int .i64 k) ∧ w'.cell? ⟨b, off + k * 4, none⟩ = some (.int .i64 pa) ∧ w'.cell? ⟨b, off + k * 4 + 1, none⟩ = some (.int .i64 pj) ∧ w'.cell? ⟨b, off + k * 4 + 2, none⟩ = some (.int .i64 ps) ∧ w'.cell? ⟨b, off + k * 4 + 3, none⟩ = some (.int .i64 pp)) W) := fun W hW => by
    obtain ⟨s0, s1, s2, s3, s4, s5, s6, s7, s8, s9⟩ := HS.out
    exact ⟨(hW.cell (p := ⟨w.heap.size, _, none⟩) (Nat.lt_succ_self _)).trans s0, (hW.cell (p := ⟨w.heap.size, _, none⟩) (Nat.lt_succ_self _)).trans s1, (hW.cell (p := ⟨w.heap.size, _, none⟩) (Nat.lt_succ_self _)).trans s2, (hW.cell (p := ⟨w.heap.size, _, none⟩) (Nat.lt_succ_self _)).trans s3, (hW.cell (p := ⟨bp, _, none⟩) (Nat.lt_succ_of_lt hbp)).trans s4, (hW.cell (p := ⟨bk, _, none⟩) (Nat.lt_succ_of_lt hbk)).trans s5, (hW.cell (p := ⟨b, _, none⟩) (Nat.lt_succ_of_lt hb)).trans s6, (hW.cell (p := ⟨b, _, none⟩) (Nat.lt_succ_of_lt hb)).trans s7, (hW.cell (p := ⟨b, _, none⟩) (Nat.lt_succ_of_lt hb)).trans s8, (hW.cell (p := ⟨b, _, none⟩) (Nat.lt_succ_of_lt hb)).trans s9⟩
  clear hc1 hc2 hd0 hd1 hd2 hd3
  go_enter Try.func70, Try.ntmps70
  go_wp2
  have hBr := Below.refl (w.heap.size + 1) (w.alloc (.cells #[.int .i64 qa, .int .i64 qj, .int .i64 qs, .int .i64 qp] 35))
  refine wp_region_held_drew (S := fun w' => w'.cell? ⟨w.heap.size, 0, none⟩ = some (.int .i64 qa) ∧ w'.cell? ⟨w.heap.size, 1, none⟩ = some (.int .i64 qj) ∧ w'.cell? ⟨w.heap.size, 2, none⟩ = some (.int .i64 qs) ∧ w'.cell? ⟨w.heap.size, 3, none⟩ = some (.int .i64 qp) ∧ w'.cell? ⟨bp, 0, none⟩ = some (.slice (some ⟨b, off, none⟩) x.length c) ∧ w'.cell? ⟨bk, 0, none⟩ = some (.int .i64 k) ∧ w'.cell? ⟨b, off + k * 4, none⟩ = some (.int .i64 pa) ∧ w'.cell? ⟨b, off + k * 4 + 1, none⟩ = some (.int .i64 pj) ∧ w'.cell? ⟨b, off + k * 4 + 2, none⟩ = some (.int .i64 ps) ∧ w'.cell? ⟨b, off + k * 4 + 3, none⟩ = some (.int .i64 pp)) (by kernel_rfl) (HK.out _ hBr.drew) (fun hHeld => ?_)
  refine wpAnyH_take (i := 0) (v := ?vv1) rfl (by kernel_rfl) (by kernel_rfl) (by kernel_rfl) (fun _ _ _ h => h) (Or.inl ⟨by rfl, ?hy1⟩) (by assumption) ?rest1
  case hy1 => (intro w hSw; (try dsimp only at hSw); (try simp only [List.getElem_toArray, List.getElem_cons_zero, List.getElem_cons_succ]); go_simp <;> with_reducible rfl)
  try simp only [List.getElem_toArray, List.getElem_cons_zero, List.getElem_cons_succ, Act.put, List.setIfInBounds_toArray, List.set_cons_zero, List.set_cons_succ]
  refine wpAnyH_take (i := 2) (v := ?vv2) rfl (by kernel_rfl) (by kernel_rfl) (by kernel_rfl) (fun _ _ _ h => h) (Or.inl ⟨by rfl, ?hy2⟩) (by assumption) ?rest2
  case hy2 => (intro w hSw; (try dsimp only at hSw); (try simp only [List.getElem_toArray, List.getElem_cons_zero, List.getElem_cons_succ]); go_simp <;> with_reducible rfl)
  try simp only [List.getElem_toArray, List.getElem_cons_zero, List.getElem_cons_succ, Act.put, List.setIfInBounds_toArray, List.set_cons_zero, List.set_cons_succ]
  refine wpAnyH_take (i := 3) (v := ?vv3) rfl (by kernel_rfl) (by kernel_rfl) (by kernel_rfl) (fun _ _ _ h => h) (Or.inl ⟨by rfl, ?hy3⟩) (by assumption) ?rest3
  case hy3 => (intro w hSw; (try dsimp only at hSw); (try simp only [List.getElem_toArray, List.getElem_cons_zero, List.getElem_cons_succ]); go_simp <;> with_reducible rfl)
  try simp only [List.getElem_toArray, List.getElem_cons_zero, List.getElem_cons_succ, Act.put, List.setIfInBounds_toArray, List.set_cons_zero, List.set_cons_succ]
  refine wpAnyH_take (i := 4) (v := ?vv4) rfl (by kernel_rfl) (by kernel_rfl) (by kernel_rfl) (fun _ _ _ h => h) (Or.inl ⟨by rfl, ?hy4⟩) (by assumption) ?rest4
  case hy4 => (intro w hSw; (try dsimp only at hSw); (try simp only [List.getElem_toArray, List.getElem_cons_zero, List.getElem_cons_succ]); go_simp <;> with_reducible rfl)
  try simp only [List.getElem_toArray, List.getElem_cons_zero, List.getElem_cons_succ, Act.put, List.setIfInBounds_toArray, List.set_cons_zero, List.set_cons_succ]
  refine wpAnyH_take (i := 5) (v := ?vv5) rfl (by kernel_rfl) (by kernel_rfl) (by kernel_rfl) (fun _ _ _ h => h) (Or.inl ⟨by rfl, ?hy5⟩) (by assumption) ?rest5
  case hy5 => (intro w hSw; (try dsimp only at hSw); (try simp only [List.getElem_toArray, List.getElem_cons_zero, List.getElem_cons_succ]); go_simp <;> with_reducible rfl)
  try simp only [List.getElem_toArray, List.getElem_cons_zero, List.getElem_cons_succ, Act.put, List.setIfInBounds_toArray, List.set_cons_zero, List.set_cons_succ]
  refine wpAnyH_ready (rs := [1]) (by kernel_rfl) (by simp) ?_
  refine AllReadyH.cons rfl (fun K hK => ?_) AllReadyH.nil
  go_simp
  refine (implGroupOf ⟨qa, qj, qs, qp⟩ _).mono ?_
  rintro e w3 ⟨rfl, hb3⟩
  have hB3 := hBr.drew.trans (hb3.mono (by simp))
  clear hb3
  dsimp only
  refine hK.out _ _ (HK.out _ hB3) (fun hHeld => ?_)
  clear hK K
  try simp only [List.getElem_toArray, List.getElem_cons_zero, List.getElem_cons_succ, Act.put, List.setIfInBounds_toArray, List.set_cons_zero, List.set_cons_succ]
  refine wpAnyH_ready (rs := [6]) (by kernel_rfl) (by simp) ?_
  refine AllReadyH.cons rfl (fun K hK => ?_) AllReadyH.nil
  go_simp
  refine (implGroupOf ⟨pa, pj, ps, pp⟩ _).mono ?_
  rintro e w4 ⟨rfl, hb4⟩
  have hB4 := hB3.trans (hb4.mono (by have := hB3.size; simp at this; omega))
  clear hb4
  dsimp only
  refine hK.out _ _ (HK.out _ hB4) (fun hHeld => ?_)
  clear hK K
  try simp only [List.getElem_toArray, List.getElem_cons_zero, List.getElem_cons_succ, Act.put, List.setIfInBounds_toArray, List.set_cons_zero, List.set_cons_succ]
  refine wpAnyH_take (i := 7) (v := .bool (sameG ⟨qa, qj, qs, qp⟩ ⟨pa, pj, ps, pp⟩)) rfl (by kernel_rfl) (by kernel_rfl) (by kernel_rfl) (fun _ _ _ h => h) (Or.inl ⟨by rfl, ?hyE⟩) (by assumption) ?restE
  case hyE =>
    intro w hSw
    clear hSw
    simp only [List.getElem_toArray, List.getElem_cons_zero, List.getElem_cons_succ]
    go_simp
    exact eql_same qa qj qs qp pa pj ps pp w
  simp only [List.getElem_toArray, List.getElem_cons_zero, List.getElem_cons_succ, Act.put, List.setIfInBounds_toArray, List.set_cons_zero, List.set_cons_succ]
  refine wpAnyH_take (i := 8) (v := ?vv6) rfl (by kernel_rfl) (by kernel_rfl) (by kernel_rfl) (fun _ _ _ h => h) (Or.inl ⟨by rfl, ?hy6⟩) (by assumption) ?rest6
  case hy6 => (intro w hSw; (try dsimp only at hSw); (try simp only [List.getElem_toArray, List.getElem_cons_zero, List.getElem_cons_succ]); go_simp <;> with_reducible rfl)
  try simp only [List.getElem_toArray, List.getElem_cons_zero, List.getElem_cons_succ, Act.put, List.setIfInBounds_toArray, List.set_cons_zero, List.set_cons_succ]
  refine wpAnyH_done (by kernel_rfl) ?_ _
  clear hHeld
  go_wp2
  go_ret
  exact ⟨rfl, (hB0.trans (hB4.mono (Nat.le_succ _)))⟩

/-- What bandsOf's loop has in memory: the result's box, the bands so far. -/
def BSt (f : Pn → Bool) (w : World) (pre : List Pn) (wr : World) : Prop := Blk wr w.heap.size 57 (List.replicate 10 (.int .i64 0)) ∧ Blk wr (w.heap.size + 1) 57 (bvals f pre) ∧ Below w.heap.size w wr
theorem BSt.below {f : Pn → Bool} {w wr w' : World} {pre : List Pn} (h : BSt f w pre wr) (hb : Below wr.heap.size wr w') : BSt f w pre w' :=
  ⟨h.1.below hb h.1.lt, h.2.1.below hb h.2.1.lt, h.2.2.trans (hb.mono h.2.2.size)⟩

set_option maxRecDepth 100000 in
set_option maxHeartbeats 4000000 in
theorem implBandsOf (A : Option Addr) (c bp bk : Nat) (x : List Pn) (k : Nat) (p : Pn) (w : World) (h : Caught w bp bk A c x k) (hp : x[k]? = some p) (hn : x.length ≤ 40) (hg : ∀ q ∈ x, q.good) :
    Calls Try.prog 50 #[.slice A x.length c, .func (.func 70) #[] #[.pointer (some ⟨bp, 0, none⟩), .pointer (some ⟨bk, 0, none⟩)]] w fun e w' => e = .returned (.agg (bvals (grpOf p) x).toArray) ∧ Below w.heap.size w w' := by
  have HC := Lib.hid h
  have HG := Lib.hid hg
  have HP := Lib.hid hp
  clear h hg hp
  have hs : BSt (grpOf p) w [] ((w.alloc (.cells (List.replicate 10 (.int .i64 0)).toArray 57)).alloc (.cells (List.replicate 10 (.int .i64 0)).toArray 57)) :=
    ⟨(Blk.new w 57 _).alloc _, by have := Blk.new (w.alloc (.cells (List.replicate 10 (.int .i64 0)).toArray 57)) 57 (List.replicate 10 (.int .i64 0)).toArray; rw [World.size_alloc] at this; rw [bvals_nil]; exact this, (((Below.refl _ _).alloc (Nat.le_refl _) _).alloc (by simp <;> omega) _)⟩
  go_enter Try.func50, Try.ntmps50
  go_wp2
  go_loopw [10] (fun i wr => ∃ pre suf, Cut x pre suf ∧ i = .int .i64 pre.length ∧ BSt (grpOf p) w pre wr) (fun i _ => x.length - (intOf i).toNat)
  case atStart => exact ⟨[], x, Cut.zero _, rfl, hs⟩
  case round =>
    obtain ⟨pre, suf, hcut, rfl, hS⟩ := hrel
    clear hs
    cases suf with
    | nil =>
      have hge := hcut.len0
      rw [hcut.done] at hS
      obtain ⟨hZ, hV, hBw⟩ := hS
      have hv0 := hV.cell 0
      have hf0 := hZ.frozen 0
      have hz0 := hZ.cell 0
      have hv1 := hV.cell 1
      have hf1 := hZ.frozen 1
      have hz1 := hZ.cell 1
      have hv2 := hV.cell 2
      have hf2 := hZ.frozen 2
      have hz2 := hZ.cell 2
      have hv3 := hV.cell 3
      have hf3 := hZ.frozen 3
      have hz3 := hZ.cell 3
      have hv4 := hV.cell 4
      have hf4 := hZ.frozen 4
      have hz4 := hZ.cell 4
      have hv5 := hV.cell 5
      have hf5 := hZ.frozen 5
      have hz5 := hZ.cell 5
      have hv6 := hV.cell 6
      have hf6 := hZ.frozen 6
      have hz6 := hZ.cell 6
      have hv7 := hV.cell 7
      have hf7 := hZ.frozen 7
      have hz7 := hZ.cell 7
      have hv8 := hV.cell 8
      have hf8 := hZ.frozen 8
      have hz8 := hZ.cell 8
      have hv9 := hV.cell 9
      have hf9 := hZ.frozen 9
      have hz9 := hZ.cell 9
      rw [bvals_ten] at hv0 hv1 hv2 hv3 hv4 hv5 hv6 hv7 hv8 hv9
      simp only [List.getElem?_cons_zero, List.getElem?_cons_succ, List.replicate] at hv0 hv1 hv2 hv3 hv4 hv5 hv6 hv7 hv8 hv9 hz0 hz1 hz2 hz3 hz4 hz5 hz6 hz7 hz8 hz9
      go_wp2
      have hq := ((((((((((hZ.set 0 (.int .i64 (bc (grpOf p) x 0))).set 1 (.int .i64 (bc (grpOf p) x 1))).set 2 (.int .i64 (bc (grpOf p) x 2))).set 3 (.int .i64 (bc (grpOf p) x 3))).set 4 (.int .i64 (bc (grpOf p) x 4))).set 5 (.int .i64 (bc (grpOf p) x 5))).set 6 (.int .i64 (bc (grpOf p) x 6))).set 7 (.int .i64 (bc (grpOf p) x 7))).set 8 (.int .i64 (bc (grpOf p) x 8))).set 9 (.int .i64 (bc (grpOf p) x 9)))
      simp only [List.replicate, List.set_cons_zero, List.set_cons_succ] at hq
      have hq0 := hq.cell 0
      have hq1 := hq.cell 1
      have hq2 := hq.cell 2
      have hq3 := hq.cell 3
      have hq4 := hq.cell 4
      have hq5 := hq.cell 5
      have hq6 := hq.cell 6
      have hq7 := hq.cell 7
      have hq8 := hq.cell 8
      have hq9 := hq.cell 9
      simp only [List.getElem?_cons_zero, List.getElem?_cons_succ] at hq0 hq1 hq2 hq3 hq4 hq5 hq6 hq7 hq8 hq9
      refine bodyPost_ret (v := .agg (bvals (grpOf p) x).toArray) ?_ rfl ⟨rfl, ((((((((((hBw.setCell (Nat.le_refl _) _).setCell (Nat.le_refl _) _).setCell (Nat.le_refl _) _).setCell (Nat.le_refl _) _).setCell (Nat.le_refl _) _).setCell (Nat.le_refl _) _).setCell (Nat.le_refl _) _).setCell (Nat.le_refl _) _).setCell (Nat.le_refl _) _).setCell (Nat.le_refl _) _)⟩
      rw [bvals_ten]
      simp [results, Try.results50, go_sem, hq0, hq1, hq2, hq3, hq4, hq5, hq6, hq7, hq8, hq9]
    | cons q suf =>
      have hlt := hcut.len1
      obtain ⟨b, off, rfl, hb, hc0, hc1, hc2, hc3⟩ := (HC.out.2.2.below hS.2.2).at_ hcut.at_
      have hqg := Lib.hid (HG.out q hcut.mem)
      have HQP := Lib.hid (show sameG q p = grpOf p q from rfl)
      have hCW := (HC.out.below (hS.2.2.alloc hS.2.2.size (.cells #[.int .i64 q.a, .int .i64 q.j, .int .i64 q.s, .int .i64 q.p] 35)) (Nat.le_refl _))
      have hSW := hS.below (((Below.refl _ _).alloc (Nat.le_refl _) _) : Below wr.heap.size wr (wr.alloc (.cells #[.int .i64 q.a, .int .i64 q.j, .int .i64 q.s, .int .i64 q.p] 35)))
      have hQ := Blk.new wr 35 #[.int .i64 q.a, .int .i64 q.j, .int .i64 q.s, .int .i64 q.p]
      go_wp2_with fail
      refine (implGB1 _ c bp bk x k p q _ hCW HP.out).mono ?_
      rintro e w2 ⟨rfl, hb2⟩
      have hS2 := hSW.below hb2
      have hQ2 := hQ.below hb2 hQ.lt
      rw [HQP.out]
      clear hCW hSW hQ hb2 hc0 hc1 hc2 hc3 hS
      cases hs : grpOf p q
      · have HS := Lib.hid hs
        clear hs
        go_wp2
        go_roundw
        case rel => exact ⟨pre ++ [q], suf, hcut.next, by simp, hS2.1, by rw [bvals_no HS.out]; exact hS2.2.1, hS2.2.2⟩
        case measure => simp [intOf]; omega
      · have HS := Lib.hid hs
        clear hs
        obtain ⟨m, hm, hm9⟩ : ∃ m : Nat, q.p / 100 = (m : Int) ∧ m < 10 := ⟨(q.p / 100).toNat, by have := hqg.out.2.2.2; omega, by have := hqg.out.2.2.2; omega⟩
        have HM := Lib.hid hm
        clear hm
        have hq3 := hQ2.cell 3
        have hv := hS2.2.1.cell m
        have hfz := hS2.2.1.frozen m
        rw [bvals_at _ _ hm9] at hv
        have hbl := bc_le (grpOf p) pre m
        simp only [List.getElem?_cons_zero, List.getElem?_cons_succ] at hq3
        go_wp2_with fail
        refine (implBand _ _ hqg.out.2.2.2.1 hqg.out.2.2.2.2).mono ?_
        rw [HM.out]
        rintro e w3 ⟨rfl, rfl⟩
        go_wp2
        go_roundw
        case rel => exact ⟨pre ++ [q], suf, hcut.next, by simp, hS2.1.far (by simp) _, by rw [bvals_yes HS.out HM.out]; exact hS2.2.1.set m _, hS2.2.2.setCell (Nat.le_succ _) _⟩
        case measure => simp [intOf]; omega

set_option maxRecDepth 100000 in
set_option maxHeartbeats 4000000 in
theorem implGroupBands (A : Option Addr) (c : Nat) (x : List Pn) (k : Nat) (p : Pn) (w : World) (h : Ppl w w.heap.size A x) (hp : x[k]? = some p) (hn : x.length ≤ 40) (hg : ∀ q ∈ x, q.good) :
    Calls Try.prog 52 #[.slice A x.length c, .int .i64 k] w fun e w' => e = .returned (.agg (bvals (grpOf p) x).toArray) ∧ Below w.heap.size w w' := by
  have hb1 := (((Below.refl _ _).alloc (Nat.le_refl _) _) : Below w.heap.size w (w.alloc (.cells #[.slice A x.length c] 23)))
  have hb2 := hb1.alloc hb1.size (.cells #[.int .i64 k] 3)
  have hb3 := hb2.alloc hb2.size (.cells (List.replicate 10 (.int .i64 0)).toArray 57)
  have hCa : Caught (((w.alloc (.cells #[.slice A x.length c] 23)).alloc (.cells #[.int .i64 k] 3)).alloc (.cells (List.replicate 10 (.int .i64 0)).toArray 57)) w.heap.size (w.heap.size + 1) A c x k :=
    ⟨((Blk.new w _ _).alloc _).alloc _, by have := (Blk.new (w.alloc (.cells #[.slice A x.length c] 23)) 3 #[.int .i64 k]).alloc (.cells (List.replicate 10 (.int .i64 0)).toArray 57); rw [World.size_alloc] at this; exact this, (h.below hb3).more hb3.size⟩
  have hR := Blk.new ((w.alloc (.cells #[.slice A x.length c] 23)).alloc (.cells #[.int .i64 k] 3)) 57 (List.replicate 10 (.int .i64 0)).toArray
  rw [World.size_alloc, World.size_alloc] at hR
  have HC := Lib.hid hCa
  clear hb1 hb2 hCa h
  have hl := hR.lt
  go_enter Try.func52, Try.ntmps52
  go_wp2_with fail
  refine (implBandsOf A c w.heap.size (w.heap.size + 1) x k p _ HC.out hp hn hg).mono ?_
  rintro e w2 ⟨rfl, hb4⟩
  have hBw := hb3.trans (hb4.mono hb3.size)
  have hZ := hR.below hb4 hl
  clear hb3 hb4 hR HC hl
  rw [bvals_ten]
  have hf0 := hZ.frozen 0
  have hz0 := hZ.cell 0
  have hf1 := hZ.frozen 1
  have hz1 := hZ.cell 1
  have hf2 := hZ.frozen 2
  have hz2 := hZ.cell 2
  have hf3 := hZ.frozen 3
  have hz3 := hZ.cell 3
  have hf4 := hZ.frozen 4
  have hz4 := hZ.cell 4
  have hf5 := hZ.frozen 5
  have hz5 := hZ.cell 5
  have hf6 := hZ.frozen 6
  have hz6 := hZ.cell 6
  have hf7 := hZ.frozen 7
  have hz7 := hZ.cell 7
  have hf8 := hZ.frozen 8
  have hz8 := hZ.cell 8
  have hf9 := hZ.frozen 9
  have hz9 := hZ.cell 9
  simp only [List.getElem?_cons_zero, List.getElem?_cons_succ, List.replicate] at hz0 hz1 hz2 hz3 hz4 hz5 hz6 hz7 hz8 hz9
  go_wp2
  have hq := ((((((((((hZ.set 0 (.int .i64 (bc (grpOf p) x 0))).set 1 (.int .i64 (bc (grpOf p) x 1))).set 2 (.int .i64 (bc (grpOf p) x 2))).set 3 (.int .i64 (bc (grpOf p) x 3))).set 4 (.int .i64 (bc (grpOf p) x 4))).set 5 (.int .i64 (bc (grpOf p) x 5))).set 6 (.int .i64 (bc (grpOf p) x 6))).set 7 (.int .i64 (bc (grpOf p) x 7))).set 8 (.int .i64 (bc (grpOf p) x 8))).set 9 (.int .i64 (bc (grpOf p) x 9)))
  simp only [List.replicate, List.set_cons_zero, List.set_cons_succ] at hq
  have hq0 := hq.cell 0
  have hq1 := hq.cell 1
  have hq2 := hq.cell 2
  have hq3 := hq.cell 3
  have hq4 := hq.cell 4
  have hq5 := hq.cell 5
  have hq6 := hq.cell 6
  have hq7 := hq.cell 7
  have hq8 := hq.cell 8
  have hq9 := hq.cell 9
  simp only [List.getElem?_cons_zero, List.getElem?_cons_succ] at hq0 hq1 hq2 hq3 hq4 hq5 hq6 hq7 hq8 hq9
  refine bodyPost_ret (v := .agg (bvals (grpOf p) x).toArray) ?_ rfl ⟨by rw [bvals_ten], ((((((((((hBw.setCell (Nat.le_add_right _ 2) _).setCell (Nat.le_add_right _ 2) _).setCell (Nat.le_add_right _ 2) _).setCell (Nat.le_add_right _ 2) _).setCell (Nat.le_add_right _ 2) _).setCell (Nat.le_add_right _ 2) _).setCell (Nat.le_add_right _ 2) _).setCell (Nat.le_add_right _ 2) _).setCell (Nat.le_add_right _ 2) _).setCell (Nat.le_add_right _ 2) _)⟩
  rw [bvals_ten]
  simp [results, Try.results52, go_sem, hq0, hq1, hq2, hq3, hq4, hq5, hq6, hq7, hq8, hq9]

set_option maxRecDepth 100000 in
theorem idx10 (f : Pn → Bool) (x : List Pn) (m : Nat) (w : World) (hm : m < 10) : (Instr.index 57 (.agg #[.int .i64 (bc f x 0), .int .i64 (bc f x 1), .int .i64 (bc f x 2), .int .i64 (bc f x 3), .int .i64 (bc f x 4), .int .i64 (bc f x 5), .int .i64 (bc f x 6), .int .i64 (bc f x 7), .int .i64 (bc f x 8), .int .i64 (bc f x 9)]) (.int .i64 m)).run Try.prog w = .ok (.int .i64 (bc f x m)) w := by
  rcases (show m = 0 ∨ m = 1 ∨ m = 2 ∨ m = 3 ∨ m = 4 ∨ m = 5 ∨ m = 6 ∨ m = 7 ∨ m = 8 ∨ m = 9 by omega) with rfl | rfl | rfl | rfl | rfl | rfl | rfl | rfl | rfl | rfl
  all_goals rfl

set_option maxRecDepth 100000 in
set_option maxHeartbeats 4000000 in
theorem implDifferent (f : Pn → Bool) (x : List Pn) (w : World) :
    Calls Try.prog 55 #[.agg (bvals f x).toArray] w fun e w' => e = .returned (.int .i64 (dv f x)) ∧ Below w.heap.size w w' := by
  have hB := (((Below.refl _ _).alloc (Nat.le_refl _) _) : Below w.heap.size w (w.alloc (.cells (bvals f x).toArray 57)))
  have hV := Blk.new w 57 (bvals f x).toArray
  have hv0 := hV.cell 0
  have hv1 := hV.cell 1
  have hv2 := hV.cell 2
  have hv3 := hV.cell 3
  have hv4 := hV.cell 4
  have hv5 := hV.cell 5
  have hv6 := hV.cell 6
  have hv7 := hV.cell 7
  have hv8 := hV.cell 8
  have hv9 := hV.cell 9
  rw [bvals_ten] at hv0 hv1 hv2 hv3 hv4 hv5 hv6 hv7 hv8 hv9 hB ⊢
  simp only [List.getElem?_cons_zero, List.getElem?_cons_succ] at hv0 hv1 hv2 hv3 hv4 hv5 hv6 hv7 hv8 hv9
  go_enter Try.func55, Try.ntmps55
  go_wp2
  go_loopw [3, 7] (fun n i wr => ∃ m : Nat, m ≤ 10 ∧ i = .int .i64 m ∧ n = .int .i64 (dvTo f x m) ∧ Below w.heap.size w wr) (fun _ i _ => 10 - (intOf i).toNat)
  case atStart => exact ⟨0, by omega, rfl, rfl, hB⟩
  case round =>
    obtain ⟨m, hm, rfl, rfl, hbw⟩ := hrel
    have hle := dvTo_le f x m
    clear hv0 hv1 hv2 hv3 hv4 hv5 hv6 hv7 hv8 hv9 hV hB
    by_cases hlt : m < 10
    · have hm0 : (0 : Int) ≤ (m : Int) := Int.natCast_nonneg _
      have hm1 : (m : Int) < 10 := by omega
      have hidx := idx10 f x m wr hlt
      have hnx := dvTo_succ f x m
      by_cases hpos : 0 < bc f x m
      · rw [if_pos hpos] at hnx
        have HNX := Lib.hid hnx
        clear hnx
        go_wp2
        go_roundw
        case rel => exact ⟨m + 1, by omega, by go_num, by rw [HNX.out]; go_num, hbw⟩
        case measure => simp [intOf]; omega
      · rw [if_neg hpos] at hnx
        have HNX := Lib.hid hnx
        clear hnx
        have hz : bc f x m = 0 := by omega
        go_wp2
        go_roundw
        case rel => exact ⟨m + 1, by omega, by go_num, by rw [HNX.out]; go_num, hbw⟩
        case measure => simp [intOf]; omega
    · have HE := Lib.hid (show m = 10 by omega)
      go_wp2
      go_ret
      exact ⟨ret_int (by rw [HE.out]; rfl), hbw⟩
end Go.Proofs.Ytaojjlhlahoocaa
