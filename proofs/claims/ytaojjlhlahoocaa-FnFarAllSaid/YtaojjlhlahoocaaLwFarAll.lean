/- FnFarAll, walked. -/
import Derived.Test.YtaojjlhlahoocaaLawKit
import Derived.Test.YtaojjlhlahoocaaPlain2
import Derived.Test.YtaojjlhlahoocaaFar
import Derived.Test.YtaojjlhlahoocaaLawKit2
import Derived.Test.YtaojjlhlahoocaaDrwDiverseFar
import Derived.Test.YtaojjlhlahoocaaPlain5
import Derived.IntWalk
namespace Go.Proofs.Ytaojjlhlahoocaa.WFnFarAll
open Go.RowKit
set_option linter.unusedVariables false

theorem one_arg {w : World} {A A2 : Option Addr} {l : List Pn} {L : List (List Int)} {n ti tr : Nat} (h : Arg w A l A2 L) (hi : Blk w n ti [.int .i64 0, .int .i64 0, .int .i64 0, .int .i64 0]) (ho : Blk w (n + 1) tr [.slice (some ⟨n, 0, none⟩) 4 4]) : Arg w A l (some ⟨n + 1, 0, none⟩) oneL := by
  refine ⟨h.1, h.2.1, fun _ => ⟨n + 1, 0, rfl, ho.lt, fun k r hr => ?_⟩, by decide, by decide⟩
  have hk := (List.getElem?_eq_some_iff.1 hr).1
  obtain rfl : k = 0 := by simp [oneL] at hk; exact hk
  have e : r = [.int .i64 0, .int .i64 0, .int .i64 0, .int .i64 0] := by simpa [oneL] using hr.symm
  subst e
  exact ⟨some ⟨n, 0, none⟩, 4, by rw [Nat.zero_add, ho.cell]; rfl, by decide, by decide, hi.rds hi.lt rfl⟩
set_option maxRecDepth 100000 in
set_option maxHeartbeats 4000000 in
theorem walk (w : World) (A : Option Addr) (c : Nat) (bs : List Int) (hn : bs.length ≤ 9223372036854775807) (hec : bs.length ≤ c ∧ c ≤ 9223372036854775807) (hg : Rds w w.heap.size 1 A bs.length (bs.map (Value.int .u8))) (hb : ∀ z ∈ bs, 0 ≤ z ∧ z ≤ 255) : Calls Try.prog 14 #[.slice A bs.length c] w fun e w' => e = .returned (.bool true) ∧ Below w.heap.size w w' := by
  have hB : Byt w A c bs := ⟨hg, hec.1, hec.2, hb⟩
  clear hg hb
  by_cases hbig : bs.length ≤ 1048576
  · go_enter Try.func14, Try.ntmps14
    go_wp2_with fail
    refine (specDrawDiverseFar A c bs w hB).mono ?_
    rintro e w1 ⟨A1, c1, l, A2, c2, L, ⟨xa, xj, xs⟩, k, rfl, hA, hD, hkb, hb1⟩
    have hD0 := Lib.hid hD
    obtain ⟨hl10, hL4, hxs, hps, hrs, hlc, hcm, hLc, hcm2⟩ := hD
    clear hps hrs hxs hB
    have hW2 : LW (w1.alloc (.cells #[.int .i64 xa, .int .i64 xj, .int .i64 xs] 26)) A1 l A2 L w1.heap.size xa xj xs := ⟨hA.below ((Below.refl _ _).alloc (Nat.le_refl _) _), Blk.new w1 _ _⟩
    have hB2 := hb1.alloc hb1.size (.cells #[.int .i64 xa, .int .i64 xj, .int .i64 xs] 26)
    clear hA hb1
    obtain ⟨V, hV⟩ : ∃ V, V = dFar l L ⟨xa, xj, xs⟩ k := ⟨_, rfl⟩
    have HV := Lib.hid hV
    clear hV
    go_wp2_with fail
    refine (implDiverseFar _ _ _ _ l L ⟨xa, xj, xs⟩ k _ hW2.1).mono ?_
    rw [← HV.out]
    rintro e w3 ⟨rfl, hb3⟩
    have hW3 := hW2.below hb3
    have hB3 := hB2.trans (hb3.mono hB2.size)
    obtain ⟨hc0, hc1, hc2⟩ := hW3.cells
    clear hW2 hB2 hb3
    go_wp2_with fail
    refine (specDiverseFar _ _ _ _ l L ⟨xa, xj, xs⟩ k _ hW3.1).mono ?_
    rw [← HV.out]
    rintro e w4 ⟨rfl, hb4⟩
    have hW4 := hW3.below hb4
    have hB4 := hB3.trans (hb4.mono hB3.size)
    obtain ⟨hc0, hc1, hc2⟩ := hW4.cells
    clear hW3 hB3 hb4
    by_cases hok : 0 ≤ V
    · obtain ⟨ho, hk0, hk1⟩ := dFar_ok (by rw [← HV.out]; exact hok)
      have hf := one_facts ho hk0 hk1
      have HOK := Lib.hid ho
      obtain ⟨T, hT⟩ : ∃ T, T = dFar l oneL oneR k := ⟨_, rfl⟩
      obtain ⟨M, hM⟩ : ∃ M, M = dSize l oneL oneR k := ⟨_, rfl⟩
      obtain ⟨N, hN⟩ : ∃ N, N = dSize l L ⟨xa, xj, xs⟩ k := ⟨_, rfl⟩
      rw [← hT, ← hM, ← hN] at hf
      obtain ⟨hT1, hNM⟩ := hf
      have hz5 : Below w4.heap.size w4 ((w4.alloc (.cells #[.int .i64 0, .int .i64 0, .int .i64 0, .int .i64 0] 3)).alloc (.cells #[.slice (some ⟨w4.heap.size, 0, none⟩) 4 4] 40)) := (((Below.refl _ _).alloc (Nat.le_refl _) _).alloc (by simp <;> omega) _)
      have hi5 := (Blk.new w4 3 #[.int .i64 0, .int .i64 0, .int .i64 0, .int .i64 0]).alloc (.cells #[.slice (some ⟨w4.heap.size, 0, none⟩) 4 4] 40)
      have ho5 := Blk.new (w4.alloc (.cells #[.int .i64 0, .int .i64 0, .int .i64 0, .int .i64 0] 3)) 40 #[.slice (some ⟨w4.heap.size, 0, none⟩) 4 4]
      rw [World.size_alloc] at ho5
      have HONE : Hid (Arg ((w4.alloc (.cells #[.int .i64 0, .int .i64 0, .int .i64 0, .int .i64 0] 3)).alloc (.cells #[.slice (some ⟨w4.heap.size, 0, none⟩) 4 4] 40)) A1 l (some ⟨w4.heap.size + 1, 0, none⟩) oneL) := one_arg (hW4.below hz5).1 hi5 ho5
      have hW6 := hW4.below hz5
      have hB6 := hB4.trans (hz5.mono hB4.size)
      have HT := Lib.hid hT; clear hT
      have HM := Lib.hid hM; clear hM
      have HN := Lib.hid hN; clear hN
      subst hT1
      clear ho hc0 hc1 hc2 hW4 hB4 hz5 hi5 ho5
      go_wp2_with fail
      generalize (w4.alloc (.cells #[.int .i64 0, .int .i64 0, .int .i64 0, .int .i64 0] 3)).alloc (.cells #[.slice (some ⟨w4.heap.size, 0, none⟩) 4 4] 40) = w6 at *
      obtain ⟨hc0, hc1, hc2⟩ := hW6.cells
      have hbx : w1.heap.size < w6.heap.size := hW6.2.lt
      have HW6 := Lib.hid hW6
      clear hW6
      go_region_held3 (fun w' => w'.cell? ⟨w1.heap.size, 0, none⟩ = some (.int .i64 xa) ∧ w'.cell? ⟨w1.heap.size, 1, none⟩ = some (.int .i64 xj) ∧ w'.cell? ⟨w1.heap.size, 2, none⟩ = some (.int .i64 xs))
        (go_keep)
        (first
          | (have HQ := HT; clear HT; go_at_call 25; refine (implDiverseFar _ _ _ _ l oneL oneR k _ (Arg.below (HONE.out) ((Below.refl w6.heap.size w6).drew))).mono ?_; rw [← HQ.out]; clear HQ; rintro e v1 ⟨rfl, hq'⟩; have HV1 : Hid (Below w6.heap.size w6 v1) := ((Below.refl w6.heap.size w6).drew).trans hq'; clear hq'; have hcl0 : ∀ i o, i < w6.heap.size → v1.cell? ⟨i, o, none⟩ = w6.cell? ⟨i, o, none⟩ := (fun i o hi => HV1.out.cell (p := ⟨i, o, none⟩) hi))
          | (have HQ := HM; clear HM; go_at_call 29; refine (implDiverseSize _ _ _ _ l oneL oneR k v1 (Arg.below (HONE.out) HV1.out)).mono ?_; rw [← HQ.out]; clear HQ; rintro e v2 ⟨rfl, hq'⟩; have HV2 : Hid (Below w6.heap.size w6 v2) := HV1.out.trans (hq'.mono HV1.out.size); clear hq'; have hcl1 : ∀ i o, i < w6.heap.size → v2.cell? ⟨i, o, none⟩ = w6.cell? ⟨i, o, none⟩ := (fun i o hi => HV2.out.cell (p := ⟨i, o, none⟩) hi))
          | (have HQ := HN; clear HN; go_at_call 29; refine (implDiverseSize _ _ _ _ l L ⟨xa, xj, xs⟩ k v2 (Arg.below (HW6.out.1) HV2.out)).mono ?_; rw [← HQ.out]; clear HQ; rintro e v3 ⟨rfl, hq'⟩; have HV3 : Hid (Below w6.heap.size w6 v3) := HV2.out.trans (hq'.mono HV2.out.size); clear hq'; have hcl2 : ∀ i o, i < w6.heap.size → v3.cell? ⟨i, o, none⟩ = w6.cell? ⟨i, o, none⟩ := (fun i o hi => HV3.out.cell (p := ⟨i, o, none⟩) hi))
          | fail)
      have hB7 := hB6.trans (HV3.out.mono hB6.size)
      clear hcl0 hcl1 hcl2
      go_wp2
      go_ret
      exact ⟨rfl, hB7⟩
    · have hV1 : V < 0 := by omega
      go_wp2
      go_ret
      exact ⟨rfl, hB4⟩
  · have hbig2 : 1048576 < bs.length := by omega
    go_enter Try.func14, Try.ntmps14
    go_wp2
    go_ret
    exact ⟨rfl, Below.refl _ _⟩
end Go.Proofs.Ytaojjlhlahoocaa.WFnFarAll
