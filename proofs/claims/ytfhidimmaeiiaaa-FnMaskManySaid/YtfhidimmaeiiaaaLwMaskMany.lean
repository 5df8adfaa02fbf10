/- FnMaskMany, walked. -/
import Derived.Test.YtfhidimmaeiiaaaCutG
import Derived.Test.YtfhidimmaeiiaaaDrwMask
namespace Go.Proofs.Ytfhidimmaeiiaaa.WFnMaskMany
open Go.RowKit
set_option linter.unusedVariables false
set_option linter.unusedSimpArgs false

set_option maxRecDepth 100000 in
set_option maxHeartbeats 4000000 in
theorem walk (w : World) (A : Option Addr) (c : Nat) (bs : List Int) (hn : bs.length ≤ 9223372036854775807) (hec : bs.length ≤ c ∧ c ≤ 9223372036854775807) (hg : Rds w w.heap.size 1 A bs.length (bs.map (Value.int .u8))) (hb : ∀ z ∈ bs, 0 ≤ z ∧ z ≤ 255) (A9 : Option Addr) (c9 : Nat) (ms : List Int) (hn9 : ms.length ≤ 9223372036854775807) (hec9 : ms.length ≤ c9 ∧ c9 ≤ 9223372036854775807) (hg9 : Rds w w.heap.size 1 A9 ms.length (ms.map (Value.int .u8))) (hb9 : ∀ z ∈ ms, 0 ≤ z ∧ z ≤ 255) : Calls Try.prog 3 #[.slice A bs.length c, .slice A9 ms.length c9] w fun e w' => e = .returned (.bool true) ∧ Below w.heap.size w w' := by
  have hB : Byt w A c bs := ⟨hg, hec.1, hec.2, hb⟩
  clear hg hb
  by_cases hbig : bs.length ≤ 1048576 ∧ ms.length ≤ 1048576
  · obtain ⟨hbig, hbm⟩ := hbig
    go_enter Try.func3, Try.ntmps3
    go_wp2_with fail
    refine (specDrawMaskMany A c bs w hB).mono ?_
    rintro e w1 ⟨v, ns, rfl, ⟨hm5, hmm⟩, hV, hb1⟩
    obtain ⟨A1, c1, L, rfl, hG, hLn, hlc, hcm⟩ := hV.form
    have hl5 : L.length ≤ 5 := by rw [← hLn, List.length_map] at hm5; exact hm5
    have hC : cntBB L ≤ 25 := by
      have := cntBB_len L 5 (fun r hr => hmm _ (by rw [← hLn]; exact List.mem_map.2 ⟨r, hr, rfl⟩))
      omega
    have HG := Lib.hid hG
    have HB1 := Lib.hid hb1
    clear hB hV hmm hLn hm5 hG hb1
    obtain ⟨V, hV⟩ : ∃ V, V = cntBB L := ⟨_, rfl⟩
    have HV := Lib.hid hV
    rw [← hV] at hC
    clear hV
    go_wp2_with fail
    refine (implMaskManyN _ _ _ L w1 HG.out rfl (by omega) (by rw [← HV.out]; omega)).mono ?_
    rw [← HV.out]
    rintro e w' ⟨rfl, rfl⟩
    go_wp2_with fail
    refine (specMaskManyN _ _ _ L w1 HG.out rfl (by omega) (by rw [← HV.out]; omega)).mono ?_
    rw [← HV.out]
    rintro e w' ⟨rfl, rfl⟩
    obtain ⟨m, hm, hml⟩ : ∃ m : Nat, (ms.length : Int) % ((L.length : Int) + 1) = m ∧ m ≤ L.length := ⟨ms.length % (L.length + 1), by simp, by have := Nat.mod_lt ms.length (show 0 < L.length + 1 by omega); omega⟩
    have hbd : Below w1.heap.size w1 w1.drew := (Below.refl _ _).drew
    have HP := Lib.hid (((HG.out.takeN m).below hbd : Grd w1.drew w1.heap.size A1 ((L.map (·.map Value.bool)).take m)))
    have HQ := Lib.hid ((HG.out.cutN (k := m) (cap := c1) (by simpa using hml) (by simpa using hlc)).below hbd)
    rw [← List.map_take] at HP
    rw [← List.map_drop] at HQ
    obtain ⟨P, hP⟩ : ∃ P, P = cntBB (L.take m) := ⟨_, rfl⟩
    obtain ⟨Q, hQ⟩ : ∃ Q, Q = cntBB (L.drop m) := ⟨_, rfl⟩
    have hPQ : V = P + Q := by rw [hP, hQ, HV.out]; exact cntBB_cut L m
    have HPV := Lib.hid hP
    have HQV := Lib.hid hQ
    have hP1 : P ≤ 25 := by omega
    have hQ1 : Q ≤ 25 := by omega
    have HTL := Lib.hid (show m = (L.take m).length by rw [List.length_take]; omega)
    have HDL := Lib.hid (show L.length - m = (L.drop m).length by rw [List.length_drop])
    have hsum : IntKind.i64.wrap ((P : Int) + (Q : Int)) = (V : Int) := by rw [IntWalk.i64_in _ (by omega)]; omega
    clear hP hQ hPQ hbd
    have hm0 : (0 : Int) ≤ (m : Int) := by omega
    have hm1 : (m : Int) ≤ (L.length : Int) := by omega
    have hm2 : (L.length : Int) ≤ (c1 : Int) := by omega
    have hm3 : (m : Int) ≤ (c1 : Int) := by omega
    go_wp2_with fail
    rw [hm]
    refine wp_region_held_drew (S := fun _ => True) (by kernel_rfl) trivial (fun hHeld => ?_)
    refine wpAnyH_take (i := 0) (v := ?vv1) rfl (by kernel_rfl) (by kernel_rfl) (by kernel_rfl) (fun _ _ _ h => h) (Or.inl ⟨by rfl, ?hy1⟩) (by assumption) ?rest1
    case hy1 => (intro w hSw; (try dsimp only at hSw); (try simp only [List.getElem_toArray, List.getElem_cons_zero, List.getElem_cons_succ]); go_simp <;> with_reducible rfl)
    try simp only [List.getElem_toArray, List.getElem_cons_zero, List.getElem_cons_succ, Act.put, List.setIfInBounds_toArray, List.set_cons_zero, List.set_cons_succ]
    refine wpAnyH_take (i := 1) (v := ?vv2) rfl (by kernel_rfl) (by kernel_rfl) (by kernel_rfl) (fun _ _ _ h => h) (Or.inl ⟨by rfl, ?hy2⟩) (by assumption) ?rest2
    case hy2 => (intro w hSw; (try dsimp only at hSw); (try simp only [List.getElem_toArray, List.getElem_cons_zero, List.getElem_cons_succ]); go_simp <;> with_reducible rfl)
    try simp only [List.getElem_toArray, List.getElem_cons_zero, List.getElem_cons_succ, Act.put, List.setIfInBounds_toArray, List.set_cons_zero, List.set_cons_succ]
    refine wpAnyH_take (i := 2) (v := ?vv3) rfl (by kernel_rfl) (by kernel_rfl) (by kernel_rfl) (fun _ _ _ h => h) (Or.inl ⟨by rfl, ?hy3⟩) (by assumption) ?rest3
    case hy3 => (intro w hSw; (try dsimp only at hSw); (try simp only [List.getElem_toArray, List.getElem_cons_zero, List.getElem_cons_succ]); go_simp <;> with_reducible rfl)
    try simp only [List.getElem_toArray, List.getElem_cons_zero, List.getElem_cons_succ, Act.put, List.setIfInBounds_toArray, List.set_cons_zero, List.set_cons_succ]
    refine wpAnyH_take (i := 3) (v := ?vv4) rfl (by kernel_rfl) (by kernel_rfl) (by kernel_rfl) (fun _ _ _ h => h) (Or.inl ⟨by rfl, ?hy4⟩) (by assumption) ?rest4
    case hy4 => (intro w hSw; (try dsimp only at hSw); (try simp only [List.getElem_toArray, List.getElem_cons_zero, List.getElem_cons_succ]); go_simp <;> with_reducible rfl)
    try simp only [List.getElem_toArray, List.getElem_cons_zero, List.getElem_cons_succ, Act.put, List.setIfInBounds_toArray, List.set_cons_zero, List.set_cons_succ]
    refine wpAnyH_take (i := 5) (v := ?vv5) rfl (by kernel_rfl) (by kernel_rfl) (by kernel_rfl) (fun _ _ _ h => h) (Or.inl ⟨by rfl, ?hy5⟩) (by assumption) ?rest5
    case hy5 => (intro w hSw; (try dsimp only at hSw); (try simp only [List.getElem_toArray, List.getElem_cons_zero, List.getElem_cons_succ]); go_simp <;> with_reducible rfl)
    try simp only [List.getElem_toArray, List.getElem_cons_zero, List.getElem_cons_succ, Act.put, List.setIfInBounds_toArray, List.set_cons_zero, List.set_cons_succ]
    refine wpAnyH_take (i := 6) (v := ?vv6) rfl (by kernel_rfl) (by kernel_rfl) (by kernel_rfl) (fun _ _ _ h => h) (Or.inl ⟨by rfl, ?hy6⟩) (by assumption) ?rest6
    case hy6 => (intro w hSw; (try dsimp only at hSw); (try simp only [List.getElem_toArray, List.getElem_cons_zero, List.getElem_cons_succ]); go_simp <;> with_reducible rfl)
    try simp only [List.getElem_toArray, List.getElem_cons_zero, List.getElem_cons_succ, Act.put, List.setIfInBounds_toArray, List.set_cons_zero, List.set_cons_succ]
    refine wpAnyH_take (i := 7) (v := ?vv7) rfl (by kernel_rfl) (by kernel_rfl) (by kernel_rfl) (fun _ _ _ h => h) (Or.inl ⟨by rfl, ?hy7⟩) (by assumption) ?rest7
    case hy7 => (intro w hSw; (try dsimp only at hSw); (try simp only [List.getElem_toArray, List.getElem_cons_zero, List.getElem_cons_succ]); go_simp <;> with_reducible rfl)
    try simp only [List.getElem_toArray, List.getElem_cons_zero, List.getElem_cons_succ, Act.put, List.setIfInBounds_toArray, List.set_cons_zero, List.set_cons_succ]
    refine wpAnyH_ready (rs := [4]) (by kernel_rfl) (by simp) ?_
    refine AllReadyH.cons rfl (fun K hK => ?_) AllReadyH.nil
    go_simp
    generalize (if c1 = m then A1 else Option.map (fun x => x.add m) A1) = AD at *
    refine (implMaskManyN A1 c1 m (L.take m) _ HP.out HTL.out (by omega) (by rw [← HPV.out]; omega)).mono ?_
    rw [← HPV.out]
    rintro e w9 ⟨rfl, rfl⟩
    dsimp only
    refine hK.out _ _ (trivial) (fun hHeld => ?_)
    clear hK K
    try simp only [List.getElem_toArray, List.getElem_cons_zero, List.getElem_cons_succ, Act.put, List.setIfInBounds_toArray, List.set_cons_zero, List.set_cons_succ]
    refine wpAnyH_ready (rs := [8]) (by kernel_rfl) (by simp) ?_
    refine AllReadyH.cons rfl (fun K hK => ?_) AllReadyH.nil
    go_simp
    refine (implMaskManyN AD (c1 - m) (L.length - m) (L.drop m) _ HQ.out HDL.out (by omega) (by rw [← HQV.out]; omega)).mono ?_
    rw [← HQV.out]
    rintro e w9 ⟨rfl, rfl⟩
    dsimp only
    refine hK.out _ _ (trivial) (fun hHeld => ?_)
    clear hK K
    try simp only [List.getElem_toArray, List.getElem_cons_zero, List.getElem_cons_succ, Act.put, List.setIfInBounds_toArray, List.set_cons_zero, List.set_cons_succ]
    refine wpAnyH_take (i := 9) (v := ?vv8) rfl (by kernel_rfl) (by kernel_rfl) (by kernel_rfl) (fun _ _ _ h => h) (Or.inl ⟨by rfl, ?hy8⟩) (by assumption) ?rest8
    case hy8 => (intro w hSw; (try dsimp only at hSw); (try simp only [List.getElem_toArray, List.getElem_cons_zero, List.getElem_cons_succ]); go_simp <;> with_reducible rfl)
    try simp only [List.getElem_toArray, List.getElem_cons_zero, List.getElem_cons_succ, Act.put, List.setIfInBounds_toArray, List.set_cons_zero, List.set_cons_succ]
    refine wpAnyH_take (i := 10) (v := ?vv9) rfl (by kernel_rfl) (by kernel_rfl) (by kernel_rfl) (fun _ _ _ h => h) (Or.inl ⟨by rfl, ?hy9⟩) (by assumption) ?rest9
    case hy9 => (intro w hSw; (try dsimp only at hSw); (try simp only [List.getElem_toArray, List.getElem_cons_zero, List.getElem_cons_succ]); go_simp <;> with_reducible rfl)
    try simp only [List.getElem_toArray, List.getElem_cons_zero, List.getElem_cons_succ, Act.put, List.setIfInBounds_toArray, List.set_cons_zero, List.set_cons_succ]
    refine wpAnyH_take (i := 11) (v := ?vv10) rfl (by kernel_rfl) (by kernel_rfl) (by kernel_rfl) (fun _ _ _ h => h) (Or.inl ⟨by rfl, ?hy10⟩) (by assumption) ?rest10
    case hy10 => (intro w hSw; (try dsimp only at hSw); (try simp only [List.getElem_toArray, List.getElem_cons_zero, List.getElem_cons_succ]); go_simp <;> with_reducible rfl)
    try simp only [List.getElem_toArray, List.getElem_cons_zero, List.getElem_cons_succ, Act.put, List.setIfInBounds_toArray, List.set_cons_zero, List.set_cons_succ]
    refine wpAnyH_done (by kernel_rfl) ?_ _
    clear hHeld
    go_wp2
    go_ret
    exact ⟨rfl, HB1.out.drew⟩
  · rcases (show 1048576 < bs.length ∨ (bs.length ≤ 1048576 ∧ 1048576 < ms.length) by omega) with hx1 | ⟨hx1, hx2⟩
    all_goals
      go_enter Try.func3, Try.ntmps3
      go_wp2
      go_ret
      exact ⟨rfl, Below.refl _ _⟩
end Go.Proofs.Ytfhidimmaeiiaaa.WFnMaskMany
