/- FnDiverseAdd, walked. -/
import Derived.Test.YtljjaanohcibcaaLawKit
import Derived.Test.YtljjaanohcibcaaPlain2
import Derived.Test.YtljjaanohcibcaaDivSize
import Derived.Test.YtljjaanohcibcaaLawKit2
import Derived.Test.YtljjaanohcibcaaDrwDiverseSize
import Derived.Test.YtljjaanohcibcaaPlain5
import Derived.IntWalk
namespace Go.Proofs.Ytljjaanohcibcaa.WFnDiverseAdd
open Go.RowKit
set_option linter.unusedVariables false

theorem add_facts {l : List Pn} {L : List (List Int)} {r : Rc} {m : Nat} {z : Int} (h : okA l L r) (hm : m < l.length) (h39 : l.length ≤ 39) (z0 : 0 ≤ z) (z1 : z ≤ 999) (p : Pn) (hp : p = ⟨(nth l m).a, (nth l m).j, (nth l m).s, z⟩) :
    dSize (l ++ [p]) L r (m : Int) = dSize l L r (m : Int) ∨ dSize (l ++ [p]) L r (m : Int) = dSize l L r (m : Int) + 1 := by
  have hg := h.1.1 _ (nth_mem hm)
  have hpg : p.good := by subst hp; exact ⟨hg.1, hg.2.1, hg.2.2.1, z0, z1⟩
  have ho : okA (l ++ [p]) L r := ⟨⟨fun q hq => by rcases List.mem_append.1 hq with e | e; exact h.1.1 q e; rw [List.mem_singleton.1 e]; exact hpg, by simp; omega⟩, h.2⟩
  have h0 : (0 : Int) ≤ (m : Int) := by omega
  have h1 : (m : Int) < (l.length : Int) := by omega
  have h2 : (m : Int) < ((l ++ [p]).length : Int) := by simp; omega
  have hk : m < (recd L r l).length := by rw [recd_length]; exact hm
  rw [dSize_yes ho rfl h0 h2, dSize_yes h rfl h0 h1, Int.toNat_natCast, recd_append, nth_append hk]
  have := dv_snoc (grpOf (nth (recd L r l) m)) (recd L r l) (rec1 L r p)
  have e : recd L r [p] = [rec1 L r p] := rfl
  rw [e]
  have h3 : (if grpOf (nth (recd L r l) m) (rec1 L r p) = true then 1 else 0) ≤ 1 := by split <;> omega
  omega
theorem own_alloc {w : World} {base T : Nat} {v : Value} {l : List Pn} (h : OPpl w base T v l) (o : Obj) : OPpl (w.alloc o) base T v l := World.ownsRow.alloc h o
theorem empty1 (w : World) (o : Obj) (T : Nat) : OPpl ((w.alloc o).alloc (.cells #[] T)) w.heap.size T (.slice (some ⟨w.heap.size + 1, 0, none⟩) 0 0) [] := by
  have h := OPpl.empty (w.alloc o) T
  rw [World.size_alloc] at h
  exact own_weaken h (Nat.le_succ _)
theorem one_ppl (w : World) (p : Pn) : Ppl (w.alloc (.cells #[.int .i64 p.a, .int .i64 p.j, .int .i64 p.s, .int .i64 p.p] 50)) (w.heap.size + 1) (some ⟨w.heap.size, 0, none⟩) [p] := by
  refine ⟨by simp [Pn.vals], fun _ => ⟨w.heap.size, 0, rfl, by omega, fun j u hu => ?_⟩⟩
  have := cells4 w p 50 j u (by simpa using hu)
  rw [addr_add] at this
  exact this
theorem one_ppl' (w : World) (p : Pn) : Blk (w.alloc (.cells #[.int .i64 p.a, .int .i64 p.j, .int .i64 p.s, .int .i64 p.p] 50)) w.heap.size 50 p.vals := Blk.new w 50 #[.int .i64 p.a, .int .i64 p.j, .int .i64 p.s, .int .i64 p.p]
theorem one_pplG {w w' : World} {n T : Nat} {p : Pn} {v : Option Nat} (h : Blk w n T p.vals) (hg : w.grownBy w' v) (hn : n < w.heap.size) (hv : some n ≠ v) : Ppl w' w'.heap.size (some ⟨n, 0, none⟩) [p] := by
  have h2 := h.of (hg.block n hn hv)
  refine ⟨by simp [Pn.vals], fun _ => ⟨n, 0, rfl, Nat.lt_of_lt_of_le hn hg.size, fun j u hu => ?_⟩⟩
  rw [h2.cell, Nat.zero_add]
  simpa using hu
set_option maxRecDepth 100000 in
set_option maxHeartbeats 4000000 in
theorem walk (w : World) (A : Option Addr) (c : Nat) (bs : List Int) (hn : bs.length ≤ 9223372036854775807) (hec : bs.length ≤ c ∧ c ≤ 9223372036854775807) (hg : Rds w w.heap.size 1 A bs.length (bs.map (Value.int .u8))) (hb : ∀ z ∈ bs, 0 ≤ z ∧ z ≤ 255) (A9 : Option Addr) (c9 : Nat) (ms : List Int) (hn9 : ms.length ≤ 9223372036854775807) (hec9 : ms.length ≤ c9 ∧ c9 ≤ 9223372036854775807) (hg9 : Rds w w.heap.size 1 A9 ms.length (ms.map (Value.int .u8))) (hb9 : ∀ z ∈ ms, 0 ≤ z ∧ z ≤ 255) : Calls Try.prog 11 #[.slice A bs.length c, .slice A9 ms.length c9] w fun e w' => e = .returned (.bool true) ∧ Below w.heap.size w w' := by
  have hB : Byt w A c bs := ⟨hg, hec.1, hec.2, hb⟩
  clear hg hb
  by_cases hbig : bs.length ≤ 1048576 ∧ ms.length ≤ 1048576
  · obtain ⟨hbig, hbm⟩ := hbig
    go_enter Try.func11, Try.ntmps11
    go_wp2_with fail
    refine (specDrawDiverseSize A c bs w hB).mono ?_
    rintro e w1 ⟨A1, c1, l, A2, c2, L, ⟨xa, xj, xs⟩, k, rfl, hA, hD, hkb, hb1⟩
    have hD0 := Lib.hid hD
    obtain ⟨hl10, hL4, hxs, hps, hrs, hlc, hcm, hLc, hcm2⟩ := hD
    clear hps hrs hxs hB
    have hW2 : LW (w1.alloc (.cells #[.int .i64 xa, .int .i64 xj, .int .i64 xs] 26)) A1 l A2 L w1.heap.size xa xj xs := ⟨hA.below ((Below.refl _ _).alloc (Nat.le_refl _) _), Blk.new w1 _ _⟩
    have hB2 := hb1.alloc hb1.size (.cells #[.int .i64 xa, .int .i64 xj, .int .i64 xs] 26)
    clear hA hb1
    obtain ⟨V, hV⟩ : ∃ V, V = dSize l L ⟨xa, xj, xs⟩ k := ⟨_, rfl⟩
    have HV := Lib.hid hV
    clear hV
    go_wp2_with fail
    refine (implDiverseSize _ _ _ _ l L ⟨xa, xj, xs⟩ k _ hW2.1).mono ?_
    rw [← HV.out]
    rintro e w3 ⟨rfl, hb3⟩
    have hW3 := hW2.below hb3
    have hB3 := hB2.trans (hb3.mono hB2.size)
    obtain ⟨hc0, hc1, hc2⟩ := hW3.cells
    clear hW2 hB2 hb3
    go_wp2_with fail
    refine (specDiverseSize _ _ _ _ l L ⟨xa, xj, xs⟩ k _ hW3.1).mono ?_
    rw [← HV.out]
    rintro e w4 ⟨rfl, hb4⟩
    have hW4 := hW3.below hb4
    have hB4 := hB3.trans (hb4.mono hB3.size)
    obtain ⟨hc0, hc1, hc2⟩ := hW4.cells
    clear hW3 hB3 hb4
    by_cases hok : 0 ≤ V
    · obtain ⟨ho, hk0, hk1⟩ := dSize_ok (by rw [← HV.out]; exact hok)
      have hV10 : V ≤ 10 := by rw [HV.out]; exact (size_facts ho hk0 hk1).2.1
      obtain ⟨m, rfl⟩ : ∃ m : Nat, k = m := ⟨k.toNat, by omega⟩
      have hml : m < l.length := by omega
      obtain ⟨z, hz, hz0, hz9⟩ : ∃ z : Int, (ms.length : Int) % 1000 = z ∧ 0 ≤ z ∧ z ≤ 999 := ⟨_, rfl, by omega, by omega⟩
      have hf := add_facts ho hml (by omega) hz0 hz9 _ rfl
      rw [← HV.out] at hf
      obtain ⟨b, off, rfl, hbb, hd0, hd1, hd2, hd3⟩ := hW4.1.1.at_ (nth_at hml)
      generalize nth l m = q at *
      obtain ⟨T, hT⟩ : ∃ T, T = dSize (l ++ [⟨q.a, q.j, q.s, z⟩]) L ⟨xa, xj, xs⟩ m := ⟨_, rfl⟩
      have hT1 : T = V ∨ T = V + 1 := by rw [hT]; exact hf
      have HT := Lib.hid hT; clear hT
      clear ho hf
      have e1 : ((l.length : Int) == 40) = false := beq_eq_false_iff_ne.2 (by omega)
      have e2 : (l.length == 40) = false := beq_eq_false_iff_ne.2 (by omega)
      have hm0 : (0 : Int) ≤ (m : Int) := by omega
      have hm1 : (m : Int) < (l.length : Int) := by omega
      have hb45 : Below w4.heap.size w4 (w4.alloc (.cells #[.int .i64 q.a, .int .i64 q.j, .int .i64 q.s, .int .i64 z] 50)) := ((Below.refl _ _).alloc (Nat.le_refl _) _)
      have hW5 := hW4.below hb45
      have hB5 := hB4.trans (hb45.mono hB4.size)
      have hp5 := Blk.new w4 50 #[.int .i64 q.a, .int .i64 q.j, .int .i64 q.s, .int .i64 z]
      have HW5 := Lib.hid hW5
      have HB5 := Lib.hid hB5
      have HP5 := Lib.hid hp5
      clear hb45 hW4 hB4 hW5 hB5 hp5
      go_wp2
      rw [hz]
      have HSZ := Lib.hid (World.size_alloc w4 (.cells #[.int .i64 q.a, .int .i64 q.j, .int .i64 q.s, .int .i64 z] 50))
      generalize w4.alloc (.cells #[.int .i64 q.a, .int .i64 q.j, .int .i64 q.s, .int .i64 z] 50) = w5 at *
      clear hd0 hd1 hd2 hd3 hc0 hc1 hc2
      have hx1 : w1.heap.size < w5.heap.size := HW5.out.2.lt
      have hx2 : w4.heap.size < w5.heap.size := HP5.out.lt
      have HPA := Lib.hid HW5.out.1.1
      obtain ⟨hc0, hc1, hc2⟩ := HW5.out.cells
      have hp0 := HP5.out.cell 0
      have hp1 := HP5.out.cell 1
      have hp2 := HP5.out.cell 2
      have hp3 := HP5.out.cell 3
      simp only [List.getElem?_cons_zero, List.getElem?_cons_succ] at hp0 hp1 hp2 hp3
      have HS : Hid (∀ W : World, Below w5.heap.size w5 W → (W.cell? ⟨w4.heap.size, 0, none⟩ = some (.int .i64 q.a) ∧ W.cell? ⟨w4.heap.size, 1, none⟩ = some (.int .i64 q.j) ∧ W.cell? ⟨w4.heap.size, 2, none⟩ = some (.int .i64 q.s) ∧ W.cell? ⟨w4.heap.size, 3, none⟩ = some (.int .i64 z) ∧ W.cell? ⟨w1.heap.size, 0, none⟩ = some (.int .i64 xa) ∧ W.cell? ⟨w1.heap.size, 1, none⟩ = some (.int .i64 xj) ∧ W.cell? ⟨w1.heap.size, 2, none⟩ = some (.int .i64 xs))) := fun W hW =>
        ⟨(hW.cell (p := ⟨w4.heap.size, _, none⟩) hx2).trans hp0, (hW.cell (p := ⟨w4.heap.size, _, none⟩) hx2).trans hp1, (hW.cell (p := ⟨w4.heap.size, _, none⟩) hx2).trans hp2, (hW.cell (p := ⟨w4.heap.size, _, none⟩) hx2).trans hp3, (hW.cell (p := ⟨w1.heap.size, _, none⟩) hx1).trans hc0, (hW.cell (p := ⟨w1.heap.size, _, none⟩) hx1).trans hc1, (hW.cell (p := ⟨w1.heap.size, _, none⟩) hx1).trans hc2⟩
      clear hp0 hp1 hp2 hp3 hc0 hc1 hc2
      refine wp_region_held_drew (S := fun w' => w'.cell? ⟨w4.heap.size, 0, none⟩ = some (.int .i64 q.a) ∧ w'.cell? ⟨w4.heap.size, 1, none⟩ = some (.int .i64 q.j) ∧ w'.cell? ⟨w4.heap.size, 2, none⟩ = some (.int .i64 q.s) ∧ w'.cell? ⟨w4.heap.size, 3, none⟩ = some (.int .i64 z) ∧ w'.cell? ⟨w1.heap.size, 0, none⟩ = some (.int .i64 xa) ∧ w'.cell? ⟨w1.heap.size, 1, none⟩ = some (.int .i64 xj) ∧ w'.cell? ⟨w1.heap.size, 2, none⟩ = some (.int .i64 xs)) (by kernel_rfl) (HS.out _ (Below.refl _ _).drew) (fun hHeld => ?_)
      refine wpAnyH_take (i := 1) (v := ?vv1) rfl (by kernel_rfl) (by kernel_rfl) (by kernel_rfl) (fun _ _ _ h => h) (Or.inl ⟨by rfl, ?hy1⟩) (by assumption) ?rest1
      case hy1 => (intro w hSw; (try dsimp only at hSw); (try simp only [List.getElem_toArray, List.getElem_cons_zero, List.getElem_cons_succ]); go_simp <;> with_reducible rfl)
      try simp only [List.getElem_toArray, List.getElem_cons_zero, List.getElem_cons_succ, Act.put, List.setIfInBounds_toArray, List.set_cons_zero, List.set_cons_succ]
      refine wpAnyH_take (i := 3) (v := ?vv2) rfl (by kernel_rfl) (by kernel_rfl) (by kernel_rfl) (fun _ _ _ h => h) (Or.inl ⟨by rfl, ?hy2⟩) (by assumption) ?rest2
      case hy2 => (intro w hSw; (try dsimp only at hSw); (try simp only [List.getElem_toArray, List.getElem_cons_zero, List.getElem_cons_succ]); go_simp <;> with_reducible rfl)
      try simp only [List.getElem_toArray, List.getElem_cons_zero, List.getElem_cons_succ, Act.put, List.setIfInBounds_toArray, List.set_cons_zero, List.set_cons_succ]
      refine wpAnyH_take (i := 6) (v := ?vv3) rfl (by kernel_rfl) (by kernel_rfl) (by kernel_rfl) (fun _ _ _ h => h) (Or.inl ⟨by rfl, ?hy3⟩) (by assumption) ?rest3
      case hy3 => (intro w hSw; (try dsimp only at hSw); (try simp only [List.getElem_toArray, List.getElem_cons_zero, List.getElem_cons_succ]); go_simp <;> with_reducible rfl)
      try simp only [List.getElem_toArray, List.getElem_cons_zero, List.getElem_cons_succ, Act.put, List.setIfInBounds_toArray, List.set_cons_zero, List.set_cons_succ]
      refine wpAnyH_take (i := 7) (v := ?vv4) rfl (by kernel_rfl) (by kernel_rfl) (by kernel_rfl) (fun _ _ _ h => h) (Or.inl ⟨by rfl, ?hy4⟩) (by assumption) ?rest4
      case hy4 => (intro w hSw; (try dsimp only at hSw); (try simp only [List.getElem_toArray, List.getElem_cons_zero, List.getElem_cons_succ]); go_simp <;> with_reducible rfl)
      try simp only [List.getElem_toArray, List.getElem_cons_zero, List.getElem_cons_succ, Act.put, List.setIfInBounds_toArray, List.set_cons_zero, List.set_cons_succ]
      refine wpAnyH_take (i := 8) (v := ?vv5) rfl (by kernel_rfl) (by kernel_rfl) (by kernel_rfl) (fun _ _ _ h => h) (Or.inl ⟨by rfl, ?hy5⟩) (by assumption) ?rest5
      case hy5 => (intro w hSw; (try dsimp only at hSw); (try simp only [List.getElem_toArray, List.getElem_cons_zero, List.getElem_cons_succ]); go_simp <;> with_reducible rfl)
      try simp only [List.getElem_toArray, List.getElem_cons_zero, List.getElem_cons_succ, Act.put, List.setIfInBounds_toArray, List.set_cons_zero, List.set_cons_succ]
      refine wpAnyH_ready (rs := [0,4]) (by kernel_rfl) (by simp) ?_
      refine AllReadyH.cons rfl (fun K hK => ?_) ?_
      · skip
        go_simp
        refine hK.out _ _ (HS.out _ ((Below.refl w5.heap.size w5).drew.alloc (Nat.le_refl _) (.cells #[] 50))) (fun hHeld => ?_)
        clear hK K
        try simp only [List.getElem_toArray, List.getElem_cons_zero, List.getElem_cons_succ, Act.put, List.setIfInBounds_toArray, List.set_cons_zero, List.set_cons_succ]
        refine wpAnyH_ready (rs := [2,4]) (by kernel_rfl) (by simp) ?_
        refine AllReadyH.cons rfl (fun K hK => ?_) ?_
        · skip
          refine step_append_ppl (by rfl) _ _ (by rfl) w5.heap.size w5.heap.size (.slice (some ⟨w5.heap.size, 0, none⟩) 0 0) [] l (by rfl) (by exact (OPpl.empty w5.drew 50)) _ _ _ (by rfl) rfl (Ppl.below HPA.out (((Below.refl w5.heap.size w5).drew.alloc (Nat.le_refl _) (.cells #[] 50)))) (by simp; omega) (((Below.refl w5.heap.size w5).drew.alloc (Nat.le_refl _) (.cells #[] 50))).size ?_
          intro v9 w9 hown9 hgr9
          have hown9 : OPpl w9 w5.heap.size 50 v9 l := hown9
          have hb9 : Below w5.heap.size w5 w9 := (((Below.refl w5.heap.size w5).drew.alloc (Nat.le_refl _) (.cells #[] 50))).grown hgr9 (((Below.refl w5.heap.size w5).drew.alloc (Nat.le_refl _) (.cells #[] 50))).size (own_base ((OPpl.empty w5.drew 50)))
          refine hK.out _ _ (HS.out _ hb9) (fun hHeld => ?_)
          clear hK K
          try simp only [List.getElem_toArray, List.getElem_cons_zero, List.getElem_cons_succ, Act.put, List.setIfInBounds_toArray, List.set_cons_zero, List.set_cons_succ]
          refine wpAnyH_ready (rs := [4]) (by kernel_rfl) (by simp) ?_
          refine AllReadyH.cons rfl (fun K hK => ?_) AllReadyH.nil
          go_simp
          refine hK.out _ _ (HS.out _ (hb9.alloc hb9.size (.cells #[.int .i64 q.a, .int .i64 q.j, .int .i64 q.s, .int .i64 z] 50))) (fun hHeld => ?_)
          clear hK K
          try simp only [List.getElem_toArray, List.getElem_cons_zero, List.getElem_cons_succ, Act.put, List.setIfInBounds_toArray, List.set_cons_zero, List.set_cons_succ]
          have HBW := Lib.hid (hb9.alloc hb9.size (.cells #[.int .i64 q.a, .int .i64 q.j, .int .i64 q.s, .int .i64 z] 50))
          have HOW := Lib.hid (own_alloc hown9 (.cells #[.int .i64 q.a, .int .i64 q.j, .int .i64 q.s, .int .i64 z] 50))
          have HPP := Lib.hid (one_ppl w9 ⟨q.a, q.j, q.s, z⟩)
          clear hown9 hgr9 hb9
          refine wpAnyH_ready (rs := [5]) (by kernel_rfl) (by simp) ?_
          refine AllReadyH.cons rfl (fun K hK => ?_) AllReadyH.nil
          refine step_append_ppl (by rfl) _ _ (by rfl) w5.heap.size (w9.heap.size + 1) v9 l [(⟨q.a, q.j, q.s, z⟩ : Pn)] (by rfl) HOW.out (some ⟨w9.heap.size, 0, none⟩) 1 1 (by rfl) rfl HPP.out (by simp; omega) HBW.out.size ?_
          intro v10 w10 hown10 hgr10
          have hb10 := HBW.out.grown hgr10 HBW.out.size (own_base HOW.out)
          obtain ⟨A9, c9, rfl, hW10, hcYa, hcYb, hB10⟩ := join_end HW5.out HB5.out hown10 hb10 (by simp; omega)
          have hYl : (l ++ [(⟨q.a, q.j, q.s, z⟩ : Pn)]).length = l.length + 1 := by simp
          generalize l ++ [(⟨q.a, q.j, q.s, z⟩ : Pn)] = Y at *
          have hYb : Y.length ≤ 20 := by omega
          clear hown10 hgr10 hYl
          try dsimp only
          refine hK.out _ _ (HS.out _ hb10) (fun hHeld => ?_)
          clear hK K
          try simp only [List.getElem_toArray, List.getElem_cons_zero, List.getElem_cons_succ, Act.put, List.setIfInBounds_toArray, List.set_cons_zero, List.set_cons_succ]
          refine wpAnyH_ready (rs := [9]) (by kernel_rfl) (by simp) ?_
          refine AllReadyH.cons rfl (fun K hK => ?_) AllReadyH.nil
          go_simp
          refine (implDiverseSize _ _ _ _ Y L ⟨xa, xj, xs⟩ m _ hW10.yarg).mono ?_
          rw [← HT.out]
          rintro e w11 ⟨rfl, hb11⟩
          try dsimp only
          refine hK.out _ _ (HS.out _ (hb10.trans (hb11.mono hb10.size))) (fun hHeld => ?_)
          clear hK K
          try simp only [List.getElem_toArray, List.getElem_cons_zero, List.getElem_cons_succ, Act.put, List.setIfInBounds_toArray, List.set_cons_zero, List.set_cons_succ]
          refine wpAnyH_take (i := 10) (v := ?vv6) rfl (by kernel_rfl) (by kernel_rfl) (by kernel_rfl) (fun _ _ _ h => h) (Or.inl ⟨by rfl, ?hy6⟩) (by assumption) ?rest6
          case hy6 => (intro w hSw; (try dsimp only at hSw); (try simp only [List.getElem_toArray, List.getElem_cons_zero, List.getElem_cons_succ]); go_simp <;> with_reducible rfl)
          try simp only [List.getElem_toArray, List.getElem_cons_zero, List.getElem_cons_succ, Act.put, List.setIfInBounds_toArray, List.set_cons_zero, List.set_cons_succ]
          refine wpAnyH_done (by kernel_rfl) ?_ _
          have hB11 := hB10.trans (hb11.mono hB10.size)
          clear hHeld hb10 hb11 hW10 hB10
          rcases hT1 with rfl | rfl
          all_goals
            go_wp2
            go_ret
            exact ⟨rfl, hB11⟩
        refine AllReadyH.cons rfl (fun K hK => ?_) AllReadyH.nil
        go_simp
        refine hK.out _ _ (HS.out _ (((Below.refl w5.heap.size w5).drew.alloc (Nat.le_refl _) (.cells #[] 50)).alloc (Nat.le_trans (Nat.le_refl _) (((Below.refl w5.heap.size w5).drew.alloc (Nat.le_refl _) (.cells #[] 50))).size) (.cells #[.int .i64 q.a, .int .i64 q.j, .int .i64 q.s, .int .i64 z] 50))) (fun hHeld => ?_)
        clear hK K
        try simp only [List.getElem_toArray, List.getElem_cons_zero, List.getElem_cons_succ, Act.put, List.setIfInBounds_toArray, List.set_cons_zero, List.set_cons_succ]
        refine wpAnyH_ready (rs := [2]) (by kernel_rfl) (by simp) ?_
        refine AllReadyH.cons rfl (fun K hK => ?_) AllReadyH.nil
        refine step_append_ppl (by rfl) _ _ (by rfl) w5.heap.size w5.heap.size (.slice (some ⟨w5.heap.size, 0, none⟩) 0 0) [] l (by rfl) (by exact own_alloc (OPpl.empty w5.drew 50) (.cells #[.int .i64 q.a, .int .i64 q.j, .int .i64 q.s, .int .i64 z] 50)) _ _ _ (by rfl) rfl (Ppl.below HPA.out (((Below.refl w5.heap.size w5).drew.alloc (Nat.le_refl _) (.cells #[] 50)).alloc (((Below.refl w5.heap.size w5).drew.alloc (Nat.le_refl _) (.cells #[] 50))).size (.cells #[.int .i64 q.a, .int .i64 q.j, .int .i64 q.s, .int .i64 z] 50))) (by simp; omega) (((Below.refl w5.heap.size w5).drew.alloc (Nat.le_refl _) (.cells #[] 50)).alloc (((Below.refl w5.heap.size w5).drew.alloc (Nat.le_refl _) (.cells #[] 50))).size (.cells #[.int .i64 q.a, .int .i64 q.j, .int .i64 q.s, .int .i64 z] 50)).size ?_
        intro v9 w9 hown9 hgr9
        have hown9 : OPpl w9 w5.heap.size 50 v9 l := hown9
        have hb9 : Below w5.heap.size w5 w9 := (((Below.refl w5.heap.size w5).drew.alloc (Nat.le_refl _) (.cells #[] 50)).alloc (((Below.refl w5.heap.size w5).drew.alloc (Nat.le_refl _) (.cells #[] 50))).size (.cells #[.int .i64 q.a, .int .i64 q.j, .int .i64 q.s, .int .i64 z] 50)).grown hgr9 (((Below.refl w5.heap.size w5).drew.alloc (Nat.le_refl _) (.cells #[] 50)).alloc (((Below.refl w5.heap.size w5).drew.alloc (Nat.le_refl _) (.cells #[] 50))).size (.cells #[.int .i64 q.a, .int .i64 q.j, .int .i64 q.s, .int .i64 z] 50)).size (own_base (own_alloc (OPpl.empty w5.drew 50) (.cells #[.int .i64 q.a, .int .i64 q.j, .int .i64 q.s, .int .i64 z] 50)))
        refine hK.out _ _ (HS.out _ hb9) (fun hHeld => ?_)
        clear hK K
        try simp only [List.getElem_toArray, List.getElem_cons_zero, List.getElem_cons_succ, Act.put, List.setIfInBounds_toArray, List.set_cons_zero, List.set_cons_succ]
        have HBW := Lib.hid hb9
        have HOW := Lib.hid hown9
        have HPP0 := one_pplG (one_ppl' (w5.drew.alloc (.cells #[] 50)) ⟨q.a, q.j, q.s, z⟩) hgr9 (by simp) (by simp [Value.ownBlock])
        rw [World.size_alloc] at HPP0
        have HPP : Hid (Ppl w9 w9.heap.size (some ⟨w5.heap.size + 1, 0, none⟩) [(⟨q.a, q.j, q.s, z⟩ : Pn)]) := HPP0
        clear HPP0
        clear hown9 hgr9 hb9
        refine wpAnyH_ready (rs := [5]) (by kernel_rfl) (by simp) ?_
        refine AllReadyH.cons rfl (fun K hK => ?_) AllReadyH.nil
        refine step_append_ppl (by rfl) _ _ (by rfl) w5.heap.size w9.heap.size v9 l [(⟨q.a, q.j, q.s, z⟩ : Pn)] (by rfl) HOW.out (some ⟨w5.heap.size + 1, 0, none⟩) 1 1 (by rfl) rfl HPP.out (by simp; omega) HBW.out.size ?_
        intro v10 w10 hown10 hgr10
        have hb10 := HBW.out.grown hgr10 HBW.out.size (own_base HOW.out)
        obtain ⟨A9, c9, rfl, hW10, hcYa, hcYb, hB10⟩ := join_end HW5.out HB5.out hown10 hb10 (by simp; omega)
        have hYl : (l ++ [(⟨q.a, q.j, q.s, z⟩ : Pn)]).length = l.length + 1 := by simp
        generalize l ++ [(⟨q.a, q.j, q.s, z⟩ : Pn)] = Y at *
        have hYb : Y.length ≤ 20 := by omega
        clear hown10 hgr10 hYl
        try dsimp only
        refine hK.out _ _ (HS.out _ hb10) (fun hHeld => ?_)
        clear hK K
        try simp only [List.getElem_toArray, List.getElem_cons_zero, List.getElem_cons_succ, Act.put, List.setIfInBounds_toArray, List.set_cons_zero, List.set_cons_succ]
        refine wpAnyH_ready (rs := [9]) (by kernel_rfl) (by simp) ?_
        refine AllReadyH.cons rfl (fun K hK => ?_) AllReadyH.nil
        go_simp
        refine (implDiverseSize _ _ _ _ Y L ⟨xa, xj, xs⟩ m _ hW10.yarg).mono ?_
        rw [← HT.out]
        rintro e w11 ⟨rfl, hb11⟩
        try dsimp only
        refine hK.out _ _ (HS.out _ (hb10.trans (hb11.mono hb10.size))) (fun hHeld => ?_)
        clear hK K
        try simp only [List.getElem_toArray, List.getElem_cons_zero, List.getElem_cons_succ, Act.put, List.setIfInBounds_toArray, List.set_cons_zero, List.set_cons_succ]
        refine wpAnyH_take (i := 10) (v := ?vv7) rfl (by kernel_rfl) (by kernel_rfl) (by kernel_rfl) (fun _ _ _ h => h) (Or.inl ⟨by rfl, ?hy7⟩) (by assumption) ?rest7
        case hy7 => (intro w hSw; (try dsimp only at hSw); (try simp only [List.getElem_toArray, List.getElem_cons_zero, List.getElem_cons_succ]); go_simp <;> with_reducible rfl)
        try simp only [List.getElem_toArray, List.getElem_cons_zero, List.getElem_cons_succ, Act.put, List.setIfInBounds_toArray, List.set_cons_zero, List.set_cons_succ]
        refine wpAnyH_done (by kernel_rfl) ?_ _
        have hB11 := hB10.trans (hb11.mono hB10.size)
        clear hHeld hb10 hb11 hW10 hB10
        rcases hT1 with rfl | rfl
        all_goals
          go_wp2
          go_ret
          exact ⟨rfl, hB11⟩
      refine AllReadyH.cons rfl (fun K hK => ?_) AllReadyH.nil
      · skip
        go_simp
        refine hK.out _ _ (HS.out _ ((Below.refl w5.heap.size w5).drew.alloc (Nat.le_refl _) (.cells #[.int .i64 q.a, .int .i64 q.j, .int .i64 q.s, .int .i64 z] 50))) (fun hHeld => ?_)
        clear hK K
        try simp only [List.getElem_toArray, List.getElem_cons_zero, List.getElem_cons_succ, Act.put, List.setIfInBounds_toArray, List.set_cons_zero, List.set_cons_succ]
        refine wpAnyH_ready (rs := [0]) (by kernel_rfl) (by simp) ?_
        refine AllReadyH.cons rfl (fun K hK => ?_) AllReadyH.nil
        go_simp
        refine hK.out _ _ (HS.out _ (((Below.refl w5.heap.size w5).drew.alloc (Nat.le_refl _) (.cells #[.int .i64 q.a, .int .i64 q.j, .int .i64 q.s, .int .i64 z] 50)).alloc (((Below.refl w5.heap.size w5).drew.alloc (Nat.le_refl _) (.cells #[.int .i64 q.a, .int .i64 q.j, .int .i64 q.s, .int .i64 z] 50))).size (.cells #[] 50))) (fun hHeld => ?_)
        clear hK K
        try simp only [List.getElem_toArray, List.getElem_cons_zero, List.getElem_cons_succ, Act.put, List.setIfInBounds_toArray, List.set_cons_zero, List.set_cons_succ]
        refine wpAnyH_ready (rs := [2]) (by kernel_rfl) (by simp) ?_
        refine AllReadyH.cons rfl (fun K hK => ?_) AllReadyH.nil
        refine step_append_ppl (by rfl) _ _ (by rfl) w5.heap.size w5.heap.size (.slice (some ⟨w5.heap.size + 1, 0, none⟩) 0 0) [] l (by rfl) (by exact empty1 w5.drew (.cells #[.int .i64 q.a, .int .i64 q.j, .int .i64 q.s, .int .i64 z] 50) 50) _ _ _ (by rfl) rfl (Ppl.below HPA.out (((Below.refl w5.heap.size w5).drew.alloc (Nat.le_refl _) (.cells #[.int .i64 q.a, .int .i64 q.j, .int .i64 q.s, .int .i64 z] 50)).alloc (((Below.refl w5.heap.size w5).drew.alloc (Nat.le_refl _) (.cells #[.int .i64 q.a, .int .i64 q.j, .int .i64 q.s, .int .i64 z] 50))).size (.cells #[] 50))) (by simp; omega) (((Below.refl w5.heap.size w5).drew.alloc (Nat.le_refl _) (.cells #[.int .i64 q.a, .int .i64 q.j, .int .i64 q.s, .int .i64 z] 50)).alloc (((Below.refl w5.heap.size w5).drew.alloc (Nat.le_refl _) (.cells #[.int .i64 q.a, .int .i64 q.j, .int .i64 q.s, .int .i64 z] 50))).size (.cells #[] 50)).size ?_
        intro v9 w9 hown9 hgr9
        have hown9 : OPpl w9 w5.heap.size 50 v9 l := hown9
        have hb9 : Below w5.heap.size w5 w9 := (((Below.refl w5.heap.size w5).drew.alloc (Nat.le_refl _) (.cells #[.int .i64 q.a, .int .i64 q.j, .int .i64 q.s, .int .i64 z] 50)).alloc (((Below.refl w5.heap.size w5).drew.alloc (Nat.le_refl _) (.cells #[.int .i64 q.a, .int .i64 q.j, .int .i64 q.s, .int .i64 z] 50))).size (.cells #[] 50)).grown hgr9 (((Below.refl w5.heap.size w5).drew.alloc (Nat.le_refl _) (.cells #[.int .i64 q.a, .int .i64 q.j, .int .i64 q.s, .int .i64 z] 50)).alloc (((Below.refl w5.heap.size w5).drew.alloc (Nat.le_refl _) (.cells #[.int .i64 q.a, .int .i64 q.j, .int .i64 q.s, .int .i64 z] 50))).size (.cells #[] 50)).size (own_base (empty1 w5.drew (.cells #[.int .i64 q.a, .int .i64 q.j, .int .i64 q.s, .int .i64 z] 50) 50))
        refine hK.out _ _ (HS.out _ hb9) (fun hHeld => ?_)
        clear hK K
        try simp only [List.getElem_toArray, List.getElem_cons_zero, List.getElem_cons_succ, Act.put, List.setIfInBounds_toArray, List.set_cons_zero, List.set_cons_succ]
        have HBW := Lib.hid hb9
        have HOW := Lib.hid hown9
        have HPP := Lib.hid (one_pplG ((one_ppl' w5.drew ⟨q.a, q.j, q.s, z⟩).alloc (.cells #[] 50)) hgr9 (by simp <;> omega) (by simp [Value.ownBlock]))
        clear hown9 hgr9 hb9
        refine wpAnyH_ready (rs := [5]) (by kernel_rfl) (by simp) ?_
        refine AllReadyH.cons rfl (fun K hK => ?_) AllReadyH.nil
        refine step_append_ppl (by rfl) _ _ (by rfl) w5.heap.size w9.heap.size v9 l [(⟨q.a, q.j, q.s, z⟩ : Pn)] (by rfl) HOW.out (some ⟨w5.heap.size, 0, none⟩) 1 1 (by rfl) rfl HPP.out (by simp; omega) HBW.out.size ?_
        intro v10 w10 hown10 hgr10
        have hb10 := HBW.out.grown hgr10 HBW.out.size (own_base HOW.out)
        obtain ⟨A9, c9, rfl, hW10, hcYa, hcYb, hB10⟩ := join_end HW5.out HB5.out hown10 hb10 (by simp; omega)
        have hYl : (l ++ [(⟨q.a, q.j, q.s, z⟩ : Pn)]).length = l.length + 1 := by simp
        generalize l ++ [(⟨q.a, q.j, q.s, z⟩ : Pn)] = Y at *
        have hYb : Y.length ≤ 20 := by omega
        clear hown10 hgr10 hYl
        try dsimp only
        refine hK.out _ _ (HS.out _ hb10) (fun hHeld => ?_)
        clear hK K
        try simp only [List.getElem_toArray, List.getElem_cons_zero, List.getElem_cons_succ, Act.put, List.setIfInBounds_toArray, List.set_cons_zero, List.set_cons_succ]
        refine wpAnyH_ready (rs := [9]) (by kernel_rfl) (by simp) ?_
        refine AllReadyH.cons rfl (fun K hK => ?_) AllReadyH.nil
        go_simp
        refine (implDiverseSize _ _ _ _ Y L ⟨xa, xj, xs⟩ m _ hW10.yarg).mono ?_
        rw [← HT.out]
        rintro e w11 ⟨rfl, hb11⟩
        try dsimp only
        refine hK.out _ _ (HS.out _ (hb10.trans (hb11.mono hb10.size))) (fun hHeld => ?_)
        clear hK K
        try simp only [List.getElem_toArray, List.getElem_cons_zero, List.getElem_cons_succ, Act.put, List.setIfInBounds_toArray, List.set_cons_zero, List.set_cons_succ]
        refine wpAnyH_take (i := 10) (v := ?vv8) rfl (by kernel_rfl) (by kernel_rfl) (by kernel_rfl) (fun _ _ _ h => h) (Or.inl ⟨by rfl, ?hy8⟩) (by assumption) ?rest8
        case hy8 => (intro w hSw; (try dsimp only at hSw); (try simp only [List.getElem_toArray, List.getElem_cons_zero, List.getElem_cons_succ]); go_simp <;> with_reducible rfl)
        try simp only [List.getElem_toArray, List.getElem_cons_zero, List.getElem_cons_succ, Act.put, List.setIfInBounds_toArray, List.set_cons_zero, List.set_cons_succ]
        refine wpAnyH_done (by kernel_rfl) ?_ _
        have hB11 := hB10.trans (hb11.mono hB10.size)
        clear hHeld hb10 hb11 hW10 hB10
        rcases hT1 with rfl | rfl
        all_goals
          go_wp2
          go_ret
          exact ⟨rfl, hB11⟩
    · have hV1 : V < 0 := by omega
      go_wp2
      go_ret
      exact ⟨rfl, hB4⟩
  · rcases (show 1048576 < bs.length ∨ (bs.length ≤ 1048576 ∧ 1048576 < ms.length) by omega) with hx1 | ⟨hx1, hx2⟩
    all_goals
      go_enter Try.func11, Try.ntmps11
      go_wp2
      go_ret
      exact ⟨rfl, Below.refl _ _⟩
end Go.Proofs.Ytljjaanohcibcaa.WFnDiverseAdd
