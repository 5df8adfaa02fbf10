/- FnBestOk, walked. -/
import Derived.Test.YtfpddhehdfckjaaLawKit
import Derived.Test.YtfpddhehdfckjaaPlain2
import Derived.Test.YtfpddhehdfckjaaBestS
import Derived.Test.YtfpddhehdfckjaaDrwAnonBest
import Derived.Test.YtfpddhehdfckjaaPlain4
import Derived.Test.YtfpddhehdfckjaaAnonOk
import Derived.IntWalk
namespace Go.Proofs.Ytfpddhehdfckjaa.WFnBestOk
open Go.RowKit
set_option linter.unusedVariables false
set_option linter.unusedSimpArgs false

set_option maxRecDepth 100000 in
set_option maxHeartbeats 4000000 in
theorem walk (w : World) (A : Option Addr) (c : Nat) (bs : List Int) (hn : bs.length ≤ 9223372036854775807) (hec : bs.length ≤ c ∧ c ≤ 9223372036854775807) (hg : Rds w w.heap.size 1 A bs.length (bs.map (Value.int .u8))) (hb : ∀ z ∈ bs, 0 ≤ z ∧ z ≤ 255) : Calls Try.prog 12 #[.slice A bs.length c] w fun e w' => e = .returned (.bool true) ∧ Below w.heap.size w w' := by
  have hB : Byt w A c bs := ⟨hg, hec.1, hec.2, hb⟩
  clear hg hb
  by_cases hbig : bs.length ≤ 1048576
  · go_enter Try.func12, Try.ntmps12
    go_wp2_with fail
    refine (specDrawAnonBest A c bs w hB).mono ?_
    rintro e w1 ⟨A1, c1, l, A2, c2, L, k, d, rfl, hA, hD, ⟨hk0, hk41⟩, ⟨hd0, hd1⟩, hb1⟩
    have hD0 := Lib.hid hD
    obtain ⟨hl10, hL4, hps, hrs, hlc, hcm, hLc, hcm2⟩ := hD
    clear hps hrs hB
    obtain ⟨o, ho⟩ : ∃ o, o = aBest l L k d := ⟨_, rfl⟩
    have HO := Lib.hid ho
    clear ho
    go_wp2_with fail
    refine (implAnonBest _ _ _ _ l L k d _ hA).mono ?_
    rw [← HO.out]
    rintro e v1 ⟨rfl, hb2⟩
    rcases o with _ | ⟨xa, xj, xs⟩
    · dsimp only [bestV]
      have hA2 := hA.below hb2
      have hB2 := hb1.trans (hb2.mono hb1.size)
      have hW3 : LW (v1.alloc (.cells #[.int .i64 0, .int .i64 0, .int .i64 0] 44)) A1 l A2 L v1.heap.size 0 0 0 := ⟨hA2.below ((Below.refl _ _).alloc (Nat.le_refl _) _), Blk.new v1 _ _⟩
      have hB3 := hB2.alloc hB2.size (.cells #[.int .i64 0, .int .i64 0, .int .i64 0] 44)
      obtain ⟨hc0, hc1, hc2⟩ := hW3.cells
      clear hA hb1 hb2 hA2 hB2
      go_wp2_with fail
      refine (specAnonBest _ _ _ _ l L k d _ hW3.1).mono ?_
      rw [← HO.out]
      dsimp only [bestV, Rc.val]
      rintro e v2 ⟨rfl, hb4⟩
      have hW4 := hW3.below hb4
      have hB4 := hB3.trans (hb4.mono hB3.size)
      have hW5 : LW (v2.alloc (.cells #[.int .i64 0, .int .i64 0, .int .i64 0] 44)) A1 l A2 L v1.heap.size 0 0 0 := hW4.below ((Below.refl _ _).alloc (Nat.le_refl _) _)
      have hB5 := hB4.alloc hB4.size (.cells #[.int .i64 0, .int .i64 0, .int .i64 0] 44)
      have q5 := Blk.new v2 44 #[.int .i64 0, .int .i64 0, .int .i64 0]
      have y0 := q5.cell 0
      have y1 := q5.cell 1
      have y2 := q5.cell 2
      simp only [List.getElem?_cons_zero, List.getElem?_cons_succ] at y0 y1 y2
      obtain ⟨hc0, hc1, hc2⟩ := hW5.cells
      clear hW3 hW4 hB3 hB4 hb4 q5
      go_wp2
      go_ret
      exact ⟨rfl, hB5⟩
    · dsimp only [bestV, Rc.val]
      have hA2 := hA.below hb2
      have hB2 := hb1.trans (hb2.mono hb1.size)
      have hW3 : LW (v1.alloc (.cells #[.int .i64 xa, .int .i64 xj, .int .i64 xs] 44)) A1 l A2 L v1.heap.size xa xj xs := ⟨hA2.below ((Below.refl _ _).alloc (Nat.le_refl _) _), Blk.new v1 _ _⟩
      have hB3 := hB2.alloc hB2.size (.cells #[.int .i64 xa, .int .i64 xj, .int .i64 xs] 44)
      obtain ⟨hc0, hc1, hc2⟩ := hW3.cells
      clear hA hb1 hb2 hA2 hB2
      go_wp2_with fail
      refine (specAnonBest _ _ _ _ l L k d _ hW3.1).mono ?_
      rw [← HO.out]
      dsimp only [bestV, Rc.val]
      rintro e v2 ⟨rfl, hb4⟩
      have hW4 := hW3.below hb4
      have hB4 := hB3.trans (hb4.mono hB3.size)
      have hW5 : LW (v2.alloc (.cells #[.int .i64 xa, .int .i64 xj, .int .i64 xs] 44)) A1 l A2 L v1.heap.size xa xj xs := hW4.below ((Below.refl _ _).alloc (Nat.le_refl _) _)
      have hB5 := hB4.alloc hB4.size (.cells #[.int .i64 xa, .int .i64 xj, .int .i64 xs] 44)
      have q5 := Blk.new v2 44 #[.int .i64 xa, .int .i64 xj, .int .i64 xs]
      have y0 := q5.cell 0
      have y1 := q5.cell 1
      have y2 := q5.cell 2
      simp only [List.getElem?_cons_zero, List.getElem?_cons_succ] at y0 y1 y2
      obtain ⟨hc0, hc1, hc2⟩ := hW5.cells
      clear hW3 hW4 hB3 hB4 hb4 q5
      have hbo := aBest_ok HO.out.symm
      have hbs := aBest_some HO.out.symm
      have hdd := hbo.2.2.2
      obtain ⟨o2, ho2⟩ : ∃ o2, o2 = aBest l L k 0 := ⟨_, rfl⟩
      have HO2 := Lib.hid ho2
      rcases o2 with _ | ⟨ra, rj, rs⟩
      · clear ho2 hbo hbs
        go_wp2_with fail
        refine (implAnonBest _ _ _ _ l L k 0 _ hW5.1).mono ?_
        rw [← HO2.out]
        dsimp only [bestV, Rc.val]
        rintro e w6 ⟨rfl, hb6⟩
        clear y0 y1 y2
        have hW6 := hW5.below hb6
        have hB6 := hB5.trans (hb6.mono hB5.size)
        obtain ⟨hc0, hc1, hc2⟩ := hW6.cells
        clear hW5 hB5 hb6
        have hW7 := hW6.below (((Below.refl _ _).alloc (Nat.le_refl _) _) : Below w6.heap.size w6 (w6.alloc (.cells #[.int .i64 0, .int .i64 0, .int .i64 0] 44)))
        have hB7 := hB6.alloc hB6.size (.cells #[.int .i64 0, .int .i64 0, .int .i64 0] 44)
        have q7 := Blk.new w6 44 #[.int .i64 0, .int .i64 0, .int .i64 0]
        obtain ⟨hc0, hc1, hc2⟩ := hW7.cells
        clear hW6 hB6
        go_wp2_with fail
        generalize w6.alloc (.cells #[.int .i64 0, .int .i64 0, .int .i64 0] 44) = W7 at *
        have HS : Hid (∀ V : World, Below W7.heap.size W7 V → (V.cell? ⟨v1.heap.size, 0, none⟩ = some (.int .i64 xa) ∧ V.cell? ⟨v1.heap.size, 1, none⟩ = some (.int .i64 xj) ∧ V.cell? ⟨v1.heap.size, 2, none⟩ = some (.int .i64 xs) ∧ V.cell? ⟨w6.heap.size, 0, none⟩ = some (.int .i64 0) ∧ V.cell? ⟨w6.heap.size, 1, none⟩ = some (.int .i64 0) ∧ V.cell? ⟨w6.heap.size, 2, none⟩ = some (.int .i64 0))) := fun V hV => by
          have h1 := hW7.below hV
          have h2 := q7.below hV q7.lt
          exact ⟨h1.2.cell 0, h1.2.cell 1, h1.2.cell 2, h2.cell 0, h2.cell 1, h2.cell 2⟩
        clear hc0 hc1 hc2
        refine wp_region_held_drew (S := fun w' => w'.cell? ⟨v1.heap.size, 0, none⟩ = some (.int .i64 xa) ∧ w'.cell? ⟨v1.heap.size, 1, none⟩ = some (.int .i64 xj) ∧ w'.cell? ⟨v1.heap.size, 2, none⟩ = some (.int .i64 xs) ∧ w'.cell? ⟨w6.heap.size, 0, none⟩ = some (.int .i64 0) ∧ w'.cell? ⟨w6.heap.size, 1, none⟩ = some (.int .i64 0) ∧ w'.cell? ⟨w6.heap.size, 2, none⟩ = some (.int .i64 0)) (by kernel_rfl) (HS.out _ (Below.refl _ _).drew) (fun hHeld => ?_)
        refine wpAnyH_take (i := 0) (v := ?vv1) rfl (by kernel_rfl) (by kernel_rfl) (by kernel_rfl) (fun _ _ _ h => h) (Or.inl ⟨by rfl, ?hy1⟩) (by assumption) ?rest1
        case hy1 => (intro w hSw; (try dsimp only at hSw); (try simp only [List.getElem_toArray, List.getElem_cons_zero, List.getElem_cons_succ]); go_simp <;> with_reducible rfl)
        try simp only [List.getElem_toArray, List.getElem_cons_zero, List.getElem_cons_succ, Act.put, List.setIfInBounds_toArray, List.set_cons_zero, List.set_cons_succ]
        refine wpAnyH_take (i := 1) (v := ?vv2) rfl (by kernel_rfl) (by kernel_rfl) (by kernel_rfl) (fun _ _ _ h => h) (Or.inl ⟨by rfl, ?hy2⟩) (by assumption) ?rest2
        case hy2 => (intro w hSw; (try dsimp only at hSw); (try simp only [List.getElem_toArray, List.getElem_cons_zero, List.getElem_cons_succ]); go_simp <;> with_reducible rfl)
        try simp only [List.getElem_toArray, List.getElem_cons_zero, List.getElem_cons_succ, Act.put, List.setIfInBounds_toArray, List.set_cons_zero, List.set_cons_succ]
        refine wpAnyH_take (i := 2) (v := ?vv3) rfl (by kernel_rfl) (by kernel_rfl) (by kernel_rfl) (fun _ _ _ h => h) (Or.inl ⟨by rfl, ?hy3⟩) (by assumption) ?rest3
        case hy3 => (intro w hSw; (try dsimp only at hSw); (try simp only [List.getElem_toArray, List.getElem_cons_zero, List.getElem_cons_succ]); go_simp <;> with_reducible rfl)
        try simp only [List.getElem_toArray, List.getElem_cons_zero, List.getElem_cons_succ, Act.put, List.setIfInBounds_toArray, List.set_cons_zero, List.set_cons_succ]
        refine wpAnyH_take (i := 3) (v := undef) rfl (by kernel_rfl) (by kernel_rfl) (by kernel_rfl) (fun _ _ _ h => h) (Or.inr ⟨by rfl, rfl⟩) (by assumption) ?_
        try simp only [List.getElem_toArray, List.getElem_cons_zero, List.getElem_cons_succ, Act.put, List.setIfInBounds_toArray, List.set_cons_zero, List.set_cons_succ]
        refine wpAnyH_take (i := 4) (v := undef) rfl (by kernel_rfl) (by kernel_rfl) (by kernel_rfl) (fun _ _ _ h => h) (Or.inr ⟨by rfl, rfl⟩) (by assumption) ?_
        try simp only [List.getElem_toArray, List.getElem_cons_zero, List.getElem_cons_succ, Act.put, List.setIfInBounds_toArray, List.set_cons_zero, List.set_cons_succ]
        refine wpAnyH_take (i := 5) (v := undef) rfl (by kernel_rfl) (by kernel_rfl) (by kernel_rfl) (fun _ _ _ h => h) (Or.inr ⟨by rfl, rfl⟩) (by assumption) ?_
        try simp only [List.getElem_toArray, List.getElem_cons_zero, List.getElem_cons_succ, Act.put, List.setIfInBounds_toArray, List.set_cons_zero, List.set_cons_succ]
        refine wpAnyH_take (i := 6) (v := undef) rfl (by kernel_rfl) (by kernel_rfl) (by kernel_rfl) (fun _ _ _ h => h) (Or.inr ⟨by rfl, rfl⟩) (by assumption) ?_
        try simp only [List.getElem_toArray, List.getElem_cons_zero, List.getElem_cons_succ, Act.put, List.setIfInBounds_toArray, List.set_cons_zero, List.set_cons_succ]
        refine wpAnyH_take (i := 7) (v := undef) rfl (by kernel_rfl) (by kernel_rfl) (by kernel_rfl) (fun _ _ _ h => h) (Or.inr ⟨by rfl, rfl⟩) (by assumption) ?_
        try simp only [List.getElem_toArray, List.getElem_cons_zero, List.getElem_cons_succ, Act.put, List.setIfInBounds_toArray, List.set_cons_zero, List.set_cons_succ]
        refine wpAnyH_take (i := 8) (v := undef) rfl (by kernel_rfl) (by kernel_rfl) (by kernel_rfl) (fun _ _ _ h => h) (Or.inr ⟨by rfl, rfl⟩) (by assumption) ?_
        try simp only [List.getElem_toArray, List.getElem_cons_zero, List.getElem_cons_succ, Act.put, List.setIfInBounds_toArray, List.set_cons_zero, List.set_cons_succ]
        refine wpAnyH_take (i := 9) (v := undef) rfl (by kernel_rfl) (by kernel_rfl) (by kernel_rfl) (fun _ _ _ h => h) (Or.inr ⟨by rfl, rfl⟩) (by assumption) ?_
        try simp only [List.getElem_toArray, List.getElem_cons_zero, List.getElem_cons_succ, Act.put, List.setIfInBounds_toArray, List.set_cons_zero, List.set_cons_succ]
        refine wpAnyH_take (i := 10) (v := undef) rfl (by kernel_rfl) (by kernel_rfl) (by kernel_rfl) (fun _ _ _ h => h) (Or.inr ⟨by rfl, rfl⟩) (by assumption) ?_
        try simp only [List.getElem_toArray, List.getElem_cons_zero, List.getElem_cons_succ, Act.put, List.setIfInBounds_toArray, List.set_cons_zero, List.set_cons_succ]
        refine wpAnyH_take (i := 11) (v := undef) rfl (by kernel_rfl) (by kernel_rfl) (by kernel_rfl) (fun _ _ _ h => h) (Or.inr ⟨by rfl, rfl⟩) (by assumption) ?_
        try simp only [List.getElem_toArray, List.getElem_cons_zero, List.getElem_cons_succ, Act.put, List.setIfInBounds_toArray, List.set_cons_zero, List.set_cons_succ]
        refine wpAnyH_take (i := 12) (v := undef) rfl (by kernel_rfl) (by kernel_rfl) (by kernel_rfl) (fun _ _ _ h => h) (Or.inr ⟨by rfl, rfl⟩) (by assumption) ?_
        try simp only [List.getElem_toArray, List.getElem_cons_zero, List.getElem_cons_succ, Act.put, List.setIfInBounds_toArray, List.set_cons_zero, List.set_cons_succ]
        refine wpAnyH_take (i := 13) (v := undef) rfl (by kernel_rfl) (by kernel_rfl) (by kernel_rfl) (fun _ _ _ h => h) (Or.inr ⟨by rfl, rfl⟩) (by assumption) ?_
        try simp only [List.getElem_toArray, List.getElem_cons_zero, List.getElem_cons_succ, Act.put, List.setIfInBounds_toArray, List.set_cons_zero, List.set_cons_succ]
        refine wpAnyH_take (i := 14) (v := undef) rfl (by kernel_rfl) (by kernel_rfl) (by kernel_rfl) (fun _ _ _ h => h) (Or.inr ⟨by rfl, rfl⟩) (by assumption) ?_
        try simp only [List.getElem_toArray, List.getElem_cons_zero, List.getElem_cons_succ, Act.put, List.setIfInBounds_toArray, List.set_cons_zero, List.set_cons_succ]
        refine wpAnyH_take (i := 15) (v := undef) rfl (by kernel_rfl) (by kernel_rfl) (by kernel_rfl) (fun _ _ _ h => h) (Or.inr ⟨by rfl, rfl⟩) (by assumption) ?_
        try simp only [List.getElem_toArray, List.getElem_cons_zero, List.getElem_cons_succ, Act.put, List.setIfInBounds_toArray, List.set_cons_zero, List.set_cons_succ]
        refine wpAnyH_take (i := 16) (v := undef) rfl (by kernel_rfl) (by kernel_rfl) (by kernel_rfl) (fun _ _ _ h => h) (Or.inr ⟨by rfl, rfl⟩) (by assumption) ?_
        try simp only [List.getElem_toArray, List.getElem_cons_zero, List.getElem_cons_succ, Act.put, List.setIfInBounds_toArray, List.set_cons_zero, List.set_cons_succ]
        refine wpAnyH_take (i := 17) (v := ?vv4) rfl (by kernel_rfl) (by kernel_rfl) (by kernel_rfl) (fun _ _ _ h => h) (Or.inl ⟨by rfl, ?hy4⟩) (by assumption) ?rest4
        case hy4 => (intro w hSw; (try dsimp only at hSw); (try simp only [List.getElem_toArray, List.getElem_cons_zero, List.getElem_cons_succ]); go_simp <;> with_reducible rfl)
        try simp only [List.getElem_toArray, List.getElem_cons_zero, List.getElem_cons_succ, Act.put, List.setIfInBounds_toArray, List.set_cons_zero, List.set_cons_succ]
        refine wpAnyH_take (i := 18) (v := ?vv5) rfl (by kernel_rfl) (by kernel_rfl) (by kernel_rfl) (fun _ _ _ h => h) (Or.inl ⟨by rfl, ?hy5⟩) (by assumption) ?rest5
        case hy5 => (intro w hSw; (try dsimp only at hSw); (try simp only [List.getElem_toArray, List.getElem_cons_zero, List.getElem_cons_succ]); go_simp <;> with_reducible rfl)
        try simp only [List.getElem_toArray, List.getElem_cons_zero, List.getElem_cons_succ, Act.put, List.setIfInBounds_toArray, List.set_cons_zero, List.set_cons_succ]
        refine wpAnyH_done (by kernel_rfl) ?_ _
        clear hHeld
        have hB8 := hB7.drew
        go_wp2
        go_ret
        exact ⟨rfl, hB8⟩
      · have hbo2 := aBest_ok ho2.symm
        have hbs2 := aBest_some ho2.symm
        obtain ⟨i, hi, hci⟩ := aBest_cand ho2.symm
        have hle := hbs.2.2 i hi (by rw [← hci]; have := hbs2.2.1; omega)
        rw [← hci] at hle
        have ho : okA l L ⟨ra, rj, rs⟩ := ⟨hbo.1, hbs2.1⟩
        have hz := hbs2.2.1
        rw [aDrop_yes ho rfl hbo.2.2.1.1 hbo.2.2.1.2] at hz
        have HT : Hid ((aDrop l L ⟨ra, rj, rs⟩ k == 0) = true) := by
          rw [aDrop_yes ho rfl hbo.2.2.1.1 hbo.2.2.1.2]
          have : drp (recd L ⟨ra, rj, rs⟩ l) k = 0 := by omega
          rw [this]
          exact Lib.hid rfl
        obtain ⟨C, hC⟩ : ∃ C, C = aCost L ⟨xa, xj, xs⟩ := ⟨_, rfl⟩
        obtain ⟨E, hE⟩ : ∃ E, E = aCost L ⟨ra, rj, rs⟩ := ⟨_, rfl⟩
        have hCE : C ≤ E := by omega
        have HC := Lib.hid hC; clear hC
        have HE := Lib.hid hE; clear hE
        clear ho2 hbo hbs hbo2 hbs2 hci hle ho hz
        go_wp2_with fail
        refine (implAnonBest _ _ _ _ l L k 0 _ hW5.1).mono ?_
        rw [← HO2.out]
        dsimp only [bestV, Rc.val]
        rintro e w6 ⟨rfl, hb6⟩
        clear y0 y1 y2
        have hW6 := hW5.below hb6
        have hB6 := hB5.trans (hb6.mono hB5.size)
        obtain ⟨hc0, hc1, hc2⟩ := hW6.cells
        clear hW5 hB5 hb6
        have hW7 := hW6.below (((Below.refl _ _).alloc (Nat.le_refl _) _) : Below w6.heap.size w6 (w6.alloc (.cells #[.int .i64 ra, .int .i64 rj, .int .i64 rs] 44)))
        have hB7 := hB6.alloc hB6.size (.cells #[.int .i64 ra, .int .i64 rj, .int .i64 rs] 44)
        have q7 := Blk.new w6 44 #[.int .i64 ra, .int .i64 rj, .int .i64 rs]
        obtain ⟨hc0, hc1, hc2⟩ := hW7.cells
        clear hW6 hB6
        go_wp2_with fail
        generalize w6.alloc (.cells #[.int .i64 ra, .int .i64 rj, .int .i64 rs] 44) = W7 at *
        have HS : Hid (∀ V : World, Below W7.heap.size W7 V → (V.cell? ⟨v1.heap.size, 0, none⟩ = some (.int .i64 xa) ∧ V.cell? ⟨v1.heap.size, 1, none⟩ = some (.int .i64 xj) ∧ V.cell? ⟨v1.heap.size, 2, none⟩ = some (.int .i64 xs) ∧ V.cell? ⟨w6.heap.size, 0, none⟩ = some (.int .i64 ra) ∧ V.cell? ⟨w6.heap.size, 1, none⟩ = some (.int .i64 rj) ∧ V.cell? ⟨w6.heap.size, 2, none⟩ = some (.int .i64 rs))) := fun V hV => by
          have h1 := hW7.below hV
          have h2 := q7.below hV q7.lt
          exact ⟨h1.2.cell 0, h1.2.cell 1, h1.2.cell 2, h2.cell 0, h2.cell 1, h2.cell 2⟩
        clear hc0 hc1 hc2
        refine wp_region_held_drew (S := fun w' => w'.cell? ⟨v1.heap.size, 0, none⟩ = some (.int .i64 xa) ∧ w'.cell? ⟨v1.heap.size, 1, none⟩ = some (.int .i64 xj) ∧ w'.cell? ⟨v1.heap.size, 2, none⟩ = some (.int .i64 xs) ∧ w'.cell? ⟨w6.heap.size, 0, none⟩ = some (.int .i64 ra) ∧ w'.cell? ⟨w6.heap.size, 1, none⟩ = some (.int .i64 rj) ∧ w'.cell? ⟨w6.heap.size, 2, none⟩ = some (.int .i64 rs)) (by kernel_rfl) (HS.out _ (Below.refl _ _).drew) (fun hHeld => ?_)
        refine wpAnyH_take (i := 0) (v := ?vv6) rfl (by kernel_rfl) (by kernel_rfl) (by kernel_rfl) (fun _ _ _ h => h) (Or.inl ⟨by rfl, ?hy6⟩) (by assumption) ?rest6
        case hy6 => (intro w hSw; (try dsimp only at hSw); (try simp only [List.getElem_toArray, List.getElem_cons_zero, List.getElem_cons_succ]); go_simp <;> with_reducible rfl)
        try simp only [List.getElem_toArray, List.getElem_cons_zero, List.getElem_cons_succ, Act.put, List.setIfInBounds_toArray, List.set_cons_zero, List.set_cons_succ]
        refine wpAnyH_take (i := 1) (v := ?vv7) rfl (by kernel_rfl) (by kernel_rfl) (by kernel_rfl) (fun _ _ _ h => h) (Or.inl ⟨by rfl, ?hy7⟩) (by assumption) ?rest7
        case hy7 => (intro w hSw; (try dsimp only at hSw); (try simp only [List.getElem_toArray, List.getElem_cons_zero, List.getElem_cons_succ]); go_simp <;> with_reducible rfl)
        try simp only [List.getElem_toArray, List.getElem_cons_zero, List.getElem_cons_succ, Act.put, List.setIfInBounds_toArray, List.set_cons_zero, List.set_cons_succ]
        refine wpAnyH_take (i := 2) (v := ?vv8) rfl (by kernel_rfl) (by kernel_rfl) (by kernel_rfl) (fun _ _ _ h => h) (Or.inl ⟨by rfl, ?hy8⟩) (by assumption) ?rest8
        case hy8 => (intro w hSw; (try dsimp only at hSw); (try simp only [List.getElem_toArray, List.getElem_cons_zero, List.getElem_cons_succ]); go_simp <;> with_reducible rfl)
        try simp only [List.getElem_toArray, List.getElem_cons_zero, List.getElem_cons_succ, Act.put, List.setIfInBounds_toArray, List.set_cons_zero, List.set_cons_succ]
        refine wpAnyH_take (i := 3) (v := ?vv9) rfl (by kernel_rfl) (by kernel_rfl) (by kernel_rfl) (fun _ _ _ h => h) (Or.inl ⟨by rfl, ?hy9⟩) (by assumption) ?rest9
        case hy9 => (intro w hSw; (try dsimp only at hSw); (try simp only [List.getElem_toArray, List.getElem_cons_zero, List.getElem_cons_succ]); go_simp <;> with_reducible rfl)
        try simp only [List.getElem_toArray, List.getElem_cons_zero, List.getElem_cons_succ, Act.put, List.setIfInBounds_toArray, List.set_cons_zero, List.set_cons_succ]
        refine wpAnyH_take (i := 4) (v := ?vv10) rfl (by kernel_rfl) (by kernel_rfl) (by kernel_rfl) (fun _ _ _ h => h) (Or.inl ⟨by rfl, ?hy10⟩) (by assumption) ?rest10
        case hy10 => (intro w hSw; (try dsimp only at hSw); (try simp only [List.getElem_toArray, List.getElem_cons_zero, List.getElem_cons_succ]); go_simp <;> with_reducible rfl)
        try simp only [List.getElem_toArray, List.getElem_cons_zero, List.getElem_cons_succ, Act.put, List.setIfInBounds_toArray, List.set_cons_zero, List.set_cons_succ]
        refine wpAnyH_take (i := 5) (v := ?vv11) rfl (by kernel_rfl) (by kernel_rfl) (by kernel_rfl) (fun _ _ _ h => h) (Or.inl ⟨by rfl, ?hy11⟩) (by assumption) ?rest11
        case hy11 => (intro w hSw; (try dsimp only at hSw); (try simp only [List.getElem_toArray, List.getElem_cons_zero, List.getElem_cons_succ]); go_simp <;> with_reducible rfl)
        try simp only [List.getElem_toArray, List.getElem_cons_zero, List.getElem_cons_succ, Act.put, List.setIfInBounds_toArray, List.set_cons_zero, List.set_cons_succ]
        refine wpAnyH_take (i := 6) (v := ?vv12) rfl (by kernel_rfl) (by kernel_rfl) (by kernel_rfl) (fun _ _ _ h => h) (Or.inl ⟨by rfl, ?hy12⟩) (by assumption) ?rest12
        case hy12 => (intro w hSw; (try dsimp only at hSw); (try simp only [List.getElem_toArray, List.getElem_cons_zero, List.getElem_cons_succ]); go_simp <;> with_reducible rfl)
        try simp only [List.getElem_toArray, List.getElem_cons_zero, List.getElem_cons_succ, Act.put, List.setIfInBounds_toArray, List.set_cons_zero, List.set_cons_succ]
        refine wpAnyH_ready (rs := [7]) (by kernel_rfl) (by simp) ?_
        refine AllReadyH.cons rfl (fun K hK => ?_) AllReadyH.nil
        go_simp
        refine (implAnonOk _ _ _ _ l L ⟨ra, rj, rs⟩ k _ (hW7.below (Below.refl _ _).drew).1).mono ?_
        rw [HT.out]
        rintro e x1 ⟨rfl, hq1⟩
        have hx1 : Below W7.heap.size W7 x1 := (Below.refl _ _).drew.trans hq1
        clear hq1
        dsimp only
        refine hK.out _ _ (HS.out _ hx1) (fun hHeld => ?_)
        clear hK K
        try simp only [List.getElem_toArray, List.getElem_cons_zero, List.getElem_cons_succ, Act.put, List.setIfInBounds_toArray, List.set_cons_zero, List.set_cons_succ]
        refine wpAnyH_take (i := 8) (v := ?vv13) rfl (by kernel_rfl) (by kernel_rfl) (by kernel_rfl) (fun _ _ _ h => h) (Or.inl ⟨by rfl, ?hy13⟩) (by assumption) ?rest13
        case hy13 => (intro w hSw; (try dsimp only at hSw); (try simp only [List.getElem_toArray, List.getElem_cons_zero, List.getElem_cons_succ]); go_simp <;> with_reducible rfl)
        try simp only [List.getElem_toArray, List.getElem_cons_zero, List.getElem_cons_succ, Act.put, List.setIfInBounds_toArray, List.set_cons_zero, List.set_cons_succ]
        refine wpAnyH_take (i := 9) (v := ?vv14) rfl (by kernel_rfl) (by kernel_rfl) (by kernel_rfl) (fun _ _ _ h => h) (Or.inl ⟨by rfl, ?hy14⟩) (by assumption) ?rest14
        case hy14 => (intro w hSw; (try dsimp only at hSw); (try simp only [List.getElem_toArray, List.getElem_cons_zero, List.getElem_cons_succ]); go_simp <;> with_reducible rfl)
        try simp only [List.getElem_toArray, List.getElem_cons_zero, List.getElem_cons_succ, Act.put, List.setIfInBounds_toArray, List.set_cons_zero, List.set_cons_succ]
        refine wpAnyH_take (i := 10) (v := ?vv15) rfl (by kernel_rfl) (by kernel_rfl) (by kernel_rfl) (fun _ _ _ h => h) (Or.inl ⟨by rfl, ?hy15⟩) (by assumption) ?rest15
        case hy15 => (intro w hSw; (try dsimp only at hSw); (try simp only [List.getElem_toArray, List.getElem_cons_zero, List.getElem_cons_succ]); go_simp <;> with_reducible rfl)
        try simp only [List.getElem_toArray, List.getElem_cons_zero, List.getElem_cons_succ, Act.put, List.setIfInBounds_toArray, List.set_cons_zero, List.set_cons_succ]
        refine wpAnyH_take (i := 12) (v := ?vv16) rfl (by kernel_rfl) (by kernel_rfl) (by kernel_rfl) (fun _ _ _ h => h) (Or.inl ⟨by rfl, ?hy16⟩) (by assumption) ?rest16
        case hy16 => (intro w hSw; (try dsimp only at hSw); (try simp only [List.getElem_toArray, List.getElem_cons_zero, List.getElem_cons_succ]); go_simp <;> with_reducible rfl)
        try simp only [List.getElem_toArray, List.getElem_cons_zero, List.getElem_cons_succ, Act.put, List.setIfInBounds_toArray, List.set_cons_zero, List.set_cons_succ]
        refine wpAnyH_take (i := 13) (v := ?vv17) rfl (by kernel_rfl) (by kernel_rfl) (by kernel_rfl) (fun _ _ _ h => h) (Or.inl ⟨by rfl, ?hy17⟩) (by assumption) ?rest17
        case hy17 => (intro w hSw; (try dsimp only at hSw); (try simp only [List.getElem_toArray, List.getElem_cons_zero, List.getElem_cons_succ]); go_simp <;> with_reducible rfl)
        try simp only [List.getElem_toArray, List.getElem_cons_zero, List.getElem_cons_succ, Act.put, List.setIfInBounds_toArray, List.set_cons_zero, List.set_cons_succ]
        refine wpAnyH_ready (rs := [11]) (by kernel_rfl) (by simp) ?_
        refine AllReadyH.cons rfl (fun K hK => ?_) AllReadyH.nil
        go_simp
        refine (implAnonCost _ _ L ⟨ra, rj, rs⟩ _ (hW7.below hx1).1.2.2.1 (by omega) hW7.1.2.2.2.2).mono ?_
        rw [← HE.out]
        rintro e x2 ⟨rfl, hq2⟩
        have hx2 : Below W7.heap.size W7 x2 := hx1.trans (hq2.mono hx1.size)
        clear hq2
        dsimp only
        refine hK.out _ _ (HS.out _ hx2) (fun hHeld => ?_)
        clear hK K
        try simp only [List.getElem_toArray, List.getElem_cons_zero, List.getElem_cons_succ, Act.put, List.setIfInBounds_toArray, List.set_cons_zero, List.set_cons_succ]
        refine wpAnyH_ready (rs := [14]) (by kernel_rfl) (by simp) ?_
        refine AllReadyH.cons rfl (fun K hK => ?_) AllReadyH.nil
        go_simp
        refine (implAnonCost _ _ L ⟨xa, xj, xs⟩ _ (hW7.below hx2).1.2.2.1 (by omega) hW7.1.2.2.2.2).mono ?_
        rw [← HC.out]
        rintro e x3 ⟨rfl, hq3⟩
        have hx3 : Below W7.heap.size W7 x3 := hx2.trans (hq3.mono hx2.size)
        clear hq3
        dsimp only
        refine hK.out _ _ (HS.out _ hx3) (fun hHeld => ?_)
        clear hK K
        try simp only [List.getElem_toArray, List.getElem_cons_zero, List.getElem_cons_succ, Act.put, List.setIfInBounds_toArray, List.set_cons_zero, List.set_cons_succ]
        refine wpAnyH_take (i := 15) (v := ?vv18) rfl (by kernel_rfl) (by kernel_rfl) (by kernel_rfl) (fun _ _ _ h => h) (Or.inl ⟨by rfl, ?hy18⟩) (by assumption) ?rest18
        case hy18 => (intro w hSw; (try dsimp only at hSw); (try simp only [List.getElem_toArray, List.getElem_cons_zero, List.getElem_cons_succ]); go_simp <;> with_reducible rfl)
        try simp only [List.getElem_toArray, List.getElem_cons_zero, List.getElem_cons_succ, Act.put, List.setIfInBounds_toArray, List.set_cons_zero, List.set_cons_succ]
        refine wpAnyH_take (i := 16) (v := ?vv19) rfl (by kernel_rfl) (by kernel_rfl) (by kernel_rfl) (fun _ _ _ h => h) (Or.inl ⟨by rfl, ?hy19⟩) (by assumption) ?rest19
        case hy19 => (intro w hSw; (try dsimp only at hSw); (try simp only [List.getElem_toArray, List.getElem_cons_zero, List.getElem_cons_succ]); go_simp <;> with_reducible rfl)
        try simp only [List.getElem_toArray, List.getElem_cons_zero, List.getElem_cons_succ, Act.put, List.setIfInBounds_toArray, List.set_cons_zero, List.set_cons_succ]
        refine wpAnyH_take (i := 17) (v := ?vv20) rfl (by kernel_rfl) (by kernel_rfl) (by kernel_rfl) (fun _ _ _ h => h) (Or.inl ⟨by rfl, ?hy20⟩) (by assumption) ?rest20
        case hy20 => (intro w hSw; (try dsimp only at hSw); (try simp only [List.getElem_toArray, List.getElem_cons_zero, List.getElem_cons_succ]); go_simp <;> with_reducible rfl)
        try simp only [List.getElem_toArray, List.getElem_cons_zero, List.getElem_cons_succ, Act.put, List.setIfInBounds_toArray, List.set_cons_zero, List.set_cons_succ]
        refine wpAnyH_take (i := 18) (v := ?vv21) rfl (by kernel_rfl) (by kernel_rfl) (by kernel_rfl) (fun _ _ _ h => h) (Or.inl ⟨by rfl, ?hy21⟩) (by assumption) ?rest21
        case hy21 => (intro w hSw; (try dsimp only at hSw); (try simp only [List.getElem_toArray, List.getElem_cons_zero, List.getElem_cons_succ]); go_simp <;> with_reducible rfl)
        try simp only [List.getElem_toArray, List.getElem_cons_zero, List.getElem_cons_succ, Act.put, List.setIfInBounds_toArray, List.set_cons_zero, List.set_cons_succ]
        refine wpAnyH_done (by kernel_rfl) ?_ _
        clear hHeld
        have hB8 := hB7.trans (hx3.mono hB7.size)
        go_wp2
        go_ret
        exact ⟨rfl, hB8⟩
  · have hbig2 : 1048576 < bs.length := by omega
    go_enter Try.func12, Try.ntmps12
    go_wp2
    go_ret
    exact ⟨rfl, Below.refl _ _⟩
end Go.Proofs.Ytfpddhehdfckjaa.WFnBestOk
