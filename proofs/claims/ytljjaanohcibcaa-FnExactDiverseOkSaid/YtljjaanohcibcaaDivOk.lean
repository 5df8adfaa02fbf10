/- DiverseOk: the program's and the reference's. -/
import Derived.Test.YtljjaanohcibcaaDivLeastI
import Derived.Test.YtljjaanohcibcaaDivLeastS
import Derived.Test.YtljjaanohcibcaaAnonOk
namespace Go.Proofs.Ytljjaanohcibcaa
open Go.RowKit
attribute [local go_sem ↓] Go.wp_at_zero Go.wp_at_succ

theorem aDrop_k {l : List Pn} {L : List (List Int)} {r : Rc} {k : Int} (h : aDrop l L r k = 0) : okA l L r ∧ 1 ≤ k ∧ k ≤ 40 := by
  unfold aDrop at h
  split at h
  · assumption
  · omega
theorem implIsPN (k : Int) (w : World) : Calls Try.prog 75 #[.int .i64 k] w fun e w' => e = .returned (.bool (inB k 1 40)) ∧ w = w' := by
  by_cases h1 : 1 ≤ k
  · by_cases h2 : k ≤ 40
    · have HI := Lib.hid (inB_yes h1 h2)
      go_enter Try.func75, Try.ntmps75
      go_wp2
      go_ret
      exact ⟨by rw [HI.out]; rfl, rfl⟩
    · have HI := Lib.hid (inB_no (n := k) (lo := 1) (hi := 40) (.inr (by omega)))
      go_enter Try.func75, Try.ntmps75
      go_wp2
      go_ret
      exact ⟨by rw [HI.out]; rfl, rfl⟩
  · have HI := Lib.hid (inB_no (n := k) (lo := 1) (hi := 40) (.inl (by omega)))
    have h1' : k < 1 := by omega
    go_enter Try.func75, Try.ntmps75
    go_wp2
    go_ret
    exact ⟨by rw [HI.out]; rfl, rfl⟩
theorem dOk_m {l : List Pn} {L : List (List Int)} {r : Rc} {k m : Int} (h : dOk l L r k m) : 1 ≤ m ∧ m ≤ 40 := h.1
theorem dOk_k {l : List Pn} {L : List (List Int)} {r : Rc} {k m : Int} (h : dOk l L r k m) : 1 ≤ k ∧ k ≤ 40 := (aDrop_k h.2.1).2
set_option maxRecDepth 100000 in
set_option maxHeartbeats 4000000 in
theorem implDiverseOkR (A A2 : Option Addr) (c c2 : Nat) (l : List Pn) (L : List (List Int)) (r : Rc) (k m : Int) (w : World) (h : Arg w A l A2 L) :
    Calls Try.prog 46 #[.slice A l.length c, .slice A2 L.length c2, r.val, .int .i64 k, .int .i64 m] w fun e w' => RB (dOk l L r k m) e ∧ Below w.heap.size w w' := by
  have hn : l.length ≤ 2000000 := h.2.1
  have H := Lib.hid h
  clear h
  have HB := Lib.hid (fun o => (Below.refl w.heap.size w).alloc (Nat.le_refl _) o)
  obtain ⟨ra, rj, rs⟩ := r
  unfold Rc.val
  dsimp only
  have hbk := Blk.new w 26 #[.int .i64 ra, .int .i64 rj, .int .i64 rs]
  have hH0 := H.out.below (HB.out (.cells #[.int .i64 ra, .int .i64 rj, .int .i64 rs] 26))
  have hB0 := HB.out (.cells #[.int .i64 ra, .int .i64 rj, .int .i64 rs] 26)
  by_cases hk : 1 ≤ k ∧ k ≤ 40
  · have hik := inB_yes hk.1 hk.2
    by_cases hm : 1 ≤ m ∧ m ≤ 40
    · have him := inB_yes hm.1 hm.2
      obtain ⟨hm1, hm2⟩ := hm
      clear hk
      go_enter Try.func46, Try.ntmps46
      go_wp2_with (go_at_call 75; refine (implIsPN _ _).mono ?_; rintro e wp ⟨rfl, rfl⟩)
      refine (implAnonOk A A2 c c2 l L ⟨ra, rj, rs⟩ k _ hH0).mono ?_
      rintro e w1 ⟨rfl, hb1⟩
      have hH1 := hH0.below hb1
      have hbk1 := hbk.below hb1 hbk.lt
      have hB1 := hB0.trans (hb1.mono hB0.size)
      have hc0 := hbk1.cell 0
      have hc1 := hbk1.cell 1
      have hc2 := hbk1.cell 2
      simp only [List.getElem?_cons_zero, List.getElem?_cons_succ] at hc0 hc1 hc2
      clear hbk hH0 hB0 hb1 hbk1
      by_cases hd : aDrop l L ⟨ra, rj, rs⟩ k = 0
      · have HD := Lib.hid hd
        have hd' : (aDrop l L ⟨ra, rj, rs⟩ k == 0) = true := by simp [hd]
        clear hd
        rw [hd']
        clear hd'
        by_cases hl0 : l.length = 0
        · have HR := Lib.hid (show dOk l L ⟨ra, rj, rs⟩ k m from ⟨⟨hm1, hm2⟩, HD.out, .inl hl0⟩)
          have e1 : ((l.length : Int) == 0) = true := by simp [hl0]
          have e2 : (l.length == 0) = true := by simp [hl0]
          clear hl0
          go_wp2
          go_ret
          exact ⟨RB.yes HR.out, hB1⟩
        · have e1 : ((l.length : Int) == 0) = false := beq_eq_false_iff_ne.2 (by omega)
          have e2 : (l.length == 0) = false := beq_eq_false_iff_ne.2 (by omega)
          have HL := Lib.hid hl0
          clear hl0
          go_wp2_with fail
          refine (implDiverseLeast A A2 c c2 l L ⟨ra, rj, rs⟩ _ hH1).mono ?_
          rintro e w2 ⟨rfl, hb2⟩
          have hB2 := hB1.trans (hb2.mono hB1.size)
          clear hc0 hc1 hc2
          obtain ⟨V, hV⟩ : ∃ V, V = dLeast l L ⟨ra, rj, rs⟩ := ⟨_, rfl⟩
          rw [← hV]
          have HV := Lib.hid hV
          clear hV
          by_cases hge : m ≤ V
          · go_wp2
            go_ret
            exact ⟨RB.yes ⟨⟨hm1, hm2⟩, HD.out, .inr (by rw [← HV.out]; exact hge)⟩, hB2⟩
          · have hlt : V < m := by omega
            go_wp2
            go_ret
            exact ⟨⟨decide (m ≤ V), rfl, fun h => absurd (of_decide_eq_true h) (by omega), fun h : dOk l L ⟨ra, rj, rs⟩ k m => h.2.2.elim (fun h => absurd h HL.out) (fun h => by rw [← HV.out] at h; omega)⟩, hB2⟩
      · have HD := Lib.hid hd
        have hd' : (aDrop l L ⟨ra, rj, rs⟩ k == 0) = false := beq_eq_false_iff_ne.2 hd
        clear hd
        rw [hd']
        clear hd'
        go_wp2
        go_ret
        exact ⟨RB.no (fun h : dOk l L ⟨ra, rj, rs⟩ k m => HD.out h.2.1), hB1⟩
    · have him := inB_no (n := m) (lo := 1) (hi := 40) (by omega)
      have HM := Lib.hid hm
      clear hm hk
      go_enter Try.func46, Try.ntmps46
      go_wp2_with (go_at_call 75; refine (implIsPN _ _).mono ?_; rintro e wp ⟨rfl, rfl⟩)
      go_ret
      exact ⟨RB.no (fun h : dOk l L ⟨ra, rj, rs⟩ k m => HM.out h.1), hB0⟩
  · have hik := inB_no (n := k) (lo := 1) (hi := 40) (by omega)
    have HK := Lib.hid hk
    clear hk
    go_enter Try.func46, Try.ntmps46
    go_wp2_with (go_at_call 75; refine (implIsPN _ _).mono ?_; rintro e wp ⟨rfl, rfl⟩)
    go_ret
    exact ⟨RB.no (fun h => HK.out (dOk_k h)), hB0⟩

set_option maxRecDepth 100000 in
set_option maxHeartbeats 4000000 in
theorem specDiverseOkR (A A2 : Option Addr) (c c2 : Nat) (l : List Pn) (L : List (List Int)) (r : Rc) (k m : Int) (w : World) (h : Arg w A l A2 L) :
    Calls Try.prog 45 #[.slice A l.length c, .slice A2 L.length c2, r.val, .int .i64 k, .int .i64 m] w fun e w' => RB (dOk l L r k m) e ∧ Below w.heap.size w w' := by
  have hn : l.length ≤ 2000000 := h.2.1
  have H := Lib.hid h
  clear h
  have HB := Lib.hid (fun o => (Below.refl w.heap.size w).alloc (Nat.le_refl _) o)
  obtain ⟨ra, rj, rs⟩ := r
  unfold Rc.val
  dsimp only
  have hbk := Blk.new w 26 #[.int .i64 ra, .int .i64 rj, .int .i64 rs]
  have hH0 := H.out.below (HB.out (.cells #[.int .i64 ra, .int .i64 rj, .int .i64 rs] 26))
  have hB0 := HB.out (.cells #[.int .i64 ra, .int .i64 rj, .int .i64 rs] 26)
  by_cases hm : 1 ≤ m ∧ m ≤ 40
  · have him := inB_yes hm.1 hm.2
    obtain ⟨hm1, hm2⟩ := hm
    go_enter Try.func45, Try.ntmps45
    go_wp2_with (go_at_call 52; refine (specIn _ _ _ _).mono ?_; rintro e w' ⟨rfl, rfl⟩)
    refine (specAnonOk A A2 c c2 l L ⟨ra, rj, rs⟩ k _ hH0).mono ?_
    rintro e w1 ⟨rfl, hb1⟩
    have hH1 := hH0.below hb1
    have hbk1 := hbk.below hb1 hbk.lt
    have hB1 := hB0.trans (hb1.mono hB0.size)
    have hc0 := hbk1.cell 0
    have hc1 := hbk1.cell 1
    have hc2 := hbk1.cell 2
    simp only [List.getElem?_cons_zero, List.getElem?_cons_succ] at hc0 hc1 hc2
    clear hbk hH0 hB0 hb1 hbk1
    by_cases hd : aDrop l L ⟨ra, rj, rs⟩ k = 0
    · have HD := Lib.hid hd
      have hd' : (aDrop l L ⟨ra, rj, rs⟩ k == 0) = true := by simp [hd]
      clear hd
      rw [hd']
      clear hd'
      by_cases hl0 : l.length = 0
      · have HR := Lib.hid (show dOk l L ⟨ra, rj, rs⟩ k m from ⟨⟨hm1, hm2⟩, HD.out, .inl hl0⟩)
        have e1 : ((l.length : Int) == 0) = true := by simp [hl0]
        have e2 : (l.length == 0) = true := by simp [hl0]
        clear hl0
        go_wp2
        go_ret
        exact ⟨RB.yes HR.out, hB1⟩
      · have e1 : ((l.length : Int) == 0) = false := beq_eq_false_iff_ne.2 (by omega)
        have e2 : (l.length == 0) = false := beq_eq_false_iff_ne.2 (by omega)
        have HL := Lib.hid hl0
        clear hl0
        go_wp2_with fail
        refine (specDiverseLeast A A2 c c2 l L ⟨ra, rj, rs⟩ _ hH1).mono ?_
        rintro e w2 ⟨rfl, hb2⟩
        have hB2 := hB1.trans (hb2.mono hB1.size)
        clear hc0 hc1 hc2
        obtain ⟨V, hV⟩ : ∃ V, V = dLeast l L ⟨ra, rj, rs⟩ := ⟨_, rfl⟩
        rw [← hV]
        have HV := Lib.hid hV
        clear hV
        by_cases hge : m ≤ V
        · go_wp2
          go_ret
          exact ⟨RB.yes ⟨⟨hm1, hm2⟩, HD.out, .inr (by rw [← HV.out]; exact hge)⟩, hB2⟩
        · have hlt : V < m := by omega
          go_wp2
          go_ret
          exact ⟨⟨decide (m ≤ V), rfl, fun h => absurd (of_decide_eq_true h) (by omega), fun h : dOk l L ⟨ra, rj, rs⟩ k m => h.2.2.elim (fun h => absurd h HL.out) (fun h => by rw [← HV.out] at h; omega)⟩, hB2⟩
    · have HD := Lib.hid hd
      have hd' : (aDrop l L ⟨ra, rj, rs⟩ k == 0) = false := beq_eq_false_iff_ne.2 hd
      clear hd
      rw [hd']
      clear hd'
      go_wp2
      go_ret
      exact ⟨RB.no (fun h : dOk l L ⟨ra, rj, rs⟩ k m => HD.out h.2.1), hB1⟩
  · have him := inB_no (n := m) (lo := 1) (hi := 40) (by omega)
    have HM := Lib.hid hm
    clear hm
    go_enter Try.func45, Try.ntmps45
    go_wp2_with (go_at_call 52; refine (specIn _ _ _ _).mono ?_; rintro e w' ⟨rfl, rfl⟩)
    go_ret
    exact ⟨RB.no (fun h : dOk l L ⟨ra, rj, rs⟩ k m => HM.out h.1), hB0⟩

instance (l : List Pn) (L : List (List Int)) (r : Rc) (k m : Int) : Decidable (dOk l L r k m) := by unfold dOk; infer_instance
def dOkB (l : List Pn) (L : List (List Int)) (r : Rc) (k m : Int) : Bool := decide (dOk l L r k m)
theorem dOkB_iff {l : List Pn} {L : List (List Int)} {r : Rc} {k m : Int} : dOkB l L r k m = true ↔ dOk l L r k m := decide_eq_true_iff
theorem RB.bool {p : Prop} [Decidable p] {e : Ending} (h : RB p e) : e = .returned (.bool (decide p)) := by
  rcases h.split with ⟨rfl, h2⟩ | ⟨rfl, h2⟩
  · rw [decide_eq_true h2.out]
  · rw [decide_eq_false h2.out]
theorem implDiverseOk (A A2 : Option Addr) (c c2 : Nat) (l : List Pn) (L : List (List Int)) (r : Rc) (k m : Int) (w : World) (h : Arg w A l A2 L) :
    Calls Try.prog 46 #[.slice A l.length c, .slice A2 L.length c2, r.val, .int .i64 k, .int .i64 m] w fun e w' => e = .returned (.bool (dOkB l L r k m)) ∧ Below w.heap.size w w' := (implDiverseOkR A A2 c c2 l L r k m w h).mono fun _ _ ⟨h1, h2⟩ => ⟨h1.bool, h2⟩
theorem specDiverseOk (A A2 : Option Addr) (c c2 : Nat) (l : List Pn) (L : List (List Int)) (r : Rc) (k m : Int) (w : World) (h : Arg w A l A2 L) :
    Calls Try.prog 45 #[.slice A l.length c, .slice A2 L.length c2, r.val, .int .i64 k, .int .i64 m] w fun e w' => e = .returned (.bool (dOkB l L r k m)) ∧ Below w.heap.size w w' := (specDiverseOkR A A2 c c2 l L r k m w h).mono fun _ _ ⟨h1, h2⟩ => ⟨h1.bool, h2⟩
end Go.Proofs.Ytljjaanohcibcaa
