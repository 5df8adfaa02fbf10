/- Plain facts for the laws: any order, people twice, coarser codes, kept people. No program text is named here. -/
import Derived.Test.YtfpddhehdfckjaaPlain1
namespace Go.Proofs.Ytfpddhehdfckjaa
open Go.RowKit

/-! ### Any order -/
theorem gsz_perm {x y : List Pn} (h : x.Perm y) (p : Pn) : gsz x p = gsz y p := h.countP_eq _
theorem drp_perm {x y : List Pn} (h : x.Perm y) (k : Int) : drp x k = drp y k := by
  unfold drp
  rw [h.countP_eq]
  apply List.countP_congr
  intro p _
  rw [gsz_perm h]
theorem lst_perm {x y : List Pn} (h : x.Perm y) : lst x = lst y := by
  apply lst_uniq
  · intro p hp
    rw [← gsz_perm h]
    exact lst_le (h.mem_iff.2 hp)
  · rcases lst_is x with e | ⟨p, hp, e⟩
    · left; rw [e, h.length_eq]
    · right; exact ⟨p, h.mem_iff.1 hp, by rw [e, gsz_perm h]⟩
theorem gmR_perm {x y : List Pn} (h : x.Perm y) : gmR x = gmR y := by
  induction h with
  | nil => rfl
  | cons q h ih => simp only [gmR]; rw [ih, gsz_perm h]
  | swap a b t =>
    simp only [gmR, gsz_cons]
    cases hs : sameG a b
    · have hs2 : sameG b a = false := by
        cases h2 : sameG b a
        · rfl
        · rw [sameG_comm h2] at hs; cases hs
      rw [hs2]
      simp only [Bool.false_eq_true, if_false, Nat.add_zero]
      omega
    · rw [sameG_comm hs, gsz_congr hs]
  | trans _ _ h1 h2 => exact h1.trans h2
theorem gmany_perm {x y : List Pn} (h : x.Perm y) : gmany x = gmany y := gmR_perm ((List.reverse_perm x).trans (h.trans (List.reverse_perm y).symm))
theorem turn_perm {α : Type} (l : List α) (m : Nat) : (l.drop m ++ l.take m).Perm l := by
  have h := List.perm_append_comm (l₁ := l.drop m) (l₂ := l.take m)
  rw [List.take_append_drop] at h
  exact h
theorem goodL_perm {x y : List Pn} (h : x.Perm y) (hg : goodL x) : goodL y := ⟨fun p hp => hg.1 p (h.mem_iff.2 hp), by rw [← h.length_eq]; exact hg.2⟩
theorem okA_perm {x y : List Pn} {L : List (List Int)} {r : Rc} (h : x.Perm y) (hg : okA x L r) : okA y L r := ⟨goodL_perm h hg.1, hg.2⟩
theorem okA_permI {x y : List Pn} {L : List (List Int)} {r : Rc} (h : x.Perm y) : okA x L r ↔ okA y L r := ⟨okA_perm h, okA_perm h.symm⟩
theorem recd_perm {x y : List Pn} (L : List (List Int)) (r : Rc) (h : x.Perm y) : (recd L r x).Perm (recd L r y) := h.map _
theorem aDrop_perm {x y : List Pn} (h : x.Perm y) (L : List (List Int)) (r : Rc) (k : Int) : aDrop x L r k = aDrop y L r k := by
  unfold aDrop
  rw [drp_perm (recd_perm L r h) k]
  by_cases ho : okA x L r
  · have := okA_perm h ho; simp only [ho, this]
  · have : ¬ okA y L r := fun h2 => ho (okA_perm h.symm h2)
    simp only [ho, this]
theorem gLeast_perm {x y : List Pn} (h : x.Perm y) (L : List (List Int)) (r : Rc) : gLeast x L r = gLeast y L r := by
  unfold gLeast
  rw [lst_perm (recd_perm L r h)]
  by_cases ho : okA x L r
  · rw [if_pos ho, if_pos (okA_perm h ho)]
  · rw [if_neg ho, if_neg (fun h2 => ho (okA_perm h.symm h2))]
theorem gMany_perm {x y : List Pn} (h : x.Perm y) (L : List (List Int)) (r : Rc) : gMany x L r = gMany y L r := by
  unfold gMany
  rw [gmany_perm (recd_perm L r h)]
  by_cases ho : okA x L r
  · rw [if_pos ho, if_pos (okA_perm h ho)]
  · rw [if_neg ho, if_neg (fun h2 => ho (okA_perm h.symm h2))]

/-! ### People twice -/
theorem gsz_two (x : List Pn) (p : Pn) : gsz (x ++ x) p = 2 * gsz x p := by rw [gsz_append]; omega
theorem drp_two (x : List Pn) (k : Int) : drp (x ++ x) (2 * k) = 2 * drp x k := by
  unfold drp
  rw [List.countP_append]
  have : x.countP (fun p => decide ((gsz (x ++ x) p : Int) < 2 * k)) = x.countP (fun p => decide ((gsz x p : Int) < k)) := by
    apply List.countP_congr
    intro p _
    rw [gsz_two]
    simp only [decide_eq_true_eq]
    omega
  omega
theorem lst_two (x : List Pn) : lst (x ++ x) = 2 * lst x := by
  symm
  apply lst_uniq
  · intro p hp
    rw [gsz_two]
    have : p ∈ x := by simpa using hp
    have := lst_le this
    omega
  · rcases lst_is x with e | ⟨p, hp, e⟩
    · left; rw [e, List.length_append]; omega
    · right; exact ⟨p, by simp [hp], by rw [e, gsz_two]⟩
theorem gmR_over (x y : List Pn) (h : ∀ p ∈ x, 0 < gsz y p) : gmR (x ++ y) = gmR y := by
  induction x with
  | nil => rfl
  | cons q t ih =>
    rw [List.cons_append]
    simp only [gmR]
    rw [ih (fun p hp => h p (by simp [hp])), if_neg]
    · rfl
    · rw [gsz_append]
      have := h q (by simp)
      omega
theorem gmany_two (x : List Pn) : gmany (x ++ x) = gmany x := by
  unfold gmany
  rw [List.reverse_append]
  exact gmR_over _ _ (fun p hp => gsz_pos hp)
theorem recd_append (L : List (List Int)) (r : Rc) (x y : List Pn) : recd L r (x ++ y) = recd L r x ++ recd L r y := by simp [recd]
theorem okA_two {l : List Pn} {L : List (List Int)} {r : Rc} (h : okA l L r) (h2 : 2 * l.length ≤ 40) : okA (l ++ l) L r :=
  ⟨⟨fun p hp => h.1.1 p (by simpa using hp), by rw [List.length_append]; omega⟩, h.2⟩

/-! ### Dropped people -/
theorem drp_zero {x : List Pn} {k : Int} : drp x k = 0 ↔ ∀ p ∈ x, k ≤ (gsz x p : Int) := by
  unfold drp
  rw [List.countP_eq_zero]
  constructor
  · intro h p hp
    have := h p hp
    simp only [decide_eq_true_eq] at this
    omega
  · intro h p hp
    have := h p hp
    simp only [decide_eq_true_eq]
    omega
theorem drp_le (x : List Pn) (k : Int) : drp x k ≤ x.length := List.countP_le_length
theorem drp_mono {x : List Pn} {a b : Int} (h : a ≤ b) : drp x a ≤ drp x b := by
  unfold drp
  apply List.countP_mono_left
  intro p _ hp
  simp only [decide_eq_true_eq] at hp ⊢
  omega
theorem drp_all {x : List Pn} {k : Int} (h : (x.length : Int) < k) : drp x k = x.length := by
  unfold drp
  rw [List.countP_eq_length]
  intro p _
  have := gsz_le x p
  simp only [decide_eq_true_eq]
  omega
theorem drp_one (x : List Pn) : drp x 1 = 0 := drp_zero.2 (fun p hp => by have := gsz_pos hp; omega)
theorem drop_coarse {l : List Pn} {L : List (List Int)} {r t : Rc} (h : okA l L r) (ht : okA l L t) (hf : finer r t) (k : Int) : drp (recd L t l) k ≤ drp (recd L r l) k := by
  unfold drp
  rw [show recd L t l = l.map (rec1 L t) from rfl, show recd L r l = l.map (rec1 L r) from rfl, List.countP_map, List.countP_map]
  apply List.countP_mono_left
  intro p hp hs
  have := gsz_map_le (recd_coarse h ht hf) hp
  simp only [Function.comp_apply, decide_eq_true_eq] at hs ⊢
  omega
def zeroR : Rc := ⟨0, 0, 0⟩
theorem zeroR_good {L : List (List Int)} (h : goodLad L) : goodR L zeroR := ⟨h, by unfold zeroR; dsimp only; omega, .inl rfl, .inl rfl⟩
theorem zeroR_finer {L : List (List Int)} {r : Rc} (h : goodR L r) : finer zeroR r := by
  obtain ⟨_, h1, h2, h3⟩ := h
  unfold finer zeroR
  dsimp only
  omega
theorem okA_zero {l : List Pn} {L : List (List Int)} {r : Rc} (h : okA l L r) : okA l L zeroR := ⟨h.1, zeroR_good h.2.1⟩
theorem rec1_zero (L : List (List Int)) (p : Pn) : rec1 L zeroR p = p := by
  unfold rec1 zeroR lcode
  simp
theorem recd_zero (L : List (List Int)) (x : List Pn) : recd L zeroR x = x := by
  unfold recd
  have : rec1 L zeroR = id := funext (rec1_zero L)
  rw [this, List.map_id]

theorem lst_ge {x : List Pn} {k : Int} (h : drp x k = 0) (h0 : 0 < x.length) : k ≤ (lst x : Int) := by
  rcases lst_is x with e | ⟨p, hp, e⟩
  · cases x with
    | nil => simp at h0
    | cons a t =>
      have h1 := drp_zero.1 h a (by simp)
      have := gsz_le (a :: t) a
      omega
  · rw [e]; exact drp_zero.1 h p hp

/-! ### Unique people -/
theorem alone_iff (x : List Pn) : (∀ p ∈ x, gsz x p ≤ 1) ↔ gmR x = x.length := by
  induction x with
  | nil => simp [gmR]
  | cons q t ih =>
    have hle := gmR_le t
    simp only [gmR, List.length_cons]
    constructor
    · intro h
      have hq : gsz t q = 0 := by
        have := h q (by simp)
        rw [gsz_cons, sameG_refl] at this
        simp at this
        exact this
      rw [if_pos hq, ih.1 (fun p hp => by have := h p (by simp [hp]); rw [gsz_cons] at this; omega)]
    · intro h
      have hq : gsz t q = 0 := by
        apply Classical.byContradiction
        intro h0
        rw [if_neg h0] at h
        omega
      rw [if_pos hq] at h
      have ht := ih.2 (by omega)
      intro p hp
      rw [gsz_cons]
      rcases List.mem_cons.1 hp with rfl | hp
      · rw [hq, sameG_refl]; simp
      · cases hs : sameG q p
        · have := ht p hp; simpa using this
        · have h9 := gsz_zero.1 hq p hp
          rw [sameG_comm hs] at h9
          cases h9
theorem uniq_all (x : List Pn) : drp x 2 = x.length ↔ gmany x = x.length := by
  have h1 : gmany x = x.length ↔ ∀ p ∈ x, gsz x p ≤ 1 := by
    have := alone_iff x.reverse
    rw [List.length_reverse] at this
    unfold gmany
    rw [← this]
    constructor
    · intro h p hp; have := h p (by simpa using hp); rwa [gsz_perm (List.reverse_perm x)] at this
    · intro h p hp; rw [gsz_perm (List.reverse_perm x)]; exact h p (by simpa using hp)
  rw [h1]
  unfold drp
  rw [List.countP_eq_length]
  constructor
  · intro h p hp; have := h p hp; simp only [decide_eq_true_eq] at this; omega
  · intro h p hp; have := h p hp; simp only [decide_eq_true_eq]; omega
theorem lst_pos {x : List Pn} (h : 0 < x.length) : 0 < lst x := by
  rcases lst_is x with e | ⟨p, hp, e⟩
  · omega
  · rw [e]; exact gsz_pos hp
theorem uniq_some (x : List Pn) : 0 < drp x 2 ↔ lst x = 1 := by
  constructor
  · intro h
    obtain ⟨p, hp, hs⟩ := List.countP_pos_iff.1 h
    simp only [decide_eq_true_eq] at hs
    have h1 := lst_le hp
    have h2 := lst_pos (List.length_pos_of_mem hp)
    omega
  · intro h
    apply List.countP_pos_iff.2
    rcases lst_is x with e | ⟨p, hp, e⟩
    · cases x with
      | nil => simp [lst, lstTo] at h
      | cons a t => exact ⟨a, by simp, by have := gsz_le (a :: t) a; simp only [decide_eq_true_eq]; omega⟩
    · exact ⟨p, hp, by simp only [decide_eq_true_eq]; omega⟩
theorem sum_ind (x : List Pn) (f : Pn → Bool) : (x.map (fun p => if f p then 1 else 0)).sum = x.countP f := by
  induction x with
  | nil => rfl
  | cons a t ih => rw [List.map_cons, List.sum_cons, ih, List.countP_cons]; omega
theorem sum_le1 {R : List Pn} {f : Pn → Nat} (h : ∀ q ∈ R, f q ≤ 1) : (R.map f).sum ≤ R.length := by
  induction R with
  | nil => simp
  | cons a R ih =>
    rw [List.length_cons, List.map_cons, List.sum_cons]
    have := ih (fun q hq => h q (by simp [hq]))
    have := h a (by simp)
    omega
theorem uniq_many (x : List Pn) : drp x 2 ≤ gmany x := by
  have h := sum_groups (R := repsR x.reverse) (reps_apart _) (fun p => if decide ((gsz x p : Int) < 2) then 1 else 0) (fun p q hs => by rw [gsz_congr hs]) x (fun p hp => reps_cover (by simpa using hp))
  rw [sum_ind] at h
  have h2 := sum_le1 (R := repsR x.reverse) (f := fun q => gsz x q * if decide ((gsz x q : Int) < 2) then 1 else 0) (fun q _ => by
    by_cases hq : (gsz x q : Int) < 2
    · rw [decide_eq_true hq]; simp; omega
    · rw [decide_eq_false hq]; simp)
  rw [reps_len] at h2
  unfold drp
  rw [h]
  exact h2

/-! ### Kept people -/
theorem gsz_kept {x : List Pn} {k : Int} {p : Pn} (h : k ≤ (gsz x p : Int)) : gsz (kept x k) p = gsz x p := by
  unfold kept keepTo
  show (x.filter _).countP _ = x.countP _
  rw [List.countP_filter]
  apply List.countP_congr
  intro z _
  simp only [Bool.and_eq_true, decide_eq_true_eq]
  constructor
  · exact fun h => h.1
  · exact fun hs => ⟨hs, by rw [gsz_congr hs]; exact h⟩
theorem kept_kept {x : List Pn} {k m : Int} (h : k ≤ m) : kept (kept x k) m = kept x m := by
  have e : kept (kept x k) m = (kept x k).filter (fun p => decide (m ≤ (gsz x p : Int))) := by
    unfold kept
    apply List.filter_congr
    intro p hp
    have hp2 : k ≤ (gsz x p : Int) := by
      have := (List.mem_filter.1 hp).2
      simpa using this
    have := gsz_kept hp2
    unfold kept at this
    rw [this]
  rw [e]
  unfold kept keepTo
  rw [List.filter_filter]
  apply List.filter_congr
  intro p _
  by_cases h1 : m ≤ (gsz x p : Int)
  · rw [decide_eq_true h1, decide_eq_true (by omega)]; rfl
  · rw [decide_eq_false h1]; rfl
theorem kept_drp0 (x : List Pn) (k : Int) : drp (kept x k) k = 0 := by
  have h := kept_drop (kept x k) k
  rw [kept_kept (Int.le_refl k)] at h
  omega
theorem kept_one (x : List Pn) : kept x 1 = x := by
  unfold kept keepTo
  rw [List.filter_eq_self]
  intro p hp
  have := gsz_pos hp
  simp only [decide_eq_true_eq]
  omega
theorem kept_len (x : List Pn) (k : Int) : (kept x k).length ≤ x.length := List.length_filter_le _ _
theorem kept_sub (x : List Pn) (k : Int) : (kept x k).Sublist x := List.filter_sublist
theorem kept_mono {x : List Pn} {k m : Int} (h : k ≤ m) : (kept x m).length ≤ (kept x k).length := by
  rw [← kept_kept h]
  exact kept_len _ _
theorem gmR_filter {f : Pn → Bool} (hf : ∀ p q, sameG p q = true → f p = f q) (x : List Pn) : gmR (x.filter f) ≤ gmR x := by
  induction x with
  | nil => simp
  | cons q t ih =>
    by_cases hq : f q = true
    · rw [List.filter_cons_of_pos hq]
      simp only [gmR]
      have e : gsz (t.filter f) q = gsz t q := by
        unfold gsz
        rw [List.countP_filter]
        apply List.countP_congr
        intro z _
        simp only [Bool.and_eq_true]
        exact ⟨fun h => h.1, fun h => ⟨h, by rw [hf _ _ h]; exact hq⟩⟩
      rw [e]
      omega
    · rw [List.filter_cons_of_neg hq]
      simp only [gmR]
      omega
theorem kept_many (x : List Pn) (k : Int) : gmany (kept x k) ≤ gmany x := by
  unfold gmany kept keepTo
  rw [← List.filter_reverse]
  exact gmR_filter (fun p q h => by rw [gsz_congr h]) _
theorem kept_uniq {x : List Pn} {k : Int} (h : 2 ≤ k) : drp (kept x k) 2 = 0 := by
  have := kept_drp0 x k
  have := drp_mono (x := kept x k) h
  omega
theorem kept_goodL {x : List Pn} {k : Int} (h : goodL x) : goodL (kept x k) := ⟨fun p hp => h.1 p ((kept_sub x k).mem hp), by have := kept_len x k; have := h.2; omega⟩

/-! ### The functions again -/
theorem aDrop_lo (l : List Pn) (L : List (List Int)) (r : Rc) (k : Int) : -1 ≤ aDrop l L r k := by
  unfold aDrop; split <;> omega
theorem aDrop_ok {l : List Pn} {L : List (List Int)} {r : Rc} {k : Int} (h : 0 ≤ aDrop l L r k) : okA l L r ∧ 1 ≤ k ∧ k ≤ 40 := by
  unfold aDrop at h
  split at h
  · assumption
  · omega
theorem gSize_ok {l : List Pn} {L : List (List Int)} {r : Rc} {k : Int} (h : 0 ≤ gSize l L r k) : okA l L r ∧ 0 ≤ k ∧ k < l.length := by
  unfold gSize at h
  split at h
  · assumption
  · omega
theorem gSize_lo (l : List Pn) (L : List (List Int)) (r : Rc) (k : Int) : -1 ≤ gSize l L r k := by
  unfold gSize; split <;> omega
end Go.Proofs.Ytfpddhehdfckjaa
