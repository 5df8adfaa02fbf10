/- Plain facts for the laws on bands of pay. No program text is named here. -/
import Derived.Test.YtaojjlhlahoocaaPlain2
import Derived.Test.YtaojjlhlahoocaaDiv
namespace Go.Proofs.Ytaojjlhlahoocaa
open Go.RowKit

theorem grpOf_same {p q : Pn} (h : sameG p q = true) : grpOf p = grpOf q := by
  funext z
  show sameG z p = sameG z q
  cases h1 : sameG z p
  · cases h2 : sameG z q
    · rfl
    · rw [sameG_trans h2 (sameG_comm h)] at h1; cases h1
  · rw [sameG_trans h1 h]
theorem bc_perm {x y : List Pn} (h : x.Perm y) (f : Pn → Bool) (b : Nat) : bc f x b = bc f y b := h.countP_eq _
theorem dv_perm {x y : List Pn} (h : x.Perm y) (f : Pn → Bool) : dv f x = dv f y := by
  unfold dv
  apply List.countP_congr
  intro b _
  rw [bc_perm h]
theorem bc_append (f : Pn → Bool) (x y : List Pn) (b : Nat) : bc f (x ++ y) b = bc f x b + bc f y b := by unfold bc; rw [List.countP_append]
theorem bc_two (f : Pn → Bool) (x : List Pn) (b : Nat) : bc f (x ++ x) b = 2 * bc f x b := by rw [bc_append]; omega
theorem dv_two (f : Pn → Bool) (x : List Pn) : dv f (x ++ x) = dv f x := by
  unfold dv
  apply List.countP_congr
  intro b _
  rw [bc_two]
  simp only [decide_eq_true_eq]
  omega
theorem dvTo_snoc (f : Pn → Bool) (x : List Pn) (q : Pn) (n : Nat) : dvTo f x n ≤ dvTo f (x ++ [q]) n ∧ dvTo f (x ++ [q]) n ≤ dvTo f x n + if f q = true ∧ q.p / 100 < (n : Int) then 1 else 0 := by
  induction n with
  | zero => simp [dvTo]
  | succ n ih =>
    obtain ⟨h1, h2⟩ := ih
    rw [dvTo_succ, dvTo_succ, bc_snoc]
    by_cases hf : f q = true
    · by_cases hb : q.p / 100 = (n : Int)
      · have e1 : ¬ (f q = true ∧ q.p / 100 < (n : Int)) := fun h => by omega
        have e2 : f q = true ∧ q.p / 100 < ((n + 1 : Nat) : Int) := ⟨hf, by omega⟩
        rw [if_neg e1] at h2
        rw [if_pos (show f q = true ∧ q.p / 100 = (n : Int) from ⟨hf, hb⟩), if_pos e2, if_pos (show 0 < bc f x n + 1 by omega)]
        split <;> omega
      · rw [if_neg (show ¬ (f q = true ∧ q.p / 100 = (n : Int)) from fun h => hb h.2), Nat.add_zero]
        by_cases hlt : q.p / 100 < (n : Int)
        · rw [if_pos (show f q = true ∧ q.p / 100 < (n : Int) from ⟨hf, hlt⟩)] at h2
          rw [if_pos (show f q = true ∧ q.p / 100 < ((n + 1 : Nat) : Int) from ⟨hf, by omega⟩)]
          omega
        · rw [if_neg (show ¬ (f q = true ∧ q.p / 100 < (n : Int)) from fun h => hlt h.2)] at h2
          rw [if_neg (show ¬ (f q = true ∧ q.p / 100 < ((n + 1 : Nat) : Int)) from fun h => by omega)]
          omega
    · rw [if_neg (show ¬ (f q = true ∧ q.p / 100 < (n : Int)) from fun h => hf h.1)] at h2
      rw [if_neg (show ¬ (f q = true ∧ q.p / 100 < ((n + 1 : Nat) : Int)) from fun h => hf h.1), if_neg (show ¬ (f q = true ∧ q.p / 100 = (n : Int)) from fun h => hf h.1)]
      simp only [Nat.add_zero]
      omega
theorem dv_snoc (f : Pn → Bool) (x : List Pn) (q : Pn) : dv f x ≤ dv f (x ++ [q]) ∧ dv f (x ++ [q]) ≤ dv f x + if f q = true then 1 else 0 := by
  have h := dvTo_snoc f x q 10
  refine ⟨h.1, Nat.le_trans h.2 ?_⟩
  show dv f x + _ ≤ _
  by_cases hf : f q = true
  · rw [if_pos hf]; split <;> omega
  · rw [if_neg hf, if_neg (fun h => hf h.1)]; omega
theorem list_snoc_ind {α : Type} {P : List α → Prop} (h0 : P []) (h1 : ∀ l a, P l → P (l ++ [a])) (l : List α) : P l := by
  have : ∀ r : List α, P r.reverse := fun r => by
    induction r with
    | nil => exact h0
    | cons a t ih => rw [List.reverse_cons]; exact h1 _ _ ih
  have h := this l.reverse
  rwa [List.reverse_reverse] at h
theorem dv_nil (f : Pn → Bool) : dv f [] = 0 := by
  unfold dv
  rw [List.countP_eq_zero]
  intro b _
  simp [bc]
theorem dv_count (f : Pn → Bool) (x : List Pn) : dv f x ≤ x.countP f := by
  refine list_snoc_ind (P := fun x => dv f x ≤ x.countP f) (by rw [dv_nil]; omega) (fun l a ih => ?_) x
  have := (dv_snoc f l a).2
  rw [List.countP_append, List.countP_singleton]
  omega
theorem dv_gsz (x : List Pn) (p : Pn) : dv (grpOf p) x ≤ gsz x p := dv_count _ _
theorem bc_pos {f : Pn → Bool} {x : List Pn} {p : Pn} (h : p ∈ x) (hf : f p = true) (hp : 0 ≤ p.p ∧ p.p ≤ 999) : 0 < bc f x (p.p / 100).toNat :=
  List.countP_pos_iff.2 ⟨p, h, by rw [hf, Bool.true_and, decide_eq_true_eq]; omega⟩
theorem dv_pos {f : Pn → Bool} {x : List Pn} {p : Pn} (h : p ∈ x) (hf : f p = true) (hp : p.good) : 0 < dv f x :=
  List.countP_pos_iff.2 ⟨(p.p / 100).toNat, by have := hp.2.2.2; rw [List.mem_range]; omega, by rw [decide_eq_true_eq]; exact bc_pos h hf hp.2.2.2⟩
theorem grp_self (p : Pn) : grpOf p p = true := sameG_refl p
theorem dv_map {f g : Pn → Pn} {l : List Pn} (h : ∀ p ∈ l, ∀ q ∈ l, sameG (f p) (f q) = true → sameG (g p) (g q) = true) (hp : ∀ p ∈ l, (f p).p = (g p).p) {p : Pn} (hm : p ∈ l) : dv (grpOf (f p)) (l.map f) ≤ dv (grpOf (g p)) (l.map g) := by
  unfold dv
  apply List.countP_mono_left
  intro b _ hb
  rw [decide_eq_true_eq] at hb ⊢
  refine Nat.lt_of_lt_of_le hb ?_
  unfold bc
  rw [List.countP_map, List.countP_map]
  apply List.countP_mono_left
  intro q hq hs
  simp only [Function.comp_apply, Bool.and_eq_true, decide_eq_true_eq] at hs ⊢
  exact ⟨h q hq p hm hs.1, by rw [← hp q hq]; exact hs.2⟩
theorem dl_le {x : List Pn} {p : Pn} (h : p ∈ x) : dl x ≤ dv (grpOf p) x := (fold_min_le (fun p => dv (grpOf p) x) x x.length).2.1 p h
theorem dl_is (x : List Pn) : dl x = x.length ∨ ∃ p ∈ x, dl x = dv (grpOf p) x := (fold_min_le (fun p => dv (grpOf p) x) x x.length).2.2
theorem dl_len (x : List Pn) : dl x ≤ x.length := dlTo_le x x
theorem dl_nil : dl [] = 0 := rfl
/-- With people, the least is that of a group. -/
theorem dl_mem {x : List Pn} (h : 0 < x.length) : ∃ p ∈ x, dl x = dv (grpOf p) x := by
  rcases dl_is x with e | h1
  · cases x with
    | nil => simp at h
    | cons a t =>
      refine ⟨a, by simp, ?_⟩
      have h1 := dl_le (x := a :: t) (p := a) (by simp)
      have h2 := dv_gsz (a :: t) a
      have h3 := gsz_le (a :: t) a
      omega
  · exact h1
theorem dl_uniq {x : List Pn} {m : Nat} (h1 : ∀ p ∈ x, m ≤ dv (grpOf p) x) (h2 : ∃ p ∈ x, m = dv (grpOf p) x) : m = dl x := by
  obtain ⟨p, hp, e⟩ := h2
  obtain ⟨q, hq, e2⟩ := dl_mem (x := x) (List.length_pos_of_mem hp)
  have a1 := h1 q hq
  have a2 := dl_le hp
  omega
theorem dl_perm {x y : List Pn} (h : x.Perm y) : dl x = dl y := by
  by_cases h0 : 0 < x.length
  · obtain ⟨p, hp, e⟩ := dl_mem h0
    exact dl_uniq (fun q hq => by rw [← dv_perm h]; exact dl_le (h.mem_iff.2 hq)) ⟨p, h.mem_iff.1 hp, by rw [← dv_perm h]; exact e⟩
  · have hx : x = [] := List.eq_nil_of_length_eq_zero (by omega)
    have hy : y = [] := List.eq_nil_of_length_eq_zero (by have := h.length_eq; omega)
    rw [hx, hy]
theorem dl_two (x : List Pn) : dl (x ++ x) = dl x := by
  by_cases h0 : 0 < x.length
  · obtain ⟨p, hp, e⟩ := dl_mem h0
    exact (dl_uniq (x := x ++ x) (fun q hq => by rw [dv_two]; exact dl_le (by simpa using hq)) ⟨p, by simp [hp], by rw [dv_two]; exact e⟩).symm
  · have hx : x = [] := List.eq_nil_of_length_eq_zero (by omega)
    rw [hx]; rfl
theorem dl_coarse {l : List Pn} {L : List (List Int)} {r t : Rc} (h : okA l L r) (ht : okA l L t) (hf : finer r t) : dl (recd L r l) ≤ dl (recd L t l) := by
  rcases dl_is (recd L t l) with e | ⟨p, hp, e⟩
  · rw [e, recd_length, ← recd_length L r l]
    exact dl_len _
  · rw [e]
    obtain ⟨q, hq, rfl⟩ := List.mem_map.1 hp
    exact Nat.le_trans (dl_le (List.mem_map.2 ⟨q, hq, rfl⟩)) (dv_map (recd_coarse h ht hf) (fun _ _ => rfl) hq)
theorem nth_map {x : List Pn} {k : Nat} (h : k < x.length) (f : Pn → Pn) : nth (x.map f) k = f (nth x k) := by
  unfold nth
  simp [h]
theorem dv_coarse {l : List Pn} {L : List (List Int)} {r t : Rc} (h : okA l L r) (ht : okA l L t) (hf : finer r t) {k : Nat} (hk : k < l.length) : dv (grpOf (nth (recd L r l) k)) (recd L r l) ≤ dv (grpOf (nth (recd L t l) k)) (recd L t l) := by
  unfold recd
  rw [nth_map hk, nth_map hk]
  exact dv_map (recd_coarse h ht hf) (fun _ _ => rfl) (nth_mem hk)
theorem nth_append {x y : List Pn} {k : Nat} (h : k < x.length) : nth (x ++ y) k = nth x k := by
  unfold nth
  rw [List.getD_eq_getElem?_getD, List.getD_eq_getElem?_getD, List.getElem?_append_left h]

/-! ### How far bands are -/
def sumI (f : Nat → Int) (n : Nat) : Int := ((List.range n).map f).sum
theorem sumI_succ (f : Nat → Int) (n : Nat) : sumI f (n + 1) = sumI f n + f n := by simp [sumI, List.range_succ]
theorem sumI_zero (f : Nat → Int) : sumI f 0 = 0 := rfl
theorem bcs_snoc (f : Pn → Bool) (x : List Pn) (q : Pn) (n : Nat) (hq : 0 ≤ q.p) : sumI (fun b => (bc f (x ++ [q]) b : Int)) n = sumI (fun b => (bc f x b : Int)) n + if f q = true ∧ q.p / 100 < (n : Int) then 1 else 0 := by
  induction n with
  | zero => rw [sumI_zero, sumI_zero, if_neg (fun h => by omega)]; rfl
  | succ n ih =>
    rw [sumI_succ, sumI_succ, ih, bc_snoc]
    by_cases hf : f q = true
    · by_cases hb : q.p / 100 = (n : Int)
      · rw [if_neg (show ¬ (f q = true ∧ q.p / 100 < (n : Int)) from fun h => by omega), if_pos (show f q = true ∧ q.p / 100 = (n : Int) from ⟨hf, hb⟩), if_pos (show f q = true ∧ q.p / 100 < ((n + 1 : Nat) : Int) from ⟨hf, by omega⟩)]
        omega
      · rw [if_neg (show ¬ (f q = true ∧ q.p / 100 = (n : Int)) from fun h => hb h.2)]
        by_cases hlt : q.p / 100 < (n : Int)
        · rw [if_pos (show f q = true ∧ q.p / 100 < (n : Int) from ⟨hf, hlt⟩), if_pos (show f q = true ∧ q.p / 100 < ((n + 1 : Nat) : Int) from ⟨hf, by omega⟩)]
          omega
        · rw [if_neg (show ¬ (f q = true ∧ q.p / 100 < (n : Int)) from fun h => hlt h.2), if_neg (show ¬ (f q = true ∧ q.p / 100 < ((n + 1 : Nat) : Int)) from fun h => by omega)]
          omega
    · rw [if_neg (show ¬ (f q = true ∧ q.p / 100 < (n : Int)) from fun h => hf h.1), if_neg (show ¬ (f q = true ∧ q.p / 100 < ((n + 1 : Nat) : Int)) from fun h => hf h.1), if_neg (show ¬ (f q = true ∧ q.p / 100 = (n : Int)) from fun h => hf h.1)]
      omega
/-- Each of x that f asks for has one of the ten bands. -/
theorem bcs_all (f : Pn → Bool) (x : List Pn) : (∀ p ∈ x, p.good) → sumI (fun b => (bc f x b : Int)) 10 = x.countP f := by
  refine list_snoc_ind (P := fun x => (∀ p ∈ x, p.good) → sumI (fun b => (bc f x b : Int)) 10 = x.countP f) (fun _ => ?_) (fun l a ih h => ?_) x
  · simp [sumI, bc]; decide
  · have ha := (h a (by simp)).2.2.2
    rw [bcs_snoc f l a 10 ha.1, ih (fun p hp => h p (by simp [hp])), List.countP_append, List.countP_singleton]
    by_cases hf : f a = true
    · rw [if_pos ⟨hf, by omega⟩, if_pos hf]; omega
    · rw [if_neg (fun h => hf h.1), if_neg hf]; omega
theorem sumI_far (f : Pn → Bool) (x : List Pn) (size n : Nat) : sumI (far1 f x size) n = sumI (fun b => (bc f x b : Int)) n * x.length - sumI (fun b => (bc (fun _ => true) x b : Int)) n * size := by
  induction n with
  | zero => simp [sumI]
  | succ n ih =>
    rw [sumI_succ, sumI_succ, sumI_succ, ih]
    unfold far1
    rw [Int.add_mul, Int.add_mul]
    omega
theorem far_parity (g : Nat → Int) (n : Nat) : (((List.range n).map (fun b => (g b).natAbs)).sum : Int) % 2 = sumI g n % 2 := by
  induction n with
  | zero => rfl
  | succ n ih =>
    rw [sumI_succ, List.range_succ, List.map_append, List.sum_append]
    simp only [List.map_cons, List.map_nil, List.sum_cons, List.sum_nil, Nat.add_zero]
    omega
theorem count_true (x : List Pn) : x.countP (fun _ => true) = x.length := by simp
theorem far_sum0 {x : List Pn} {p : Pn} (hg : ∀ q ∈ x, q.good) : sumI (far1 (grpOf p) x (gsz x p)) 10 = 0 := by
  rw [sumI_far, bcs_all _ _ hg, bcs_all _ _ hg, count_true, show x.countP (grpOf p) = gsz x p from rfl, Int.mul_comm]
  omega
theorem far_even {x : List Pn} {p : Pn} (hg : ∀ q ∈ x, q.good) : (farTo (grpOf p) x (gsz x p) 10 : Int) % 2 = 0 := by
  have h := far_parity (far1 (grpOf p) x (gsz x p)) 10
  rw [far_sum0 hg] at h
  exact h
theorem farTo_le (f : Pn → Bool) (x : List Pn) (size n : Nat) : (farTo f x size n : Int) ≤ sumI (fun b => (bc f x b : Int)) n * x.length + sumI (fun b => (bc (fun _ => true) x b : Int)) n * size := by
  induction n with
  | zero => simp [sumI, farTo]
  | succ n ih =>
    rw [farTo_succ, sumI_succ, sumI_succ, Int.add_mul, Int.add_mul]
    have h1 : 0 ≤ (bc f x n : Int) * (x.length : Int) := Int.mul_nonneg (by omega) (by omega)
    have h2 : 0 ≤ (bc (fun _ => true) x n : Int) * (size : Int) := Int.mul_nonneg (by omega) (by omega)
    have h3 : ((far1 f x size n).natAbs : Int) ≤ (bc f x n : Int) * x.length + (bc (fun _ => true) x n : Int) * size := by
      unfold far1
      omega
    omega
theorem far_le {x : List Pn} {p : Pn} (hg : ∀ q ∈ x, q.good) : farTo (grpOf p) x (gsz x p) 10 ≤ 2 * x.length * gsz x p := by
  have h := farTo_le (grpOf p) x (gsz x p) 10
  rw [bcs_all _ _ hg, bcs_all _ _ hg, count_true, show x.countP (grpOf p) = gsz x p from rfl] at h
  have e : (gsz x p : Int) * (x.length : Int) = (x.length : Int) * gsz x p := Int.mul_comm _ _
  have e2 : ((2 * x.length * gsz x p : Nat) : Int) = (x.length : Int) * gsz x p + (x.length : Int) * gsz x p := by
    rw [Nat.mul_assoc]; push_cast; omega
  omega
theorem far_none {x : List Pn} {f : Pn → Bool} (h : ∀ q ∈ x, f q = true) (n : Nat) : farTo f x x.length n = 0 := by
  induction n with
  | zero => rfl
  | succ n ih =>
    rw [farTo_succ, ih]
    have e : bc f x n = bc (fun _ => true) x n := by
      unfold bc
      apply List.countP_congr
      intro q hq
      rw [h q hq]
    unfold far1
    rw [e]
    simp
theorem far_whole {x : List Pn} {p : Pn} (h : gsz x p = x.length) : farTo (grpOf p) x (gsz x p) 10 = 0 := by
  rw [h]
  exact far_none (fun q hq => by have := List.countP_eq_length.1 h q hq; exact this) 10
theorem far_two (f : Pn → Bool) (x : List Pn) (size n : Nat) : farTo f (x ++ x) (2 * size) n = 4 * farTo f x size n := by
  induction n with
  | zero => rfl
  | succ n ih =>
    rw [farTo_succ, farTo_succ, ih]
    have e : far1 f (x ++ x) (2 * size) n = 4 * far1 f x size n := by
      unfold far1
      rw [bc_two, bc_two, List.length_append]
      push_cast
      have e1 : (2 * (bc f x n : Int)) * ((x.length : Int) + x.length) = 4 * ((bc f x n : Int) * x.length) := by
        rw [← Int.two_mul, Int.mul_assoc, Int.mul_left_comm (bc f x n : Int) 2]; omega
      have e2 : (2 * (bc (fun _ => true) x n : Int)) * (2 * (size : Int)) = 4 * ((bc (fun _ => true) x n : Int) * size) := by
        rw [Int.mul_assoc, Int.mul_left_comm (bc (fun _ => true) x n : Int) 2]; omega
      omega
    rw [e]
    omega
/-- All pays in one band. -/
theorem dv_zero {x : List Pn} {f : Pn → Bool} (h0 : ∀ q ∈ x, q.p = 0) : dv f x ≤ 1 := by
  have e : ∀ n, dvTo f x (n + 1) = dvTo f x 1 := fun n => by
    induction n with
    | zero => rfl
    | succ n ih =>
      rw [dvTo_succ, ih, if_neg]
      · rfl
      · have : bc f x (n + 1) = 0 := by
          unfold bc
          rw [List.countP_eq_zero]
          intro q hq
          rw [h0 q hq]
          simp
          omega
        omega
  have h1 : dvTo f x 10 = dvTo f x 1 := e 9
  have h2 := dvTo_le f x 1
  show dvTo f x 10 ≤ 1
  omega
theorem far_zero {x : List Pn} {f : Pn → Bool} (h0 : ∀ q ∈ x, q.p = 0) : farTo f x (x.countP f) 10 = 0 := by
  have e0 : ∀ g : Pn → Bool, bc g x 0 = x.countP g := fun g => by
    unfold bc
    apply List.countP_congr
    intro q hq
    rw [h0 q hq]
    simp
  have e1 : ∀ g : Pn → Bool, ∀ n, bc g x (n + 1) = 0 := fun g n => by
    unfold bc
    rw [List.countP_eq_zero]
    intro q hq
    rw [h0 q hq]
    simp
    omega
  have e : ∀ n, farTo f x (x.countP f) n = 0 := fun n => by
    induction n with
    | zero => rfl
    | succ n ih =>
      rw [farTo_succ, ih]
      unfold far1
      cases n with
      | zero => rw [e0, e0, count_true, Int.mul_comm]; simp
      | succ n => rw [e1, e1]; simp
  exact e 10

/-! ### The functions again -/
theorem dSize_ok {l : List Pn} {L : List (List Int)} {r : Rc} {k : Int} (h : 0 ≤ dSize l L r k) : okA l L r ∧ 0 ≤ k ∧ k < l.length := by
  unfold dSize at h
  split at h
  · assumption
  · omega
theorem dFar_ok {l : List Pn} {L : List (List Int)} {r : Rc} {k : Int} (h : 0 ≤ dFar l L r k) : okA l L r ∧ 0 ≤ k ∧ k < l.length := by
  unfold dFar at h
  split at h
  · assumption
  · omega
theorem dLeast_perm {x y : List Pn} (h : x.Perm y) (L : List (List Int)) (r : Rc) : dLeast x L r = dLeast y L r := by
  unfold dLeast
  rw [dl_perm (recd_perm L r h)]
  by_cases ho : okA x L r
  · rw [if_pos ho, if_pos (okA_perm h ho)]
  · rw [if_neg ho, if_neg (fun h2 => ho (okA_perm h.symm h2))]
theorem dLeast_two {l : List Pn} {L : List (List Int)} {r : Rc} (h : okA l L r) (h2 : 2 * l.length ≤ 40) : dLeast (l ++ l) L r = dLeast l L r := by
  rw [dLeast_yes (okA_two h h2) rfl, dLeast_yes h rfl, recd_append, dl_two]
theorem dLeast_ok {l : List Pn} {L : List (List Int)} {r : Rc} (h : 0 ≤ dLeast l L r) : okA l L r := by
  unfold dLeast at h
  split at h
  · assumption
  · omega
end Go.Proofs.Ytaojjlhlahoocaa
