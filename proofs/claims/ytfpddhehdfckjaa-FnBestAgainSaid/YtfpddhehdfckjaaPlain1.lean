/- Plain facts on groups: sums over representatives, coarser codes. No program text is named here. -/
import Derived.Test.YtfpddhehdfckjaaGrp2
namespace Go.Proofs.Ytfpddhehdfckjaa
open Go.RowKit

theorem sameG_trans {p q r : Pn} (h1 : sameG p q = true) (h2 : sameG q r = true) : sameG p r = true := by
  rw [sameG_iff] at *
  exact ⟨h1.1.trans h2.1, h1.2.1.trans h2.2.1, h1.2.2.trans h2.2.2⟩
theorem sameG_comm {p q : Pn} (h : sameG p q = true) : sameG q p = true := by
  rw [sameG_iff] at *
  exact ⟨h.1.symm, h.2.1.symm, h.2.2.symm⟩
theorem gsz_congr {x : List Pn} {p q : Pn} (h : sameG p q = true) : gsz x p = gsz x q := by
  unfold gsz
  apply List.countP_congr
  intro z _
  exact ⟨fun h1 => sameG_trans h1 h, fun h1 => sameG_trans h1 (sameG_comm h)⟩
theorem gsz_zero {x : List Pn} {p : Pn} : gsz x p = 0 ↔ ∀ q ∈ x, sameG q p = false := by
  unfold gsz
  rw [List.countP_eq_zero]
  constructor
  · intro h q hq; have := h q hq; cases hs : sameG q p <;> simp_all
  · intro h q hq; simp [h q hq]
theorem gsz_cons (q : Pn) (t : List Pn) (p : Pn) : gsz (q :: t) p = gsz t p + if sameG q p then 1 else 0 := by
  unfold gsz; rw [List.countP_cons]
theorem gsz_append (x y : List Pn) (p : Pn) : gsz (x ++ y) p = gsz x p + gsz y p := by unfold gsz; rw [List.countP_append]

theorem sum_zero {l : List Nat} (h : ∀ x ∈ l, x = 0) : l.sum = 0 := by
  induction l with
  | nil => rfl
  | cons a l ih => rw [List.sum_cons, h a (by simp), ih (fun x hx => h x (by simp [hx]))]
def repsR : List Pn → List Pn
  | [] => []
  | q :: t => if gsz t q = 0 then q :: repsR t else repsR t
theorem reps_len (x : List Pn) : (repsR x).length = gmR x := by
  induction x with
  | nil => rfl
  | cons q t ih => simp only [repsR, gmR]; split <;> simp [ih]
theorem reps_mem {x : List Pn} {q : Pn} (h : q ∈ repsR x) : q ∈ x := by
  induction x with
  | nil => cases h
  | cons a t ih =>
    simp only [repsR] at h
    split at h
    · rcases List.mem_cons.1 h with rfl | h
      · simp
      · simp [ih h]
    · simp [ih h]
theorem reps_cover {x : List Pn} {p : Pn} (h : p ∈ x) : ∃ q ∈ repsR x, sameG p q = true := by
  induction x generalizing p with
  | nil => cases h
  | cons a t ih =>
    simp only [repsR]
    rcases List.mem_cons.1 h with rfl | h
    · split
      · exact ⟨p, by simp, sameG_refl p⟩
      · rename_i h0
        have : ∃ b ∈ t, sameG b p = true := by
          have h1 : 0 < gsz t p := by omega
          obtain ⟨b, hb, hs⟩ := List.countP_pos_iff.1 h1
          exact ⟨b, hb, hs⟩
        obtain ⟨b, hb, hs⟩ := this
        obtain ⟨q, hq, hqs⟩ := ih hb
        exact ⟨q, hq, sameG_trans (sameG_comm hs) hqs⟩
    · obtain ⟨q, hq, hs⟩ := ih h
      split
      · exact ⟨q, by simp [hq], hs⟩
      · exact ⟨q, hq, hs⟩
theorem reps_apart (x : List Pn) : (repsR x).Pairwise (fun p q => sameG p q = false) := by
  induction x with
  | nil => exact List.Pairwise.nil
  | cons a t ih =>
    simp only [repsR]
    split
    · rename_i h0
      refine List.pairwise_cons.2 ⟨fun q hq => ?_, ih⟩
      have := gsz_zero.1 h0 q (reps_mem hq)
      cases hs : sameG a q
      · rfl
      · rw [sameG_comm hs] at this; cases this
    · exact ih
/-- Among representatives that are apart, a person meets just one that meets it. -/
theorem one_rep {R : List Pn} {p : Pn} (ha : R.Pairwise (fun p q => sameG p q = false)) (hc : ∃ q ∈ R, sameG p q = true) (f : Pn → Nat) (hf : ∀ q, sameG p q = true → f q = f p) :
    (R.map (fun q => (if sameG p q then 1 else 0) * f q)).sum = f p := by
  induction R with
  | nil => obtain ⟨q, hq, _⟩ := hc; cases hq
  | cons a R ih =>
    obtain ⟨h1, h2⟩ := List.pairwise_cons.1 ha
    rw [List.map_cons, List.sum_cons]
    cases hs : sameG p a
    · have hc' : ∃ q ∈ R, sameG p q = true := by
        obtain ⟨q, hq, hqs⟩ := hc
        rcases List.mem_cons.1 hq with rfl | hq
        · rw [hs] at hqs; cases hqs
        · exact ⟨q, hq, hqs⟩
      rw [ih h2 hc']
      simp
    · have hz : (R.map (fun q => (if sameG p q then 1 else 0) * f q)).sum = 0 := by
        apply sum_zero
        intro y hy
        obtain ⟨q, hq, rfl⟩ := List.mem_map.1 hy
        have : sameG p q = false := by
          cases hq2 : sameG p q
          · rfl
          · have h3 := h1 q hq
            rw [sameG_trans (sameG_comm hs) hq2] at h3
            cases h3
        simp [this]
      rw [hz, hf a hs]
      simp
/-- A sum over all persons of what hangs on the group alone, group by group. -/
theorem sum_groups {R : List Pn} (ha : R.Pairwise (fun p q => sameG p q = false)) (f : Pn → Nat) (hf : ∀ p q, sameG p q = true → f q = f p) (y : List Pn) (hc : ∀ p ∈ y, ∃ q ∈ R, sameG p q = true) :
    (y.map f).sum = (R.map (fun q => gsz y q * f q)).sum := by
  induction y with
  | nil =>
    rw [List.map_nil, List.sum_nil]
    symm
    apply sum_zero
    intro z hz
    obtain ⟨q, _, rfl⟩ := List.mem_map.1 hz
    simp [gsz]
  | cons p y ih =>
    rw [List.map_cons, List.sum_cons, ih (fun q hq => hc q (by simp [hq])), ← one_rep ha (hc p (by simp)) f (hf p)]
    have : ∀ S : List Pn, (S.map (fun q => (if sameG p q then 1 else 0) * f q)).sum + (S.map (fun q => gsz y q * f q)).sum = (S.map (fun q => gsz (p :: y) q * f q)).sum := by
      intro S
      induction S with
      | nil => simp
      | cons s S ihS =>
        simp only [List.map_cons, List.sum_cons]
        rw [gsz_cons, Nat.add_mul, ← ihS]
        omega
    exact this R
theorem sum_reps (x : List Pn) : ((repsR x.reverse).map (gsz x)).sum = x.length := by
  have h : (x.map (fun _ => 1)).sum = ((repsR x.reverse).map (fun q => gsz x q * 1)).sum := sum_groups (R := repsR x.reverse) (reps_apart _) (fun _ => 1) (fun _ _ _ => rfl) x (fun p hp => reps_cover (by simpa using hp))
  have e : (repsR x.reverse).map (fun q => gsz x q * 1) = (repsR x.reverse).map (gsz x) := List.map_congr_left (fun q _ => Nat.mul_one _)
  rw [e] at h
  rw [← h]
  have : ∀ y : List Pn, (y.map (fun _ => 1)).sum = y.length := fun y => by
    induction y with
    | nil => rfl
    | cons a y ih => rw [List.map_cons, List.sum_cons, ih, List.length_cons]; omega
  exact this x
theorem sum_ge {R : List Pn} {f : Pn → Nat} {m : Nat} (h : ∀ q ∈ R, m ≤ f q) : R.length * m ≤ (R.map f).sum := by
  induction R with
  | nil => simp
  | cons a R ih =>
    rw [List.length_cons, List.map_cons, List.sum_cons, Nat.add_mul]
    have := ih (fun q hq => h q (by simp [hq]))
    have := h a (by simp)
    omega
theorem many_least (x : List Pn) : gmany x * lst x ≤ x.length := by
  have h := sum_ge (R := repsR x.reverse) (f := gsz x) (m := lst x) (fun q hq => lst_le (by have := reps_mem hq; simpa using this))
  rw [reps_len, sum_reps] at h
  exact h

/-! ### Coarser codes -/
section
variable {f g : Pn → Pn} {l : List Pn}
theorem gsz_map_le (h : ∀ p ∈ l, ∀ q ∈ l, sameG (f p) (f q) = true → sameG (g p) (g q) = true) {p : Pn} (hp : p ∈ l) : gsz (l.map f) (f p) ≤ gsz (l.map g) (g p) := by
  unfold gsz
  rw [List.countP_map, List.countP_map]
  apply List.countP_mono_left
  intro q hq hs
  exact h q hq p hp hs
theorem gmR_map_le (h : ∀ p ∈ l, ∀ q ∈ l, sameG (f p) (f q) = true → sameG (g p) (g q) = true) : gmR (l.map g) ≤ gmR (l.map f) := by
  induction l with
  | nil => simp [gmR]
  | cons a t ih =>
    have ih' := ih (fun p hp q hq => h p (by simp [hp]) q (by simp [hq]))
    simp only [List.map_cons, gmR]
    by_cases h0 : gsz (t.map f) (f a) = 0
    · rw [if_pos h0]
      split <;> omega
    · have h1 : ∃ b ∈ t, sameG (f b) (f a) = true := by
        have h2 : 0 < gsz (t.map f) (f a) := by omega
        obtain ⟨b, hb, hs⟩ := List.countP_pos_iff.1 h2
        obtain ⟨c, hc, rfl⟩ := List.mem_map.1 hb
        exact ⟨c, hc, hs⟩
      obtain ⟨b, hb, hs⟩ := h1
      have h3 := h b (by simp [hb]) a (by simp) hs
      have h4 : 0 < gsz (t.map g) (g a) := List.countP_pos_iff.2 ⟨g b, List.mem_map.2 ⟨b, hb, rfl⟩, h3⟩
      rw [if_neg (by omega), if_neg h0]
      omega
theorem gmany_map_le (h : ∀ p ∈ l, ∀ q ∈ l, sameG (f p) (f q) = true → sameG (g p) (g q) = true) : gmany (l.map g) ≤ gmany (l.map f) := by
  unfold gmany
  rw [← List.map_reverse, ← List.map_reverse]
  exact gmR_map_le (fun p hp q hq => h p (by simpa using hp) q (by simpa using hq))
end
theorem lcode_next {L : List (List Int)} (hL : goodLad L) {k : Nat} (hk : k < L.length) {c : Int} (c0 : 0 ≤ c) (c1 : c ≤ 3) : lcode L ((k : Int) + 1) c = ix (ixs L k) (lcode L k c).toNat := by
  have e : ((k : Int) + 1 - 1).toNat = k := by omega
  unfold lcode
  rw [if_neg (by omega), e]
  by_cases h0 : (k : Int) = 0
  · rw [if_pos h0]
  · rw [if_neg h0]
    have e2 : ((k : Int) - 1).toNat = k - 1 := by omega
    rw [e2]
    exact (hL.2.2 k (by omega) hk c.toNat (by omega)).symm
theorem lcode_coarse {L : List (List Int)} (hL : goodLad L) (d : Nat) : ∀ {k : Nat}, k + d ≤ L.length → ∀ {c e : Int}, 0 ≤ c → c ≤ 3 → 0 ≤ e → e ≤ 3 → lcode L k c = lcode L k e → lcode L ((k + d : Nat) : Int) c = lcode L ((k + d : Nat) : Int) e := by
  induction d with
  | zero => intro k _ c e _ _ _ _ h; exact h
  | succ d ih =>
    intro k hk c e c0 c1 e0 e1 h
    have h1 := ih (k := k) (by omega) c0 c1 e0 e1 h
    have e2 : ((k + (d + 1) : Nat) : Int) = ((k + d : Nat) : Int) + 1 := by omega
    rw [e2, lcode_next hL (by omega) c0 c1, lcode_next hL (by omega) e0 e1, h1]
theorem lcode_mono {L : List (List Int)} (hL : goodLad L) {a b c e : Int} (a0 : 0 ≤ a) (ab : a ≤ b) (bL : b ≤ L.length) (c0 : 0 ≤ c) (c1 : c ≤ 3) (e0 : 0 ≤ e) (e1 : e ≤ 3) (h : lcode L a c = lcode L a e) : lcode L b c = lcode L b e := by
  obtain ⟨k, rfl⟩ : ∃ k : Nat, a = k := ⟨a.toNat, by omega⟩
  obtain ⟨m, rfl⟩ : ∃ m : Nat, b = m := ⟨b.toNat, by omega⟩
  obtain ⟨d, rfl⟩ : ∃ d, m = k + d := ⟨m - k, by omega⟩
  exact lcode_coarse hL d (by omega) c0 c1 e0 e1 h
/-- A recoding that is coarser in all three numbers keeps groups together. -/
def finer (a b : Rc) : Prop := a.a ≤ b.a ∧ a.j ≤ b.j ∧ a.s ≤ b.s
theorem rec_coarse {L : List (List Int)} {r t : Rc} (hr : goodR L r) (ht : goodR L t) (hf : finer r t) {p q : Pn} (hp : p.good) (hq : q.good) (h : sameG (rec1 L r p) (rec1 L r q) = true) : sameG (rec1 L t p) (rec1 L t q) = true := by
  rw [sameG_iff] at *
  obtain ⟨hL, ⟨r0, r1⟩, rj, rs⟩ := hr
  obtain ⟨_, ⟨t0, t1⟩, tj, ts⟩ := ht
  obtain ⟨f1, f2, f3⟩ := hf
  obtain ⟨⟨pa0, pa1⟩, _, _, _⟩ := hp
  obtain ⟨⟨qa0, qa1⟩, _, _, _⟩ := hq
  obtain ⟨h1, h2, h3⟩ := h
  refine ⟨lcode_mono hL r0 f1 t1 pa0 pa1 qa0 qa1 h1, ?_, ?_⟩
  · simp only [rec1] at h2 ⊢
    rcases tj with e | e
    · have : r.j = 0 := by omega
      rw [this] at h2
      rw [e]; exact h2
    · rw [e]; simp
  · simp only [rec1] at h3 ⊢
    rcases ts with e | e
    · have : r.s = 0 := by omega
      rw [this] at h3
      rw [e]; exact h3
    · rw [e]; simp
def topR (L : List (List Int)) : Rc := ⟨L.length, 1, 1⟩
theorem topR_good {L : List (List Int)} (h : goodLad L) : goodR L (topR L) := ⟨h, by unfold topR; dsimp only; omega, .inr rfl, .inr rfl⟩
theorem topR_finer {L : List (List Int)} {r : Rc} (h : goodR L r) : finer r (topR L) := by
  obtain ⟨_, h1, h2, h3⟩ := h
  unfold finer topR
  dsimp only
  omega
theorem okA_top {l : List Pn} {L : List (List Int)} {r : Rc} (h : okA l L r) : okA l L (topR L) := ⟨h.1, topR_good h.2.1⟩
theorem recd_coarse {l : List Pn} {L : List (List Int)} {r t : Rc} (h : okA l L r) (ht : okA l L t) (hf : finer r t) : ∀ p ∈ l, ∀ q ∈ l, sameG (rec1 L r p) (rec1 L r q) = true → sameG (rec1 L t p) (rec1 L t q) = true :=
  fun p hp q hq hs => rec_coarse h.2 ht.2 hf (h.1.1 p hp) (h.1.1 q hq) hs
theorem many_coarse {l : List Pn} {L : List (List Int)} {r t : Rc} (h : okA l L r) (ht : okA l L t) (hf : finer r t) : gmany (recd L t l) ≤ gmany (recd L r l) := gmany_map_le (recd_coarse h ht hf)
theorem least_coarse {l : List Pn} {L : List (List Int)} {r t : Rc} (h : okA l L r) (ht : okA l L t) (hf : finer r t) : lst (recd L r l) ≤ lst (recd L t l) := by
  rcases lst_is (recd L t l) with e | ⟨p, hp, e⟩
  · rw [e, recd_length, ← recd_length L r l]
    exact lst_len _
  · rw [e]
    obtain ⟨q, hq, rfl⟩ := List.mem_map.1 hp
    exact Nat.le_trans (lst_le (List.mem_map.2 ⟨q, hq, rfl⟩)) (gsz_map_le (recd_coarse h ht hf) hq)
end Go.Proofs.Ytfpddhehdfckjaa
