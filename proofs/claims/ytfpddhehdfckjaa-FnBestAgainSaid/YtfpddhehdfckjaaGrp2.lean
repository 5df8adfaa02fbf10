/- What the functions on groups come to, on the plain side. No program text is named here. -/
import Derived.Test.YtfpddhehdfckjaaGrp
namespace Go.Proofs.Ytfpddhehdfckjaa
open Go.RowKit

instance (z : Pn) : Decidable z.good := by unfold Pn.good; infer_instance
instance (l : List Pn) : Decidable (goodL l) := by unfold goodL; infer_instance
instance (s : List Int) (i : Nat) : Decidable (codeOk s i) := by unfold codeOk; infer_instance
instance (s : List Int) : Decidable (goodS s) := by unfold goodS; infer_instance
instance (f s : List Int) : Decidable (coarse f s) := by unfold coarse; infer_instance
theorem goodLad_iff (L : List (List Int)) : (L.length ≤ 3 ∧ (∀ k, k < L.length → goodS (ixs L k)) ∧ ∀ k, k < L.length → 0 < k → coarse (ixs L (k - 1)) (ixs L k)) ↔ goodLad L :=
  ⟨fun h => ⟨h.1, h.2.1, fun k h0 h1 => h.2.2 k h1 h0⟩, fun h => ⟨h.1, h.2.1, fun k h0 h1 => h.2.2 k h1 h0⟩⟩
instance (L : List (List Int)) : Decidable (goodLad L) := decidable_of_iff _ (goodLad_iff L)
instance (L : List (List Int)) (r : Rc) : Decidable (goodR L r) := by unfold goodR; infer_instance
instance (l : List Pn) (L : List (List Int)) (r : Rc) : Decidable (okA l L r) := by unfold okA; infer_instance

def nth (x : List Pn) (k : Nat) : Pn := x.getD k ⟨0, 0, 0, 0⟩
theorem nth_at {x : List Pn} {k : Nat} (h : k < x.length) : x[k]? = some (nth x k) := by simp [nth, h]
theorem nth_mem {x : List Pn} {k : Nat} (h : k < x.length) : nth x k ∈ x := List.mem_of_getElem? (nth_at h)

/-- The least size of a group, folded up. -/
def lstTo (x pre : List Pn) : Nat := pre.foldl (fun m p => min m (gsz x p)) x.length
def lst (x : List Pn) : Nat := lstTo x x
theorem lstTo_snoc (x pre : List Pn) (p : Pn) : lstTo x (pre ++ [p]) = min (lstTo x pre) (gsz x p) := by simp [lstTo]
theorem lstTo_le (x pre : List Pn) : lstTo x pre ≤ x.length := by
  unfold lstTo
  generalize x.length = n
  induction pre generalizing n with
  | nil => simp
  | cons p pre ih => simp only [List.foldl_cons]; exact Nat.le_trans (ih _) (by omega)
theorem fold_min_le (f : Pn → Nat) (pre : List Pn) (n : Nat) : pre.foldl (fun m p => min m (f p)) n ≤ n ∧ (∀ p ∈ pre, pre.foldl (fun m p => min m (f p)) n ≤ f p) ∧ (pre.foldl (fun m p => min m (f p)) n = n ∨ ∃ p ∈ pre, pre.foldl (fun m p => min m (f p)) n = f p) := by
  induction pre generalizing n with
  | nil => simp
  | cons p pre ih =>
    simp only [List.foldl_cons]
    obtain ⟨h1, h2, h3⟩ := ih (min n (f p))
    refine ⟨by omega, ?_, ?_⟩
    · intro q hq
      rcases List.mem_cons.1 hq with rfl | hq
      · omega
      · exact h2 q hq
    · rcases h3 with h3 | ⟨q, hq, h3⟩
      · rcases Nat.le_total n (f p) with h | h
        · left; rw [h3]; omega
        · right; exact ⟨p, by simp, by rw [h3]; omega⟩
      · right; exact ⟨q, by simp [hq], h3⟩
theorem lst_le {x : List Pn} {p : Pn} (h : p ∈ x) : lst x ≤ gsz x p := (fold_min_le (gsz x) x x.length).2.1 p h
theorem lst_is (x : List Pn) : lst x = x.length ∨ ∃ p ∈ x, lst x = gsz x p := (fold_min_le (gsz x) x x.length).2.2
theorem lst_len (x : List Pn) : lst x ≤ x.length := (fold_min_le (gsz x) x x.length).1
theorem gsz_pos {x : List Pn} {p : Pn} (h : p ∈ x) : 0 < gsz x p := List.countP_pos_iff.2 ⟨p, h, sameG_refl p⟩
/-- Whoever is below all sizes, and is one of them or the length, is the least. -/
theorem lst_uniq {x : List Pn} {m : Nat} (h1 : ∀ p ∈ x, m ≤ gsz x p) (h2 : m = x.length ∨ ∃ p ∈ x, m = gsz x p) : m = lst x := by
  have a1 := lst_is x
  have hle : m ≤ lst x := by
    rcases a1 with h | ⟨p, hp, h⟩
    · rw [h]
      rcases h2 with h2 | ⟨p, hp, h2⟩
      · omega
      · have := gsz_le x p; omega
    · rw [h]; exact h1 p hp
  have hge : lst x ≤ m := by
    rcases h2 with h2 | ⟨p, hp, h2⟩
    · rw [h2]; exact lst_len x
    · rw [h2]; exact lst_le hp
  omega

/-- How many groups there are: the persons whose group has not come before. -/
def gmR : List Pn → Nat
  | [] => 0
  | q :: t => gmR t + if gsz t q = 0 then 1 else 0
def gmany (x : List Pn) : Nat := gmR x.reverse
theorem gmany_snoc (pre : List Pn) (q : Pn) : gmany (pre ++ [q]) = gmany pre + if gsz pre q = 0 then 1 else 0 := by
  unfold gmany
  rw [List.reverse_append]
  have e : gsz pre.reverse q = gsz pre q := by simp [gsz]
  simp [gmR, e]
theorem gmR_le (x : List Pn) : gmR x ≤ x.length := by
  induction x with
  | nil => simp [gmR]
  | cons q t ih => simp only [gmR, List.length_cons]; split <;> omega
theorem gmany_le (x : List Pn) : gmany x ≤ x.length := by have := gmR_le x.reverse; simpa [gmany] using this

def drp (x : List Pn) (k : Int) : Nat := x.countP (fun p => decide ((gsz x p : Int) < k))
def drpTo (x : List Pn) (k : Int) (pre : List Pn) : Nat := pre.countP (fun p => decide ((gsz x p : Int) < k))
theorem drpTo_snoc (x : List Pn) (k : Int) (pre : List Pn) (p : Pn) : drpTo x k (pre ++ [p]) = drpTo x k pre + if (gsz x p : Int) < k then 1 else 0 := by
  unfold drpTo
  rw [List.countP_append]
  by_cases h : (gsz x p : Int) < k <;> simp [h]
theorem drpTo_le (x : List Pn) (k : Int) (pre : List Pn) : drpTo x k pre ≤ pre.length := List.countP_le_length
def keepTo (x : List Pn) (k : Int) (pre : List Pn) : List Pn := pre.filter (fun p => decide (k ≤ (gsz x p : Int)))
def kept (x : List Pn) (k : Int) : List Pn := keepTo x k x
theorem keepTo_snoc (x : List Pn) (k : Int) (pre : List Pn) (p : Pn) : keepTo x k (pre ++ [p]) = keepTo x k pre ++ if k ≤ (gsz x p : Int) then [p] else [] := by
  unfold keepTo
  rw [List.filter_append]
  by_cases h : k ≤ (gsz x p : Int) <;> simp [h]
theorem keepTo_le (x : List Pn) (k : Int) (pre : List Pn) : (keepTo x k pre).length ≤ pre.length := List.length_filter_le _ _
theorem kept_drop (x : List Pn) (k : Int) : (kept x k).length + drp x k = x.length := by
  unfold kept keepTo drp
  rw [← List.countP_eq_length_filter]
  have h := List.length_eq_countP_add_countP (fun p => decide (k ≤ (gsz x p : Int))) (l := x)
  rw [h]
  congr 1
  apply List.countP_congr
  intro p _
  simp

theorem uniq_drop (x : List Pn) : x.countP (fun p => decide (gsz x p = 1)) = drp x 2 := by
  unfold drp
  apply List.countP_congr
  intro p hp
  have := gsz_pos hp
  simp only [decide_eq_true_eq]
  omega
def unqTo (x pre : List Pn) : Nat := pre.countP (fun p => decide (gsz x p = 1))
theorem unqTo_snoc (x : List Pn) (pre : List Pn) (p : Pn) : unqTo x (pre ++ [p]) = unqTo x pre + if gsz x p = 1 then 1 else 0 := by
  unfold unqTo
  rw [List.countP_append]
  by_cases h : gsz x p = 1 <;> simp [h]
theorem unqTo_le (x pre : List Pn) : unqTo x pre ≤ pre.length := List.countP_le_length

/-! ### The functions -/
def gSize (l : List Pn) (L : List (List Int)) (r : Rc) (k : Int) : Int := if okA l L r ∧ 0 ≤ k ∧ k < l.length then (gsz (recd L r l) (nth (recd L r l) k.toNat) : Int) else -1
def gLeast (l : List Pn) (L : List (List Int)) (r : Rc) : Int := if okA l L r then (lst (recd L r l) : Int) else -1
def gMany (l : List Pn) (L : List (List Int)) (r : Rc) : Int := if okA l L r then (gmany (recd L r l) : Int) else -1
def aDrop (l : List Pn) (L : List (List Int)) (r : Rc) (k : Int) : Int := if okA l L r ∧ 1 ≤ k ∧ k ≤ 40 then (drp (recd L r l) k : Int) else -1
def aCost (L : List (List Int)) (r : Rc) : Int := if goodR L r then r.a + r.j + r.s else -1

theorem recd_length (L : List (List Int)) (r : Rc) (l : List Pn) : (recd L r l).length = l.length := by simp [recd]
theorem recd_good {l : List Pn} {L : List (List Int)} {r : Rc} (h : okA l L r) : goodL (recd L r l) := by
  refine ⟨fun p hp => ?_, by rw [recd_length]; exact h.1.2⟩
  obtain ⟨q, hq, rfl⟩ := List.mem_map.1 hp
  exact rec1_good h.2 (h.1.1 q hq)
/-- What a caller of a recoding has in hand. -/
def RcX (l : List Pn) (L : List (List Int)) (r : Rc) (w : World) (e : Ending) (w' : World) : Prop :=
  (Hid (okA l L r) ∧ ∃ x A c, Hid (x = recd L r l) ∧ x.length ≤ 40 ∧ x.length ≤ c ∧ c ≤ 9223372036854775807 ∧ Hid (x.length = l.length) ∧ Hid (goodL x) ∧ e = .returned (.tuple #[.slice A x.length c, .bool true]) ∧ Ppl w' w'.heap.size A x ∧ Below w.heap.size w w') ∨
  (Hid (¬ okA l L r) ∧ ∃ A c, e = .returned (.tuple #[.slice A 0 c, .bool false]) ∧ Below w.heap.size w w')
theorem RcOut.up {T : Nat} {l : List Pn} {L : List (List Int)} {r : Rc} {w : World} {o : Obj} {e : Ending} {w' : World} (h : RcOut T l L r (w.alloc o) e w') : RcX l L r w e w' := by
  have h0 : Below w.heap.size w (w.alloc o) := (Below.refl _ _).alloc (Nat.le_refl _) o
  rcases h with ⟨hok, v, rfl, hown, hb⟩ | ⟨hok, v, rfl, hown, hb⟩
  · obtain ⟨A, c, rfl, hP, hc1, hc2⟩ := hown.form
    have hg := recd_good hok
    exact .inl ⟨hok, recd L r l, A, c, (show recd L r l = recd L r l from rfl), hg.2, hc1, hc2, recd_length L r l, hg, rfl, hP, h0.trans (hb.mono h0.size)⟩
  · obtain ⟨A, c, rfl, hP, _⟩ := hown.form
    exact .inr ⟨hok, A, c, rfl, h0.trans (hb.mono h0.size)⟩
end Go.Proofs.Ytfpddhehdfckjaa
