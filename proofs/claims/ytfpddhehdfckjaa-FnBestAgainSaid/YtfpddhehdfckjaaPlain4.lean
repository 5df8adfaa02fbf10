/- The best recoding, on the plain side. No program text is named here. -/
import Derived.Test.YtfpddhehdfckjaaPlain2
namespace Go.Proofs.Ytfpddhehdfckjaa
open Go.RowKit

/-- The n-th recoding that is looked at. -/
def cand (n : Nat) : Rc := ⟨((n / 4 : Nat) : Int), ((n % 4 / 2 : Nat) : Int), ((n % 4 % 2 : Nat) : Int)⟩
theorem cand_zero : cand 0 = zeroR := rfl
theorem cand_good {L : List (List Int)} (h : goodLad L) {n : Nat} (hn : n < 4 * (L.length + 1)) : goodR L (cand n) := by
  refine ⟨h, ?_, ?_, ?_⟩ <;> unfold cand <;> dsimp only <;> omega
def bstep (l : List Pn) (L : List (List Int)) (k d : Int) (b : Option Rc) (r : Rc) : Option Rc :=
  match b with
  | none => if aDrop l L r k ≤ d then some r else none
  | some b => if aDrop l L r k ≤ d ∧ aCost L r < aCost L b then some r else some b
def bestTo (l : List Pn) (L : List (List Int)) (k d : Int) : Nat → Option Rc
  | 0 => none
  | n + 1 => bstep l L k d (bestTo l L k d n) (cand n)
def bOk (l : List Pn) (L : List (List Int)) (k d : Int) : Prop := goodL l ∧ goodLad L ∧ (1 ≤ k ∧ k ≤ 40) ∧ 0 ≤ d
instance (l : List Pn) (L : List (List Int)) (k d : Int) : Decidable (bOk l L k d) := by unfold bOk; infer_instance
def aBest (l : List Pn) (L : List (List Int)) (k d : Int) : Option Rc := if bOk l L k d then bestTo l L k d (4 * (L.length + 1)) else none

section
variable {l : List Pn} {L : List (List Int)} {k d : Int}
theorem bestTo_is (n : Nat) : match bestTo l L k d n with
    | none => ∀ j, j < n → d < aDrop l L (cand j) k
    | some b => (∃ i, i < n ∧ b = cand i) ∧ aDrop l L b k ≤ d ∧ ∀ j, j < n → aDrop l L (cand j) k ≤ d → aCost L b ≤ aCost L (cand j) := by
  induction n with
  | zero => simp [bestTo]
  | succ n ih =>
    rw [bestTo]
    cases hb : bestTo l L k d n with
    | none =>
      rw [hb] at ih
      dsimp only at ih
      unfold bstep
      dsimp only
      by_cases h : aDrop l L (cand n) k ≤ d
      · rw [if_pos h]
        dsimp only
        refine ⟨⟨n, by omega, rfl⟩, h, fun j hj hd => ?_⟩
        rcases Nat.lt_or_ge j n with h1 | h1
        · have := ih j h1; omega
        · obtain rfl : j = n := by omega
          exact Int.le_refl _
      · rw [if_neg h]
        dsimp only
        intro j hj
        rcases Nat.lt_or_ge j n with h1 | h1
        · exact ih j h1
        · obtain rfl : j = n := by omega
          omega
    | some b =>
      rw [hb] at ih
      dsimp only at ih
      obtain ⟨⟨i, hi, rfl⟩, h1, h2⟩ := ih
      unfold bstep
      dsimp only
      by_cases h : aDrop l L (cand n) k ≤ d ∧ aCost L (cand n) < aCost L (cand i)
      · rw [if_pos h]
        dsimp only
        refine ⟨⟨n, by omega, rfl⟩, h.1, fun j hj hd => ?_⟩
        rcases Nat.lt_or_ge j n with h3 | h3
        · have := h2 j h3 hd; omega
        · obtain rfl : j = n := by omega
          exact Int.le_refl _
      · rw [if_neg h]
        dsimp only
        refine ⟨⟨i, by omega, rfl⟩, h1, fun j hj hd => ?_⟩
        rcases Nat.lt_or_ge j n with h3 | h3
        · exact h2 j h3 hd
        · obtain rfl : j = n := by omega
          omega
theorem aBest_ok {b : Rc} (h : aBest l L k d = some b) : bOk l L k d := by
  unfold aBest at h
  split at h
  · assumption
  · cases h
theorem aBest_some {b : Rc} (h : aBest l L k d = some b) : goodR L b ∧ aDrop l L b k ≤ d ∧ ∀ j, j < 4 * (L.length + 1) → aDrop l L (cand j) k ≤ d → aCost L b ≤ aCost L (cand j) := by
  have ho := aBest_ok h
  unfold aBest at h
  rw [if_pos ho] at h
  have hi := bestTo_is (l := l) (L := L) (k := k) (d := d) (4 * (L.length + 1))
  rw [h] at hi
  dsimp only at hi
  obtain ⟨⟨i, hi1, rfl⟩, h2, h3⟩ := hi
  exact ⟨cand_good ho.2.1 hi1, h2, h3⟩
theorem aBest_cand {b : Rc} (h : aBest l L k d = some b) : ∃ i, i < 4 * (L.length + 1) ∧ b = cand i := by
  have ho := aBest_ok h
  unfold aBest at h
  rw [if_pos ho] at h
  have hi := bestTo_is (l := l) (L := L) (k := k) (d := d) (4 * (L.length + 1))
  rw [h] at hi
  exact hi.1
theorem aBest_has (ho : bOk l L k d) {j : Nat} (hj : j < 4 * (L.length + 1)) (hd : aDrop l L (cand j) k ≤ d) : ∃ b, aBest l L k d = some b ∧ aCost L b ≤ aCost L (cand j) := by
  cases h : aBest l L k d with
  | none =>
    unfold aBest at h
    rw [if_pos ho] at h
    have hi := bestTo_is (l := l) (L := L) (k := k) (d := d) (4 * (L.length + 1))
    rw [h] at hi
    have := hi j hj
    omega
  | some b => exact ⟨b, rfl, (aBest_some h).2.2 j hj hd⟩
theorem aCost_zero (h : goodLad L) : aCost L zeroR = 0 := if_pos (zeroR_good h)
theorem aCost_nn {r : Rc} (h : goodR L r) : 0 ≤ aCost L r := by
  unfold aCost
  rw [if_pos h]
  obtain ⟨_, h1, h2, h3⟩ := h
  omega
theorem bestTo_first (h : goodLad L) (h0 : aDrop l L zeroR k ≤ d) (n : Nat) (hn : n < 4 * (L.length + 1)) : bestTo l L k d (n + 1) = some zeroR := by
  induction n with
  | zero =>
    show bstep l L k d none (cand 0) = _
    rw [cand_zero]
    exact if_pos h0
  | succ n ih =>
    rw [bestTo, ih (by omega)]
    unfold bstep
    dsimp only
    rw [if_neg]
    intro hc
    have := aCost_nn (cand_good h hn)
    have := aCost_zero h
    omega
/-- If no recoding will do, none is the best. -/
theorem aBest_first (ho : bOk l L k d) (h0 : aDrop l L zeroR k ≤ d) : aBest l L k d = some zeroR := by
  unfold aBest
  rw [if_pos ho]
  exact bestTo_first ho.2.1 h0 (4 * (L.length + 1) - 1) (by omega)
end
theorem bOk_okA {l : List Pn} {L : List (List Int)} {k d : Int} {r : Rc} (h : bOk l L k d) (hr : goodR L r) : okA l L r := ⟨h.1, hr⟩
end Go.Proofs.Ytfpddhehdfckjaa
