/- Bands of pay in groups of recoded people, on the plain side. No program text is named here. -/
import Derived.Test.YtaojjlhlahoocaaGrp2
namespace Go.Proofs.Ytaojjlhlahoocaa
open Go.RowKit

/-- How many of x that f asks for have band b. -/
def bc (f : Pn → Bool) (x : List Pn) (b : Nat) : Nat := x.countP (fun q => f q && decide (q.p / 100 = (b : Int)))
/-- All ten, as cells. -/
def bvals (f : Pn → Bool) (x : List Pn) : List Value := (List.range 10).map (fun b => .int .i64 (bc f x b))
theorem bc_snoc (f : Pn → Bool) (x : List Pn) (q : Pn) (b : Nat) : bc f (x ++ [q]) b = bc f x b + if f q = true ∧ q.p / 100 = (b : Int) then 1 else 0 := by
  unfold bc
  rw [List.countP_append]
  by_cases h : f q = true ∧ q.p / 100 = (b : Int)
  · simp [h]
  · rw [if_neg h]
    have : ¬ (f q && decide (q.p / 100 = (b : Int))) = true := by simpa using h
    simp [this]
theorem bc_le (f : Pn → Bool) (x : List Pn) (b : Nat) : bc f x b ≤ x.length := List.countP_le_length
theorem bvals_len (f : Pn → Bool) (x : List Pn) : (bvals f x).length = 10 := by simp [bvals]
theorem bvals_at (f : Pn → Bool) (x : List Pn) {b : Nat} (h : b < 10) : (bvals f x)[b]? = some (.int .i64 (bc f x b)) := by simp [bvals, h]
theorem bvals_ten (f : Pn → Bool) (x : List Pn) : bvals f x = [.int .i64 (bc f x 0), .int .i64 (bc f x 1), .int .i64 (bc f x 2), .int .i64 (bc f x 3), .int .i64 (bc f x 4), .int .i64 (bc f x 5), .int .i64 (bc f x 6), .int .i64 (bc f x 7), .int .i64 (bc f x 8), .int .i64 (bc f x 9)] := rfl
theorem bvals_nil (f : Pn → Bool) : bvals f [] = List.replicate 10 (.int .i64 0) := by simp [bvals_ten, bc]
theorem bvals_no {f : Pn → Bool} {x : List Pn} {q : Pn} (h : f q = false) : bvals f (x ++ [q]) = bvals f x := by
  unfold bvals
  apply List.map_congr_left
  intro b _
  rw [bc_snoc, h]
  simp
theorem bvals_yes {f : Pn → Bool} {x : List Pn} {q : Pn} {b : Nat} (h : f q = true) (hq : q.p / 100 = (b : Int)) : bvals f (x ++ [q]) = (bvals f x).set b (.int .i64 ((bc f x b : Int) + 1)) := by
  unfold bvals
  apply List.ext_getElem?
  intro i
  rw [List.getElem?_set]
  by_cases hi : i < 10
  · by_cases e : b = i
    · subst e
      simp [hi, bc_snoc, h, hq]
    · rw [if_neg e]
      have : ¬ ((b : Int) = (i : Int)) := by omega
      simp [hi, bc_snoc, h, hq, this]
  · by_cases e : b = i
    · subst e
      simp [hi]
    · rw [if_neg e]
      simp [hi]
/-- How many bands there are. -/
def dv (f : Pn → Bool) (x : List Pn) : Nat := (List.range 10).countP (fun b => decide (0 < bc f x b))
def dvTo (f : Pn → Bool) (x : List Pn) (n : Nat) : Nat := (List.range n).countP (fun b => decide (0 < bc f x b))
theorem dvTo_succ (f : Pn → Bool) (x : List Pn) (n : Nat) : dvTo f x (n + 1) = dvTo f x n + if 0 < bc f x n then 1 else 0 := by
  unfold dvTo
  rw [List.range_succ, List.countP_append]
  by_cases h : 0 < bc f x n <;> simp [h]
theorem dvTo_le (f : Pn → Bool) (x : List Pn) (n : Nat) : dvTo f x n ≤ n := by
  have := List.countP_le_length (p := fun b => decide (0 < bc f x b)) (l := List.range n)
  simpa [dvTo] using this
def grpOf (p : Pn) : Pn → Bool := fun q => sameG q p
/-- The least number of bands of a group, folded up. -/
def dlTo (x pre : List Pn) : Nat := pre.foldl (fun m p => min m (dv (grpOf p) x)) x.length
def dl (x : List Pn) : Nat := dlTo x x
theorem dlTo_snoc (x pre : List Pn) (p : Pn) : dlTo x (pre ++ [p]) = min (dlTo x pre) (dv (grpOf p) x) := by simp [dlTo]
theorem dlTo_le (x pre : List Pn) : dlTo x pre ≤ x.length := (fold_min_le (fun p => dv (grpOf p) x) pre x.length).1
theorem dv_le (f : Pn → Bool) (x : List Pn) : dv f x ≤ 10 := dvTo_le f x 10
/-- How far a group's bands are from all people's. -/
def far1 (f : Pn → Bool) (x : List Pn) (size : Nat) (b : Nat) : Int := (bc f x b : Int) * x.length - (bc (fun _ => true) x b : Int) * size
def farTo (f : Pn → Bool) (x : List Pn) (size n : Nat) : Nat := ((List.range n).map (fun b => (far1 f x size b).natAbs)).sum
theorem farTo_succ (f : Pn → Bool) (x : List Pn) (size n : Nat) : farTo f x size (n + 1) = farTo f x size n + (far1 f x size n).natAbs := by
  simp [farTo, List.range_succ]
def dSize (l : List Pn) (L : List (List Int)) (r : Rc) (k : Int) : Int := if okA l L r ∧ 0 ≤ k ∧ k < l.length then (dv (grpOf (nth (recd L r l) k.toNat)) (recd L r l) : Int) else -1
def dLeast (l : List Pn) (L : List (List Int)) (r : Rc) : Int := if okA l L r then (dl (recd L r l) : Int) else -1
def dFar (l : List Pn) (L : List (List Int)) (r : Rc) (k : Int) : Int := if okA l L r ∧ 0 ≤ k ∧ k < l.length then (farTo (grpOf (nth (recd L r l) k.toNat)) (recd L r l) (gsz (recd L r l) (nth (recd L r l) k.toNat)) 10 : Int) else -1
def dOk (l : List Pn) (L : List (List Int)) (r : Rc) (k m : Int) : Prop := (1 ≤ m ∧ m ≤ 40) ∧ aDrop l L r k = 0 ∧ (l.length = 0 ∨ m ≤ dLeast l L r)
theorem dSize_yes {l : List Pn} {L : List (List Int)} {r : Rc} {k : Int} {x : List Pn} (h : okA l L r) (hx : x = recd L r l) (h0 : 0 ≤ k) (h1 : k < l.length) : dSize l L r k = dv (grpOf (nth x k.toNat)) x := by
  subst hx; exact if_pos ⟨h, h0, h1⟩
theorem dLeast_yes {l : List Pn} {L : List (List Int)} {r : Rc} {x : List Pn} (h : okA l L r) (hx : x = recd L r l) : dLeast l L r = dl x := by
  subst hx; exact if_pos h
theorem dFar_yes {l : List Pn} {L : List (List Int)} {r : Rc} {k : Int} {x : List Pn} (h : okA l L r) (hx : x = recd L r l) (h0 : 0 ≤ k) (h1 : k < l.length) : dFar l L r k = farTo (grpOf (nth x k.toNat)) x (gsz x (nth x k.toNat)) 10 := by
  subst hx; exact if_pos ⟨h, h0, h1⟩
end Go.Proofs.Ytaojjlhlahoocaa
