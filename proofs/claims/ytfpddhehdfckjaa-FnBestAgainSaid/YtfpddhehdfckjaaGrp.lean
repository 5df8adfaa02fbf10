/- Groups of recoded people, on the plain side. No program text is named here. -/
import Derived.Test.YtfpddhehdfckjaaPure
namespace Go.Proofs.Ytfpddhehdfckjaa
open Go.RowKit

/-- Two recoded persons are in one group. -/
def sameG (p q : Pn) : Bool := p.a == q.a && (p.j == q.j && p.s == q.s)
/-- How many of x are in p's group. -/
def gsz (x : List Pn) (p : Pn) : Nat := x.countP (fun q => sameG q p)
theorem gsz_nil (p : Pn) : gsz [] p = 0 := rfl
theorem gsz_snoc (x : List Pn) (q p : Pn) : gsz (x ++ [q]) p = gsz x p + if sameG q p then 1 else 0 := by
  unfold gsz
  rw [List.countP_append]
  cases h : sameG q p <;> simp [h]
theorem gsz_yes {x : List Pn} {q p : Pn} (h : sameG q p = true) : gsz (x ++ [q]) p = gsz x p + 1 := by rw [gsz_snoc, h]; rfl
theorem gsz_no {x : List Pn} {q p : Pn} (h : sameG q p = false) : gsz (x ++ [q]) p = gsz x p := by rw [gsz_snoc, h]; rfl
theorem gsz_le (x : List Pn) (p : Pn) : gsz x p ≤ x.length := List.countP_le_length
theorem gsz_pre {x pre suf : List Pn} (h : Cut x pre suf) (p : Pn) : gsz pre p ≤ x.length := by
  have := gsz_le pre p
  have := h.le
  omega
theorem sameG_refl (p : Pn) : sameG p p = true := by simp [sameG]
theorem sameG_iff {p q : Pn} : sameG p q = true ↔ p.a = q.a ∧ p.j = q.j ∧ p.s = q.s := by simp [sameG]
end Go.Proofs.Ytfpddhehdfckjaa
