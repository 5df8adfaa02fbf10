/- The program's functions on groups. -/
import Derived.Test.YtfpddhehdfckjaaMap
import Derived.Test.YtfpddhehdfckjaaGrpS
namespace Go.Proofs.Ytfpddhehdfckjaa
open Go.RowKit Go.Maps
attribute [local go_sem ↓] Go.wp_at_zero Go.wp_at_succ

theorem GMap.look {w : World} {b : Nat} {x : List Pn} {q : Pn} {kv : Value} (h : GMap w b x) (hq : q.good) (hkv : (g0 q).val = kv) :
    (Instr.lookup 86 (.map (some b)) kv false).run Try.prog w = .ok (.int .i64 (gsz x q)) w := by
  subst hkv
  obtain ⟨D, h1, h2, h3, h4⟩ := h
  obtain ⟨kl, hkl⟩ := key_some _ (g0_good hq)
  obtain ⟨c, e1, e2, _⟩ := h1.lookup_int keyLaw Try.underlying86 Try.underlying3 (zeroInt w) hkl
  rw [(h2 q hq kl hkl).1] at e2
  rw [e1]
  simp at e2
  rw [e2]

theorem GMap.len {w : World} {b : Nat} {x : List Pn} (h : GMap w b x) (ty : TypeId) : (Builtin.len_ #[86] ty #[.map (some b)]).run Try.prog w = .ok (.int .i64 (gmany x)) w := by
  obtain ⟨D, h1, h2, h3, h4⟩ := h
  rw [h1.len Try.underlying86 ty, h3]

/-- What has been seen of a map of sizes, ranged over: the least so far, among those that have come. -/
def LInv (x : List Pn) (m : Nat) (D : DataW Unit) (left : Lit → Bool) : Prop :=
  (m = x.length ∨ ∃ p ∈ x, m = gsz x p) ∧ (∀ kl, left kl = true → Maps.has D kl = true) ∧ ∀ p ∈ x, ∀ kl, keyOf Try.prog 82 (g0 p).val = some kl → left kl = false → m ≤ gsz x p
/-- What a map of sizes holds. -/
def GHolds (x : List Pn) (D : DataW Unit) : Prop :=
  (∀ q, q.good → ∀ kl, keyOf Try.prog 82 (g0 q).val = some kl → D.atKey kl (.lit (.int .i64 0)) = .lit (.int .i64 (gsz x q)) ∧ Maps.has D kl = decide (0 < gsz x q)) ∧
  ∀ kl, Maps.has D kl = true → ∃ q ∈ x, keyOf Try.prog 82 (g0 q).val = some kl
theorem LInv.start {x : List Pn} {D : DataW Unit} (hg : ∀ p ∈ x, p.good) (h : GHolds x D) : LInv x x.length D (Maps.has D) :=
  ⟨.inl rfl, fun _ h => h, fun p hp kl hkl hf => by
    have := (h.1 p (hg p hp) kl hkl).2
    rw [hf] at this
    have h2 := gsz_pos hp
    simp at this
    omega⟩
theorem LInv.next {x : List Pn} {D : DataW Unit} {m : Nat} {left : Lit → Bool} {kl : Lit} {c : Int} {y : DataW Unit × List MemPlace} (hg : ∀ p ∈ x, p.good) (h : GHolds x D) (hi : LInv x m D left) (hl : left kl = true)
    (hv : plainElem (H := Unit) Try.prog 3 (.int .i64 c) = some y) (hat : ∀ zd, D.atKey kl zd = y.1) : ∃ n : Nat, c = n ∧ n ≤ x.length ∧ LInv x (min m n) D (fun z => left z && !z.sameKey kl) := by
  obtain ⟨h1, h2, h3⟩ := hi
  obtain ⟨q, hq, hqk⟩ := h.2 kl (h2 kl hl)
  have hc := (h.1 q (hg q hq) kl hqk).1
  rw [hat] at hc
  obtain ⟨a, e1, rfl, _⟩ := plainElem_int_inv Try.underlying3 hv
  have ec : c = gsz x q := by
    have e2 : c = a := by simpa using e1
    have e3 : a = gsz x q := by simpa using hc
    rw [e2, e3]
  refine ⟨gsz x q, ec, gsz_le x q, ?_, ?_, ?_⟩
  · rcases Nat.le_total m (gsz x q) with hle | hle
    · rw [Nat.min_eq_left hle]; exact h1
    · rw [Nat.min_eq_right hle]; exact .inr ⟨q, hq, rfl⟩
  · intro kz hz
    simp at hz
    exact h2 kz hz.1
  · intro p hp kp hkp hf
    by_cases e : kp = kl
    · subst e
      have := g0_same.1 (keyLaw.inj hkp hqk)
      rw [gsz_same this]
      omega
    · have : left kp = false := by
        simp [sameKey_ne e] at hf
        exact hf
      have := h3 p hp kp hkp this
      omega
theorem LInv.done {x : List Pn} {D : DataW Unit} {m : Nat} {left : Lit → Bool} (hg : ∀ p ∈ x, p.good) (hi : LInv x m D left) (hl : ∀ kl, left kl = false) : m = lst x := by
  refine lst_uniq (fun p hp => ?_) hi.1
  obtain ⟨kl, hkl⟩ := key_some _ (g0_good (hg p hp))
  exact hi.2.2 p hp kl hkl (hl kl)
theorem LInv.le {x : List Pn} {D : DataW Unit} {m : Nat} {left : Lit → Bool} (hi : LInv x m D left) : m ≤ x.length := by
  rcases hi.1 with h | ⟨p, _, h⟩
  · omega
  · have := gsz_le x p; omega

end Go.Proofs.Ytfpddhehdfckjaa
