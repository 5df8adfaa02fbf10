/- RecodePeople with a list in memory. -/
import Derived.Test.YtfpddhehdfckjaaPV
namespace Go.Proofs.Ytfpddhehdfckjaa
open Go.RowKit

/-- A list in memory, and a bool. -/
def PX (V : List Pn) (b : Bool) (w : World) (e : Ending) (w' : World) : Prop := ∃ A c, e = .returned (.tuple #[.slice A V.length c, .bool b]) ∧ Ppl w' w'.heap.size A V ∧ V.length ≤ c ∧ c ≤ 9223372036854775807 ∧ Below w.heap.size w w'
theorem PV.px {V : List Pn} {b : Bool} {w : World} {e : Ending} {w' : World} (h : PV V b w e w') : PX V b w e w' := by
  obtain ⟨v, rfl, ho, hb⟩ := h
  obtain ⟨A, c, rfl, hP, h1, h2⟩ := ho.form
  exact ⟨A, c, rfl, hP, h1, h2, hb⟩
theorem implRecX (A A2 : Option Addr) (c c2 : Nat) (l : List Pn) (L : List (List Int)) (r : Rc) (w : World) (h : Arg w A l A2 L) :
    Calls Try.prog 34 #[.slice A l.length c, .slice A2 L.length c2, r.val] w (PX (rV l L r) (rB l L r) w) := (implRecodePeopleV A A2 c c2 l L r w h).mono fun _ _ h => h.px
section
variable {l : List Pn} {L : List (List Int)} {r : Rc}
theorem rB_yes (h : okA l L r) : rB l L r = true := decide_eq_true h
theorem rV_yes (h : okA l L r) : rV l L r = recd L r l := if_pos h
end
end Go.Proofs.Ytfpddhehdfckjaa
