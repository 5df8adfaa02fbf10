/- RecodePeople and AnonKeep with lists for what they hand back, whatever the arguments. -/
import Derived.Test.YtfpddhehdfckjaaAnonI
import Derived.Test.YtfpddhehdfckjaaRecodeS
namespace Go.Proofs.Ytfpddhehdfckjaa
open Go.RowKit

/-- A list of the call's own, and a bool. -/
def PV (V : List Pn) (b : Bool) (w : World) (e : Ending) (w' : World) : Prop := ∃ v, e = .returned (.tuple #[v, .bool b]) ∧ OPpl w' w.heap.size 82 v V ∧ Below w.heap.size w w'
def rV (l : List Pn) (L : List (List Int)) (r : Rc) : List Pn := if okA l L r then recd L r l else []
def rB (l : List Pn) (L : List (List Int)) (r : Rc) : Bool := decide (okA l L r)
instance (l : List Pn) (L : List (List Int)) (r : Rc) (k : Int) : Decidable (okK l L r k) := by unfold okK; infer_instance
def kV (l : List Pn) (L : List (List Int)) (r : Rc) (k : Int) : List Pn := if okK l L r k then kept (recd L r l) k else []
def kB (l : List Pn) (L : List (List Int)) (r : Rc) (k : Int) : Bool := decide (okK l L r k)
theorem rV_len (l : List Pn) (L : List (List Int)) (r : Rc) : (rV l L r).length ≤ l.length := by
  unfold rV
  split
  · rw [recd_length]; exact Nat.le_refl _
  · simp
theorem kV_len (l : List Pn) (L : List (List Int)) (r : Rc) (k : Int) : (kV l L r k).length ≤ l.length := by
  unfold kV
  split
  · have := keepTo_le (recd L r l) k (recd L r l)
    rw [recd_length] at this
    exact this
  · simp
theorem RcOut.pv {l : List Pn} {L : List (List Int)} {r : Rc} {w : World} {e : Ending} {w' : World} (h : RcOut 82 l L r w e w') : PV (rV l L r) (rB l L r) w e w' := by
  rcases h with ⟨hok, v, rfl, ho, hb⟩ | ⟨hok, v, rfl, ho, hb⟩
  · exact ⟨v, by rw [show rB l L r = true from decide_eq_true hok], by rw [show rV l L r = recd L r l from if_pos hok]; exact ho, hb⟩
  · exact ⟨v, by rw [show rB l L r = false from decide_eq_false hok], by rw [show rV l L r = [] from if_neg hok]; exact ho, hb⟩
theorem KpOut.pv {l : List Pn} {L : List (List Int)} {r : Rc} {k : Int} {w : World} {e : Ending} {w' : World} (h : KpOut 82 l L r k w e w') : PV (kV l L r k) (kB l L r k) w e w' := by
  rcases h with ⟨hok, v, rfl, ho, hb⟩ | ⟨hok, v, rfl, ho, hb⟩
  · exact ⟨v, by rw [show kB l L r k = true from decide_eq_true hok], by rw [show kV l L r k = kept (recd L r l) k from if_pos hok]; exact ho, hb⟩
  · exact ⟨v, by rw [show kB l L r k = false from decide_eq_false hok], by rw [show kV l L r k = [] from if_neg hok]; exact ho, hb⟩
theorem implRecodePeopleV (A A2 : Option Addr) (c c2 : Nat) (l : List Pn) (L : List (List Int)) (r : Rc) (w : World) (h : Arg w A l A2 L) :
    Calls Try.prog 34 #[.slice A l.length c, .slice A2 L.length c2, r.val] w (PV (rV l L r) (rB l L r) w) := (implRecodePeople A A2 c c2 l L r w h).mono fun _ _ h => h.pv
theorem specRecodePeopleV (A A2 : Option Addr) (c c2 : Nat) (l : List Pn) (L : List (List Int)) (r : Rc) (w : World) (h : Arg w A l A2 L) :
    Calls Try.prog 66 #[.slice A l.length c, .slice A2 L.length c2, r.val] w (PV (rV l L r) (rB l L r) w) := (specRecodePeople A A2 c c2 l L r w h).mono fun _ _ h => h.pv
theorem implAnonKeepV (A A2 : Option Addr) (c c2 : Nat) (l : List Pn) (L : List (List Int)) (r : Rc) (k : Int) (w : World) (h : Arg w A l A2 L) :
    Calls Try.prog 41 #[.slice A l.length c, .slice A2 L.length c2, r.val, .int .i64 k] w (PV (kV l L r k) (kB l L r k) w) := (implAnonKeep A A2 c c2 l L r k w h).mono fun _ _ h => h.pv
end Go.Proofs.Ytfpddhehdfckjaa
