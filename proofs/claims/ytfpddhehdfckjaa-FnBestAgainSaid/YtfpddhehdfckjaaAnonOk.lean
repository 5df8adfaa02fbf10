/- AnonOk: the program's and the reference's. -/
import Derived.Test.YtfpddhehdfckjaaAnonI
namespace Go.Proofs.Ytfpddhehdfckjaa
open Go.RowKit

theorem implAnonOk (A A2 : Option Addr) (c c2 : Nat) (l : List Pn) (L : List (List Int)) (r : Rc) (k : Int) (w : World) (h : Arg w A l A2 L) :
    Calls Try.prog 36 #[.slice A l.length c, .slice A2 L.length c2, r.val, .int .i64 k] w fun e w' => e = .returned (.bool (aDrop l L r k == 0)) ∧ Below w.heap.size w w' := by
  have H := Lib.hid h
  clear h
  have HB := Lib.hid (fun o => (Below.refl w.heap.size w).alloc (Nat.le_refl _) o)
  obtain ⟨ra, rj, rs⟩ := r
  unfold Rc.val
  dsimp only
  go_enter Try.func36, Try.ntmps36
  go_wp2_with fail
  refine (implAnonDrop A A2 c c2 l L ⟨ra, rj, rs⟩ k _ (H.out.below (HB.out _))).mono ?_
  rintro e w1 ⟨rfl, hb1⟩
  go_wp2
  go_ret
  exact ⟨rfl, (HB.out _).trans (hb1.mono (HB.out _).size)⟩

end Go.Proofs.Ytfpddhehdfckjaa
