/- What the walks of the laws on kept people share. -/
import Derived.Test.YtaojjlhlahoocaaLawKit2
import Derived.Test.YtaojjlhlahoocaaKeepS
import Derived.Test.YtaojjlhlahoocaaRecX
import Derived.Test.YtaojjlhlahoocaaSame
namespace Go.Proofs.Ytaojjlhlahoocaa
open Go.RowKit

theorem implKeepX (A A2 : Option Addr) (c c2 : Nat) (l : List Pn) (L : List (List Int)) (r : Rc) (k : Int) (w : World) (h : Arg w A l A2 L) :
    Calls Try.prog 16 #[.slice A l.length c, .slice A2 L.length c2, r.val, .int .i64 k] w (PX (kV l L r k) (kB l L r k) w) := (implAnonKeepV A A2 c c2 l L r k w h).mono fun _ _ h => h.px
theorem specKeepX (A A2 : Option Addr) (c c2 : Nat) (l : List Pn) (L : List (List Int)) (r : Rc) (k : Int) (w : World) (h : Arg w A l A2 L) :
    Calls Try.prog 17 #[.slice A l.length c, .slice A2 L.length c2, r.val, .int .i64 k] w (PX (kV l L r k) (kB l L r k) w) := (specAnonKeepV A A2 c c2 l L r k w h).mono fun _ _ h => h.px
section
variable {l : List Pn} {L : List (List Int)} {r : Rc} {k m : Int}
theorem kB_ok (h : true = kB l L r k) : okK l L r k := of_decide_eq_true h.symm
theorem kB_yes (h : okK l L r k) : kB l L r k = true := decide_eq_true h
theorem kV_yes (h : okK l L r k) : kV l L r k = kept (recd L r l) k := if_pos h
theorem okA_kept (h : okK l L r k) : okA (kept (recd L r l) k) L zeroR := ⟨kept_good (recd_good h.1), zeroR_good h.1.2.1⟩
theorem okK_kept (h : okK l L r k) (h1 : 1 ≤ m) (h2 : m ≤ 40) : okK (kept (recd L r l) k) L zeroR m := ⟨okA_kept h, h1, h2⟩
theorem kV_kept (h : okK l L r k) (hkm : k ≤ m) (h2 : m ≤ 40) : kV (kept (recd L r l) k) L zeroR m = kept (recd L r l) m := by
  have := h.2.1
  rw [kV_yes (okK_kept h (by omega) h2), recd_zero, kept_kept hkm]
theorem drop_kept (h : okK l L r k) : aDrop (kept (recd L r l) k) L zeroR k = 0 := by
  rw [aDrop_yes (okA_kept h) rfl h.2.1 h.2.2, recd_zero, kept_drp0]
  rfl
end
end Go.Proofs.Ytaojjlhlahoocaa
