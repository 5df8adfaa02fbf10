/- laws.samePeople at lists that are equal. -/
import Derived.Test.YtaojjlhlahoocaaRecodeS
import Derived.Test.YtaojjlhlahoocaaGrp2
namespace Go.Proofs.Ytaojjlhlahoocaa
open Go.RowKit

set_option maxRecDepth 100000 in
set_option maxHeartbeats 1000000 in
theorem sameS (A A2 : Option Addr) (c c2 : Nat) (l : List Pn) (w : World) (hg : Ppl w w.heap.size A l) (hg2 : Ppl w w.heap.size A2 l) (hn : l.length ≤ 2000000) :
    Calls Try.prog 18 #[.slice A l.length c, .slice A2 l.length c2] w fun e w' => e = .returned (.bool true) ∧ Below w.heap.size w w' := by
  go_enter Try.func18, Try.ntmps18
  go_wp2
  go_loopw [5] (fun i wr => ∃ pre suf, Cut l pre suf ∧ i = .int .i64 pre.length ∧ Below w.heap.size w wr) (fun i _ => l.length - (intOf i).toNat)
  case atStart => exact ⟨[], l, Cut.zero _, rfl, Below.refl _ _⟩
  case round =>
    obtain ⟨pre, suf, hcut, rfl, hbel⟩ := hrel
    cases suf with
    | nil =>
      have hge := hcut.len0
      go_wp2
      go_ret
      exact ⟨rfl, hbel⟩
    | cons q suf =>
      have hlt := hcut.len1
      obtain ⟨b, off, rfl, hb, hc0, hc1, hc2, hc3⟩ := (hg.below hbel).at_ hcut.at_
      obtain ⟨b2, off2, rfl, hb2, hd0, hd1, hd2, hd3⟩ := (hg2.below hbel).at_ hcut.at_
      have hj0 : (0 : Int) ≤ (pre.length : Int) := Int.natCast_nonneg _
      have hj1 : (pre.length : Int) < (l.length : Int) := by omega
      go_wp2_with fail
      go_region
      go_wp2
      go_roundw
      case rel => exact ⟨pre ++ [q], suf, hcut.next, by simp, hbel.drew⟩
      case measure => simp [intOf]; omega
end Go.Proofs.Ytaojjlhlahoocaa
