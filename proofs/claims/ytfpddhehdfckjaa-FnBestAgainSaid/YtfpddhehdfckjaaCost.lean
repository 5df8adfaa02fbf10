/- AnonCost: the program's and the reference's. -/
import Derived.Test.YtfpddhehdfckjaaRecodeS
import Derived.Test.YtfpddhehdfckjaaGrp2
namespace Go.Proofs.Ytfpddhehdfckjaa
open Go.RowKit

set_option maxHeartbeats 400000 in
theorem implAnonCost (A : Option Addr) (c : Nat) (L : List (List Int)) (r : Rc) (w : World) (hg : Grd w w.heap.size A (grid L)) (hn : L.length ≤ 2000000) (hl : ∀ s ∈ L, s.length ≤ 2000000) :
    Calls Try.prog 32 #[.slice A L.length c, r.val] w fun e w' => e = .returned (.int .i64 (aCost L r)) ∧ Below w.heap.size w w' := by
  have HB := Lib.hid (fun o => (Below.refl w.heap.size w).alloc (Nat.le_refl _) o)
  have HL := Lib.hid hl
  clear hl
  obtain ⟨ra, rj, rs⟩ := r
  unfold Rc.val
  dsimp only
  have hblk0 := Blk.new w 44 #[.int .i64 ra, .int .i64 rj, .int .i64 rs]
  go_enter Try.func32, Try.ntmps32
  go_wp2_with fail
  refine (implRecodeValid A c L ⟨ra, rj, rs⟩ _ ((hg.below (HB.out _)).more (HB.out _).size) hn).mono ?_
  rintro e w1 ⟨hrb, hb1⟩
  have hblk1 := hblk0.below hb1 hblk0.lt
  have hc0 := hblk1.cell 0
  have hc1 := hblk1.cell 1
  have hc2 := hblk1.cell 2
  simp at hc0 hc1 hc2
  have hb01 := (HB.out _).trans (hb1.mono (HB.out _).size)
  rcases hrb.split with ⟨rfl, HG⟩ | ⟨rfl, HG⟩
  · have HF := Lib.hid (show aCost L ⟨ra, rj, rs⟩ = ra + rj + rs from if_pos HG.out)
    obtain ⟨hlad, ⟨hra0, hra1⟩, hrj, hrs⟩ := HG.out
    have h3 := hlad.1
    dsimp only at hra0 hra1 hrj hrs
    have hrj0 : 0 ≤ rj := by omega
    have hrj1 : rj ≤ 1 := by omega
    have hrs0 : 0 ≤ rs := by omega
    have hrs1 : rs ≤ 1 := by omega
    clear hrj hrs hlad
    go_wp2
    go_ret
    exact ⟨ret_int HF.out.symm, hb01⟩
  · have HF := Lib.hid (show aCost L ⟨ra, rj, rs⟩ = -1 from if_neg HG.out)
    go_wp2
    go_ret
    exact ⟨ret_int HF.out.symm, hb01⟩

set_option maxHeartbeats 400000 in
theorem specAnonCost (A : Option Addr) (c : Nat) (L : List (List Int)) (r : Rc) (w : World) (hg : Grd w w.heap.size A (grid L)) (hn : L.length ≤ 2000000) (hl : ∀ s ∈ L, s.length ≤ 2000000) :
    Calls Try.prog 63 #[.slice A L.length c, r.val] w fun e w' => e = .returned (.int .i64 (aCost L r)) ∧ Below w.heap.size w w' := by
  have HB := Lib.hid (fun o => (Below.refl w.heap.size w).alloc (Nat.le_refl _) o)
  have HL := Lib.hid hl
  clear hl
  obtain ⟨ra, rj, rs⟩ := r
  unfold Rc.val
  dsimp only
  have hblk0 := Blk.new w 44 #[.int .i64 ra, .int .i64 rj, .int .i64 rs]
  go_enter Try.func63, Try.ntmps63
  go_wp2_with fail
  refine (specRecodeValid A c L ⟨ra, rj, rs⟩ _ ((hg.below (HB.out _)).more (HB.out _).size) hn HL.out).mono ?_
  rintro e w1 ⟨hrb, hb1⟩
  have hblk1 := hblk0.below hb1 hblk0.lt
  have hc0 := hblk1.cell 0
  have hc1 := hblk1.cell 1
  have hc2 := hblk1.cell 2
  simp at hc0 hc1 hc2
  have hb01 := (HB.out _).trans (hb1.mono (HB.out _).size)
  rcases hrb.split with ⟨rfl, HG⟩ | ⟨rfl, HG⟩
  · have HF := Lib.hid (show aCost L ⟨ra, rj, rs⟩ = ra + rj + rs from if_pos HG.out)
    obtain ⟨hlad, ⟨hra0, hra1⟩, hrj, hrs⟩ := HG.out
    have h3 := hlad.1
    dsimp only at hra0 hra1 hrj hrs
    have hrj0 : 0 ≤ rj := by omega
    have hrj1 : rj ≤ 1 := by omega
    have hrs0 : 0 ≤ rs := by omega
    have hrs1 : rs ≤ 1 := by omega
    clear hrj hrs hlad
    go_wp2
    go_ret
    exact ⟨ret_int HF.out.symm, hb01⟩
  · have HF := Lib.hid (show aCost L ⟨ra, rj, rs⟩ = -1 from if_neg HG.out)
    go_wp2
    go_ret
    exact ⟨ret_int HF.out.symm, hb01⟩
end Go.Proofs.Ytfpddhehdfckjaa
