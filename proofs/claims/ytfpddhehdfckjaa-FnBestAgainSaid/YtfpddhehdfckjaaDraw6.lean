/- A number of people, drawn. -/
import Derived.Test.YtfpddhehdfckjaaDraw5
namespace Go.Proofs.Ytfpddhehdfckjaa
open Go.RowKit
set_option linter.unusedSimpArgs false
attribute [local go_sem ↓] Go.wp_at_zero Go.wp_at_succ

theorem three_of {w : World} {b t : Nat} {x y u z : Int} (h : Blk w b t [.int .i64 x, .int .i64 y, .int .i64 u]) (z0 : 0 ≤ z) (z1 : z < 3) {lo hi : Int} (hx : lo ≤ x) (hx2 : x ≤ hi) (hy : lo ≤ y) (hy2 : y ≤ hi) (hu : lo ≤ u) (hu2 : u ≤ hi) : ∃ kk : Int, lo ≤ kk ∧ kk ≤ hi ∧ w.cell? ⟨b, z.toNat, none⟩ = some (.int .i64 kk) := by
  rcases (show z = 0 ∨ z = 1 ∨ z = 2 by omega) with rfl | rfl | rfl
  · exact ⟨x, hx, hx2, h.cell 0⟩
  · exact ⟨y, hy, hy2, h.cell 1⟩
  · exact ⟨u, hu, hu2, h.cell 2⟩
/-- What drawing a number of people hands back. -/
def DKn (g N : Nat) (w : World) (e : Ending) (w' : World) : Prop := ∃ k : Int, e = .returned (.int .i64 k) ∧ (0 ≤ k ∧ k ≤ 41) ∧ Rdr w' g (N + 2) ∧ w.grownBy w' (some g)

set_option maxRecDepth 100000 in
set_option maxHeartbeats 4000000 in
theorem specDK (g N : Nat) (w : World) (h : Rdr w g N) (hN : N ≤ 100000) : Calls Try.prog 57 #[.pointer (some ⟨g, 0, none⟩)] w (DKn g N w) := by
  go_enter Try.func57, Try.ntmps57
  go_wp2_with fail
  refine (specPick g N 20 _ h (by omega) (by omega)).mono ?_
  rintro e w1 ⟨z, rfl, -, hr1, hgr1, -⟩
  have hlt := hr1.lt
  by_cases hz : z = 0
  · subst hz
    go_wp2_with fail
    refine (specPick g (N + 1) 3 _ (hr1.below ((Below.refl _ _).alloc (Nat.le_refl _) _)) (by omega) (by omega)).mono ?_
    rintro e w2 ⟨z, rfl, ⟨z0, z1, -⟩, hr2, hgr2, -⟩
    have z1 := z1 (by omega)
    have hn := (Blk.new w1 3 #[.int .i64 0, .int .i64 40, .int .i64 41]).grown hgr2 (by omega)
    obtain ⟨kk, hk0, hk9, hck⟩ : ∃ kk : Int, 0 ≤ kk ∧ kk ≤ 41 ∧ w2.cell? ⟨w1.heap.size, z.toNat, none⟩ = some (.int .i64 kk) := three_of hn z0 z1 (by omega) (by omega) (by omega) (by omega) (by omega) (by omega)
    have hz1 : z ≤ 2 := by omega
    go_wp2
    go_ret
    exact ⟨kk, rfl, ⟨hk0, hk9⟩, hr2, (hgr1.trans (World.grownBy_alloc _ _ _)).trans hgr2⟩
  · have hz' : (z == 0) = false := beq_eq_false_iff_ne.2 hz
    go_wp2_with fail
    refine (specPick g (N + 1) 4 _ hr1 (by omega) (by omega)).mono ?_
    rintro e w2 ⟨z2, rfl, ⟨z0, z1, -⟩, hr2, hgr2, -⟩
    have z1 := z1 (by omega)
    go_wp2
    go_ret
    exact ⟨1 + z2, rfl, by omega, hr2, hgr1.trans hgr2⟩
end Go.Proofs.Ytfpddhehdfckjaa
