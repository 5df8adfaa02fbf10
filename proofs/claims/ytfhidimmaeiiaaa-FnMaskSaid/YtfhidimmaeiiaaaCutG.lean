/- Parts of a grid that lies in memory; counting its flags. -/
import Derived.Test.YtfhidimmaeiiaaaMaskMany
import Derived.Test.YtfhidimmaeiiaaaVGr
namespace Go.Proofs.Ytfhidimmaeiiaaa
open Go.RowKit

theorem addrN (b off k : Nat) : (⟨b, off, none⟩ : Addr).add k = ⟨b, off + k, none⟩ := by
  unfold Addr.add
  split
  · rename_i e; subst e; rfl
  · rfl
theorem Grd.takeN {w : World} {B : Nat} {A : Option Addr} {rs : List (List Value)} (h : Grd w B A rs) (k : Nat) : Grd w B A (rs.take k) := fun hn => by
  obtain ⟨b, off, e, hb, hc⟩ := h (by rw [List.length_take] at hn; omega)
  refine ⟨b, off, e, hb, fun j r hr => hc j r ?_⟩
  rw [List.getElem?_take] at hr
  split at hr
  · exact hr
  · cases hr
theorem Grd.cutN {w : World} {B : Nat} {A : Option Addr} {rs : List (List Value)} (h : Grd w B A rs) {k cap : Nat} (_hk : k ≤ rs.length) (hc : rs.length ≤ cap) : Grd w B (if cap = k then A else A.map (·.add k)) (rs.drop k) := by
  rcases Nat.lt_or_ge k rs.length with hlt | hge
  · obtain ⟨b, off, rfl, hb, hcell⟩ := h (by omega)
    rw [if_neg (by omega)]
    have e : Option.map (fun a : Addr => a.add k) (some ⟨b, off, none⟩) = some ⟨b, off + k, none⟩ := by rw [Option.map_some, addrN]
    rw [e]
    refine fun _ => ⟨b, off + k, rfl, hb, fun j r hr => ?_⟩
    obtain ⟨A', c', h1, h2⟩ := hcell (k + j) r (by rw [List.getElem?_drop] at hr; exact hr)
    exact ⟨A', c', by rw [Nat.add_assoc]; exact h1, h2⟩
  · rw [List.drop_eq_nil_of_le hge]
    exact fun h => by simp at h
theorem cntBB_cut (L : List (List Bool)) (k : Nat) : cntBB L = cntBB (L.take k) + cntBB (L.drop k) := by
  have e : L = L.take k ++ L.drop k := (List.take_append_drop k L).symm
  have e2 : cntBB L = cntBB (L.take k ++ L.drop k) := by rw [← e]
  rw [e2]
  simp only [cntBB, List.map_append, List.sum_append]
theorem cntBB_len (L : List (List Bool)) (m : Nat) (h : ∀ r ∈ L, r.length ≤ m) : cntBB L ≤ L.length * m := by
  induction L with
  | nil => simp [cntBB]
  | cons r L ih =>
    have h1 := cntB_le r
    have h2 := h r (by simp)
    have h3 := ih (fun q hq => h q (by simp [hq]))
    have e : cntBB (r :: L) = cntB r + cntBB L := by simp [cntBB]
    rw [e, List.length_cons, Nat.succ_mul]
    omega
theorem implMaskManyN (A : Option Addr) (c n : Nat) (rs : List (List Bool)) (w : World) (hg : Grd w w.heap.size A (rs.map (·.map Value.bool))) (hl : n = rs.length) (hn : n ≤ 2000000) (hm : cntBB rs ≤ 2000000) :
    Calls Try.prog 7 #[.slice A n c] w fun e w' => e = .returned (.int .i64 (cntBB rs)) ∧ w = w' := by
  subst hl
  exact implMaskMany A c rs w hg hn hm
theorem specMaskManyN (A : Option Addr) (c n : Nat) (rs : List (List Bool)) (w : World) (hg : Grd w w.heap.size A (rs.map (·.map Value.bool))) (hl : n = rs.length) (hn : n ≤ 2000000) (hm : cntBB rs ≤ 2000000) :
    Calls Try.prog 8 #[.slice A n c] w fun e w' => e = .returned (.int .i64 (cntBB rs)) ∧ w = w' := by
  subst hl
  exact specMaskMany A c rs w hg hn hm
end Go.Proofs.Ytfhidimmaeiiaaa
