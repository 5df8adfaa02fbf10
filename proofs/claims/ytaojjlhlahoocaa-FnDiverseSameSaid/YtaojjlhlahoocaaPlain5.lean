/- Plain facts for the laws on bands: pays of nothing, one group of all, people twice. No program text is named here. -/
import Derived.Test.YtaojjlhlahoocaaPlain3
import Derived.Test.YtaojjlhlahoocaaGrpS
namespace Go.Proofs.Ytaojjlhlahoocaa
open Go.RowKit

section
variable {l : List Pn} {L : List (List Int)} {r : Rc} {k : Int}
theorem dFar_two (h : okA l L r) (h0 : 0 ≤ k) (h1 : k < l.length) (h2 : 2 * l.length ≤ 40) : dFar (l ++ l) L r k = 4 * dFar l L r k := by
  have h3 : k < ((l ++ l).length : Int) := by rw [List.length_append]; omega
  have hk : k.toNat < (recd L r l).length := by rw [recd_length]; omega
  rw [dFar_yes (okA_two h h2) rfl h0 h3, dFar_yes h rfl h0 h1, recd_append, nth_append hk, gsz_two, far_two]
  push_cast
  rfl
/-- The group of the person with an index, when all is well. -/
theorem far_facts (h : okA l L r) (h0 : 0 ≤ k) (h1 : k < l.length) : dFar l L r k % 2 = 0 ∧ (gSize l L r k < l.length ∨ dFar l L r k = 0) ∧ dFar l L r k ≤ 2 * (l.length : Int) * gSize l L r k ∧ 1 ≤ gSize l L r k ∧ gSize l L r k ≤ l.length := by
  have hk : k.toNat < (recd L r l).length := by rw [recd_length]; omega
  have hg := (recd_good h).1
  rw [dFar_yes h rfl h0 h1, gSize_yes h rfl h0 h1]
  have e1 := far_even (p := nth (recd L r l) k.toNat) hg
  have e2 := far_le (p := nth (recd L r l) k.toNat) hg
  have e3 := gsz_le (recd L r l) (nth (recd L r l) k.toNat)
  have e4 := gsz_pos (nth_mem hk)
  rw [recd_length] at e2 e3
  refine ⟨e1, ?_, ?_, by omega, by omega⟩
  · by_cases e : gsz (recd L r l) (nth (recd L r l) k.toNat) = l.length
    · right
      rw [far_whole (by rw [e, recd_length])]
      rfl
    · left; omega
  · have : ((2 * l.length * gsz (recd L r l) (nth (recd L r l) k.toNat) : Nat) : Int) = 2 * (l.length : Int) * (gsz (recd L r l) (nth (recd L r l) k.toNat) : Int) := by push_cast; rfl
    omega
theorem size_facts (h : okA l L r) (h0 : 0 ≤ k) (h1 : k < l.length) : 1 ≤ dSize l L r k ∧ dSize l L r k ≤ 10 ∧ dSize l L r k ≤ gSize l L r k ∧ dSize l L r k ≤ dSize l L (topR L) k := by
  have hk : k.toNat < (recd L r l).length := by rw [recd_length]; omega
  have hg := (recd_good h).1
  rw [dSize_yes h rfl h0 h1, gSize_yes h rfl h0 h1, dSize_yes (okA_top h) rfl h0 h1]
  have e1 := dv_pos (nth_mem hk) (grp_self _) (hg _ (nth_mem hk))
  have e2 := dv_le (grpOf (nth (recd L r l) k.toNat)) (recd L r l)
  have e3 := dv_gsz (recd L r l) (nth (recd L r l) k.toNat)
  have e4 := dv_coarse h (okA_top h) (topR_finer h.2) (k := k.toNat) (by omega)
  omega
/-- Persons of one group. -/
theorem same_facts {i : Nat} (h : okA l L r) (h0 : 0 ≤ k) (h1 : k < l.length) (hi : i < l.length) (hs : sameG (nth (recd L r l) i) (nth (recd L r l) k.toNat) = true) : dSize l L r (i : Int) = dSize l L r k ∧ dFar l L r (i : Int) = dFar l L r k := by
  have hi0 : (0 : Int) ≤ (i : Int) := by omega
  have hi1 : (i : Int) < (l.length : Int) := by omega
  rw [dSize_yes h rfl hi0 hi1, dSize_yes h rfl h0 h1, dFar_yes h rfl hi0 hi1, dFar_yes h rfl h0 h1, Int.toNat_natCast, grpOf_same hs, gsz_congr hs]
  exact ⟨rfl, rfl⟩
end

/-! ### Pays of nothing -/
def noPay (p : Pn) : Pn := ⟨p.a, p.j, p.s, 0⟩
def noPays (l : List Pn) : List Pn := l.map noPay
theorem noPays_len (l : List Pn) : (noPays l).length = l.length := by simp [noPays]
theorem noPay_ok {l : List Pn} {L : List (List Int)} {r : Rc} (h : okA l L r) : okA (noPays l) L r := by
  refine ⟨⟨fun p hp => ?_, by rw [noPays_len]; exact h.1.2⟩, h.2⟩
  obtain ⟨q, hq, rfl⟩ := List.mem_map.1 hp
  obtain ⟨h1, h2, h3, h4⟩ := h.1.1 q hq
  exact ⟨h1, h2, h3, by unfold noPay; dsimp only; omega⟩
theorem noPay_zero {l : List Pn} {L : List (List Int)} {r : Rc} : ∀ q ∈ recd L r (noPays l), q.p = 0 := by
  intro q hq
  obtain ⟨p, hp, rfl⟩ := List.mem_map.1 hq
  obtain ⟨p', _, rfl⟩ := List.mem_map.1 hp
  rfl
theorem noPay_facts {l : List Pn} {L : List (List Int)} {r : Rc} {k : Int} (h : okA l L r) (h0 : 0 ≤ k) (h1 : k < l.length) : dSize (noPays l) L r k = 1 ∧ dFar (noPays l) L r k = 0 := by
  have h3 : k < ((noPays l).length : Int) := by rw [noPays_len]; exact h1
  have hk : k.toNat < (recd L r (noPays l)).length := by rw [recd_length]; omega
  have hg := (recd_good (noPay_ok h)).1
  have e1 := dv_pos (nth_mem hk) (grp_self _) (hg _ (nth_mem hk))
  have e2 := dv_zero (x := recd L r (noPays l)) (f := grpOf (nth (recd L r (noPays l)) k.toNat)) noPay_zero
  have e3 := far_zero (x := recd L r (noPays l)) (f := grpOf (nth (recd L r (noPays l)) k.toNat)) noPay_zero
  rw [dSize_yes (noPay_ok h) rfl h0 h3, dFar_yes (noPay_ok h) rfl h0 h3]
  refine ⟨by omega, ?_⟩
  rw [show gsz (recd L r (noPays l)) (nth (recd L r (noPays l)) k.toNat) = (recd L r (noPays l)).countP (grpOf (nth (recd L r (noPays l)) k.toNat)) from rfl, e3]
  rfl

/-! ### One group of all -/
def oneL : List (List Int) := [[0, 0, 0, 0]]
def oneR : Rc := ⟨1, 1, 1⟩
theorem oneL_good : goodLad oneL := by decide
theorem oneR_good : goodR oneL oneR := ⟨oneL_good, by decide, .inr rfl, .inr rfl⟩
theorem okA_one {l : List Pn} {L : List (List Int)} {r : Rc} (h : okA l L r) : okA l oneL oneR := ⟨h.1, oneR_good⟩
theorem ix_zero (k : Nat) : ix [0, 0, 0, 0] k = 0 := by
  unfold ix
  rcases (show k = 0 ∨ k = 1 ∨ k = 2 ∨ k = 3 ∨ 4 ≤ k by omega) with rfl | rfl | rfl | rfl | h
  · rfl
  · rfl
  · rfl
  · rfl
  · rw [List.getD_eq_getElem?_getD, List.getElem?_eq_none (by simpa using h)]
    rfl
theorem one_same (p q : Pn) : sameG (rec1 oneL oneR p) (rec1 oneL oneR q) = true := by
  rw [sameG_iff]
  refine ⟨?_, by simp [rec1, oneR], by simp [rec1, oneR]⟩
  show lcode oneL 1 p.a = lcode oneL 1 q.a
  unfold lcode
  rw [if_neg (by decide), if_neg (by decide)]
  show ix [0, 0, 0, 0] p.a.toNat = ix [0, 0, 0, 0] q.a.toNat
  rw [ix_zero, ix_zero]
theorem one_all (l : List Pn) (p : Pn) : gsz (recd oneL oneR l) (rec1 oneL oneR p) = (recd oneL oneR l).length := by
  unfold gsz
  rw [List.countP_eq_length]
  intro q hq
  obtain ⟨z, _, rfl⟩ := List.mem_map.1 hq
  exact one_same z p
theorem one_facts {l : List Pn} {L : List (List Int)} {r : Rc} {k : Int} (h : okA l L r) (h0 : 0 ≤ k) (h1 : k < l.length) : dFar l oneL oneR k = 0 ∧ dSize l L r k ≤ dSize l oneL oneR k := by
  have hk : k.toNat < l.length := by omega
  have e : nth (recd oneL oneR l) k.toNat = rec1 oneL oneR (nth l k.toNat) := nth_map hk _
  have e2 : nth (recd L r l) k.toNat = rec1 L r (nth l k.toNat) := nth_map hk _
  rw [dFar_yes (okA_one h) rfl h0 h1, dSize_yes (okA_one h) rfl h0 h1, dSize_yes h rfl h0 h1, e, e2]
  refine ⟨?_, ?_⟩
  · rw [far_whole (one_all l _)]
    rfl
  · have := dv_map (f := rec1 L r) (g := rec1 oneL oneR) (l := l) (fun p _ q _ _ => one_same p q) (fun _ _ => rfl) (nth_mem hk)
    exact Int.ofNat_le.2 this
end Go.Proofs.Ytaojjlhlahoocaa
