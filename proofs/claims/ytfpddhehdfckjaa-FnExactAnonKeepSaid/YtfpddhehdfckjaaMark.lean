/- The marks of the exact laws: numbers written one after the other, and read again. -/
import Derived.Test.YtfpddhehdfckjaaSzeqPpl
import Derived.Test.YtfpddhehdfckjaaSzeqInt
import Derived.Maps.Range
namespace Go.Proofs.Ytfpddhehdfckjaa
open Go.RowKit

/-- The person that is marked from number k on; and n of them. -/
def mk1 (k : Int) (i : Nat) : Pn := ⟨k + 4 * i, k + 4 * i + 1, k + 4 * i + 1 + 1, k + 4 * i + 1 + 1 + 1⟩
def mks (k : Int) (n : Nat) : List Pn := (List.range n).map (mk1 k)
theorem mks_len (k : Int) (n : Nat) : (mks k n).length = n := by simp [mks]
theorem mks_next (k : Int) (n : Nat) : mks k (n + 1) = mks k n ++ [mk1 k n] := by simp [mks, List.range_succ]
theorem mks_at {k : Int} {n i : Nat} (h : i < n) : (mks k n)[i]? = some (mk1 k i) := by simp [mks, h]
theorem set_mid {α : Type} (a b : List α) (c d : α) : (a ++ c :: b).set a.length d = a ++ d :: b := by simp

theorem grown_set' (w : World) (g o : Nat) (v : Value) : w.grownBy (w.setCell ⟨g, o, none⟩ v) (some g) :=
  ⟨rfl, rfl, rfl, by simp, fun k _ hk => Below.heap_setCell w _ _ k (fun e => hk (by rw [e]))⟩
theorem own_set4 {w : World} {base T g c n : Nat} {pre suf : List Pn} {p q : Pn} (h : OPpl w base T (.slice (some ⟨g, 0, none⟩) n c) (pre ++ p :: suf)) (hn : n = (pre ++ p :: suf).length) :
    OPpl ((((w.setCell ⟨g, pre.length * 4, none⟩ (.int .i64 q.a)).setCell ⟨g, pre.length * 4 + 1, none⟩ (.int .i64 q.j)).setCell ⟨g, pre.length * 4 + 2, none⟩ (.int .i64 q.s)).setCell ⟨g, pre.length * 4 + 3, none⟩ (.int .i64 q.p)) base T (.slice (some ⟨g, 0, none⟩) n c) (pre ++ q :: suf) := by
  subst hn
  have h1 := (World.ownsRow.stored h (pre.length * 4) (.int .i64 q.a)).1
  have h2 := (World.ownsRow.stored h1 (pre.length * 4 + 1) (.int .i64 q.j)).1
  have h3 := (World.ownsRow.stored h2 (pre.length * 4 + 2) (.int .i64 q.s)).1
  have h4 := (World.ownsRow.stored h3 (pre.length * 4 + 3) (.int .i64 q.p)).1
  have hl : (pre.flatMap Pn.vals).length = pre.length * 4 := flat_len Pn.vals 4 Pn.vals_len pre
  unfold OPpl
  have e : (((((pre ++ p :: suf).flatMap Pn.vals).set (pre.length * 4) (.int .i64 q.a)).set (pre.length * 4 + 1) (.int .i64 q.j)).set (pre.length * 4 + 2) (.int .i64 q.s)).set (pre.length * 4 + 3) (.int .i64 q.p) = (pre ++ q :: suf).flatMap Pn.vals := by
    rw [List.flatMap_append, List.flatMap_cons, List.flatMap_append, List.flatMap_cons, ← hl]
    simp [Pn.vals]
  rw [e] at h4
  have e2 : (pre ++ p :: suf).length = (pre ++ q :: suf).length := by simp
  rw [e2] at h4 ⊢
  exact h4

set_option maxRecDepth 100000 in
set_option maxHeartbeats 2000000 in
theorem markP (base T g c : Nat) (l : List Pn) (k : Int) (w : World) (h : OPpl w base T (.slice (some ⟨g, 0, none⟩) l.length c) l) (hl : l.length ≤ 1048576) (k0 : 0 ≤ k) (k1 : k ≤ 100000000) :
    Calls Try.prog 43 #[.slice (some ⟨g, 0, none⟩) l.length c, .int .i64 k] w fun e w' => e = .returned (.int .i64 (k + 4 * l.length)) ∧ OPpl w' base T (.slice (some ⟨g, 0, none⟩) l.length c) (mks k l.length) ∧ w.grownBy w' (some g) := by
  go_enter Try.func43, Try.ntmps43
  go_wp2
  go_loopw [1, 5] (fun n i wr => ∃ pre suf, Cut l pre suf ∧ i = .int .i64 pre.length ∧ n = .int .i64 (k + 4 * (pre.length : Int)) ∧ OPpl wr base T (.slice (some ⟨g, 0, none⟩) l.length c) (mks k pre.length ++ suf) ∧ w.grownBy wr (some g)) (fun _ i _ => l.length - (intOf i).toNat)
  case atStart => exact ⟨[], l, Cut.zero _, rfl, by simp, by simpa [mks] using h, ⟨rfl, rfl, rfl, Nat.le_refl _, fun _ _ _ => rfl⟩⟩
  case round =>
    obtain ⟨pre, suf, hcut, rfl, rfl, hown, hgr⟩ := hrel
    cases suf with
    | nil =>
      have hge := hcut.len0
      have HD := Lib.hid hcut.done
      go_wp2
      go_ret
      refine ⟨ret_int (by rw [HD.out]), ?_, hgr⟩
      rw [List.append_nil, HD.out] at hown
      exact hown
    | cons p suf =>
      have hlt := hcut.len1
      have hml := mks_len k pre.length
      have hlen : l.length = (mks k pre.length ++ p :: suf).length := by rw [List.length_append, hml]; have := hcut.len; simpa using this
      have hown2 : OPpl wr base T (.slice (some ⟨g, 0, none⟩) (mks k pre.length ++ p :: suf).length c) (mks k pre.length ++ p :: suf) := by rw [← hlen]; exact hown
      have hcell : ∀ j, j < 4 → wr.cell? ⟨g, pre.length * 4 + j, none⟩ = p.vals[j]? ∧ wr.frozen? ⟨g, pre.length * 4 + j, none⟩ = false := fun j hj => by
        refine ⟨?_, World.ownsRow.frozenAt hown2 _⟩
        rw [World.ownsRow.cellAt hown2 _ (by omega)]
        have := flat_at Pn.vals 4 Pn.vals_len (mks k pre.length ++ p :: suf) pre.length p (by rw [List.getElem?_append_right (by omega), hml]; simp) j hj
        exact this
      have hd0 := (hcell 0 (by omega)).1
      have hd1 := (hcell 1 (by omega)).1
      have hd2 := (hcell 2 (by omega)).1
      have hd3 := (hcell 3 (by omega)).1
      have hf0 := (hcell 0 (by omega)).2
      have hf1 := (hcell 1 (by omega)).2
      have hf2 := (hcell 2 (by omega)).2
      have hf3 := (hcell 3 (by omega)).2
      simp [Pn.vals] at hd0 hd1 hd2 hd3 hf0
      have HN := Lib.hid (own_set4 (q := mk1 k pre.length) hown hlen)
      rw [hml] at HN
      have HG := Lib.hid (((hgr.trans (grown_set' wr g (pre.length * 4) (.int .i64 (mk1 k pre.length).a))).trans (grown_set' _ g (pre.length * 4 + 1) (.int .i64 (mk1 k pre.length).j))).trans (grown_set' _ g (pre.length * 4 + 2) (.int .i64 (mk1 k pre.length).s))|>.trans (grown_set' _ g (pre.length * 4 + 3) (.int .i64 (mk1 k pre.length).p)))
      clear hcell hml hown hgr hlen hown2
      go_wp2
      go_roundw
      case rel =>
        refine ⟨pre ++ [p], suf, hcut.next, by simp, by rw [List.length_append]; simp; omega, ?_, HG.out⟩
        rw [List.length_append, List.length_singleton, mks_next, List.append_assoc]
        exact HN.out
      case measure => simp [intOf]; omega

set_option maxRecDepth 100000 in
set_option maxHeartbeats 2000000 in
theorem heldP (A : Option Addr) (c n : Nat) (k : Int) (w : World) (h : Ppl w w.heap.size A (mks k n)) (hl : n ≤ 1048576) (k0 : 0 ≤ k) (k1 : k ≤ 100000000) :
    Calls Try.prog 45 #[.slice A n c, .int .i64 k] w fun e w' => e = .returned (.int .i64 (k + 4 * n)) ∧ w = w' := by
  go_enter Try.func45, Try.ntmps45
  go_wp2
  go_loop [1, 5] (fun t i => ∃ m : Nat, m ≤ n ∧ i = .int .i64 m ∧ t = .int .i64 (k + 4 * (m : Int))) (fun _ i => n - (intOf i).toNat)
  case atStart => exact ⟨0, by omega, rfl, by simp⟩
  case round =>
    obtain ⟨m, hm, rfl, rfl⟩ := hrel
    by_cases hlt : m < n
    · obtain ⟨b, off, rfl, hb, hc0, hc1, hc2, hc3⟩ := h.at_ (mks_at hlt)
      simp only [mk1] at hc0 hc1 hc2 hc3
      go_wp2
      go_round
      case rel => exact ⟨m + 1, by omega, by go_num, by simp; omega⟩
      case measure => simp [intOf]; omega
    · have HE := Lib.hid (show m = n by omega)
      go_wp2
      go_ret
      exact ⟨ret_int (by rw [HE.out]), rfl⟩
end Go.Proofs.Ytfpddhehdfckjaa
