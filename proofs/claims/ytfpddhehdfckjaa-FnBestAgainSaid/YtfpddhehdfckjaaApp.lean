/- Appending a list of persons that lies in memory to one of the call's own; parts of a list that lies in memory. -/
import Derived.Test.YtfpddhehdfckjaaRecodeS
import Derived.Test.YtfpddhehdfckjaaGrp2
import Derived.OwnWalk
import Derived.Deep.DeepMust
import Derived.Laws.AppendOwnNone
namespace Go.Proofs.Ytfpddhehdfckjaa
open Go.RowKit

theorem run_append_noneC {w : World} {P : Program} (base : Nat) (t ty e : TypeId) (i : TypeInfo) (size c : Nat) (ht : P.underlying t = some (.slice e)) (hi : P.info? e = some i)
    (v : Value) (n : Nat) (xs : List Value) (hown : w.ownsRow base e size v n xs) :
    (Builtin.append_ #[t, t] ty #[v, .slice none 0 c]).run P w = .ok v w := by
  rcases hown.2 with ⟨rfl, rfl⟩ | ⟨g, cap, cur, rfl, _, _, hnc, _⟩
  · simp [Builtin.append_, run_underlying ht, sizeOf, typeInfo, hi, Builtin.lenOf, Builtin.firstCells]
  · simp [Builtin.append_, run_underlying ht, sizeOf, typeInfo, hi, Builtin.lenOf, Builtin.firstCells, hnc, storeCells]
theorem wp_append_noneC {P : Program} {w : World} {o : Oper} {a : Act} {K : Act → World → Prop} {Q : Exit → Act → World → Prop} (s x : Operand) (t : TypeId)
    (ho : o.op = .call { callee := .builtin .append, args := #[s, x], argTypes := #[t, t] })
    (base : Nat) (e : TypeId) (i : TypeInfo) (size c : Nat) (ht : P.underlying t = some (.slice e)) (hi : P.info? e = some i)
    (v : Value) (n : Nat) (xs : List Value) (hs : a.eval s = v) (hown : w.ownsRow base e size v n xs) (hx : a.eval x = .slice none 0 c)
    (h : K (a.put o.dst v) w) : o.wp P a w K Q := by
  have hrun := run_append_noneC (P := P) (w := w) base t o.type e i size c ht hi v n xs hown
  unfold Oper.wp
  simp [execOp, ho, resolve, invoke, builtin, hs, hx, hrun, Result.andThen]
  exact h

theorem rds_newsN {w w' : World} {B size : Nat} {A : Addr} {n : Nat} {xs : List Value} (h : Rds w B size (some A) n xs) (hk : ∀ b o, b < B → w'.cell? ⟨b, o, none⟩ = w.cell? ⟨b, o, none⟩) : ∀ j u, xs[j]? = some u → w'.cell? (A.add j) = some u := by
  intro j u hu
  have hj := (List.getElem?_eq_some_iff.1 hu).1
  have hn : 0 < n := by
    rcases Nat.eq_zero_or_pos n with e | e
    · rw [h.1, e] at hj; omega
    · exact e
  obtain ⟨b, off, e, hb, hc⟩ := h.2 hn
  simp at e
  subst e
  have : (⟨b, off, none⟩ : Addr).add j = ⟨b, off + j, none⟩ := by
    unfold Addr.add
    split
    · rename_i e; subst e; rfl
    · rfl
  rw [this, hk _ _ hb]
  exact hc j u hu
theorem ones (l : List Pn) : ∀ u ∈ l.flatMap Pn.vals, u.oneCell' = true := by
  intro u hu
  obtain ⟨p, _, hp⟩ := List.mem_flatMap.1 hu
  exact one4 p u hp
/-- Appending persons that lie in memory to persons of one's own: at the operation, at a plain region's list, at a step of a region that draws. -/
theorem wp_append_ppl {w : World} {o : Oper} {a : Act} {K : Act → World → Prop} {Q : Exit → Act → World → Prop} (s x : Operand)
    (ho : o.op = .call { callee := .builtin .append, args := #[s, x], argTypes := #[40, 40] })
    (base B : Nat) (v : Value) (l l2 : List Pn) (hs : a.eval s = v) (hown : OPpl w base 82 v l) (A2 : Option Addr) (c2 n2 : Nat) (hx : a.eval x = .slice A2 n2 c2) (hn2 : n2 = l2.length) (hP : Ppl w B A2 l2)
    (hlen : l.length + l2.length ≤ 1000000) (hbase : base ≤ w.heap.size)
    (h : ∀ v' w', OPpl w' base 82 v' (l ++ l2) → w.grownBy w' v.ownBlock → K (a.put o.dst v') w') : o.wp Try.prog a w K Q := by
  obtain ⟨i0, hi, hz0, hz1, hz2⟩ := info_parts infoP
  subst hn2
  cases A2 with
  | none =>
    have h0 : l2 = [] := by
      rcases Nat.eq_zero_or_pos l2.length with e | e
      · exact List.eq_nil_of_length_eq_zero e
      · obtain ⟨b, off, e2, _⟩ := hP.2 e
        cases e2
    subst h0
    refine wp_append_noneC s x 40 ho base 82 i0 4 c2 Try.underlying40 hi v l.length (l.flatMap Pn.vals) hs hown hx ?_
    exact h v w (by rw [List.append_nil]; exact hown) (World.grownBy.refl _ _)
  | some ad =>
    refine wp_append_own _ s x 40 ho base 82 i0 _ 4 32 Try.underlying40 hi hz0 hz1 hz2 rfl (by decide) v l.length (l.flatMap Pn.vals) hs hown ad l2.length c2 (l2.flatMap Pn.vals) hx hP.1 (rds_newsN hP (fun _ _ _ => rfl)) (ones l2) (by unfold maxLen; omega) (by omega) hbase ?_
    intro v' w' hown' hgr _
    refine h v' w' ?_ hgr
    unfold OPpl
    rw [List.flatMap_append, List.length_append]
    exact hown'
theorem wpList_append_ppl {w : World} {ops : Array Oper} {rest : List Oper} {o : Oper} {a : Act} {Q : Exit → Act → World → Prop} (hgd : o.guard = none) (s x : Operand)
    (ho : o.op = .call { callee := .builtin .append, args := #[s, x], argTypes := #[40, 40] })
    (base B : Nat) (v : Value) (l l2 : List Pn) (hs : a.eval s = v) (hown : OPpl w base 82 v l) (A2 : Option Addr) (c2 n2 : Nat) (hx : a.eval x = .slice A2 n2 c2) (hn2 : n2 = l2.length) (hP : Ppl w B A2 l2)
    (hlen : l.length + l2.length ≤ 1000000) (hbase : base ≤ w.heap.size)
    (h : ∀ v' w', OPpl w' base 82 v' (l ++ l2) → w.grownBy w' v.ownBlock → wpList Try.prog ops Q rest (a.put o.dst v') w') : wpList Try.prog ops Q (o :: rest) a w :=
  wpList_plain hgd fun _ hK => wp_append_ppl s x ho base B v l l2 hs hown A2 c2 n2 hx hn2 hP hlen hbase fun v' w' h1 h2 => hK _ _ (h v' w' h1 h2)
theorem step_append_ppl {w : World} {ops : Array Oper} {o : Oper} {a : Act} {K : Act → World → Prop} {Q : Exit → Act → World → Prop} {E : Prop} (hgd : o.guard = none) (s x : Operand)
    (ho : o.op = .call { callee := .builtin .append, args := #[s, x], argTypes := #[40, 40] })
    (base B : Nat) (v : Value) (l l2 : List Pn) (hs : a.eval s = v) (hown : OPpl w base 82 v l) (A2 : Option Addr) (c2 n2 : Nat) (hx : a.eval x = .slice A2 n2 c2) (hn2 : n2 = l2.length) (hP : Ppl w B A2 l2)
    (hlen : l.length + l2.length ≤ 1000000) (hbase : base ≤ w.heap.size)
    (h : ∀ v' w', OPpl w' base 82 v' (l ++ l2) → w.grownBy w' v.ownBlock → K (a.put o.dst v') w') :
    if Region.wanted o (yielded ops a.tmps) = true then Oper.wp Try.prog o a w K Q else E := by
  have hw : Region.wanted o (yielded ops a.tmps) = true := by simp [Region.wanted, hgd]
  rw [if_pos hw]
  exact wp_append_ppl s x ho base B v l l2 hs hown A2 c2 n2 hx hn2 hP hlen hbase h
/-- The first m, and those from m on. -/
theorem Ppl.take {w : World} {B : Nat} {A : Option Addr} {x : List Pn} (h : Ppl w B A x) (m : Nat) : Ppl w B A (x.take m) := by
  have e := List.take_append_drop m x
  rw [← e] at h
  exact h.pre
theorem Ppl.drop {w : World} {B b off : Nat} {x : List Pn} (h : Ppl w B (some ⟨b, off, none⟩) x) (m : Nat) : Ppl w B (some ⟨b, off + m * 4, none⟩) (x.drop m) := by
  have hl : ∀ y : List Pn, (y.flatMap Pn.vals).length = y.length * 4 := fun y => flat_len Pn.vals 4 Pn.vals_len y
  refine ⟨hl _, fun hn => ?_⟩
  rw [List.length_drop] at hn
  obtain ⟨b2, off2, e, hb, hc⟩ := h.2 (by omega)
  simp only [Option.some.injEq, Addr.mk.injEq, and_true] at e
  obtain ⟨rfl, rfl⟩ := e
  refine ⟨b, off + m * 4, rfl, hb, fun j u hu => ?_⟩
  have e2 : x.flatMap Pn.vals = (x.take m).flatMap Pn.vals ++ (x.drop m).flatMap Pn.vals := by rw [← List.flatMap_append, List.take_append_drop]
  have h3 := hc (m * 4 + j) u (by
    rw [e2, List.getElem?_append_right (by rw [hl, List.length_take]; omega), hl, List.length_take, Nat.min_eq_left (by omega), Nat.add_sub_cancel_left]
    exact hu)
  rw [← Nat.add_assoc] at h3
  exact h3
theorem addr_add (b off k : Nat) : (⟨b, off, none⟩ : Addr).add k = ⟨b, off + k, none⟩ := by
  unfold Addr.add
  split
  · rename_i e; subst e; rfl
  · rfl
set_option linter.unusedVariables false in
theorem Ppl.cut {w : World} {B : Nat} {A : Option Addr} {x : List Pn} (h : Ppl w B A x) {k cap : Nat} (hk : k ≤ x.length) (hc : x.length ≤ cap) : Ppl w B (if cap = k then A else A.map (·.add (k * 4))) (x.drop k) := by
  rcases Nat.lt_or_ge k x.length with hlt | hge
  · obtain ⟨b, off, rfl, hb, _⟩ := h.2 (by omega)
    rw [if_neg (by omega)]
    have e : Option.map (fun a : Addr => a.add (k * 4)) (some ⟨b, off, none⟩) = some ⟨b, off + k * 4, none⟩ := by rw [Option.map_some, addr_add]
    rw [e]
    exact h.drop k
  · have e : x.drop k = [] := List.drop_eq_nil_of_le hge
    rw [e]
    exact ⟨by simp, fun h => by simp at h⟩
end Go.Proofs.Ytfpddhehdfckjaa
