/- A row put behind the rows of a grid; appending within a region that draws its order; tables that are none. No program text is named here. -/
import Derived.Test.YtfhidimmaeiiaaaVGr3
import Derived.Test.YtfhidimmaeiiaaaTable
namespace Go.Proofs.Ytfhidimmaeiiaaa
open Go.RowKit
set_option linter.unusedVariables false

theorem VG.onto {α : Type} {f : α → Value} {w0 w : World} {base base2 TI TH n : Nat} {v r : Value} {ns : List Nat} {s : List α} (H : VG f w0 base TI TH v ns) (hk : ∀ b, base ≤ b → b < w0.heap.size → w.heap[b]? = w0.heap[b]?) (hs0 : w0.heap.size ≤ w.heap.size)
    (hr : w.ownsRow base2 TI 1 r n (s.map f)) (hsn : s.length = n) (hq : ∀ q, r.ownBlock = some q → q < base ∨ w0.heap.size ≤ q) :
    ∃ hs : List Value, w.ownsRow base TH 1 v ns.length hs ∧
      ∀ (w' : World) (v' : Value) (o : Obj), w'.ownsRow base TH 1 v' (ns.length + 1) (hs ++ [r]) → (w.alloc o).grownBy w' v.ownBlock →
        ∃ (A : Option Addr) (c : Nat) (L : List (List α)), v' = .slice A L.length c ∧ Grd w' w'.heap.size A (L.map (·.map f)) ∧ L.map List.length = ns ++ [n] ∧ L.length ≤ c ∧ c ≤ 9223372036854775807 := by
  obtain ⟨hs, h1, h2, _⟩ := H
  obtain ⟨L, hL, hL2⟩ := choose_rows2 h2
  have hlen : L.length = ns.length := by rw [← hL, List.length_map]
  have hhs : hs.length = ns.length := by have := h1.1; omega
  have h1w : w.ownsRow base TH 1 v ns.length hs := own_holdB h1 (fun b hb hl => hk b (own_base h1 b hb) hl)
  refine ⟨hs, h1w, fun w' v' o ho hg => ?_⟩
  have hstep : ∀ b, b < w.heap.size → v.ownBlock ≠ some b → w'.heap[b]? = w.heap[b]? := fun b hb hv => (hg.block b (by simp; omega) (fun e => hv e.symm)).trans (Below.heap_alloc w o b hb)
  have hrow : ∀ (k : Nat) (q : List α), (L ++ [s])[k]? = some q → ∃ A' c', (hs ++ [r])[k]? = some (.slice A' q.length c') ∧ q.length ≤ c' ∧ c' ≤ maxLen ∧ Rds w' w'.heap.size 1 A' q.length (q.map f) := fun k q hk2 => by
    have h3 : ∃ r' base', (hs ++ [r])[k]? = some r' ∧ w'.ownsRow base' TI 1 r' q.length (q.map f) := by
      rcases Nat.lt_or_ge k L.length with h | h
      · rw [List.getElem?_append_left h] at hk2
        obtain ⟨r', h4, h5, h6⟩ := hL2 k q hk2
        refine ⟨r', base, by rw [List.getElem?_append_left (by omega)]; exact h4, own_holdB (own_holdB (w' := w) h5 (fun b hb hl => hk b (own_base h5 b hb) hl)) (fun b hb hl => hstep b hl (h6 b hb))⟩
      · rw [List.getElem?_append_right h] at hk2
        obtain ⟨hlt, e⟩ := List.getElem?_eq_some_iff.1 hk2
        simp at hlt
        simp at e
        subst e
        refine ⟨r, base2, by rw [List.getElem?_append_right (by omega), hhs, ← hlen]; simp [show k - L.length = 0 by omega], ?_⟩
        rw [hsn]
        refine own_holdB hr (fun b hb hl => hstep b hl (fun e => ?_))
        have h7 := own_base h1 b e
        have h8 := own_lt h1 b e
        rcases hq b hb with h9 | h9 <;> omega
    obtain ⟨r', base', h4, h5⟩ := h3
    obtain ⟨A', c', rfl, h8, h9, h10⟩ := own_rds h5 rfl
    exact ⟨A', c', h4, h8, h9, h10⟩
  have hll : (L ++ [s]).length = ns.length + 1 := by rw [List.length_append, hlen]; rfl
  rw [← hll] at ho
  have hmap : (L ++ [s]).map List.length = ns ++ [n] := by rw [List.map_append, hL]; simp [hsn]
  rcases ho.2 with ⟨rfl, h0⟩ | ⟨g, cap, cur, rfl, hb, hh, hnc, hm, hsz, ht⟩
  · rw [List.length_append] at h0
    simp at h0
  · refine ⟨_, _, L ++ [s], rfl, fun hn => ⟨g, 0, rfl, (Array.getElem?_eq_some_iff.1 hh).1, fun k r hr => ?_⟩, hmap, hnc, by unfold maxLen at hm; omega⟩
    rw [List.getElem?_map] at hr
    obtain ⟨q, hs1, rfl⟩ := Option.map_eq_some_iff.1 hr
    obtain ⟨A', c', h4, h8, h9, h10⟩ := hrow k q hs1
    have hk : k < (L ++ [s]).length := (List.getElem?_eq_some_iff.1 hs1).1
    refine ⟨A', c', ?_, by simpa using h8, h9, by simpa using h10⟩
    rw [Nat.zero_add, World.ownsRow.cellAt ho k (by omega)]
    simpa using h4
theorem step_append_atG {P : Program} {w : World} {ops : Array Oper} {o : Oper} {a : Act} {K : Act → World → Prop} {Q : Exit → Act → World → Prop} {E : Prop} (hw : Region.wanted o (yielded ops a.tmps) = true) (s x : Operand) (t : TypeId)
    (ho : o.op = .call { callee := .builtin .append, args := #[s, x], argTypes := #[t, t] })
    (base : Nat) (e : TypeId) (i : TypeInfo) (z : Value) (size bytes : Nat) (ht : P.underlying t = some (.slice e)) (hi : P.info? e = some i) (hz : i.zero = some z)
    (hsize : i.size = size) (hby : i.bytes = bytes) (hzs : z.cells.size = size) (hsz : 0 < size)
    (v : Value) (n : Nat) (xs : List Value) (hs : a.eval s = v) (hown : w.ownsRow base e size v n xs)
    (ad : Addr) (m c : Nat) (news : List Value) (hx : a.eval x = .slice (some ad) m c) (hl : news.length = m * size) (hnews : ∀ j u, news[j]? = some u → w.cell? (ad.add j) = some u) (h1 : ∀ u ∈ news, u.oneCell' = true)
    (h63 : n + m ≤ maxLen) (hbytes : (n + m) * bytes ≤ 140737488355328) (hbase : base ≤ w.heap.size)
    (h : ∀ v' w', w'.ownsRow base e size v' (n + m) (xs ++ news) → w.grownBy w' v.ownBlock → (v'.ownBlock = v.ownBlock ∨ v'.ownBlock = some w.heap.size) → K (a.put o.dst v') w') :
    if Region.wanted o (yielded ops a.tmps) = true then Oper.wp P o a w K Q else E := by
  rw [if_pos hw]
  obtain ⟨v', w', hr, h2, h3, h4, h5⟩ := run_append_own_at (P := P) w base t o.type e i z size bytes ht hi hz hsize hby hzs hsz v n xs hown ad m c news hl hnews h1 h63 hbytes hbase
  unfold Oper.wp execOp
  simp only [ho, resolve, invoke, builtin, Sem.run_bind, Sem.run_pure, Result.andThen_ok, List.map_toArray, List.map_cons, List.map_nil, hs, hx, hr]
  exact h v' w' h2 h3 h5
theorem step_append_at {P : Program} {w : World} {ops : Array Oper} {o : Oper} {a : Act} {K : Act → World → Prop} {Q : Exit → Act → World → Prop} {E : Prop} (hgd : o.guard = none) (s x : Operand) (t : TypeId)
    (ho : o.op = .call { callee := .builtin .append, args := #[s, x], argTypes := #[t, t] })
    (base : Nat) (e : TypeId) (i : TypeInfo) (z : Value) (size bytes : Nat) (ht : P.underlying t = some (.slice e)) (hi : P.info? e = some i) (hz : i.zero = some z)
    (hsize : i.size = size) (hby : i.bytes = bytes) (hzs : z.cells.size = size) (hsz : 0 < size)
    (v : Value) (n : Nat) (xs : List Value) (hs : a.eval s = v) (hown : w.ownsRow base e size v n xs)
    (ad : Addr) (m c : Nat) (news : List Value) (hx : a.eval x = .slice (some ad) m c) (hl : news.length = m * size) (hnews : ∀ j u, news[j]? = some u → w.cell? (ad.add j) = some u) (h1 : ∀ u ∈ news, u.oneCell' = true)
    (h63 : n + m ≤ maxLen) (hbytes : (n + m) * bytes ≤ 140737488355328) (hbase : base ≤ w.heap.size)
    (h : ∀ v' w', w'.ownsRow base e size v' (n + m) (xs ++ news) → w.grownBy w' v.ownBlock → (v'.ownBlock = v.ownBlock ∨ v'.ownBlock = some w.heap.size) → K (a.put o.dst v') w') :
    if Region.wanted o (yielded ops a.tmps) = true then Oper.wp P o a w K Q else E := by
  exact step_append_atG (by simp [Region.wanted, hgd]) s x t ho base e i z size bytes ht hi hz hsize hby hzs hsz v n xs hs hown ad m c news hx hl hnews h1 h63 hbytes hbase h
theorem newsBlk {w : World} {b t : Nat} {u : Value} (h : Blk w b t [u]) : ∀ j x, [u][j]? = some x → w.cell? ((⟨b, 0, none⟩ : Addr).add j) = some x := by
  intro j x hx
  have hj : j = 0 := by have := (List.getElem?_eq_some_iff.1 hx).1; simp at this; omega
  subst hj
  have h0 := h.cell 0
  simp at hx
  subst hx
  exact h0
/-- A grid that lies in blocks from base on, below top. -/
def CP {α : Type} (f : α → Value) (base top TI TH : Nat) (v : Value) (ns : List Nat) (w : World) : Prop := ∃ wc : World, VG f wc base TI TH v ns ∧ wc.heap.size = top ∧ top ≤ w.heap.size ∧ ∀ b, base ≤ b → b < top → w.heap[b]? = wc.heap[b]?
theorem CP.mk {α : Type} {f : α → Value} {base TI TH : Nat} {v : Value} {ns : List Nat} {w : World} (h : VG f w base TI TH v ns) : CP f base w.heap.size TI TH v ns w := ⟨w, h, rfl, Nat.le_refl _, fun _ _ _ => rfl⟩
theorem CP.grown {α : Type} {f : α → Value} {base top TI TH : Nat} {v : Value} {ns : List Nat} {w w' : World} {row : Option Nat} (h : CP f base top TI TH v ns w) (hg : w.grownBy w' row) (hr : ∀ q, row = some q → q < base ∨ top ≤ q) : CP f base top TI TH v ns w' := by
  obtain ⟨wc, h1, h2, h3, h4⟩ := h
  exact ⟨wc, h1, h2, Nat.le_trans h3 hg.size, fun b hb ht => (hg.block b (by omega) (fun e => by rcases hr b e.symm with h | h <;> omega)).trans (h4 b hb ht)⟩
theorem CP.alloc {α : Type} {f : α → Value} {base top TI TH : Nat} {v : Value} {ns : List Nat} {w : World} (h : CP f base top TI TH v ns w) (o : Obj) : CP f base top TI TH v ns (w.alloc o) := h.grown (World.grownBy_alloc w o none) (fun _ e => by cases e)
theorem CP.onto {α : Type} {f : α → Value} {w : World} {base top base2 TI TH n : Nat} {v r : Value} {ns : List Nat} {s : List α} (H : CP f base top TI TH v ns w)
    (hr : w.ownsRow base2 TI 1 r n (s.map f)) (hsn : s.length = n) (hq : ∀ q, r.ownBlock = some q → q < base ∨ top ≤ q) :
    ∃ hs : List Value, w.ownsRow base TH 1 v ns.length hs ∧
      ∀ (w' : World) (v' : Value) (o : Obj), w'.ownsRow base TH 1 v' (ns.length + 1) (hs ++ [r]) → (w.alloc o).grownBy w' v.ownBlock →
        ∃ (A : Option Addr) (c : Nat) (L : List (List α)), v' = .slice A L.length c ∧ Grd w' w'.heap.size A (L.map (·.map f)) ∧ L.map List.length = ns ++ [n] ∧ L.length ≤ c ∧ c ≤ 9223372036854775807 := by
  obtain ⟨wc, h1, rfl, h3, h4⟩ := H
  exact h1.onto h4 h3 hr hsn hq
theorem CP.base_le {α : Type} {f : α → Value} {base top TI TH : Nat} {v : Value} {ns : List Nat} {w : World} (h : CP f base top TI TH v ns w) : ∀ k, v.ownBlock = some k → base ≤ k := by
  obtain ⟨wc, h1, _⟩ := h
  exact h1.base_le
/-- Tables that are none: a row of another length, a number below zero; and one that is: the first rows. -/
theorem badT_len {L L' : List (List Int)} {r0 : List Int} {k : Nat} (h0 : L[0]? = some r0) (h : L'.map List.length = L.map List.length ++ [k]) (hk : k ≠ r0.length) : ¬ goodT L' := by
  rintro ⟨q0, rest, rfl, _, _, h3⟩
  obtain ⟨r, rs, rfl⟩ : ∃ r rs, L = r :: rs := by
    cases L with
    | nil => simp at h0
    | cons r rs => exact ⟨r, rs, rfl⟩
  simp at h0
  subst h0
  have e0 : q0.length = r.length := by simp at h; exact h.1
  obtain ⟨q, hq, hqk⟩ : ∃ q ∈ q0 :: rest, q.length = k := by
    have hk2 : k ∈ (q0 :: rest).map List.length := by rw [h]; simp
    obtain ⟨q, h1, h2⟩ := List.mem_map.1 hk2
    exact ⟨q, h1, h2⟩
  have := (h3 q hq).1
  omega
theorem badT_neg {L : List (List Int)} {r : List Int} {k j : Nat} {z : Int} (h : L[k]? = some r) (hj : r[j]? = some z) (hz : z < 0) : ¬ goodT L := by
  rintro ⟨q0, rest, rfl, _, _, h3⟩
  have := (h3 r (List.mem_of_getElem? h)).2 z (List.mem_of_getElem? hj)
  omega
theorem goodT_take {L : List (List Int)} {k : Nat} (h : goodT L) (hk : 1 ≤ k) : goodT (L.take k) := by
  obtain ⟨q0, rest, rfl, h1, h2, h3⟩ := h
  obtain ⟨m, rfl⟩ : ∃ m, k = m + 1 := ⟨k - 1, by omega⟩
  refine ⟨q0, rest.take m, by simp, ?_, h2, fun r hr => h3 r (List.mem_of_mem_take hr)⟩
  rw [List.length_take]
  omega
/-- A grid's cell, stored: the list that is read holds it. -/
theorem VG.stored {f : Int → Value} {w : World} {base TI TH g c k n b c' : Nat} {z : Int} {ns : List Nat} (hf : ∀ x y, f x = f y → x = y) (h : VG f w base TI TH (.slice (some ⟨g, 0, none⟩) ns.length c) ns) (hk : ns[k]? = some n) (hc : w.cell? ⟨g, k, none⟩ = some (.slice (some ⟨b, 0, none⟩) n c')) (hn : 0 < n) (hz : w.cell? ⟨b, 0, none⟩ = some (f z)) :
    ∃ (L : List (List Int)) (r : List Int), L.length = ns.length ∧ Grd w w.heap.size (some ⟨g, 0, none⟩) (L.map (·.map f)) ∧ L[k]? = some r ∧ r[0]? = some z := by
  obtain ⟨A, c2, L, e, hG, hL, _, _⟩ := h.form
  have hlen : L.length = ns.length := by rw [← hL, List.length_map]
  simp only [Value.slice.injEq] at e
  obtain ⟨rfl, _, _⟩ := e
  have hkl : k < L.length := by rw [hlen]; exact (List.getElem?_eq_some_iff.1 hk).1
  refine ⟨L, L[k], hlen, hG, List.getElem?_eq_getElem hkl, ?_⟩
  obtain ⟨b2, off2, A', c3, e2, _, h3, _, _, hR⟩ := hG.at_ (k := k) (r := (L[k]).map f) (by rw [List.getElem?_map, List.getElem?_eq_getElem hkl]; rfl)
  simp only [Option.some.injEq, Addr.mk.injEq, and_true] at e2
  obtain ⟨rfl, rfl⟩ := e2
  rw [Nat.zero_add, hc] at h3
  simp only [Option.some.injEq, Value.slice.injEq] at h3
  obtain ⟨rfl, h5, _⟩ := h3
  rw [List.length_map] at h5
  have h0 : 0 < (L[k]).length := by omega
  obtain ⟨b4, off4, e4, _, h6⟩ := hR.at_ (k := 0) (u := f ((L[k])[0])) (by rw [List.getElem?_map, List.getElem?_eq_getElem h0]; rfl)
  simp only [Option.some.injEq, Addr.mk.injEq, and_true] at e4
  obtain ⟨rfl, rfl⟩ := e4
  rw [hz] at h6
  rw [List.getElem?_eq_getElem h0]
  exact congrArg some (hf _ _ (Option.some.inj h6)).symm
theorem implTableValidN (A : Option Addr) (c n : Nat) (L : List (List Int)) (w : World) (hg : Grd w w.heap.size A (grid L)) (hl : n = L.length) (hn : n ≤ 2000000) :
    Calls Try.prog 10 #[.slice A n c] w fun e w' => RB (goodT L) e ∧ w = w' := by
  subst hl
  exact implTableValid A c L w hg hn
end Go.Proofs.Ytfhidimmaeiiaaa
