/- Drawn tables: what has been drawn so far. -/
import Derived.Test.YtfhidimmaeiiaaaBlank
import Derived.Deep.RegionHeld3
import Derived.Deep.DrawnRows
import Derived.Outline
namespace Go.Proofs.Ytfhidimmaeiiaaa
open Go.RowKit

theorem belGrown {w w' : World} (h : Below w.heap.size w w') (row : Option Nat) : w.grownBy w' row := ⟨h.os, h.tape, h.output, h.size, fun k hk _ => h.block k hk⟩
theorem undrewG {w w' : World} {row : Option Nat} (h : w.drew.grownBy w' row) : w.grownBy w' row := ⟨h.os, h.tape, h.output, h.size, h.block⟩
/-- Since w: a table drawn so far, the reader; nothing else has turned. -/
def TSt (w : World) (g N : Nat) (v : Value) (ns : List Nat) (wr : World) : Prop := VG (Value.int .i64) wr w.heap.size 3 31 v ns ∧ Rdr wr g N ∧ w.grownBy wr (some g)
section
variable {w wr w' : World} {g N N' gb c h m i j b c' : Nat} {v : Value} {ns : List Nat} {x : Int}
theorem TSt.pick (H : TSt w g N v ns wr) (hgb : g < w.heap.size) (hg : wr.grownBy w' (some g)) (hr : Rdr w' g N') : TSt w g N' v ns w' := ⟨H.1.pick hg hgb, hr, H.2.2.trans hg⟩
theorem TSt.below (H : TSt w g N v ns wr) (hb : Below wr.heap.size wr w') : TSt w g N v ns w' := ⟨H.1.below hb, H.2.1.below hb, H.2.2.trans (belGrown hb _)⟩
theorem TSt.mono (H : TSt w g N v ns wr) (hN : N ≤ N') : TSt w g N' v ns wr := ⟨H.1, H.2.1.mono hN, H.2.2⟩
theorem TSt.store (H : TSt w g N (.slice (some ⟨gb, 0, none⟩) ns.length c) ns wr) {n k : Nat} (hk : ns[k]? = some n) (hc : wr.cell? ⟨gb, k, none⟩ = some (.slice (some ⟨b, 0, none⟩) n c')) (hj : j < n) (hb : w.heap.size ≤ b) (hgb : g < w.heap.size) :
    TSt w g N (.slice (some ⟨gb, 0, none⟩) ns.length c) ns (wr.setCell ⟨b, j, none⟩ (.int .i64 x)) :=
  ⟨H.1.store hk hc hj, H.2.1.grown (grown_set wr b j _) (fun e => by simp at e; omega) (fun k e => by cases e; omega), H.2.2.andThen (grown_set wr b j _) (fun k e => by cases e; exact .inl hb)⟩
/-- .. of h rows of m numbers. -/
def TG (w : World) (g N gb c h m : Nat) (wr : World) : Prop := TSt w g N (.slice (some ⟨gb, 0, none⟩) h c) (List.replicate h m) wr
theorem TG.of (H : TSt w g N v (List.replicate h m) wr) (h1 : 1 ≤ h) : ∃ gb c, v = .slice (some ⟨gb, 0, none⟩) h c ∧ h ≤ c ∧ c ≤ 9223372036854775807 ∧ TG w g N gb c h m wr := by
  obtain ⟨gb, c, e, h2, h3, h4, h5, h6⟩ := H.1.head (by simp; omega)
  rw [List.length_replicate] at e h4
  subst e
  exact ⟨gb, c, rfl, h4, h5, H⟩
theorem TG.row (H : TG w g N gb c h m wr) (hi : i < h) (hm : 1 ≤ m) : ∃ b c', wr.cell? ⟨gb, i, none⟩ = some (.slice (some ⟨b, 0, none⟩) m c') ∧ wr.frozen? ⟨gb, i, none⟩ = false ∧ m ≤ c' ∧ c' ≤ 9223372036854775807 ∧ w.heap.size ≤ b ∧ gb ≠ b ∧ ∀ j, j < m → (∃ x, wr.cell? ⟨b, j, none⟩ = some (.int .i64 x)) ∧ wr.frozen? ⟨b, j, none⟩ = false := by
  have H1 := H.1
  have e : (List.replicate h m).length = h := List.length_replicate
  obtain ⟨gb2, c2, e2, _, _, _, _, hf⟩ := H1.head (by simp; omega)
  simp only [Value.slice.injEq, Option.some.injEq, Addr.mk.injEq, and_true] at e2
  obtain ⟨rfl, -, -⟩ := e2
  have H2 : VG (Value.int .i64) wr w.heap.size 3 31 (.slice (some ⟨gb, 0, none⟩) (List.replicate h m).length c) (List.replicate h m) := by rw [e]; exact H1
  obtain ⟨r, h3, h4⟩ := H2.cell (k := i) (n := m) (by rw [List.getElem?_replicate, if_pos hi])
  obtain ⟨b, c', rfl, h5, h6, h7, h8, h9, h10⟩ := h4.at_ (by omega)
  exact ⟨b, c', h3, hf i, h7, h8, h5, fun e => h9 (by rw [e]; rfl), h10⟩
theorem TG.pick (H : TG w g N gb c h m wr) (hgb : g < w.heap.size) (hg : wr.grownBy w' (some g)) (hr : Rdr w' g N') : TG w g N' gb c h m w' := TSt.pick H hgb hg hr
theorem TSt.drew (H : TSt w g N v ns wr) : TSt w g N v ns wr.drew := H.below ⟨rfl, rfl, rfl, Nat.le_refl _, fun _ _ => rfl⟩
theorem TG.drew (H : TG w g N gb c h m wr) : TG w g N gb c h m wr.drew := TSt.drew H
theorem TG.alloc (H : TG w g N gb c h m wr) (o : Obj) : TG w g N gb c h m (wr.alloc o) := TSt.below H ((Below.refl _ _).alloc (Nat.le_refl _) o)
theorem TG.rdr (H : TG w g N gb c h m wr) : Rdr wr g N := H.2.1
theorem TG.mono (H : TG w g N gb c h m wr) (hN : N ≤ N') : TG w g N' gb c h m wr := TSt.mono H hN
theorem TG.store (H : TG w g N gb c h m wr) (hi : i < h) (hc : wr.cell? ⟨gb, i, none⟩ = some (.slice (some ⟨b, 0, none⟩) m c')) (hj : j < m) (hb : w.heap.size ≤ b) (hgb : g < w.heap.size) : TG w g N gb c h m (wr.setCell ⟨b, j, none⟩ (.int .i64 x)) := by
  unfold TG at H ⊢
  have e : (List.replicate h m).length = h := List.length_replicate
  have H2 : TSt w g N (.slice (some ⟨gb, 0, none⟩) (List.replicate h m).length c) (List.replicate h m) wr := by rw [e]; exact H
  have := H2.store (k := i) (x := x) (by rw [List.getElem?_replicate, if_pos hi]) hc hj hb hgb
  rw [e] at this
  exact this
theorem TG.at_ (H : TG w g N gb c h m wr) (hi : i < h) (hj : j < m) (hc : wr.cell? ⟨gb, i, none⟩ = some (.slice (some ⟨b, 0, none⟩) m c')) : (∃ x, wr.cell? ⟨b, j, none⟩ = some (.int .i64 x)) ∧ wr.frozen? ⟨b, j, none⟩ = false := by
  obtain ⟨b9, c9, h9, -, -, -, -, -, hcs⟩ := H.row hi (by omega)
  rw [hc] at h9
  simp only [Option.some.injEq, Value.slice.injEq, Addr.mk.injEq, and_true, true_and] at h9
  obtain ⟨rfl, rfl⟩ := h9
  exact hcs j hj
theorem TG.blt (H : TG w g N gb c h m wr) (hi : i < h) (hm : 1 ≤ m) (hc : wr.cell? ⟨gb, i, none⟩ = some (.slice (some ⟨b, 0, none⟩) m c')) : b < wr.heap.size := by
  obtain ⟨⟨x, hx⟩, _⟩ := H.at_ (j := 0) hi hm hc
  exact World.block_lt_of_cell? _ _ hx
theorem TG.lt (H : TG w g N gb c h m wr) : w.heap.size ≤ gb ∧ gb < wr.heap.size := ⟨H.1.base_le gb rfl, H.1.blk_lt gb rfl⟩
end
/-- What a drawn table is: few rows, short ones. -/
def DTb (g N : Nat) (w : World) (e : Ending) (w' : World) : Prop := ∃ v ns, e = .returned v ∧ (ns.length ≤ 4 ∧ ∀ n ∈ ns, n ≤ 4) ∧ TSt w g (N + 20) v ns w'
theorem DTb.emp {g N : Nat} {w wr : World} {v : Value} {ns : List Nat} (H : TSt w g (N + 20) v ns wr) : DTb g N w (.returned (.slice (some ⟨wr.heap.size, 0, none⟩) 0 0)) (wr.alloc (.cells #[] 31)) :=
  ⟨_, [], rfl, ⟨by simp, by simp⟩, (VG.empty _ wr _ _).weaken H.2.2.size, H.2.1.below ((Below.refl _ _).alloc (Nat.le_refl _) _), H.2.2.trans (World.grownBy_alloc _ _ _)⟩
theorem DTb.fin {g N gb c h m : Nat} {w wr : World} (H : TG w g (N + 20) gb c h m wr) (hh : h ≤ 4) (hm : m ≤ 3) : DTb g N w (.returned (.slice (some ⟨gb, 0, none⟩) h c)) wr :=
  ⟨_, List.replicate h m, rfl, ⟨by simp; omega, fun n hn => by rw [List.eq_of_mem_replicate hn]; omega⟩, H⟩
/-- Row 0, owned; and what a longer one in its stead makes. -/
theorem TG.first {g N gb c h m b c' : Nat} {w wr : World} (H : TG w g N gb c h m wr) (hh : 1 ≤ h) (hc : wr.cell? ⟨gb, 0, none⟩ = some (.slice (some ⟨b, 0, none⟩) m c')) (hgb : g < w.heap.size) :
    ∃ s : List Int, wr.ownsRow w.heap.size 3 1 (.slice (some ⟨b, 0, none⟩) m c') m (s.map (Value.int .i64)) ∧
      ∀ (w' : World) (v' : Value) (o : Obj) (s' : List Int), w'.ownsRow w.heap.size 3 1 v' (m + 1) (s'.map (Value.int .i64)) → (wr.alloc o).grownBy w' (some b) → (v'.ownBlock = some b ∨ v'.ownBlock = some (wr.heap.size + 1)) →
        TSt w g N (.slice (some ⟨gb, 0, none⟩) h c) ((List.replicate h m).set 0 (m + 1)) (w'.setCell ⟨gb, 0, none⟩ v') := by
  have e : (List.replicate h m).length = h := List.length_replicate
  have H2 : VG (Value.int .i64) wr w.heap.size 3 31 (.slice (some ⟨gb, 0, none⟩) (List.replicate h m).length c) (List.replicate h m) := by rw [e]; exact H.1
  have hk : (List.replicate h m)[0]? = some m := by rw [List.getElem?_replicate, if_pos (by omega)]
  obtain ⟨r, h3, s, h4, h5, h6⟩ := H2.cell hk
  rw [hc] at h3
  cases h3
  refine ⟨s, h5, fun w' v' o s' ho hg hl => ?_⟩
  have hb := own_base h5 b rfl
  have hbl := own_lt h5 b rfl
  have hgl := H.lt
  have hs' : s'.length = m + 1 := by have := ho.1; simp at this; omega
  have H3 : VG (Value.int .i64) (wr.alloc o) w.heap.size 3 31 (.slice (some ⟨gb, 0, none⟩) (List.replicate h m).length c) (List.replicate h m) := H2.alloc o
  have hc3 : (wr.alloc o).cell? ⟨gb, 0, none⟩ = some (.slice (some ⟨b, 0, none⟩) m c') := (World.cell?_of_block (Below.heap_alloc wr o gb hgl.2)).trans hc
  have H4 := H3.swap (w' := w') (r' := v') (s' := s') (m := m + 1) hk hc3 hg hs' ho (by
    rcases hl with e | e
    · exact .inl e
    · exact .inr ⟨_, e, by simp⟩)
  rw [e] at H4
  have hr1 : Rdr (wr.alloc o) g N := H.2.1.below ((Below.refl _ _).alloc (Nat.le_refl _) o)
  have hr2 : Rdr w' g N := hr1.grown hg (fun e => by simp at e; omega) (fun k e => by cases e; omega)
  refine ⟨H4, hr2.grown (grown_set w' gb 0 v') (fun e => by simp at e; omega) (fun k e => by cases e; omega), ((H.2.2.trans (World.grownBy_alloc wr o _)).andThen hg (fun k e => by cases e; exact .inl hb)).andThen (grown_set w' gb 0 v') (fun k e => by cases e; exact .inl hgl.1)⟩
theorem three_of {w : World} {b t : Nat} {x y u z : Int} (h : Blk w b t [.int .i64 x, .int .i64 y, .int .i64 u]) (z0 : 0 ≤ z) (z1 : z < 3) : ∃ kk : Int, w.cell? ⟨b, z.toNat, none⟩ = some (.int .i64 kk) := by
  rcases (show z = 0 ∨ z = 1 ∨ z = 2 by omega) with rfl | rfl | rfl
  · exact ⟨x, h.cell 0⟩
  · exact ⟨y, h.cell 1⟩
  · exact ⟨u, h.cell 2⟩
theorem heldAnd {P : Program} {md : Region.Mode} {ops : Array Oper} {Q : Exit → Act → World → Prop} {S T : World → Prop} : ∀ {fuel : Nat} {listed : Array Bool} {a : Act} {w : World}, wpAnyH P md ops Q (fun w => T w ∧ S w) fuel listed a w → wpAnyH P md ops Q S fuel listed a w
  | 0, _, _, _, h => h
  | _ + 1, _, _, _, h => ⟨h.1, fun i hi => wpOp_mono (fun _ _ h' => ⟨h'.1.2, heldAnd h'.2⟩) (h.2 i hi)⟩
theorem Blk.grownN {w w' : World} {g b t : Nat} {xs : List Value} (h : Blk w b t xs) (hg : w.grownBy w' (some g)) (hne : b ≠ g) : Blk w' b t xs := h.of (hg.block b h.lt (fun e => hne (by simpa using e)))
end Go.Proofs.Ytfhidimmaeiiaaa
