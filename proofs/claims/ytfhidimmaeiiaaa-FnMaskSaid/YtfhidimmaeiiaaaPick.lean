/- The reader of codes: opening it, and picking a number. -/
import Derived.Test.YtfhidimmaeiiaaaChecked
import Derived.Test.YtfhidimmaeiiaaaPure
import Derived.WalkKit
import Derived.LoopTactic
import Derived.Deep.QuietTactic
import Derived.BigQuiet
import Derived.IntWalk
import Derived.Outline
namespace Go.Proofs.Ytfhidimmaeiiaaa
open Go.RowKit

/-- Block g is a reader that has read at most N numbers; the code's bytes lie below g. -/
def Rdr (w : World) (g N : Nat) : Prop := ∃ (A : Option Addr) (c p : Nat) (bs : List Int), Blk w g 45 [.slice A bs.length c, .int .i64 p] ∧ Rds w g 1 A bs.length (bs.map (Value.int .u8)) ∧ p ≤ N ∧ bs.length ≤ 2000 ∧ Hid (∀ z ∈ bs, 0 ≤ z ∧ z ≤ 255)
theorem Rdr.grown {w w' : World} {g N : Nat} {row : Option Nat} (h : Rdr w g N) (hg : w.grownBy w' row) (hr : some g ≠ row) (hr2 : ∀ b, row = some b → g ≤ b) : Rdr w' g N := by
  obtain ⟨A, c, p, bs, h1, h2, h3⟩ := h
  have hl := h1.lt
  refine ⟨A, c, p, bs, h1.of (hg.block g h1.lt hr), h2.keep (fun b o hb => World.cell?_of_block (w := w) (hg.block b (by omega) (fun e => by have := hr2 b e.symm; omega))), h3⟩
theorem Rdr.below {w w' : World} {g N : Nat} (h : Rdr w g N) (hb : Below w.heap.size w w') : Rdr w' g N := by
  obtain ⟨A, c, p, bs, h1, h2, h3⟩ := h
  have hl := h1.lt
  exact ⟨A, c, p, bs, h1.below hb hl, h2.keep (fun b o hlt => hb.cell (p := ⟨b, o, none⟩) (by simp; omega)), h3⟩
theorem Rdr.lt {w : World} {g N : Nat} (h : Rdr w g N) : g < w.heap.size := by
  obtain ⟨A, c, p, bs, h1, _⟩ := h
  exact h1.lt
theorem Rdr.mono {w : World} {g N N' : Nat} (h : Rdr w g N) (hN : N ≤ N') : Rdr w g N' := by
  obtain ⟨A, c, p, bs, h1, h2, h3, h4⟩ := h
  exact ⟨A, c, p, bs, h1, h2, by omega, h4⟩

/-- What a pick comes to. -/
def Pkd (g N : Nat) (n : Int) (w : World) (e : Ending) (w' : World) : Prop :=
  ∃ z : Int, e = .returned (.int .i64 z) ∧ (0 ≤ z ∧ (1 ≤ n → z < n) ∧ (n < 1 → z = 0)) ∧ Rdr w' g (N + 1) ∧ w.grownBy w' (some g) ∧ w'.heap.size = w.heap.size

theorem grown_set (w : World) (g o : Nat) (v : Value) : w.grownBy (w.setCell ⟨g, o, none⟩ v) (some g) :=
  ⟨rfl, rfl, rfl, by simp, fun k _ hk => Below.heap_setCell w _ _ k (fun e => hk (by rw [e]))⟩
theorem grown_drewN {a w : World} {row : Option Nat} (h : a.grownBy w row) (n : Nat) : a.grownBy (w.drewN n) row := ⟨h.os, h.tape, h.output, h.size, h.block⟩

/-- The number that is picked, reckoned. -/
def pkx (bs : List Int) (p : Nat) : Int := bs.getD (p % bs.length) 0 * 131 + bs.getD ((p * 7 + 3) % bs.length) 0 * 1117 + (p : Int) * 29 + ((p / bs.length : Nat) : Int) * 53
def pkv (bs : List Int) (p : Nat) (n : Int) : Int := if n < 1 then 0 else if bs.length = 0 then 0 else if p < bs.length then bs.getD p 0 % n else bits BinOp.xor IntKind.i64 (pkx bs p) (pkx bs p / 64) % n
/-- A reader, its place and its code told. -/
def RdrX (w : World) (g : Nat) (A : Option Addr) (c p : Nat) (bs : List Int) : Prop := Blk w g 45 [.slice A bs.length c, .int .i64 p] ∧ Rds w g 1 A bs.length (bs.map (Value.int .u8))
def PkdX (g : Nat) (A : Option Addr) (c p : Nat) (bs : List Int) (n : Int) (w : World) (e : Ending) (w' : World) : Prop :=
  e = .returned (.int .i64 (pkv bs p n)) ∧ RdrX w' g A c (p + 1) bs ∧ w.grownBy w' (some g) ∧ w'.heap.size = w.heap.size
theorem PkdX.mk {g p c n0 : Nat} {A : Option Addr} {bs : List Int} {w : World} {n z : Int} (h1 : Blk w g 45 [.slice A bs.length c, .int .i64 p]) (h2 : Rds w g 1 A bs.length (bs.map (Value.int .u8))) (hz : z = pkv bs p n) : PkdX g A c p bs n w (.returned (.int .i64 z)) ((w.setCell ⟨g, 1, none⟩ (.int .i64 ((p : Int) + 1))).drewN n0) := by
  subst hz
  refine ⟨rfl, ⟨h1.set 1 (.int .i64 ((p : Int) + 1)), h2.keep (fun b o hb => ?_)⟩, grown_drewN (grown_set w g 1 _) _, by simp⟩
  exact World.cell?_of_block (w := w) (Below.heap_setCell w ⟨g, 1, none⟩ _ b (by show b ≠ g; omega))
theorem xor_pos (x : Int) (h0 : 0 ≤ x) (h1 : x ≤ 1000000000) : 0 ≤ bits BinOp.xor IntKind.i64 x (x / 64) := by
  obtain ⟨a, rfl⟩ : ∃ a : Nat, x = a := ⟨x.toNat, by omega⟩
  obtain ⟨b, hb⟩ : ∃ b : Nat, (a : Int) / 64 = b := ⟨a / 64, by omega⟩
  rw [hb]
  have ha : a < 2 ^ 32 := by omega
  have hb2 : b < 2 ^ 32 := by omega
  have hx : a ^^^ b < 2 ^ 32 := Nat.xor_lt_two_pow ha hb2
  have g1 : (BitVec.ofInt 64 (a : Int)).toNat = a := by
    rw [BitVec.ofInt_natCast, BitVec.toNat_ofNat]; exact Nat.mod_eq_of_lt (by omega)
  have g2 : (BitVec.ofInt 64 (b : Int)).toNat = b := by
    rw [BitVec.ofInt_natCast, BitVec.toNat_ofNat]; exact Nat.mod_eq_of_lt (by omega)
  show 0 ≤ IntKind.i64.wrap ((BitVec.ofInt 64 (a : Int) ^^^ BitVec.ofInt 64 (b : Int)).toNat : Int)
  rw [BitVec.toNat_xor, g1, g2]
  generalize a ^^^ b = c at *
  rw [IntWalk.i64_in _ (by omega)]
  omega

set_option maxRecDepth 100000 in
set_option maxHeartbeats 2000000 in
theorem specPickX (g N : Nat) (n : Int) (A : Option Addr) (c p : Nat) (bs : List Int) (w : World) (h : RdrX w g A c p bs) (h3 : p ≤ N) (h4 : bs.length ≤ 2000) (h5 : Hid (∀ z ∈ bs, 0 ≤ z ∧ z ≤ 255)) (hN : N ≤ 1000000) (hn : n ≤ 2000000) :
    Calls Try.prog 19 #[.pointer (some ⟨g, 0, none⟩), .int .i64 n] w (PkdX g A c p bs n w) := by
  obtain ⟨h1, h2⟩ := h
  have hc0 := h1.cell 0
  have hc1 := h1.cell 1
  have hf1 := h1.frozen 1
  simp at hc0 hc1
  have hgl := h1.lt
  have H1 := Lib.hid h1
  clear h1
  by_cases hn1 : n < 1
  · go_enter Try.func19, Try.ntmps19
    go_wp2
    go_ret
    exact PkdX.mk (n0 := 0) H1.out h2 (by unfold pkv; rw [if_pos hn1])
  have hn2 : 1 ≤ n := by omega
  clear hn1
  by_cases hm0 : bs.length = 0
  · have hb0 : ((bs.length : Int) == 0) = true := by simp [hm0]
    have hb1 : (bs.length == 0) = true := by simp [hm0]
    have HM := Lib.hid hm0
    clear hm0
    go_enter Try.func19, Try.ntmps19
    go_wp2
    go_ret
    exact PkdX.mk (n0 := 0) H1.out h2 (by unfold pkv; rw [if_neg (by omega), if_pos HM.out])
  have hb0 : ((bs.length : Int) == 0) = false := beq_eq_false_iff_ne.2 (by omega)
  have hb1 : (bs.length == 0) = false := beq_eq_false_iff_ne.2 (by omega)
  have hm1 : 1 ≤ bs.length := by omega
  clear hm0
  have hcells : ∀ i, i < bs.length → w.cell? ⟨A.get!.block, A.get!.off + i, none⟩ = some (.int .u8 (bs.getD i 0)) ∧ 0 ≤ bs.getD i 0 ∧ bs.getD i 0 ≤ 255 := fun i hi => by
    obtain ⟨b, off, rfl, _, hc⟩ := h2.at_ (k := i) (u := .int .u8 bs[i]) (by simp [hi])
    have e : bs.getD i 0 = bs[i] := by simp [List.getD, hi]
    rw [e]
    exact ⟨hc, h5.out _ (List.getElem_mem hi)⟩
  obtain ⟨b, off, rfl, hbg, _⟩ := h2.at_ (k := 0) (u := .int .u8 bs[0]) (by rw [List.getElem?_map, List.getElem?_eq_getElem (by omega)]; rfl)
  simp only [Option.get!_some] at hcells
  have HC := Lib.hid hcells
  clear hcells
  have hne : b ≠ g := by omega
  by_cases hk : p < bs.length
  · obtain ⟨hy, hy0, hy1⟩ := HC.out p hk
    have HZ := Lib.hid (show pkv bs p n = bs.getD p 0 % n by unfold pkv; rw [if_neg (by omega), if_neg (by omega), if_pos hk])
    generalize bs.getD p 0 = y at *
    have hmo := Int.emod_nonneg y (show n ≠ 0 by omega)
    have hmo2 := Int.emod_lt_of_pos y (show 0 < n by omega)
    go_enter Try.func19, Try.ntmps19
    go_wp2
    go_ret
    exact PkdX.mk (n0 := 0) H1.out h2 HZ.out.symm
  · obtain ⟨hy, hy0, hy1⟩ := HC.out (p % bs.length) (Nat.mod_lt _ (by omega))
    obtain ⟨hy2, hy20, hy21⟩ := HC.out ((p * 7 + 3) % bs.length) (Nat.mod_lt _ (by omega))
    have HZ := Lib.hid (show pkv bs p n = bits BinOp.xor IntKind.i64 (pkx bs p) (pkx bs p / 64) % n by unfold pkv; rw [if_neg (by omega), if_neg (by omega), if_neg hk])
    have HX := Lib.hid (show pkx bs p = bs.getD (p % bs.length) 0 * 131 + bs.getD ((p * 7 + 3) % bs.length) 0 * 1117 + (p : Int) * 29 + ((p / bs.length : Nat) : Int) * 53 from rfl)
    generalize bs.getD (p % bs.length) 0 = y at *
    generalize bs.getD ((p * 7 + 3) % bs.length) 0 = y2 at *
    have H2 := Lib.hid h2
    have HB := Lib.hid (show bs.length = bs.length from rfl)
    clear h2 HC hb1
    obtain ⟨m, hm⟩ : ∃ m, m = bs.length := ⟨_, rfl⟩
    rw [← hm] at hy hy2 hc0 hb0 hm1 hk h4 HX
    have HM := Lib.hid hm
    clear hm HB
    have H1m : Hid (Blk w g 45 [.slice (some ⟨b, off, none⟩) m c, .int .i64 p]) := by unfold Hid; rw [HM.out]; exact H1.out
    have hm2 : ¬ (m = 0) := by omega
    have hm3 : ¬ ((m : Int) = 0) := by omega
    have hr1 := Nat.mod_lt p (show 0 < m by omega)
    have hr2 := Nat.mod_lt (p * 7 + 3) (show 0 < m by omega)
    have hk' : m ≤ p := by omega
    go_enter Try.func19, Try.ntmps19
    go_wp2
    have hW0 : (w.setCell ⟨g, 1, none⟩ (.int .i64 ((p : Int) + 1))).cell? ⟨g, 0, none⟩ = some (.slice (some ⟨b, off, none⟩) m c) := by
      have := (H1m.out.set 1 (.int .i64 ((p : Int) + 1))).cell 0
      simpa using this
    have hWf : ∀ o, (w.setCell ⟨g, 1, none⟩ (.int .i64 ((p : Int) + 1))).cell? ⟨b, o, none⟩ = w.cell? ⟨b, o, none⟩ := fun o => World.cell?_of_block (w := w) (Below.heap_setCell w ⟨g, 1, none⟩ _ b hne)
    have hWy := (hWf _).trans hy
    have hWy2 := (hWf _).trans hy2
    clear hWf
    generalize hW : w.setCell ⟨g, 1, none⟩ (.int .i64 ((p : Int) + 1)) = W at *
    have HW := Lib.hid hW
    clear hW hy hy2 hc0 hc1 hf1
    have t1 : Int.tmod (p : Int) (m : Int) = ((p % m : Nat) : Int) := by rw [Int.tmod_eq_emod_of_nonneg (by omega)]; simp
    have t2 : IntKind.i64.wrap ((p : Int) * 7) = (p : Int) * 7 := IntWalk.i64_in _ (by omega)
    have t3 : IntKind.i64.wrap ((p : Int) * 7 + 3) = (p : Int) * 7 + 3 := IntWalk.i64_in _ (by omega)
    have t4 : Int.tmod ((p : Int) * 7 + 3) (m : Int) = (((p * 7 + 3) % m : Nat) : Int) := by rw [Int.tmod_eq_emod_of_nonneg (by omega)]; simp
    generalize p % m = i1 at *
    generalize (p * 7 + 3) % m = i2 at *
    have j1 : (0 : Int) ≤ (i1 : Int) := Int.natCast_nonneg _
    have j2 : (i1 : Int) < (m : Int) := by omega
    have j3 : (0 : Int) ≤ (i2 : Int) := Int.natCast_nonneg _
    have j4 : (i2 : Int) < (m : Int) := by omega
    have t5 : IntKind.i64.wrap y = y := IntWalk.i64_in _ (by omega)
    have t6 : IntKind.i64.wrap y2 = y2 := IntWalk.i64_in _ (by omega)
    have t7 : IntKind.i64.wrap (y * 131) = y * 131 := IntWalk.i64_in _ (by omega)
    have t8 : IntKind.i64.wrap (y2 * 1117) = y2 * 1117 := IntWalk.i64_in _ (by omega)
    have t9 : IntKind.i64.wrap (y * 131 + y2 * 1117) = y * 131 + y2 * 1117 := IntWalk.i64_in _ (by omega)
    have t10 : IntKind.i64.wrap ((p : Int) * 29) = (p : Int) * 29 := IntWalk.i64_in _ (by omega)
    have t11 : IntKind.i64.wrap (y * 131 + y2 * 1117 + (p : Int) * 29) = y * 131 + y2 * 1117 + (p : Int) * 29 := IntWalk.i64_in _ (by omega)
    have u1 : Int.tdiv (p : Int) (m : Int) = ((p / m : Nat) : Int) := by rw [Int.tdiv_eq_ediv_of_nonneg (by omega)]; simp
    have u2 := Nat.div_le_self p m
    generalize p / m = d1 at *
    have t12a : IntKind.i64.wrap (d1 : Int) = (d1 : Int) := IntWalk.i64_in _ (by omega)
    have t12 : IntKind.i64.wrap ((d1 : Int) * 53) = (d1 : Int) * 53 := IntWalk.i64_in _ (by omega)
    have t13 : IntKind.i64.wrap (y * 131 + y2 * 1117 + (p : Int) * 29 + (d1 : Int) * 53) = y * 131 + y2 * 1117 + (p : Int) * 29 + (d1 : Int) * 53 := IntWalk.i64_in _ (by omega)
    go_quiet (fail)
    have x0 : 0 ≤ y * 131 + y2 * 1117 + (p : Int) * 29 + (d1 : Int) * 53 := by omega
    have x1 : y * 131 + y2 * 1117 + (p : Int) * 29 + (d1 : Int) * 53 ≤ 1000000000 := by omega
    clear t1 t2 t3 t4 t5 t6 t7 t8 t9 t10 t11 t12 t12a t13 u1 u2 hW0 hWy hWy2
    rw [HX.out] at HZ
    clear HX
    generalize y * 131 + y2 * 1117 + (p : Int) * 29 + (d1 : Int) * 53 = x at *
    have hxx := xor_pos x x0 x1
    go_wp2
    generalize bits BinOp.xor IntKind.i64 x (x / 64) = v at *
    go_ret
    rw [← HW.out]
    exact PkdX.mk H1.out H2.out HZ.out.symm
theorem RdrX.alloc {w : World} {g : Nat} {A : Option Addr} {c p : Nat} {bs : List Int} (h : RdrX w g A c p bs) (o : Obj) : RdrX (w.alloc o) g A c p bs :=
  ⟨h.1.alloc o, h.2.keep (fun b o' hb => ((Below.refl w.heap.size w).alloc (Nat.le_refl _) o).cell (p := ⟨b, o', none⟩) (by have := h.1.lt; simp; omega))⟩
theorem pkv_bd {bs : List Int} {p : Nat} {n : Int} (h5 : ∀ z ∈ bs, 0 ≤ z ∧ z ≤ 255) : 0 ≤ pkv bs p n ∧ (1 ≤ n → pkv bs p n < n) ∧ (n < 1 → pkv bs p n = 0) := by
  have hg : ∀ i, 0 ≤ bs.getD i 0 ∧ bs.getD i 0 ≤ 255 := fun i => by
    by_cases hi : i < bs.length
    · have e : bs.getD i 0 = bs[i] := by simp [List.getD, hi]
      rw [e]; exact h5 _ (List.getElem_mem hi)
    · have e : bs.getD i 0 = 0 := by simp [List.getD, List.getElem?_eq_none (by omega : bs.length ≤ i)]
      rw [e]; omega
  unfold pkv
  split
  · exact ⟨by omega, fun h => by omega, fun _ => rfl⟩
  · split
    · exact ⟨by omega, fun h => by omega, fun _ => rfl⟩
    · split
      · exact ⟨Int.emod_nonneg _ (by omega), fun h => Int.emod_lt_of_pos _ (by omega), fun h => by omega⟩
      · exact ⟨Int.emod_nonneg _ (by omega), fun h => Int.emod_lt_of_pos _ (by omega), fun h => by omega⟩
theorem specPick (g N : Nat) (n : Int) (w : World) (h : Rdr w g N) (hN : N ≤ 1000000) (hn : n ≤ 2000000) :
    Calls Try.prog 19 #[.pointer (some ⟨g, 0, none⟩), .int .i64 n] w (Pkd g N n w) := by
  obtain ⟨A, c, p, bs, h1, h2, h3, h4, h5⟩ := h
  refine (specPickX g N n A c p bs w ⟨h1, h2⟩ h3 h4 h5 hN hn).mono fun e w' ⟨he, hx, hg, hs⟩ => ?_
  exact ⟨_, he, pkv_bd h5.out, ⟨A, c, p + 1, bs, hx.1, hx.2, by omega, h4, h5⟩, hg, hs⟩

/-- The code that a draw is made of. -/
def Byt (w : World) (A : Option Addr) (c : Nat) (bs : List Int) : Prop := Rds w w.heap.size 1 A bs.length (bs.map (Value.int .u8)) ∧ bs.length ≤ c ∧ c ≤ 9223372036854775807 ∧ Hid (∀ z ∈ bs, 0 ≤ z ∧ z ≤ 255)
theorem Byt.below {w w' : World} {A : Option Addr} {c : Nat} {bs : List Int} (h : Byt w A c bs) (hb : Below w.heap.size w w') : Byt w' A c bs := ⟨(h.1.below hb).more hb.size, h.2⟩
theorem Rds.take {w : World} {B : Nat} {A : Option Addr} {bs : List Int} {k : Nat} (h : Rds w B 1 A bs.length (bs.map (Value.int .u8))) : Rds w B 1 A (bs.take k).length ((bs.take k).map (Value.int .u8)) := by
  refine ⟨by simp, fun hn => ?_⟩
  obtain ⟨b, off, e, hb, hc⟩ := h.2 (by simp at hn; omega)
  refine ⟨b, off, e, hb, fun j u hu => hc j u ?_⟩
  rw [List.map_take, List.getElem?_take] at hu
  split at hu
  · exact hu
  · cases hu
theorem Rdr.made {w : World} {A : Option Addr} {c : Nat} {bs : List Int} (h1 : Rds w w.heap.size 1 A bs.length (bs.map (Value.int .u8))) (h2 : bs.length ≤ 2000) (h3 : Hid (∀ z ∈ bs, 0 ≤ z ∧ z ≤ 255)) :
    Rdr (w.alloc (.cells #[.slice A bs.length c, .int .i64 0] 45)) w.heap.size 0 :=
  ⟨A, c, 0, bs, Blk.new w _ _, h1.below ((Below.refl _ _).alloc (Nat.le_refl _) _), Nat.le_refl _, h2, h3⟩

theorem specOpen (A : Option Addr) (c : Nat) (bs : List Int) (w : World) (h : Byt w A c bs) :
    Calls Try.prog 17 #[.slice A bs.length c] w fun e w' => e = .returned (.pointer (some ⟨w.heap.size, 0, none⟩)) ∧ Rdr w' w.heap.size 0 ∧ Below w.heap.size w w' := by
  obtain ⟨h1, h2, h3, h4⟩ := h
  by_cases hl : bs.length ≤ 2000
  · go_enter Try.func17, Try.ntmps17
    go_wp2
    go_ret
    exact ⟨rfl, Rdr.made h1 hl h4, ((Below.refl _ _).alloc (Nat.le_refl _) _)⟩
  · have hl' : 2000 < bs.length := by omega
    have e : (bs.take 2000).length = 2000 := by simp; omega
    have H1 := Lib.hid (Rds.take (k := 2000) h1)
    have H4 := Lib.hid (fun z hz => h4.out z (List.mem_of_mem_take (i := 2000) hz))
    have HE := Lib.hid e
    clear e h1
    have hc : 2000 ≤ c := by omega
    go_enter Try.func17, Try.ntmps17
    go_wp2
    go_ret
    refine ⟨rfl, ?_, ((Below.refl _ _).alloc (Nat.le_refl _) _)⟩
    have := Rdr.made (c := c) H1.out (by rw [HE.out]; omega) H4.out
    rw [HE.out] at this
    exact this
end Go.Proofs.Ytfhidimmaeiiaaa
