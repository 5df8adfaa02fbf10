/- The program's sizes of groups: a map keyed by persons without their pay. -/
import Derived.Test.YtfpddhehdfckjaaRecode
import Derived.Test.YtfpddhehdfckjaaGrp2
import Derived.Deep.RegionHeld3
import Derived.Deep.DrawnRows
import Derived.Maps.OwnOps
import Derived.Maps.OwnSet
import Derived.Maps.RangeWalk
import Derived.Test.YtfpddhehdfckjaaBump
import Derived.DeepKeys4
import Derived.Outline
namespace Go.Proofs.Ytfpddhehdfckjaa
open Go.RowKit Go.Maps
attribute [local go_sem ↓] Go.wp_at_zero Go.wp_at_succ

theorem keyLaw0 : WideMaps.KeyLaw Try.prog 82 := deep_law_laid (by kernel_rfl) (m := 3) (by decide) (of_decide_eq_true (by kernel_rfl)) (by kernel_rfl) (by kernel_rfl)
theorem keyLaw : Keyed Try.prog 82 := Keyed.of_law keyLaw0

theorem key_some (p : Pn) (h : p.good) : ∃ kl, keyOf Try.prog 82 p.val = some kl := by
  obtain ⟨a, j, s, q⟩ := p
  obtain ⟨⟨hpa0, hpa1⟩, ⟨hpj0, hpj1⟩, ⟨hps0, hps1⟩, hpp0, hpp1⟩ := h
  dsimp only at *
  have w1 : (Lit.int .i64 a).wf = true := WalkArith.wf_i64 (by omega)
  have w2 : (Lit.int .i64 j).wf = true := WalkArith.wf_i64 (by omega)
  have w3 : (Lit.int .i64 s).wf = true := WalkArith.wf_i64 (by omega)
  have w4 : (Lit.int .i64 q).wf = true := WalkArith.wf_i64 (by omega)
  have hk : Try.prog.keyType 82 = true := by kernel_rfl
  have hc : Try.prog.cellsOf 82 = 4 := by kernel_rfl
  have hc1 : Try.prog.cellsOf 3 = 1 := by kernel_rfl
  obtain ⟨n, hn⟩ : ∃ n, Try.prog.types.size + 1 = n + 1 + 1 := ⟨Try.prog.types.size - 1, by kernel_rfl⟩
  unfold keyOf
  rw [Try.underlying82, hn]
  dsimp only
  rw [hk]
  have hf : (Pn.val ⟨a, j, s, q⟩).formed Try.prog 82 = true := by
    simp [Value.formed, Try.underlying82, hc]
  rw [hf]
  have hi : ∀ z : Int, (Lit.int .i64 z).wf = true → Try.prog.keyLits (n + 1) 3 [.int .i64 z] = some [.int .i64 z] := fun z hz => by
    simp [Program.keyLits, Try.underlying3, hz]
  have e : Try.prog.keyLits (n + 1 + 1) 82 [.int .i64 a, .int .i64 j, .int .i64 s, .int .i64 q] = some [.int .i64 a, .int .i64 j, .int .i64 s, .int .i64 q] := by
    unfold Program.keyLits
    rw [Try.underlying82]
    simp [hc, hc1, hi a w1, hi j w2, hi s w3, hi q w4]
  refine ⟨.string (keyBytes [.int .i64 a, .int .i64 j, .int .i64 s, .int .i64 q]), ?_⟩
  have e2 : (Pn.val ⟨a, j, s, q⟩).cells.toList = [.int .i64 a, .int .i64 j, .int .i64 s, .int .i64 q] := rfl
  rw [e2, e]
  rfl

/-- A person without the pay stands for the group. -/
def g0 (p : Pn) : Pn := ⟨p.a, p.j, p.s, 0⟩
theorem g0_good {p : Pn} (h : p.good) : (g0 p).good := by
  obtain ⟨h1, h2, h3, h4⟩ := h
  exact ⟨h1, h2, h3, by show (0 : Int) ≤ 0; decide, by show (0 : Int) ≤ 999; decide⟩
theorem g0_same {p q : Pn} : (g0 p).val = (g0 q).val ↔ sameG p q = true := by
  rw [sameG_iff]
  simp [g0]

theorem implGroupOf (p : Pn) (w : World) : Calls Try.prog 70 #[p.val] w fun e w' => e = .returned (g0 p).val ∧ Below w.heap.size w w' := by
  obtain ⟨a, j, s, y⟩ := p
  unfold Pn.val g0
  dsimp only
  go_enter Try.func70, Try.ntmps70
  go_wp2
  refine bodyPost_ret ?_ rfl ⟨rfl, (((Below.refl _ _).alloc (Nat.le_refl _) _).alloc (by simp <;> omega) _)⟩
  simp [results, Try.results70, go_sem]

theorem sameG_symm (p q : Pn) : sameG p q = sameG q p := by
  rw [Bool.eq_iff_iff, sameG_iff, sameG_iff]
  constructor <;> (rintro ⟨h1, h2, h3⟩; exact ⟨h1.symm, h2.symm, h3.symm⟩)
theorem gsz_same {x : List Pn} {p q : Pn} (h : sameG p q = true) : gsz x p = gsz x q := by
  unfold gsz
  apply List.countP_congr
  intro z _
  rw [sameG_iff] at h
  rw [sameG_iff, sameG_iff, h.1, h.2.1, h.2.2]

/-- Block b is a map that holds the sizes of x's groups. -/
def GMap (w : World) (b : Nat) (x : List Pn) : Prop := ∃ D : DataW Unit, w.ownsMap Try.prog 82 (plainElem Try.prog 3) b x.length D ∧
  (∀ q, q.good → ∀ kl, keyOf Try.prog 82 (g0 q).val = some kl → D.atKey kl (.lit (.int .i64 0)) = .lit (.int .i64 (gsz x q)) ∧ Maps.has D kl = decide (0 < gsz x q)) ∧
  Maps.size D = gmany x ∧ ∀ kl, Maps.has D kl = true → ∃ q ∈ x, keyOf Try.prog 82 (g0 q).val = some kl
theorem GMap.made (w : World) : GMap (w.alloc (.map #[] 0)) w.heap.size [] :=
  ⟨.map [], World.ownsMap_made w _ _ _, fun q _ kl _ => ⟨rfl, rfl⟩, rfl, fun kl h => by cases h⟩
theorem GMap.kept {w w' : World} {b : Nat} {x : List Pn} {row : Option Nat} (h : GMap w b x) (hg : w.grownBy w' row) (hne : some b ≠ row) : GMap w' b x := by
  obtain ⟨D, h1, h2⟩ := h
  exact ⟨D, h1.kept hg hne, h2⟩
theorem GMap.below {w w' : World} {b B : Nat} {x : List Pn} (h : GMap w b x) (hb : Below B w w') (hB : b < B) : GMap w' b x := by
  obtain ⟨D, ⟨es, clock, h1, h3⟩, h2⟩ := h
  exact ⟨D, ⟨es, clock, (hb.block b hB).trans h1, h3⟩, h2⟩
theorem GMap.lt {w : World} {b : Nat} {x : List Pn} (h : GMap w b x) : b < w.heap.size := by
  obtain ⟨D, h1, _⟩ := h
  exact h1.lt
theorem GMap.put {w w' : World} {b : Nat} {x : List Pn} {q : Pn} {kl : Lit} {D : DataW Unit} (hq : q.good) (hkl : keyOf Try.prog 82 (g0 q).val = some kl)
    (hD : w.ownsMap Try.prog 82 (plainElem Try.prog 3) b x.length D)
    (h2 : ∀ q, q.good → ∀ kl, keyOf Try.prog 82 (g0 q).val = some kl → D.atKey kl (.lit (.int .i64 0)) = .lit (.int .i64 (gsz x q)) ∧ Maps.has D kl = decide (0 < gsz x q))
    (h3 : Maps.size D = gmany x) (h4 : ∀ kl, Maps.has D kl = true → ∃ q ∈ x, keyOf Try.prog 82 (g0 q).val = some kl)
    (ho : w'.ownsMap Try.prog 82 (plainElem Try.prog 3) b (x.length + 1) (D.put kl (.lit (.int .i64 ((gsz x q : Int) + 1))))) : GMap w' b (x ++ [q]) := by
  have hk := keyLaw.key hkl
  refine ⟨_, by rw [List.length_append]; exact ho, ?_, ?_, ?_⟩
  · intro p hp kp hkp
    by_cases e : kp = kl
    · subst e
      have hv := keyLaw.inj hkp hkl
      have hs : sameG q p = true := g0_same.1 hv.symm
      rw [atKey_put_same hD.isMap hk, has_put_same hD.isMap hk, gsz_yes hs, ← gsz_same hs]
      simp
    · have hs : sameG q p = false := by
        cases hb : sameG q p
        · rfl
        · exact absurd (by rw [g0_same.2 hb, hkp] at hkl; injection hkl) e
      rw [atKey_put_other e, has_put_other e, gsz_no hs]
      exact h2 p hp kp hkp
  · rw [size_put (hD.tidy keyLaw), h3, gmany_snoc, (h2 q hq kl hkl).2]
    by_cases h0 : gsz x q = 0
    · simp [h0]
    · have : 0 < gsz x q := by omega
      simp [this, h0]
  · intro kp hkp
    by_cases e : kp = kl
    · subst e
      exact ⟨q, by simp, hkl⟩
    · rw [has_put_other e] at hkp
      obtain ⟨p, hp, hpk⟩ := h4 kp hkp
      exact ⟨p, by simp [hp], hpk⟩

theorem zeroInt (w : World) : (zeroValue 3).run Try.prog w = .ok (.int .i64 0) w := by kernel_rfl

/-- The three operations of 'sizes[group]++', at a world in which the map holds x's sizes. -/
def Bumps (w : World) (b : Nat) (n : Nat) (kv v0 : Value) (st : Nat) (w2 w4 : World) : Prop :=
  (Instr.lookup 86 (.map (some b)) kv false).run Try.prog w = .ok (.int .i64 n) w ∧ (Instr.mapEntry 86 (.map (some b)) kv).run Try.prog w = .ok (.tuple #[v0, .int .i64 st]) w2 ∧
  (Instr.lookup 86 (.map (some b)) kv false).run Try.prog w2 = .ok (.int .i64 n) w2 ∧ (Instr.entryStore 86 (.map (some b)) (.int .i64 st) (.int .i64 ((n : Int) + 1))).run Try.prog w2 = .ok () w4
theorem GMap.bump {w : World} {b : Nat} {x : List Pn} {q : Pn} {kv : Value} (h : GMap w b x) (hq : q.good) (hx : x.length ≤ 2000000) (hkv : (g0 q).val = kv) :
    ∃ v0 st w2 w4, Bumps w b (gsz x q) kv v0 st w2 w4 ∧ GMap w4 b (x ++ [q]) ∧ w.grownBy w4 (some b) ∧ (∀ i o, i ≠ b → w2.cell? ⟨i, o, none⟩ = w.cell? ⟨i, o, none⟩) ∧ (∀ i o, i ≠ b → w4.cell? ⟨i, o, none⟩ = w.cell? ⟨i, o, none⟩) := by
  subst hkv
  obtain ⟨D, h1, h2, h3, h4⟩ := h
  obtain ⟨kl, hkl⟩ := key_some _ (g0_good hq)
  have hgl := gsz_le x q
  obtain ⟨v0, st, w2, w4, e1, e2, e3, e4, e5, e6, e7, e8⟩ := Go.Proofs.Ytfpddhehdfckjaa.bump keyLaw0 Try.underlying86 Try.underlying3 zeroInt h1 (by unfold maxLen; omega) hkl (gsz x q) (h2 q hq kl hkl).1 (WalkArith.wf_i64 (by omega))
  exact ⟨v0, st, w2, w4, ⟨e1, e2, e3, e4⟩, GMap.put hq hkl h1 h2 h3 h4 e5, e6, e7, e8⟩
theorem implGroupOf' {p : Pn} {kv : Value} (h : (g0 p).val = kv) (w : World) : Calls Try.prog 70 #[p.val] w fun e w' => e = .returned kv ∧ Below w.heap.size w w' := by
  subst h
  exact implGroupOf p w

theorem groupOfBump {q : Pn} {kv : Value} {W : World} {b : Nat} {pre : List Pn} (hG : GMap W b pre) (hq : q.good) (hx : pre.length ≤ 2000000) (hkv : (g0 q).val = kv) (g : Nat) (hg : g ≠ b) (hgl : g < W.heap.size) :
    Calls Try.prog 70 #[q.val] W fun e w3 => e = .returned kv ∧ ∃ v0 st w4 w5, Bumps w3 b (gsz pre q) kv v0 st w4 w5 ∧ GMap w5 b (pre ++ [q]) ∧ Hid (Below b W w5) ∧ (∀ o, w3.cell? ⟨g, o, none⟩ = W.cell? ⟨g, o, none⟩) ∧ (∀ o, w4.cell? ⟨g, o, none⟩ = W.cell? ⟨g, o, none⟩) ∧ (∀ o, w5.cell? ⟨g, o, none⟩ = W.cell? ⟨g, o, none⟩) := by
  refine (implGroupOf' hkv W).mono fun e w3 ⟨he, hb⟩ => ⟨he, ?_⟩
  obtain ⟨v0, st, w4, w5, h1, h2, h3, h4, h5⟩ := GMap.bump (hG.below hb hG.lt) hq hx hkv
  have hc : ∀ o, w3.cell? ⟨g, o, none⟩ = W.cell? ⟨g, o, none⟩ := fun o => hb.cell (p := ⟨g, o, none⟩) hgl
  exact ⟨v0, st, w4, w5, h1, h2, (hb.mono (Nat.le_of_lt hG.lt)).grown h3 (Nat.le_trans (Nat.le_of_lt hG.lt) hb.size) (fun k e => by cases e; exact Nat.le_refl _), hc, fun o => (h4 g o hg).trans (hc o), fun o => (h5 g o hg).trans (hc o)⟩

set_option maxRecDepth 100000 in
set_option maxHeartbeats 1000000 in
theorem implGroupsOf (A : Option Addr) (c : Nat) (x : List Pn) (w : World) (hP : Ppl w w.heap.size A x) (hgd : ∀ p ∈ x, p.good) (hn : x.length ≤ 2000000) :
    Calls Try.prog 69 #[.slice A x.length c] w fun e w' => e = .returned (.map (some w.heap.size)) ∧ GMap w' w.heap.size x ∧ Below w.heap.size w w' := by
  have HGD := Lib.hid hgd
  clear hgd
  have hmm := @run_makeMap Try.prog
  go_enter Try.func69, Try.ntmps69
  go_wp2
  clear hmm
  go_loopw [9] (fun i wr => ∃ pre suf, Cut x pre suf ∧ i = .int .i64 pre.length ∧ GMap wr w.heap.size pre ∧ Below w.heap.size w wr) (fun i _ => x.length - (intOf i).toNat)
  case atStart => exact ⟨[], x, Cut.zero _, rfl, GMap.made w, ((Below.refl _ _).alloc (Nat.le_refl _) _)⟩
  case round =>
    obtain ⟨pre, suf, hcut, rfl, hgm, hbel⟩ := hrel
    cases suf with
    | nil =>
      have hge := hcut.len0
      go_wp2
      go_ret
      rw [hcut.done] at hgm
      exact ⟨rfl, hgm, hbel⟩
    | cons q suf =>
      have hlt := hcut.len1
      have hqg := Lib.hid (HGD.out q hcut.mem)
      have hgq := gsz_le pre q
      obtain ⟨b, off, rfl, hb, hc0, hc1, hc2, hc3⟩ := (Ppl.below hP hbel).at_ hcut.at_
      have hbs := hbel.size
      have HGM := Lib.hid hgm
      have hml := hgm.lt
      have HBEL := Lib.hid hbel
      clear hgm hbel
      obtain ⟨kv, hkv⟩ : ∃ kv, (g0 q).val = kv := ⟨_, rfl⟩
      have HKV := Lib.hid hkv
      clear hkv
      have hne : wr.heap.size ≠ w.heap.size := by omega
      have HNE := Lib.hid hne
      have HG1 := Lib.hid (HGM.out.below ((Below.refl wr.heap.size wr).alloc (Nat.le_refl _) (.cells #[.int .i64 q.a, .int .i64 q.j, .int .i64 q.s, .int .i64 q.p] 82)) hml)
      have HB1 := Lib.hid (HBEL.out.alloc hbs (.cells #[.int .i64 q.a, .int .i64 q.j, .int .i64 q.s, .int .i64 q.p] 82))
      clear hne
      have hwr : IntKind.i64.wrap ((gsz pre q : Int) + 1) = (gsz pre q : Int) + 1 := IntWalk.i64_in _ (by omega)
      go_wp2_with fail
      go_region_held3 (fun w' => w'.cell? ⟨wr.heap.size, 0, none⟩ = some (.int .i64 q.a) ∧ w'.cell? ⟨wr.heap.size, 1, none⟩ = some (.int .i64 q.j) ∧ w'.cell? ⟨wr.heap.size, 2, none⟩ = some (.int .i64 q.s) ∧ w'.cell? ⟨wr.heap.size, 3, none⟩ = some (.int .i64 q.p))
        (go_keep)
        (first
          | (go_at_call 70; refine (groupOfBump (b := w.heap.size) (by exact HG1.out) hqg.out (by omega) HKV.out wr.heap.size HNE.out (by simp)).mono ?_; rintro e w3 ⟨rfl, v0, st, w4, w5, ⟨e1, e2, e3, e4⟩, hG5, HB5, hc3, hc4, hc5⟩)
          | fail)
      all_goals
        have hbl5 := HB1.out.drew.trans HB5.out
        clear hc3 hc4 hc5 e1 e2 e3 e4 hwr
        go_wp2
        go_roundw
        case rel => exact ⟨pre ++ [q], suf, hcut.next, by simp, hG5, hbl5⟩
        case measure => simp [intOf]; omega
end Go.Proofs.Ytfpddhehdfckjaa
