/- 'm[k]++' where the key is computed by a call: the look-up, the entry and the store, in either order, come to one store. No program text is named here. -/
import Derived.Maps.OwnSet
import Derived.Maps.OwnOps
import Derived.WideKeyEntry
namespace Go.Proofs.Ytfpddhehdfckjaa
open Go Go.Maps Go.ChangeMaps Go.MapKept

theorem setBlock_twice (w : World) (b : Nat) (o o' : Obj) : setBlock (setBlock w b o) b o' = setBlock w b o' := by
  simp [setBlock]
theorem setBlock_size (w : World) (b : Nat) (o : Obj) : (setBlock w b o).heap.size = w.heap.size := by simp [setBlock]

theorem bump {P : Program} {t k e b n : Nat} {w : World} {D : DataW Unit} (K0 : WideMaps.KeyLaw P k) (ht : P.underlying t = some (.map k e)) (he : P.underlying e = some (.int .i64))
    (hz : ∀ u : World, (zeroValue e).run P u = .ok (.int .i64 0) u) (hown : w.ownsMap P k (plainElem P e) b n D) (hn : n < maxLen) {key : Value} {kl : Lit} (hkey : keyOf P k key = some kl) (c : Int)
    (hc : D.atKey kl (.lit (.int .i64 0)) = .lit (.int .i64 c)) (hw : (Lit.int .i64 (c + 1)).wf = true) :
    ∃ (v0 : Value) (st : Nat) (w2 w4 : World), (Instr.lookup t (.map (some b)) key false).run P w = .ok (.int .i64 c) w ∧ (Instr.mapEntry t (.map (some b)) key).run P w = .ok (.tuple #[v0, .int .i64 st]) w2 ∧
      (Instr.lookup t (.map (some b)) key false).run P w2 = .ok (.int .i64 c) w2 ∧ (Instr.entryStore t (.map (some b)) (.int .i64 st) (.int .i64 (c + 1))).run P w2 = .ok () w4 ∧
      w4.ownsMap P k (plainElem P e) b (n + 1) (D.put kl (.lit (.int .i64 (c + 1)))) ∧ w.grownBy w4 (some b) ∧ (∀ i o, i ≠ b → w2.cell? ⟨i, o, none⟩ = w.cell? ⟨i, o, none⟩) ∧ (∀ i o, i ≠ b → w4.cell? ⟨i, o, none⟩ = w.cell? ⟨i, o, none⟩) := by
  have K := Keyed.of_law K0
  have hown' := hown
  obtain ⟨c', hl, hc', _⟩ := hown.lookup_int K ht he (hz w) hkey
  obtain rfl : c' = c := by rw [hc] at hc'; simpa using hc'.symm
  obtain ⟨wu, hu1, hu2, hu3⟩ := hown.update K ht hn hkey (plainElem_int he hw)
  obtain ⟨es, clock, hb, F, hs, hD⟩ := hown
  obtain ⟨v0, st, es1, clock1, hE, _, hst⟩ := WideElems.entry_then_store K0 ht hz hb F hkey
  obtain ⟨es', clock', hS1, hS2⟩ := hst (setBlock w b (.map es1 clock1)) (.int .i64 (c' + 1)) (heap_setBlock_same hb _)
  have e1 : wu = setBlock w b (.map es' clock') := by rw [hu1] at hS2; injection hS2
  rw [setBlock_twice, ← e1] at hS1
  have hfar : ∀ i o, i ≠ b → wu.cell? ⟨i, o, none⟩ = w.cell? ⟨i, o, none⟩ := fun i o hi => by
    rw [e1]; exact World.cell?_of_block (w := w) (heap_setBlock_other hb _ hi)
  refine ⟨v0, st, setBlock w b (.map es1 clock1), wu, hl, hE, ?_, hS1, hu2, hu3, fun i o hi => World.cell?_of_block (w := w) (heap_setBlock_other hb _ hi), hfar⟩
  -- the look-up behind the entry
  have hw0 : (Lit.int .i64 0).wf = true := by decide
  rcases K.find w hkey es.toList F.keys with ⟨h1, h2⟩ | ⟨j, e0, h1, h2, h3⟩
  · have hE2 : (Instr.mapEntry t (.map (some b)) key).run P w = .ok (.tuple #[.int .i64 0, goInt clock]) (setBlock w b (.map (es.push ⟨key, .int .i64 0, clock⟩) (clock + 1))) := by
      simp [Instr.mapEntry, run_underlying ht, MapKept.run_getObj_map hb, K.check w false hkey, h1, hz, MapKept.run_setObj_map _ hb, Result.andThen, setBlock]
    have hU2 : (Instr.mapUpdate t (.map (some b)) key (.int .i64 0)).run P w = .ok () (setBlock w b (.map (es.push ⟨key, .int .i64 0, clock⟩) (clock + 1))) := by
      simp [Instr.mapUpdate, run_underlying ht, MapKept.run_getObj_map hb, K.check w false hkey, h1, MapKept.run_setObj_map _ hb, Result.andThen, setBlock]
    obtain ⟨w0, hu01, hu02, _⟩ := hown'.update K ht hn hkey (plainElem_int he hw0)
    have e2 : w0 = setBlock w b (.map es1 clock1) := by
      rw [hu01] at hU2
      rw [hE] at hE2
      injection hU2 with _ a2
      injection hE2 with _ b2
      rw [a2, b2]
    rw [e2] at hu02
    obtain ⟨c2, hl2, hc2, _⟩ := hu02.lookup_int K ht he (hz _) hkey
    rw [atKey_put_same hown'.isMap (K.key hkey)] at hc2
    have : c' = 0 := by
      have hl0 : (Instr.lookup t (.map (some b)) key false).run P w = .ok (.int .i64 0) w := by
        simp [Instr.lookup, run_underlying ht, MapKept.run_getObj_map hb, K.check w _ hkey, h1, hz, Result.andThen]
      rw [hl] at hl0
      simpa using hl0
    have e3 : c2 = 0 := by simpa using hc2.symm
    rw [hl2, e3, this]
  · have hj : es[j]? = some e0 := by simpa using h2
    have hsame : es.modify j (fun e => { e with key := key }) = es := by
      apply Array.ext'
      rw [Array.toList_modify, modify_eq_set _ _ _ _ h2]
      have : ({ e0 with key := key } : MapEntry) = e0 := by rw [← h3]
      rw [this]
      exact WideElems.set_self _ _ _ h2
    have hE2 : (Instr.mapEntry t (.map (some b)) key).run P w = .ok (.tuple #[e0.val, goInt e0.born]) (setBlock w b (.map es clock)) := by
      simp [Instr.mapEntry, run_underlying ht, MapKept.run_getObj_map hb, K.check w false hkey, h1, hj, h3, K.stays w hkey, hsame, MapKept.run_setObj_map _ hb, Result.andThen, setBlock]
    have e2 : setBlock w b (.map es1 clock1) = setBlock w b (.map es clock) := by
      rw [hE] at hE2
      injection hE2
    rw [e2]
    have ho : (setBlock w b (.map es clock)).ownsMap P k (plainElem P e) b n D := ⟨es, clock, heap_setBlock_same hb _, F, hs, hD⟩
    obtain ⟨c2, hl2, hc2, _⟩ := ho.lookup_int K ht he (hz _) hkey
    have e3 : c2 = c' := by rw [hc] at hc2; simpa using hc2.symm
    rw [hl2, e3]
end Go.Proofs.Ytfpddhehdfckjaa
