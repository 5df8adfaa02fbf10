/- FnDiverseOne, walked. -/
import Derived.Test.YtaojjlhlahoocaaLawKit
import Derived.Test.YtaojjlhlahoocaaPlain2
import Derived.Test.YtaojjlhlahoocaaFar
import Derived.Test.YtaojjlhlahoocaaLawKit2
import Derived.Test.YtaojjlhlahoocaaDrwDiverseSize
import Derived.Test.YtaojjlhlahoocaaPlain5
import Derived.IntWalk
namespace Go.Proofs.Ytaojjlhlahoocaa.WFnDiverseOne
open Go.RowKit
set_option linter.unusedVariables false

theorem grown_set9 (w : World) (g o : Nat) (v : Value) : w.grownBy (w.setCell ⟨g, o, none⟩ v) (some g) :=
  ⟨rfl, rfl, rfl, by simp, fun k _ hk => Below.heap_setCell w _ _ k (fun e => hk (by rw [e]))⟩
theorem own_pay {w : World} {base T g c n : Nat} {pre suf : List Pn} {p : Pn} (h : OPpl w base T (.slice (some ⟨g, 0, none⟩) n c) (pre ++ p :: suf)) (hn : n = (pre ++ p :: suf).length) :
    OPpl (w.setCell ⟨g, pre.length * 4 + 3, none⟩ (.int .i64 0)) base T (.slice (some ⟨g, 0, none⟩) n c) (pre ++ noPay p :: suf) := by
  subst hn
  have h1 := (World.ownsRow.stored h (pre.length * 4 + 3) (.int .i64 0)).1
  have hl : (pre.flatMap Pn.vals).length = pre.length * 4 := flat_len Pn.vals 4 Pn.vals_len pre
  unfold OPpl
  have e : ((pre ++ p :: suf).flatMap Pn.vals).set (pre.length * 4 + 3) (.int .i64 0) = (pre ++ noPay p :: suf).flatMap Pn.vals := by
    rw [List.flatMap_append, List.flatMap_cons, List.flatMap_append, List.flatMap_cons, ← hl]
    simp [Pn.vals, noPay]
  rw [e] at h1
  have e2 : (pre ++ p :: suf).length = (pre ++ noPay p :: suf).length := by simp
  rw [e2] at h1 ⊢
  exact h1
set_option maxRecDepth 100000 in
set_option maxHeartbeats 4000000 in
theorem walk (w : World) (A : Option Addr) (c : Nat) (bs : List Int) (hn : bs.length ≤ 9223372036854775807) (hec : bs.length ≤ c ∧ c ≤ 9223372036854775807) (hg : Rds w w.heap.size 1 A bs.length (bs.map (Value.int .u8))) (hb : ∀ z ∈ bs, 0 ≤ z ∧ z ≤ 255) : Calls Try.prog 12 #[.slice A bs.length c] w fun e w' => e = .returned (.bool true) ∧ Below w.heap.size w w' := by
  have hB : Byt w A c bs := ⟨hg, hec.1, hec.2, hb⟩
  clear hg hb
  by_cases hbig : bs.length ≤ 1048576
  · go_enter Try.func12, Try.ntmps12
    go_wp2_with fail
    refine (specDrawDiverseSize A c bs w hB).mono ?_
    rintro e w1 ⟨A1, c1, l, A2, c2, L, ⟨xa, xj, xs⟩, k, rfl, hA, hD, hkb, hb1⟩
    have hD0 := Lib.hid hD
    obtain ⟨hl10, hL4, hxs, hps, hrs, hlc, hcm, hLc, hcm2⟩ := hD
    clear hps hrs hxs hB
    have hW2 : LW (w1.alloc (.cells #[.int .i64 xa, .int .i64 xj, .int .i64 xs] 26)) A1 l A2 L w1.heap.size xa xj xs := ⟨hA.below ((Below.refl _ _).alloc (Nat.le_refl _) _), Blk.new w1 _ _⟩
    have hB2 := hb1.alloc hb1.size (.cells #[.int .i64 xa, .int .i64 xj, .int .i64 xs] 26)
    clear hA hb1
    obtain ⟨V, hV⟩ : ∃ V, V = dSize l L ⟨xa, xj, xs⟩ k := ⟨_, rfl⟩
    have HV := Lib.hid hV
    clear hV
    go_wp2_with fail
    refine (implDiverseSize _ _ _ _ l L ⟨xa, xj, xs⟩ k _ hW2.1).mono ?_
    rw [← HV.out]
    rintro e w3 ⟨rfl, hb3⟩
    have hW3 := hW2.below hb3
    have hB3 := hB2.trans (hb3.mono hB2.size)
    obtain ⟨hc0, hc1, hc2⟩ := hW3.cells
    clear hW2 hB2 hb3
    go_wp2_with fail
    refine (specDiverseSize _ _ _ _ l L ⟨xa, xj, xs⟩ k _ hW3.1).mono ?_
    rw [← HV.out]
    rintro e w4 ⟨rfl, hb4⟩
    have hW4 := hW3.below hb4
    have hB4 := hB3.trans (hb4.mono hB3.size)
    obtain ⟨hc0, hc1, hc2⟩ := hW4.cells
    clear hW3 hB3 hb4
    by_cases hok : 0 ≤ V
    · obtain ⟨ho, hk0, hk1⟩ := dSize_ok (by rw [← HV.out]; exact hok)
      have hfc := noPay_facts ho hk0 hk1
      have hV1 : 1 ≤ V := by rw [HV.out]; exact (size_facts ho hk0 hk1).1
      obtain ⟨T, hT⟩ : ∃ T, T = dSize (noPays l) L ⟨xa, xj, xs⟩ k := ⟨_, rfl⟩
      obtain ⟨F, hF⟩ : ∃ F, F = dFar (noPays l) L ⟨xa, xj, xs⟩ k := ⟨_, rfl⟩
      have hT1 : T = 1 := hT.trans hfc.1
      have hF1 : F = 0 := hF.trans hfc.2
      have HT := Lib.hid hT; clear hT
      have HF := Lib.hid hF; clear hF
      clear ho hfc
      subst hT1 hF1
      have hPA := hW4.1.1
      have hPB := hPA.below (((Below.refl _ _).alloc (Nat.le_refl _) _) : Below w4.heap.size w4 (w4.alloc (.cells #[] 35)))
      go_wp2_with (at_builtin; go_must (refine wpList_append_ppl rfl _ _ rfl w4.heap.size w4.heap.size _ [] l rfl (OPpl.empty w4 35) _ _ _ rfl rfl hPB (by simp; omega) (by simp) ?_))
      intro v9 w9 hown9 hgr9
      have hb9 : Below w4.heap.size w4 w9 := ((Below.refl _ _).alloc (Nat.le_refl _) _).grown hgr9 (by simp) (own_base (OPpl.empty w4 35))
      have hown9 : OPpl w9 w4.heap.size 35 v9 l := hown9
      clear hgr9 hPB hPA hc0 hc1 hc2
      have hl0 : 0 < l.length := by omega
      rcases hown9.2 with ⟨rfl, h0⟩ | ⟨g, cap, cur, rfl, hgb, -⟩
      · omega
      have HB9 := Lib.hid hb9
      clear hb9
      go_wp2
      go_loopw [10] (fun t wr => ∃ pre suf, Cut l pre suf ∧ t = .int .i64 pre.length ∧ OPpl wr w4.heap.size 35 (.slice (some ⟨g, 0, none⟩) l.length cap) (noPays pre ++ suf) ∧ w9.grownBy wr (some g)) (fun t _ => l.length - (intOf t).toNat)
      case atStart => exact ⟨[], l, Cut.zero _, rfl, hown9, World.grownBy.refl _ _⟩
      case round =>
        obtain ⟨pre, suf, hcut, rfl, hown, hgr⟩ := hrel
        clear hown9
        cases suf with
        | nil =>
          have hge := hcut.len0
          rw [hcut.done, List.append_nil] at hown
          have hb49 := HB9.out.grown hgr HB9.out.size (fun k e => by cases e; exact hgb)
          obtain ⟨A9, c9, e9, hWy, -, -, hBy⟩ := join_end hW4 hB4 hown hb49 (by rw [noPays_len]; omega)
          simp only [Value.slice.injEq] at e9
          obtain ⟨rfl, -, rfl⟩ := e9
          obtain ⟨hc0, hc1, hc2⟩ := hWy.cells
          have HGE := Lib.hid hge
          clear hown hgr hb49 hW4 hB4 hcut
          go_wp2_with fail
          have hcon := implDiverseSize (some ⟨g, 0, none⟩) A2 cap c2 (noPays l) L ⟨xa, xj, xs⟩ k _ hWy.yarg
          rw [noPays_len, ← HT.out] at hcon
          refine hcon.mono ?_
          clear hcon
          rintro e w6 ⟨rfl, hb6⟩
          have hW6 := hWy.below hb6
          have hB6 := hBy.trans (hb6.mono hBy.size)
          clear hWy hBy hb6 hc0 hc1 hc2
          obtain ⟨hc0, hc1, hc2⟩ := hW6.cells
          go_wp2_with fail
          have hcon := implDiverseFar (some ⟨g, 0, none⟩) A2 cap c2 (noPays l) L ⟨xa, xj, xs⟩ k _ hW6.yarg
          rw [noPays_len, ← HF.out] at hcon
          refine hcon.mono ?_
          clear hcon
          rintro e w7 ⟨rfl, hb7⟩
          have hB7 := hB6.trans (hb7.mono hB6.size)
          go_wp2
          go_ret
          exact ⟨rfl, hB7⟩
        | cons p suf =>
          have hlt := hcut.len1
          have hnl := noPays_len pre
          have hlen : l.length = (noPays pre ++ p :: suf).length := by rw [List.length_append, hnl]; have := hcut.len; simpa using this
          have hcell : wr.cell? ⟨g, pre.length * 4 + 3, none⟩ = some (.int .i64 p.p) ∧ wr.frozen? ⟨g, pre.length * 4 + 3, none⟩ = false := by
            have hown2 : OPpl wr w4.heap.size 35 (.slice (some ⟨g, 0, none⟩) (noPays pre ++ p :: suf).length cap) (noPays pre ++ p :: suf) := by rw [← hlen]; exact hown
            refine ⟨?_, World.ownsRow.frozenAt hown2 _⟩
            rw [World.ownsRow.cellAt hown2 _ (by omega)]
            have := flat_at Pn.vals 4 Pn.vals_len (noPays pre ++ p :: suf) pre.length p (by rw [List.getElem?_append_right (by omega), hnl]; simp) 3 (by omega)
            exact this
          obtain ⟨hd3, hf3⟩ := hcell
          have HN := Lib.hid (own_pay hown hlen)
          rw [hnl] at HN
          have HG := Lib.hid (hgr.trans (grown_set9 wr g (pre.length * 4 + 3) (.int .i64 0)))
          have hi0 : (0 : Int) ≤ (pre.length : Int) := by omega
          have hi1 : (pre.length : Int) < (l.length : Int) := by omega
          clear hnl hown hgr hlen
          go_wp2
          go_roundw
          case rel =>
            refine ⟨pre ++ [p], suf, hcut.next, by simp, ?_, HG.out⟩
            have e : noPays (pre ++ [p]) ++ suf = noPays pre ++ noPay p :: suf := by simp [noPays]
            rw [e]
            exact HN.out
          case measure => simp [intOf]; omega
    · have hV1 : V < 0 := by omega
      go_wp2
      go_ret
      exact ⟨rfl, hB4⟩
  · have hbig2 : 1048576 < bs.length := by omega
    go_enter Try.func12, Try.ntmps12
    go_wp2
    go_ret
    exact ⟨rfl, Below.refl _ _⟩
end Go.Proofs.Ytaojjlhlahoocaa.WFnDiverseOne
