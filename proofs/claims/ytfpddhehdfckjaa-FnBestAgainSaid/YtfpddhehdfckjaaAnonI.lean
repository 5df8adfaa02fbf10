/- The program's functions on anonymity: kept people, dropped people. -/
import Derived.Test.YtfpddhehdfckjaaGrpI
namespace Go.Proofs.Ytfpddhehdfckjaa
open Go.RowKit Go.Maps

def okK (l : List Pn) (L : List (List Int)) (r : Rc) (k : Int) : Prop := okA l L r ∧ 1 ≤ k ∧ k ≤ 40
/-- What keeping people of large groups hands back. -/
def KpOut (T : Nat) (l : List Pn) (L : List (List Int)) (r : Rc) (k : Int) (w : World) (e : Ending) (w' : World) : Prop :=
  (okK l L r k ∧ ∃ v, e = .returned (.tuple #[v, .bool true]) ∧ OPpl w' w.heap.size T v (kept (recd L r l) k) ∧ Below w.heap.size w w') ∨
  (¬ okK l L r k ∧ ∃ v, e = .returned (.tuple #[v, .bool false]) ∧ OPpl w' w.heap.size T v [] ∧ Below w.heap.size w w')

set_option maxRecDepth 100000 in
set_option maxHeartbeats 1000000 in
theorem implAnonKeep (A A2 : Option Addr) (c c2 : Nat) (l : List Pn) (L : List (List Int)) (r : Rc) (k : Int) (w : World) (h : Arg w A l A2 L) :
    Calls Try.prog 41 #[.slice A l.length c, .slice A2 L.length c2, r.val, .int .i64 k] w (KpOut 82 l L r k w) := by
  obtain ⟨i0, hi, hz0, hz1, hz2⟩ := info_parts infoP
  have H := Lib.hid h
  clear h
  have HB := Lib.hid (fun o => (Below.refl w.heap.size w).alloc (Nat.le_refl _) o)
  obtain ⟨ra, rj, rs⟩ := r
  unfold Rc.val
  dsimp only
  have hn : l.length ≤ 2000000 := H.out.2.1
  go_enter Try.func41, Try.ntmps41
  go_wp2_with fail
  refine (implRecodePeople A A2 c c2 l L ⟨ra, rj, rs⟩ _ (H.out.below (HB.out _))).mono ?_
  rintro e w1 hout
  rcases hout.up with hout | hout
  · obtain ⟨hok, x, A', c', hx, h40, hxc, hxm, hxl, hgd, rfl, hP, hb1⟩ := hout
    by_cases hin : 1 ≤ k ∧ k ≤ 40
    · obtain ⟨h0, h1⟩ := hin
      go_wp2_with (first | (go_at_call 69; refine (implGroupsOf _ _ x _ hP hgd.out.1 (by omega)).mono ?_; rintro e wa ⟨rfl, hGa, hBa⟩) | go_in)
      have hba := hb1.trans (hBa.mono hb1.size)
      have hPa := (hP.below hBa).more hBa.size
      have hml := hGa.lt
      clear hBa
      go_loopw [13, 34] (fun v i wr => ∃ pre suf, Cut x pre suf ∧ i = .int .i64 pre.length ∧ OPpl wr wa.heap.size 82 v (keepTo x k pre) ∧ Below wa.heap.size wa wr) (fun _ i _ => x.length - (intOf i).toNat)
      case atStart => exact ⟨[], x, Cut.zero _, rfl, OPpl.nil _ _ _, Below.refl _ _⟩
      case round =>
        obtain ⟨pre, suf, hcut, rfl, hown, hbel⟩ := hrel
        cases suf with
        | nil =>
          have hge := hcut.len0
          go_wp2
          go_ret2
          refine .inl ⟨⟨hok.out, h0, h1⟩, _, rfl, ?_, hba.trans (hbel.mono hba.size)⟩
          rw [hcut.done] at hown
          rw [← hx.out]
          exact own_weaken hown hba.size
        | cons q suf =>
          have hlt := hcut.len1
          have hkl := keepTo_le x k pre
          have hgl := gsz_le x q
          obtain ⟨b, off, rfl, hb, hc0, hc1, hc2, hc3⟩ := (hPa.below hbel).at_ hcut.at_
          have hqg := Lib.hid (hgd.out.1 q hcut.mem)
          have hbs := hbel.size
          have hbb : b < wr.heap.size := by omega
          have HGM := Lib.hid (hGa.below hbel hml)
          obtain ⟨kv, hkv⟩ : ∃ kv, (g0 q).val = kv := ⟨_, rfl⟩
          have HKV := Lib.hid hkv
          clear hkv
          have hb2 := hbel.alloc hbs (.cells #[.int .i64 q.a, .int .i64 q.j, .int .i64 q.s, .int .i64 q.p] 82)
          have HBB := Lib.hid ((Below.refl wr.heap.size wr).alloc (Nat.le_refl _) (.cells #[.int .i64 q.a, .int .i64 q.j, .int .i64 q.s, .int .i64 q.p] 82))
          have hblk := Blk.new wr 82 #[.int .i64 q.a, .int .i64 q.j, .int .i64 q.s, .int .i64 q.p]
          have hown2 := World.ownsRow.alloc hown (.cells #[.int .i64 q.a, .int .i64 q.j, .int .i64 q.s, .int .i64 q.p] 82)
          go_wp2_with fail
          refine (implGroupOf' HKV.out _).mono ?_
          rintro e w3 ⟨rfl, hb3⟩
          have hb4 := hb2.trans (hb3.mono hb2.size)
          have hlb : (Instr.lookup 86 (.map (some w1.heap.size)) kv false).run Try.prog w3 = .ok (.int .i64 (gsz x q)) w3 := GMap.look (GMap.below (GMap.below HGM.out HBB.out (by omega)) hb3 (by simp; omega)) hqg.out HKV.out
          have hblk3 := hblk.below hb3 hblk.lt
          have hd0 := hblk3.cell 0
          have hd1 := hblk3.cell 1
          have hd2 := hblk3.cell 2
          have hd3 := hblk3.cell 3
          simp at hd0 hd1 hd2 hd3
          have hown3 := OPpl.below hown2 hb3
          have hs3 := hb4.size
          clear hb3 hblk hown2 hc0 hc1 hc2 hc3
          by_cases hq : k ≤ (gsz x q : Int)
          · have HL := Lib.hid (show (keepTo x k pre).length ≤ 40 by omega)
            go_wp2_with (at_builtin; refine wpList_append_own _ rfl _ _ 40 rfl wa.heap.size 82 i0 _ 4 32 Try.underlying40 hi hz0 hz1 hz2 rfl (by decide) _ _ _ rfl (World.ownsRow.alloc hown3 _) ⟨w3.heap.size, 0, none⟩ 1 1 q.vals rfl rfl (cells4 _ q _) (one4 _) (by have := HL.out; unfold maxLen; omega) (by have := HL.out; omega) (by simp; omega) ?_)
            intro v' w5 hown' hgrow _
            have hb5 := (hb4.alloc hs3 _).grown hgrow (by simp; omega) (own_base hown3)
            clear hgrow hd0 hd1 hd2 hd3 hlb
            go_wp2
            go_roundw
            case rel => exact ⟨pre ++ [q], suf, hcut.next, by simp, by rw [keepTo_snoc, if_pos hq]; exact OPpl.snoc hown', hb5⟩
            case measure => simp [intOf]; omega
          · have hq' : decide (k ≤ (gsz x q : Int)) = false := by simp; omega
            go_wp2
            go_roundw
            case rel => exact ⟨pre ++ [q], suf, hcut.next, by simp, by rw [keepTo_snoc, if_neg (by omega), List.append_nil]; exact hown3, hb4⟩
            case measure => simp [intOf]; omega
    · by_cases h0 : k < 1
      · go_wp2
        go_ret2
        exact .inr ⟨fun h => hin h.2, _, rfl, OPpl.nil _ _ _, hb1⟩
      · have h1 : 40 < k := by omega
        have h2 : 1 ≤ k := by omega
        have h3 : decide (k ≤ 40) = false := by simp; omega
        have HIN := Lib.hid hin
        clear h0 hin
        go_wp2
        go_ret2
        exact .inr ⟨fun h => HIN.out h.2, _, rfl, OPpl.nil _ _ _, hb1⟩
  · obtain ⟨hok, A', c', rfl, hb1⟩ := hout
    go_wp2
    go_ret2
    exact .inr ⟨fun h => hok.out h.1, _, rfl, OPpl.nil _ _ _, hb1⟩

/-- What a caller of AnonKeep has in hand. -/
def KpX (l : List Pn) (L : List (List Int)) (r : Rc) (k : Int) (w : World) (e : Ending) (w' : World) : Prop :=
  (Hid (okK l L r k) ∧ ∃ x A c, Hid (x = kept (recd L r l) k) ∧ x.length ≤ 40 ∧ x.length ≤ c ∧ c ≤ 9223372036854775807 ∧ Hid (goodL x) ∧ e = .returned (.tuple #[.slice A x.length c, .bool true]) ∧ Ppl w' w'.heap.size A x ∧ Below w.heap.size w w') ∨
  (Hid (¬ okK l L r k) ∧ ∃ A c, e = .returned (.tuple #[.slice A 0 c, .bool false]) ∧ Below w.heap.size w w')
theorem kept_good {x : List Pn} {k : Int} (h : goodL x) : goodL (kept x k) :=
  ⟨fun p hp => h.1 p (List.mem_filter.1 hp).1, Nat.le_trans (keepTo_le x k x) h.2⟩
theorem KpOut.x {T : Nat} {l : List Pn} {L : List (List Int)} {r : Rc} {k : Int} {w : World} {e : Ending} {w' : World} (h : KpOut T l L r k w e w') : KpX l L r k w e w' := by
  rcases h with ⟨hok, v, rfl, hown, hb⟩ | ⟨hok, v, rfl, hown, hb⟩
  · obtain ⟨A, c, rfl, hP, hc1, hc2⟩ := hown.form
    have hg := kept_good (k := k) (recd_good hok.1)
    exact .inl ⟨hok, kept (recd L r l) k, A, c, (show kept (recd L r l) k = kept (recd L r l) k from rfl), hg.2, hc1, hc2, hg, rfl, hP, hb⟩
  · obtain ⟨A, c, rfl, hP, _⟩ := hown.form
    exact .inr ⟨hok, A, c, rfl, hb⟩

set_option maxHeartbeats 1000000 in
theorem implAnonDrop (A A2 : Option Addr) (c c2 : Nat) (l : List Pn) (L : List (List Int)) (r : Rc) (k : Int) (w : World) (h : Arg w A l A2 L) :
    Calls Try.prog 33 #[.slice A l.length c, .slice A2 L.length c2, r.val, .int .i64 k] w fun e w' => e = .returned (.int .i64 (aDrop l L r k)) ∧ Below w.heap.size w w' := by
  have H := Lib.hid h
  clear h
  have HB := Lib.hid (fun o => (Below.refl w.heap.size w).alloc (Nat.le_refl _) o)
  obtain ⟨ra, rj, rs⟩ := r
  unfold Rc.val
  dsimp only
  have hn : l.length ≤ 2000000 := H.out.2.1
  go_enter Try.func33, Try.ntmps33
  go_wp2_with fail
  refine (implAnonKeep A A2 c c2 l L ⟨ra, rj, rs⟩ k _ (H.out.below (HB.out _))).mono ?_
  rintro e w1 hout
  rcases hout.x with ⟨hok, x, A', c', hx, h40, hxc, hxm, hgd, rfl, hP, hb1⟩ | ⟨hok, A', c', rfl, hb1⟩
  · have HF : Hid (aDrop l L ⟨ra, rj, rs⟩ k = (l.length : Int) - x.length) := by
      unfold Hid
      rw [aDrop_yes hok.out.1 rfl hok.out.2.1 hok.out.2.2, hx.out]
      have := kept_drop (recd L ⟨ra, rj, rs⟩ l) k
      rw [recd_length] at this
      omega
    go_wp2
    go_ret
    exact ⟨ret_int HF.out.symm, (HB.out _).trans (hb1.mono (HB.out _).size)⟩
  · have HF := Lib.hid (show aDrop l L ⟨ra, rj, rs⟩ k = -1 from if_neg hok.out)
    go_wp2
    go_ret
    exact ⟨ret_int HF.out.symm, (HB.out _).trans (hb1.mono (HB.out _).size)⟩

end Go.Proofs.Ytfpddhehdfckjaa
