/- The program's functions on groups. -/
import Derived.Test.YtaojjlhlahoocaaMap
import Derived.Test.YtaojjlhlahoocaaGrpS
namespace Go.Proofs.Ytaojjlhlahoocaa
open Go.RowKit Go.Maps
attribute [local go_sem ↓] Go.wp_at_zero Go.wp_at_succ

theorem GMap.look {w : World} {b : Nat} {x : List Pn} {q : Pn} {kv : Value} (h : GMap w b x) (hq : q.good) (hkv : (g0 q).val = kv) :
    (Instr.lookup 42 (.map (some b)) kv false).run Try.prog w = .ok (.int .i64 (gsz x q)) w := by
  subst hkv
  obtain ⟨D, h1, h2, h3, h4⟩ := h
  obtain ⟨kl, hkl⟩ := key_some _ (g0_good hq)
  obtain ⟨c, e1, e2, _⟩ := h1.lookup_int keyLaw Try.underlying42 Try.underlying3 (zeroInt w) hkl
  rw [(h2 q hq kl hkl).1] at e2
  rw [e1]
  simp at e2
  rw [e2]

set_option maxRecDepth 100000 in
set_option maxHeartbeats 1000000 in
theorem implGroupSize (A A2 : Option Addr) (c c2 : Nat) (l : List Pn) (L : List (List Int)) (r : Rc) (k : Int) (w : World) (h : Arg w A l A2 L) :
    Calls Try.prog 31 #[.slice A l.length c, .slice A2 L.length c2, r.val, .int .i64 k] w fun e w' => e = .returned (.int .i64 (gSize l L r k)) ∧ Below w.heap.size w w' := by
  have H := Lib.hid h
  clear h
  have HB := Lib.hid (fun o => (Below.refl w.heap.size w).alloc (Nat.le_refl _) o)
  obtain ⟨ra, rj, rs⟩ := r
  unfold Rc.val
  dsimp only
  have hn : l.length ≤ 2000000 := H.out.2.1
  go_enter Try.func31, Try.ntmps31
  go_wp2_with fail
  refine (implRecodePeople A A2 c c2 l L ⟨ra, rj, rs⟩ _ (H.out.below (HB.out _))).mono ?_
  rintro e w1 hout
  rcases hout.up with hout | hout
  · obtain ⟨hok, x, A', c', hx, h40, hxc, hxm, hxl, hgd, rfl, hP, hb1⟩ := hout
    by_cases hin : 0 ≤ k ∧ k < x.length
    · obtain ⟨h0, h1⟩ := hin
      have HF := Lib.hid (gSize_yes hok.out hx.out h0 (by rw [hxl.out] at h1; exact h1))
      obtain ⟨m, rfl⟩ : ∃ m : Nat, k = m := ⟨k.toNat, by omega⟩
      have hml : m < x.length := by omega
      obtain ⟨b, off, rfl, hb, hc0, hc1, hc2, hc3⟩ := hP.at_ (nth_at hml)
      have hqg := Lib.hid (hgd.out.1 _ (nth_mem hml))
      rw [Int.toNat_natCast] at HF
      generalize nth x m = q at *
      obtain ⟨kv, hkv⟩ : ∃ kv, (g0 q).val = kv := ⟨_, rfl⟩
      have HKV := Lib.hid hkv
      clear hkv
      have HP := Lib.hid hP
      have HB1 := Lib.hid hb1
      clear hP hb1
      go_wp2_with fail
      go_region_held3 (fun w' => w'.cell? ⟨b, off + m * 4, none⟩ = some (.int .i64 q.a) ∧ w'.cell? ⟨b, off + m * 4 + 1, none⟩ = some (.int .i64 q.j) ∧ w'.cell? ⟨b, off + m * 4 + 2, none⟩ = some (.int .i64 q.s) ∧ w'.cell? ⟨b, off + m * 4 + 3, none⟩ = some (.int .i64 q.p))
        (go_keep)
        (first
          | (go_at_call 36; refine (implGroupsOf _ _ x _ (by exact HP.out) hgd.out.1 (by omega)).mono ?_; rintro e wa ⟨rfl, HGa, HBa⟩; have hca : ∀ i o, i < w1.heap.size → wa.cell? ⟨i, o, none⟩ = w1.cell? ⟨i, o, none⟩ := (fun i o hi => HBa.cell (p := ⟨i, o, none⟩) hi); have HBA : Hid (Below w1.heap.size w1 wa) := (Below.refl w1.heap.size w1).drew.trans HBa; clear HBa)
          | (go_at_call 37; refine (implGroupOf' HKV.out _).mono ?_; rintro e wb ⟨rfl, hBb⟩; have HBb := Lib.hid hBb; clear hBb; have hcb : ∀ i o, i < wa.heap.size → wb.cell? ⟨i, o, none⟩ = wa.cell? ⟨i, o, none⟩ := (fun i o hi => HBb.out.cell (p := ⟨i, o, none⟩) hi); have hba : b < wa.heap.size := Nat.lt_of_lt_of_le hb HBA.out.size; have hlb : (Instr.lookup 42 (.map (some w1.heap.size)) kv false).run Try.prog wb = .ok (.int .i64 (gsz x q)) wb := GMap.look (GMap.below HGa HBb.out HGa.lt) hqg.out HKV.out)
          | fail)
      have hbl := HB1.out.trans ((HBA.out.trans (HBb.out.mono HBA.out.size)).mono HB1.out.size)
      clear hca hcb hlb
      go_wp2
      go_ret
      exact ⟨ret_int HF.out.symm, hbl⟩
    · have HF := Lib.hid (show gSize l L ⟨ra, rj, rs⟩ k = -1 from if_neg (fun h => hin (by rw [hxl.out]; exact h.2)))
      by_cases h0 : k < 0
      · go_wp2
        go_ret
        exact ⟨ret_int HF.out.symm, hb1⟩
      · have h1 : (x.length : Int) ≤ k := by omega
        have h2 : 0 ≤ k := by omega
        clear h0 hin
        go_wp2
        go_ret
        exact ⟨ret_int HF.out.symm, hb1⟩
  · obtain ⟨hok, A', c', rfl, hb1⟩ := hout
    have HF := Lib.hid (show gSize l L ⟨ra, rj, rs⟩ k = -1 from if_neg (fun h => hok.out h.1))
    go_wp2
    go_ret
    exact ⟨ret_int HF.out.symm, hb1⟩

theorem GMap.len {w : World} {b : Nat} {x : List Pn} (h : GMap w b x) (ty : TypeId) : (Builtin.len_ #[42] ty #[.map (some b)]).run Try.prog w = .ok (.int .i64 (gmany x)) w := by
  obtain ⟨D, h1, h2, h3, h4⟩ := h
  rw [h1.len Try.underlying42 ty, h3]

set_option maxRecDepth 100000 in
set_option maxHeartbeats 1000000 in
theorem implGroupMany (A A2 : Option Addr) (c c2 : Nat) (l : List Pn) (L : List (List Int)) (r : Rc) (w : World) (h : Arg w A l A2 L) :
    Calls Try.prog 32 #[.slice A l.length c, .slice A2 L.length c2, r.val] w fun e w' => e = .returned (.int .i64 (gMany l L r)) ∧ Below w.heap.size w w' := by
  have H := Lib.hid h
  clear h
  have HB := Lib.hid (fun o => (Below.refl w.heap.size w).alloc (Nat.le_refl _) o)
  obtain ⟨ra, rj, rs⟩ := r
  unfold Rc.val
  dsimp only
  have hn : l.length ≤ 2000000 := H.out.2.1
  go_enter Try.func32, Try.ntmps32
  go_wp2_with fail
  refine (implRecodePeople A A2 c c2 l L ⟨ra, rj, rs⟩ _ (H.out.below (HB.out _))).mono ?_
  rintro e w1 hout
  rcases hout.up with hout | hout
  · obtain ⟨hok, x, A', c', hx, h40, hxc, hxm, hxl, hgd, rfl, hP, hb1⟩ := hout
    have HF := Lib.hid (gMany_yes hok.out hx.out)
    go_wp2_with fail
    refine (implGroupsOf _ _ x _ hP hgd.out.1 (by omega)).mono ?_
    rintro e wa ⟨rfl, hGa, hBa⟩
    have hlen := fun ty => hGa.len ty
    go_wp2
    go_ret
    exact ⟨ret_int HF.out.symm, hb1.trans (hBa.mono hb1.size)⟩
  · obtain ⟨hok, A', c', rfl, hb1⟩ := hout
    have HF := Lib.hid (show gMany l L ⟨ra, rj, rs⟩ = -1 from if_neg hok.out)
    go_wp2
    go_ret
    exact ⟨ret_int HF.out.symm, hb1⟩

/-- What has been seen of a map of sizes, ranged over: the least so far, among those that have come. -/
def LInv (x : List Pn) (m : Nat) (D : DataW Unit) (left : Lit → Bool) : Prop :=
  (m = x.length ∨ ∃ p ∈ x, m = gsz x p) ∧ (∀ kl, left kl = true → Maps.has D kl = true) ∧ ∀ p ∈ x, ∀ kl, keyOf Try.prog 35 (g0 p).val = some kl → left kl = false → m ≤ gsz x p
/-- What a map of sizes holds. -/
def GHolds (x : List Pn) (D : DataW Unit) : Prop :=
  (∀ q, q.good → ∀ kl, keyOf Try.prog 35 (g0 q).val = some kl → D.atKey kl (.lit (.int .i64 0)) = .lit (.int .i64 (gsz x q)) ∧ Maps.has D kl = decide (0 < gsz x q)) ∧
  ∀ kl, Maps.has D kl = true → ∃ q ∈ x, keyOf Try.prog 35 (g0 q).val = some kl
theorem LInv.start {x : List Pn} {D : DataW Unit} (hg : ∀ p ∈ x, p.good) (h : GHolds x D) : LInv x x.length D (Maps.has D) :=
  ⟨.inl rfl, fun _ h => h, fun p hp kl hkl hf => by
    have := (h.1 p (hg p hp) kl hkl).2
    rw [hf] at this
    have h2 := gsz_pos hp
    simp at this
    omega⟩
theorem LInv.next {x : List Pn} {D : DataW Unit} {m : Nat} {left : Lit → Bool} {kl : Lit} {c : Int} {y : DataW Unit × List MemPlace} (hg : ∀ p ∈ x, p.good) (h : GHolds x D) (hi : LInv x m D left) (hl : left kl = true)
    (hv : plainElem (H := Unit) Try.prog 3 (.int .i64 c) = some y) (hat : ∀ zd, D.atKey kl zd = y.1) : ∃ n : Nat, c = n ∧ n ≤ x.length ∧ LInv x (min m n) D (fun z => left z && !z.sameKey kl) := by
  obtain ⟨h1, h2, h3⟩ := hi
  obtain ⟨q, hq, hqk⟩ := h.2 kl (h2 kl hl)
  have hc := (h.1 q (hg q hq) kl hqk).1
  rw [hat] at hc
  obtain ⟨a, e1, rfl, _⟩ := plainElem_int_inv Try.underlying3 hv
  have ec : c = gsz x q := by
    have e2 : c = a := by simpa using e1
    have e3 : a = gsz x q := by simpa using hc
    rw [e2, e3]
  refine ⟨gsz x q, ec, gsz_le x q, ?_, ?_, ?_⟩
  · rcases Nat.le_total m (gsz x q) with hle | hle
    · rw [Nat.min_eq_left hle]; exact h1
    · rw [Nat.min_eq_right hle]; exact .inr ⟨q, hq, rfl⟩
  · intro kz hz
    simp at hz
    exact h2 kz hz.1
  · intro p hp kp hkp hf
    by_cases e : kp = kl
    · subst e
      have := g0_same.1 (keyLaw.inj hkp hqk)
      rw [gsz_same this]
      omega
    · have : left kp = false := by
        simp [sameKey_ne e] at hf
        exact hf
      have := h3 p hp kp hkp this
      omega
theorem LInv.done {x : List Pn} {D : DataW Unit} {m : Nat} {left : Lit → Bool} (hg : ∀ p ∈ x, p.good) (hi : LInv x m D left) (hl : ∀ kl, left kl = false) : m = lst x := by
  refine lst_uniq (fun p hp => ?_) hi.1
  obtain ⟨kl, hkl⟩ := key_some _ (g0_good (hg p hp))
  exact hi.2.2 p hp kl hkl (hl kl)
theorem LInv.le {x : List Pn} {D : DataW Unit} {m : Nat} {left : Lit → Bool} (hi : LInv x m D left) : m ≤ x.length := by
  rcases hi.1 with h | ⟨p, _, h⟩
  · omega
  · have := gsz_le x p; omega

set_option maxRecDepth 100000 in
set_option maxHeartbeats 1000000 in
theorem implGroupLeast (A A2 : Option Addr) (c c2 : Nat) (l : List Pn) (L : List (List Int)) (r : Rc) (w : World) (h : Arg w A l A2 L) :
    Calls Try.prog 23 #[.slice A l.length c, .slice A2 L.length c2, r.val] w fun e w' => e = .returned (.int .i64 (gLeast l L r)) ∧ Below w.heap.size w w' := by
  have H := Lib.hid h
  clear h
  have HB := Lib.hid (fun o => (Below.refl w.heap.size w).alloc (Nat.le_refl _) o)
  obtain ⟨ra, rj, rs⟩ := r
  unfold Rc.val
  dsimp only
  have hn : l.length ≤ 2000000 := H.out.2.1
  go_enter Try.func23, Try.ntmps23
  go_wp2_with fail
  refine (implRecodePeople A A2 c c2 l L ⟨ra, rj, rs⟩ _ (H.out.below (HB.out _))).mono ?_
  rintro e w1 hout
  rcases hout.up with hout | hout
  · obtain ⟨hok, x, A', c', hx, h40, hxc, hxm, hxl, hgd, rfl, hP, hb1⟩ := hout
    have HF := Lib.hid (gLeast_yes hok.out hx.out)
    by_cases hx0 : x.length = 0
    · have hz : ((x.length : Int) == 0) = true := by simp [hx0]
      have hz2 : (x.length == 0) = true := by simp [hx0]
      have HX := Lib.hid hx0
      clear hx0
      go_wp2
      go_ret
      exact ⟨ret_int (by rw [HF.out]; have := lst_len x; have := HX.out; omega), hb1⟩
    · have hz : ((x.length : Int) == 0) = false := beq_eq_false_iff_ne.2 (by omega)
      have hz2 : (x.length == 0) = false := beq_eq_false_iff_ne.2 (by omega)
      clear hx0
      go_wp2_with fail
      refine (implGroupsOf _ _ x _ hP hgd.out.1 (by omega)).mono ?_
      rintro e wa ⟨rfl, hGa, hBa⟩
      obtain ⟨D, hD1, hD2, _, hD4⟩ := hGa
      have HD : Hid (GHolds x D) := ⟨hD2, hD4⟩
      clear hD2 hD4
      have hba := hb1.trans (hBa.mono hb1.size)
      have hsz := hBa.size
      go_wp2_with (at_range; refine wpList_range_own _ rfl _ 42 rfl 35 3 keyLaw Try.underlying42 _ w1.heap.size _ D rfl hD1 ?_; intro w0 hrg0 hg0 hs0)
      go_frame
      have hbel0 : Below wa.heap.size wa w0 := (Below.refl _ _).grown hg0 (Nat.le_refl _) (fun k e => by cases e)
      clear hs0
      go_loopw [9] (fun v wr => ∃ m left cnt, v = .int .i64 (m : Nat) ∧ wr.ranges Try.prog 35 (plainElem Try.prog 3) w1.heap.size wa.heap.size x.length D left cnt ∧ Hid (LInv x m D left) ∧ Below wa.heap.size wa wr) (fun _ wr => wr.rangeLeft w1.heap.size wa.heap.size)
      case atStart => exact ⟨x.length, _, _, rfl, hrg0, LInv.start hgd.out.1 HD.out, hbel0⟩
      case round =>
        obtain ⟨m, left, cnt, rfl, hrg, HL, hbel⟩ := hrel
        have hml := HL.out.le
        go_wp2_with (at_next; refine wpList_next_ranges _ rfl _ rfl 35 keyLaw (plainElem Try.prog 3) (id : Value → Value) (Value.int .i64) (fun key kl _ => ⟨key, rfl⟩) (fun v y hv => by obtain ⟨c, rfl, _⟩ := plainElem_int_inv Try.underlying3 hv; exact ⟨c, rfl⟩) w1.heap.size wa.heap.size x.length D left cnt rfl hrg ?_ ?_)
        · intro _ hl0
          have HDN := Lib.hid (HL.out.done hgd.out.1 hl0)
          clear hl0
          go_wp2
          go_ret
          exact ⟨ret_int (by rw [HF.out, HDN.out]), hba.trans (hbel.mono hba.size)⟩
        · intro kv c kl y1 y2 w' cnt' hkey hlk hv hat hrg' hlt hgr hsz' hen
          obtain ⟨n, hcn, hnl, hL'⟩ := HL.out.next hgd.out.1 HD.out hlk hv hat
          subst hcn
          have HL' := Lib.hid hL'
          have HLT : Hid (w'.rangeLeft w1.heap.size wa.heap.size < wr.rangeLeft w1.heap.size wa.heap.size) := by unfold Hid; rw [hrg'.left_eq, hrg.left_eq]; exact hlt
          have hbel' := hbel.grown hgr hbel.size (fun k e => by cases e; exact Nat.le_refl _)
          clear hkey hlk hv hat hL' hlt hgr hsz'
          go_wp2
          all_goals
            go_roundw
            case rel => exact ⟨min m n, _, cnt', by first | (simp; done) | go_num, hrg', HL', hbel'⟩
            case measure => exact HLT.out
  · obtain ⟨hok, A', c', rfl, hb1⟩ := hout
    have HF := Lib.hid (show gLeast l L ⟨ra, rj, rs⟩ = -1 from if_neg hok.out)
    go_wp2
    go_ret
    exact ⟨ret_int HF.out.symm, hb1⟩
end Go.Proofs.Ytaojjlhlahoocaa
