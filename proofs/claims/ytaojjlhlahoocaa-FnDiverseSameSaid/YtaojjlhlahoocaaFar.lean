/- DiverseFar: the program's and the reference's. -/
import Derived.Test.YtaojjlhlahoocaaFarB
import Derived.Test.YtaojjlhlahoocaaDivSize
import Derived.Test.YtaojjlhlahoocaaGrpI
namespace Go.Proofs.Ytaojjlhlahoocaa
open Go.RowKit
attribute [local go_sem ↓] Go.wp_at_zero Go.wp_at_succ

theorem mul_bd {a b : Nat} (h1 : a ≤ 40) (h2 : b ≤ 40) : 0 ≤ (a : Int) * (b : Int) ∧ (a : Int) * (b : Int) ≤ 1600 := by
  have h : a * b ≤ 40 * 40 := Nat.mul_le_mul h1 h2
  have e : (a : Int) * (b : Int) = ((a * b : Nat) : Int) := by push_cast; rfl
  rw [e]
  omega
theorem far1_bd {f : Pn → Bool} {x : List Pn} {s b : Nat} (hx : x.length ≤ 40) (hs : s ≤ 40) : (far1 f x s b).natAbs ≤ 1600 := by
  have h1 := mul_bd (Nat.le_trans (bc_le f x b) hx) hx
  have h2 := mul_bd (Nat.le_trans (bc_le (fun _ => true) x b) hx) hs
  unfold far1
  omega
theorem farTo_bd {f : Pn → Bool} {x : List Pn} {s : Nat} (hx : x.length ≤ 40) (hs : s ≤ 40) (n : Nat) : farTo f x s n ≤ 1600 * n := by
  induction n with
  | zero => simp [farTo]
  | succ n ih =>
    rw [farTo_succ]
    have := far1_bd (f := f) (b := n) hx hs
    omega

set_option maxRecDepth 100000 in
set_option maxHeartbeats 4000000 in
theorem implDiverseFar (A A2 : Option Addr) (c c2 : Nat) (l : List Pn) (L : List (List Int)) (r : Rc) (k : Int) (w : World) (h : Arg w A l A2 L) :
    Calls Try.prog 25 #[.slice A l.length c, .slice A2 L.length c2, r.val, .int .i64 k] w fun e w' => e = .returned (.int .i64 (dFar l L r k)) ∧ Below w.heap.size w w' := by
  have H := Lib.hid h
  clear h
  have HB := Lib.hid (fun o => (Below.refl w.heap.size w).alloc (Nat.le_refl _) o)
  obtain ⟨ra, rj, rs⟩ := r
  unfold Rc.val
  dsimp only
  have hn : l.length ≤ 2000000 := H.out.2.1
  go_enter Try.func25, Try.ntmps25
  go_wp2_with fail
  refine (implRecodePeople A A2 c c2 l L ⟨ra, rj, rs⟩ _ (H.out.below (HB.out _))).mono ?_
  rintro e w1 hout
  rcases hout.up with hout | hout
  · obtain ⟨hok, x, A', c', hx, h40, hxc, hxm, hxl, hgd, rfl, hP, hb1⟩ := hout
    by_cases hin : 0 ≤ k ∧ k < x.length
    · obtain ⟨h0, h1⟩ := hin
      have HF := Lib.hid (dFar_yes hok.out hx.out h0 (by rw [hxl.out] at h1; exact h1))
      obtain ⟨m, rfl⟩ : ∃ m : Nat, k = m := ⟨k.toNat, by omega⟩
      have hml : m < x.length := by omega
      rw [Int.toNat_natCast] at HF
      go_wp2_with fail
      refine (implBandsAll A' c' x _ hP h40 hgd.out.1).mono ?_
      rintro e w2 ⟨rfl, hb2⟩
      have hP2 := (hP.below hb2).more hb2.size
      have hbA := Blk.new w2 57 (bvals allP x).toArray
      have hB2 := (hb1.trans (hb2.mono hb1.size)).alloc (Nat.le_trans hb1.size hb2.size) (.cells (bvals allP x).toArray 57)
      have hP3 := (hP2.below (((Below.refl _ _).alloc (Nat.le_refl _) _) : Below w2.heap.size w2 (w2.alloc (.cells (bvals allP x).toArray 57)))).more (by simp : w2.heap.size ≤ (w2.alloc (.cells (bvals allP x).toArray 57)).heap.size)
      rw [bvals_ten]
      clear hP hb1 hb2 hP2
      have HA := Lib.hid hbA
      have HB2 := Lib.hid hB2
      have HP3 := Lib.hid hP3
      clear hbA hB2 hP3
      rw [bvals_ten] at HA HB2 HP3
      go_wp2_with fail
      generalize w2.alloc (.cells #[_, _, _, _, _, _, _, _, _, _] 57) = w3 at *
      refine (implGroupBands A' c' x m (nth x m) _ HP3.out (nth_at hml) h40 hgd.out.1).mono ?_
      rintro e w4 ⟨rfl, hb4⟩
      have HA4 := Lib.hid (HA.out.below hb4 HA.out.lt)
      have HB4 := Lib.hid (HB2.out.trans (hb4.mono HB2.out.size))
      have HP4 := Lib.hid ((HP3.out.below hb4).more hb4.size)
      clear hb4 HA HB2 HP3
      obtain ⟨b, off, rfl, hb, hc0, hc1, hc2, hc3⟩ := HP4.out.at_ (nth_at hml)
      have hqg := Lib.hid (hgd.out.1 _ (nth_mem hml))
      have hgl := gsz_le x (nth x m)
      generalize nth x m = q at *
      obtain ⟨kv, hkv⟩ : ∃ kv, (g0 q).val = kv := ⟨_, rfl⟩
      have HKV := Lib.hid hkv
      clear hkv
      have HG5 := Lib.hid (Blk.new w4 57 (bvals (grpOf q) x).toArray)
      have HA5 := Lib.hid (HA4.out.alloc (.cells (bvals (grpOf q) x).toArray 57))
      have HB5 := Lib.hid (HB4.out.alloc HB4.out.size (.cells (bvals (grpOf q) x).toArray 57))
      have hb45 : Below w4.heap.size w4 (w4.alloc (.cells (bvals (grpOf q) x).toArray 57)) := ((Below.refl _ _).alloc (Nat.le_refl _) _)
      have HP5 := Lib.hid ((HP4.out.below hb45).more hb45.size)
      have hd0 := (hb45.cell (p := ⟨b, off + m * 4, none⟩) hb).trans hc0
      have hd1 := (hb45.cell (p := ⟨b, off + m * 4 + 1, none⟩) hb).trans hc1
      have hd2 := (hb45.cell (p := ⟨b, off + m * 4 + 2, none⟩) hb).trans hc2
      have hd3 := (hb45.cell (p := ⟨b, off + m * 4 + 3, none⟩) hb).trans hc3
      have hb5 := Nat.lt_of_lt_of_le hb hb45.size
      clear HA4 HB4 HP4 hb45 hc0 hc1 hc2 hc3 hb
      rw [bvals_ten]
      rw [bvals_ten] at HG5 HA5 HB5 HP5 hd0 hd1 hd2 hd3 hb5
      go_wp2_with fail
      have HS5 := Lib.hid (World.size_alloc w4 (.cells #[.int .i64 (bc (grpOf q) x 0), .int .i64 (bc (grpOf q) x 1), .int .i64 (bc (grpOf q) x 2), .int .i64 (bc (grpOf q) x 3), .int .i64 (bc (grpOf q) x 4), .int .i64 (bc (grpOf q) x 5), .int .i64 (bc (grpOf q) x 6), .int .i64 (bc (grpOf q) x 7), .int .i64 (bc (grpOf q) x 8), .int .i64 (bc (grpOf q) x 9)] 57))
      generalize w4.alloc (.cells #[_, _, _, _, _, _, _, _, _, _] 57) = w5 at *
      have hml0 : (0 : Int) ≤ (m : Int) := Int.natCast_nonneg _
      have hml1 : (m : Int) < (x.length : Int) := by omega
      go_region_held3 (fun w' => w'.cell? ⟨b, off + m * 4, none⟩ = some (.int .i64 q.a) ∧ w'.cell? ⟨b, off + m * 4 + 1, none⟩ = some (.int .i64 q.j) ∧ w'.cell? ⟨b, off + m * 4 + 2, none⟩ = some (.int .i64 q.s) ∧ w'.cell? ⟨b, off + m * 4 + 3, none⟩ = some (.int .i64 q.p))
        (go_keep)
        (first
          | (go_at_call 36; refine (implGroupsOf _ _ x _ (by exact HP5.out) hgd.out.1 (by omega)).mono ?_; rintro e wa ⟨rfl, HGa, HBa⟩; have hca : ∀ i o, i < w5.heap.size → wa.cell? ⟨i, o, none⟩ = w5.cell? ⟨i, o, none⟩ := (fun i o hi => HBa.cell (p := ⟨i, o, none⟩) hi); have HBA : Hid (Below w5.heap.size w5 wa) := (Below.refl w5.heap.size w5).drew.trans HBa; clear HBa)
          | (go_at_call 37; refine (implGroupOf' HKV.out _).mono ?_; rintro e wb ⟨rfl, hBb⟩; have HBb := Lib.hid hBb; clear hBb; have hcb : ∀ i o, i < wa.heap.size → wb.cell? ⟨i, o, none⟩ = wa.cell? ⟨i, o, none⟩ := (fun i o hi => HBb.out.cell (p := ⟨i, o, none⟩) hi); have hba : b < wa.heap.size := Nat.lt_of_lt_of_le hb5 HBA.out.size; have hlb : (Instr.lookup 42 (.map (some w5.heap.size)) kv false).run Try.prog wb = .ok (.int .i64 (gsz x q)) wb := GMap.look (GMap.below HGa HBb.out HGa.lt) hqg.out HKV.out)
          | fail)
      have hb5b := HBA.out.trans (HBb.out.mono HBA.out.size)
      have hbl := HB5.out.trans (hb5b.mono HB5.out.size)
      have hA6 := HA5.out.below hb5b HA5.out.lt
      have hG6 := HG5.out.below hb5b HG5.out.lt
      clear hca hcb hlb HGa HBA HBb hb5b HA5 HG5 HB5 HP5 HS5 hd0 hd1 hd2 hd3
      generalize gsz x q = s at *
      have hs40 : s ≤ 40 := by omega
      have hg0 := hG6.cell 0
      have hg1 := hG6.cell 1
      have hg2 := hG6.cell 2
      have hg3 := hG6.cell 3
      have hg4 := hG6.cell 4
      have hg5 := hG6.cell 5
      have hg6 := hG6.cell 6
      have hg7 := hG6.cell 7
      have hg8 := hG6.cell 8
      have hg9 := hG6.cell 9
      simp only [List.getElem?_cons_zero, List.getElem?_cons_succ] at hg0 hg1 hg2 hg3 hg4 hg5 hg6 hg7 hg8 hg9
      go_wp2
      clear hg0 hg1 hg2 hg3 hg4 hg5 hg6 hg7 hg8 hg9 hG6
      go_loop [14, 51] (fun n i => ∃ j : Nat, j ≤ 10 ∧ i = .int .i64 j ∧ n = .int .i64 (farTo (grpOf q) x s j)) (fun _ i => 10 - (intOf i).toNat)
      case atStart => exact ⟨0, by omega, rfl, rfl⟩
      case round =>
        obtain ⟨j, hj, rfl, rfl⟩ := hrel
        by_cases hlt : j < 10
        · have hj0 : (0 : Int) ≤ (j : Int) := Int.natCast_nonneg _
          have hj1 : (j : Int) < 10 := by omega
          have hidx := idx10 (grpOf q) x j wb hlt
          have hca := hA6.cell j
          rw [← bvals_ten, bvals_at _ _ hlt] at hca
          have p1 := mul_bd (Nat.le_trans (bc_le (grpOf q) x j) h40) h40
          have p2 := mul_bd (Nat.le_trans (bc_le allP x j) h40) hs40
          have hle := farTo_bd (f := grpOf q) h40 hs40 j
          have HNX := Lib.hid (farTo_succ (grpOf q) x s j)
          obtain ⟨p1a, p1b⟩ := p1
          obtain ⟨p2a, p2b⟩ := p2
          have hfar : ((far1 (grpOf q) x s j).natAbs : Int) = max ((bc (grpOf q) x j : Int) * (x.length : Int) - (bc allP x j : Int) * (s : Int)) (-((bc (grpOf q) x j : Int) * (x.length : Int) - (bc allP x j : Int) * (s : Int))) := by
            have e : far1 (grpOf q) x s j = (bc (grpOf q) x j : Int) * (x.length : Int) - (bc allP x j : Int) * (s : Int) := rfl
            rw [e]
            omega
          have HFAR := Lib.hid hfar
          clear hfar
          go_wp2
          go_round
          case rel => exact ⟨j + 1, by omega, by go_num, by rw [HNX.out]; refine congrArg (Value.int .i64) ?_; push_cast; rw [HFAR.out]; omega⟩
          case measure => simp [intOf]; omega
        · have HE := Lib.hid (show j = 10 by omega)
          go_wp2
          go_ret
          exact ⟨ret_int (by rw [HF.out, HE.out]), hbl⟩
    · have HF := Lib.hid (show dFar l L ⟨ra, rj, rs⟩ k = -1 from if_neg (fun h => hin (by rw [hxl.out]; exact h.2)))
      by_cases h0 : k < 0
      · go_wp2
        go_ret
        exact ⟨ret_int HF.out.symm, hb1⟩
      · have h1 : (x.length : Int) ≤ k := by omega
        have h2 : 0 ≤ k := by omega
        clear h0 hin
        go_wp2
        go_ret
        exact ⟨ret_int HF.out.symm, hb1⟩
  · obtain ⟨hok, A', c', rfl, hb1⟩ := hout
    have HF := Lib.hid (show dFar l L ⟨ra, rj, rs⟩ k = -1 from if_neg (fun h => hok.out h.1))
    go_wp2
    go_ret
    exact ⟨ret_int HF.out.symm, hb1⟩

set_option maxRecDepth 100000 in
set_option maxHeartbeats 4000000 in
theorem specDiverseFar (A A2 : Option Addr) (c c2 : Nat) (l : List Pn) (L : List (List Int)) (r : Rc) (k : Int) (w : World) (h : Arg w A l A2 L) :
    Calls Try.prog 26 #[.slice A l.length c, .slice A2 L.length c2, r.val, .int .i64 k] w fun e w' => e = .returned (.int .i64 (dFar l L r k)) ∧ Below w.heap.size w w' := by
  have hn : l.length ≤ 2000000 := h.2.1
  have H := Lib.hid h
  clear h
  obtain ⟨ra, rj, rs⟩ := r
  unfold Rc.val
  dsimp only
  have hbk := Blk.new w 26 #[.int .i64 ra, .int .i64 rj, .int .i64 rs]
  have hB0 := (((Below.refl _ _).alloc (Nat.le_refl _) _) : Below w.heap.size w (w.alloc (.cells #[.int .i64 ra, .int .i64 rj, .int .i64 rs] 26)))
  have hH0 := H.out.below hB0
  go_enter Try.func26, Try.ntmps26
  go_wp2_with fail
  refine (specGroupSize A A2 c c2 l L ⟨ra, rj, rs⟩ k _ hH0).mono ?_
  rintro e w1 ⟨rfl, hb1⟩
  have hH1 := hH0.below hb1
  have hbk1 := hbk.below hb1 hbk.lt
  have hB1 := hB0.trans (hb1.mono hB0.size)
  have hc0 := hbk1.cell 0
  have hc1 := hbk1.cell 1
  have hc2 := hbk1.cell 2
  simp only [List.getElem?_cons_zero, List.getElem?_cons_succ] at hc0 hc1 hc2
  clear hbk hH0 hB0 hb1 hbk1
  by_cases hin : okA l L ⟨ra, rj, rs⟩ ∧ 0 ≤ k ∧ k < l.length
  · obtain ⟨hok, h0, h1⟩ := hin
    have HG := Lib.hid (gSize_yes hok rfl h0 h1)
    have HF := Lib.hid (dFar_yes hok rfl h0 h1)
    obtain ⟨m, rfl⟩ : ∃ m : Nat, k = m := ⟨k.toNat, by omega⟩
    rw [Int.toNat_natCast] at HG HF
    have hml : m < l.length := by omega
    rw [HG.out]
    have HOK := Lib.hid hok
    clear hok
    have hgl := gsz_le (recd L ⟨ra, rj, rs⟩ l) (nth (recd L ⟨ra, rj, rs⟩ l) m)
    obtain ⟨s, hs⟩ : ∃ s, s = gsz (recd L ⟨ra, rj, rs⟩ l) (nth (recd L ⟨ra, rj, rs⟩ l) m) := ⟨_, rfl⟩
    rw [← hs] at hgl HG HF ⊢
    have HS := Lib.hid hs
    clear hs
    go_wp2_with fail
    refine (specRecodePeople A A2 c c2 l L ⟨ra, rj, rs⟩ _ hH1).mono ?_
    rintro e w2 hout
    rcases hout with ⟨-, v, rfl, hown, hb2⟩ | ⟨hno, -⟩
    · obtain ⟨A', c', rfl, hP, hc1', hc2'⟩ := hown.form
      have hxl := recd_length L ⟨ra, rj, rs⟩ l
      have hgd := Lib.hid (recd_good HOK.out)
      have hB2 := hB1.trans (hb2.mono hB1.size)
      generalize recd L ⟨ra, rj, rs⟩ l = x at *
      have h40 := hgd.out.2
      have HXL := Lib.hid hxl
      have hmx : m < x.length := by omega
      have hs40 : s ≤ 40 := by omega
      clear hxl hown hb2 hB1 hc0 hc1 hc2 HS HG
      go_wp2_with fail
      refine (specBands A' c' x m (nth x m) _ hP (nth_at hmx) h40 hgd.out.1).mono ?_
      rintro e w3 ⟨rfl, hS3, hb3⟩
      have hB3 := hB2.trans (hb3.mono hB2.size)
      have hP3 := hP.below hb3
      clear hb3 hB2 hP
      generalize nth x m = q at *
      go_wp2
      go_loop [13, 14] (fun n i => ∃ j : Nat, j ≤ 10 ∧ i = .int .i64 j ∧ n = .int .i64 (farTo (grpOf q) x s j)) (fun _ i => 10 - (intOf i).toNat)
      case atStart => exact ⟨0, by omega, rfl, rfl⟩
      case round =>
        obtain ⟨j, hj, rfl, rfl⟩ := hrel
        by_cases hlt : j < 10
        · have hj0 : (0 : Int) ≤ (j : Int) := Int.natCast_nonneg _
          have hj1 : (j : Int) < 10 := by omega
          go_wp2
          go_loop [15, 16] (fun n i => ∃ pre suf, Cut x pre suf ∧ i = .int .i64 pre.length ∧ n = .int .i64 (bc allP pre j)) (fun _ i => x.length - (intOf i).toNat)
          case atStart => exact ⟨[], x, Cut.zero _, rfl, rfl⟩
          case round =>
            obtain ⟨pre, suf, hcut, rfl, rfl⟩ := hrel
            have hple := hcut.le
            have hbp := bc_le allP pre j
            cases suf with
            | nil =>
              have hge := hcut.len0
              have hca := hS3.cell j
              rw [bvals_at _ _ hlt] at hca
              have HPD := Lib.hid hcut.done
              rw [HPD.out] at hge hbp ⊢
              have p1 := mul_bd (Nat.le_trans (bc_le (grpOf q) x j) h40) h40
              have p2 := mul_bd (Nat.le_trans (bc_le allP x j) h40) hs40
              have hle := farTo_bd (f := grpOf q) h40 hs40 j
              have HNX := Lib.hid (farTo_succ (grpOf q) x s j)
              obtain ⟨p1a, p1b⟩ := p1
              obtain ⟨p2a, p2b⟩ := p2
              have hfar : ((far1 (grpOf q) x s j).natAbs : Int) = max ((bc (grpOf q) x j : Int) * (x.length : Int) - (bc allP x j : Int) * (s : Int)) (-((bc (grpOf q) x j : Int) * (x.length : Int) - (bc allP x j : Int) * (s : Int))) := by
                have e : far1 (grpOf q) x s j = (bc (grpOf q) x j : Int) * (x.length : Int) - (bc allP x j : Int) * (s : Int) := rfl
                rw [e]
                omega
              have HFAR := Lib.hid hfar
              clear hfar
              go_wp2
              go_round
              case rel => exact ⟨j + 1, by omega, by go_num, by rw [HNX.out]; refine congrArg (Value.int .i64) ?_; push_cast; rw [HFAR.out]; omega⟩
              case measure => simp [intOf]; omega
            | cons p suf =>
              have hlt2 := hcut.len1
              obtain ⟨b, off, rfl, hb, hc0, hc1, hc2, hc3⟩ := hP3.at_ hcut.at_
              have hi0 : (0 : Int) ≤ (pre.length : Int) := Int.natCast_nonneg _
              have hi1 : (pre.length : Int) < (x.length : Int) := by omega
              have hpg := hgd.out.1 p hcut.mem
              obtain ⟨-, -, -, hp0, hp1⟩ := hpg
              have hdm : Int.tdiv p.p 100 = p.p / 100 := Int.tdiv_eq_ediv_of_nonneg hp0
              have HBS := Lib.hid (bc_snoc allP pre p j)
              by_cases hpj : p.p / 100 = (j : Int)
              · have hq : (p.p / 100 == (j : Int)) = true := by simp [hpj]
                have HPJ : Hid (bc allP (pre ++ [p]) j = bc allP pre j + 1) := by unfold Hid; rw [HBS.out, if_pos ⟨rfl, hpj⟩]
                clear hpj
                go_wp2
                go_round
                case rel => exact ⟨pre ++ [p], suf, hcut.next, by simp, by rw [HPJ.out]; go_num⟩
                case measure => simp [intOf]; omega
              · have hq : (p.p / 100 == (j : Int)) = false := beq_eq_false_iff_ne.2 hpj
                have HPJ : Hid (bc allP (pre ++ [p]) j = bc allP pre j) := by unfold Hid; rw [HBS.out, if_neg (fun h => hpj h.2)]; rfl
                clear hpj
                go_wp2
                go_round
                case rel => exact ⟨pre ++ [p], suf, hcut.next, by simp, by rw [HPJ.out]⟩
                case measure => simp [intOf]; omega
        · have HE := Lib.hid (show j = 10 by omega)
          go_wp2
          go_ret
          exact ⟨ret_int (by rw [HF.out, HE.out]), hB3⟩
    · exact absurd HOK.out hno
  · have HF := Lib.hid (show dFar l L ⟨ra, rj, rs⟩ k = -1 from if_neg hin)
    have HG := Lib.hid (show gSize l L ⟨ra, rj, rs⟩ k = -1 from if_neg hin)
    rw [HG.out]
    go_wp2
    go_ret
    exact ⟨ret_int HF.out.symm, hB1⟩
end Go.Proofs.Ytaojjlhlahoocaa
