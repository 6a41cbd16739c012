/- touchstonelaw07.FtreePlays answers true. -/
import Derived.Test.YtocndkhgopjhhaaProg
import Derived.Test.YtocndkhgopjhhaaPlaysA
import Derived.Test.YtocndkhgopjhhaaSame7
import Derived.Deep.DeepCutAuto
import Derived.Deep.CutBlock
import Derived.StillTailTactics
import Derived.Outline
namespace Go.Proofs.Ytocndkhgopjhhaa
open Go.RowKit

set_option maxRecDepth 100000 in
set_option maxHeartbeats 8000000 in
theorem plays_4 {w : World} {d : Nat} {t : N} {l : List Stp} {v lv : Value} (h : PlaysIn w d t l v lv) (h1 : ¬ 3000 ≤ t.weight) (hl : largeB l = false) (hm : t.may = true) : Calls Try.prog 7 #[v, lv] w fun e w' => e = .returned (.bool true) ∧ Ext w w' := by
  have hm2 : t.kind = 2 ∧ t.well = true := by
    unfold N.may at hm
    simp only [Bool.and_eq_true, decide_eq_true_eq] at hm
    exact ⟨hm.1.1.1, hm.1.1.2⟩
  have HD := Lib.hid (DirW.of hm2.2 hm2.1)
  have HK := Lib.hid ((h.node.narrow (K := K41) (by decide) hm2.2 h.nodeW))
  have HSW := Lib.hid h.stepsW
  have H60 := Lib.hid (largeB_len hl)
  have h0 := h
  obtain ⟨hn, hnw, hs, hsw⟩ := h
  obtain ⟨At, ct, At', ct', rfl⟩ := hn.agg
  have HR := Lib.hid hn
  have HSV := Lib.hid hs
  obtain ⟨A, c, rfl, hlc, hcm, _⟩ := hs
  unfold maxLen at hcm
  have HL := Lib.hid hl
  have HM := Lib.hid hm
  have X := Lib.hid (Ext.alloc' w (.cells #[.int .u8 t.kind, .string t.text, .slice At t.names.length ct, .slice At' t.kids.length ct'] 25))
  have HB := Lib.hid (Blk.new w 25 #[.int .u8 t.kind, .string t.text, .slice At t.names.length ct, .slice At' t.kids.length ct'])
  clear hn hnw hsw hl hm hm2
  go_enter Try.func7, Try.ntmps7
  go_wp2_with fail
  refine (weight_any _ _ _ t _ _ (HR.out.ext X.out)).mono ?_
  rintro e w2 ⟨rfl, x2⟩
  have X := Lib.hid (X.out.trans' x2)
  have HB := Lib.hid (HB.out.ext x2)
  clear x2
  go_wp2_with fail
  refine (large_any (HSV.out.ext X.out)).mono ?_
  rw [HL.out]
  rintro e w3 ⟨rfl, x3⟩
  have X := Lib.hid (X.out.trans' x3)
  have HB := Lib.hid (HB.out.ext x3)
  have HB3 := Lib.hid HB.out
  obtain ⟨p0, p1, p2, p3, _⟩ := HB.out.cells4
  have pl := HB.out.lt
  clear x3
  go_wp2_with fail
  refine (given_any B41 (by decide) _ _ _ _ _ (HR.out.ext X.out)).mono ?_
  rintro e w4 ⟨A4, c4, A4', c4', rfl, x4, r4⟩
  have hz43 := x4.size
  have x4' := x4.trans' (Ext.alloc' w4 (.cells #[.int .u8 t.kind, .string t.text, .slice A4 t.names.length c4, .slice A4' t.kids.length c4'] 25))
  have R4 := Lib.hid (r4.ext (Ext.alloc' w4 (.cells #[.int .u8 t.kind, .string t.text, .slice A4 t.names.length c4, .slice A4' t.kids.length c4'] 25)))
  have B4 := Lib.hid (Blk.new w4 25 #[.int .u8 t.kind, .string t.text, .slice A4 t.names.length c4, .slice A4' t.kids.length c4'])
  have HN4 := Lib.hid (show ∀ b, (w3.heap.size ≤ b ∧ Nfz w4 b) → b < w4.heap.size → Nfz (w4.alloc (.cells #[.int .u8 t.kind, .string t.text, .slice A4 t.names.length c4, .slice A4' t.kids.length c4'] 25)) b from fun b hb hl => hb.2.ext (Ext.alloc' _ _) hl)
  have HX4 := Lib.hid x4'
  have X4 := Lib.hid (X.out.trans' x4')
  have HB := Lib.hid (HB.out.ext x4')
  clear x4 x4' p0 p1 p2 p3 pl
  have RK4 := Lib.hid (r4.ext (Ext.alloc' w4 (.cells #[.int .u8 t.kind, .string t.text, .slice A4 t.names.length c4, .slice A4' t.kids.length c4'] 25)))
  have HKW := Lib.hid (show Rep K41 _ _ d t _ from Rep.narrow (K := K41) (by decide) RK4.out HD.out.wf h0.nodeW)
  go_wp2_with fail
  refine (tnew_any (by decide) HKW.out HM.out).mono ?_
  rintro e w5 ⟨g, rfl, hnt⟩
  have x5 := hnt.2.1
  have HNT := Lib.hid hnt
  have B5 := Lib.hid (B4.out.ext x5)
  obtain ⟨p0, p1, p2, p3, _⟩ := B5.out.cells4
  have pl := B5.out.lt
  have hz5 := x5.size
  have hz4 := HX4.out.size
  have R5 := Lib.hid (Rep.keep (S' := fun b => (w3.heap.size ≤ b ∧ b < w4.heap.size) ∧ Nfz w5 b) (Nat.le_refl _) (fun _ _ _ => rfl) (fun b hb hl => ⟨⟨hb.1.1, hb.2⟩, (HN4.out b hb.1 hb.2).ext x5 (by simp; omega)⟩) _ _ _ ((Rep.keep (S' := fun b => (w3.heap.size ≤ b ∧ Nfz w4 b) ∧ b < w4.heap.size) (Nat.le_refl _) (fun _ _ _ => rfl) (fun b hb hl => ⟨hb, hl⟩) _ _ _ r4).ext ((Ext.alloc' w4 (.cells #[.int .u8 t.kind, .string t.text, .slice A4 t.names.length c4, .slice A4' t.kids.length c4'] 25)).trans' x5)))
  have HX5 := Lib.hid (HX4.out.trans' x5)
  have hzw := HB3.out.lt
  clear x5 r4 hnt
  go_wp2_with fail
  refine (spoil_own (fun b hb => hb.2) R5.out).mono ?_
  rintro e w6 ⟨rfl, t6⟩
  have x6 := spoil_back HX5.out t6 (fun b hb => hb.1.1)
  have X6 := Lib.hid (X.out.trans' x6)
  have HB6 := Lib.hid (HB3.out.ext x6)
  have T6 := Lib.hid (TB.newSpoil (w := w) (by simp; omega) HNT.out t6 (fun b hb => by have := hb.1.2; simp; omega))
  have hgl6 : g < w6.heap.size := by have := HNT.out.2.2.lt; have := t6.size; omega
  have N6 : Hid (NB K41 w w6 g t) := Lib.hid ⟨T6.out.gt, hgl6, _, _, _, _, HB6.out, NIs.of (HK.out.ext X6.out) (fun b hb hl => ⟨hl, by have := T6.out.gt; omega, by omega⟩)⟩
  clear t6 x6 p0 p1 p2 p3 pl HNT
  obtain ⟨p0, p1, p2, p3, _⟩ := HB6.out.cells4
  have pl := HB6.out.lt
  go_wp2_with fail
  refine (may7_any _ _ _ t _ _ (HR.out.ext X6.out)).mono ?_
  rw [HM.out]
  rintro e w7 ⟨rfl, x7⟩
  have X7 := Lib.hid (X6.out.trans' x7)
  have T7 := Lib.hid (T6.out.ext x7)
  have N7 := Lib.hid (N6.out.ext x7)
  clear x7 p0 p1 p2 p3 pl T6 N6 HB6 HB3 HB B5 R5 B4 R4 HN4 RK4 HKW X6 HX5 HX4 X4 X
  go_wp2_with fail
  have hK : K41 = 1954687338268 := rfl
  go_loopw [6, 8] (fun tp i wr => ∃ (j g : Nat) (tc : N), j ≤ l.length ∧ i = .int .i64 j ∧ tp = .pointer (some ⟨g, 0, none⟩) ∧ Ext w wr ∧ TB (K41 + 2 * j) w wr g tc ∧ NB (K41 + 2 * j) w wr g tc ∧ DirW tc) (fun _ i _ => l.length - (intOf i).toNat)
  case atStart => exact ⟨0, g, t, Nat.zero_le _, rfl, rfl, X7.out, T7.out, N7.out, HD.out⟩
  case round =>
    obtain ⟨j, g, tc, hj, rfl, rfl, hx, htb, hnb, hd⟩ := hrel
    have X := Lib.hid hx
    have T := Lib.hid htb
    have NN := Lib.hid hnb
    have HDC := Lib.hid hd
    have hzx := hx.size
    have hgl := htb.lt
    have hgt := htb.gt
    clear hx htb hnb hd
    by_cases hlt : j < l.length
    · obtain ⟨s, hs⟩ : ∃ s, l[j]? = some s := ⟨_, List.getElem?_eq_getElem hlt⟩
      obtain ⟨bo, of, c2, av, bv, v0, v1, v2, v3, dn, e, hbl, _, _, c0, c1, c2', c3, c4, c5, c6, k1, k2, ha, hbv, hr⟩ := HSV.out.at' hs
      injection e with e1 e2 e3
      subst e1 e3
      have HXW := Lib.hid (HSW.out s (List.mem_of_getElem? hs))
      have HA := Lib.hid ha
      have HBV := Lib.hid hbv
      have HRN := Lib.hid hr
      obtain ⟨Aa, ca, rfl, _⟩ := ha
      obtain ⟨Ab, cb, rfl, _⟩ := hbv
      obtain ⟨An, cn, An', cn', rfl, rfl, rfl, rfl⟩ := hr.shape
      have hj60 := H60.out
      have hBj : K41 + 2 * j + 2 ≤ 2199023255552 := by omega
      have HBJ := Lib.hid hBj
      have HBJ2 := Lib.hid (show K41 + 2 * j + 4 ≤ 2199023255552 by omega)
      obtain ⟨hcx, hfx⟩ := X.out.rules
      have C0 := Lib.hid c0
      have C3 := Lib.hid (And.intro c3 (And.intro c4 (And.intro c5 c6)))
      have g0 := (hcx bo (of + j * 7) hbl).trans c0
      have g1 := (hcx bo (of + j * 7 + 1) hbl).trans c1
      have g2 := (hcx bo (of + j * 7 + 2) hbl).trans c2'
      have g3 := (hcx bo (of + j * 7 + 3) hbl).trans c3
      have g4 := (hcx bo (of + j * 7 + 4) hbl).trans c4
      have g5 := (hcx bo (of + j * 7 + 5) hbl).trans c5
      have g6 := (hcx bo (of + j * 7 + 6) hbl).trans c6
      have hblr : bo < wr.heap.size := by omega
      have hi : (j : Int) < (l.length : Int) := by omega
      clear hr hBj hcx hfx c0 c1 c2' c3 c4 c5 c6 hs
      go_upto_block 2 with fail
      go_cut [6] (fun tp wx => ∃ g', tp = .pointer (some ⟨g', 0, none⟩) ∧ Ext w wx ∧ TB (K41 + 2 * j + 2) w wx g' (playN s tc) ∧ NB (K41 + 2 * j + 2) w wx g' (playN s tc))
      case first =>
        obtain ⟨dn1, rfl⟩ : ∃ d1, dn = d1 + 1 := by
          cases dn with
          | zero => exact HRN.out.elim
          | succ d1 => exact ⟨d1, rfl⟩
        have HRN1 := HRN
        by_cases hk : s.kind = 0
        · have hk0 : (s.kind == 0) = true := by rw [hk]; rfl
          have hpn : playN s tc = tc.tput s.a s.n := by unfold playN; rw [if_pos hk]
          have HPN := Lib.hid hpn
          obtain ⟨dT, htr⟩ := T.out.tr
          have HTR := Lib.hid htr
          clear hpn hk htr
          go_wp2_with fail
          refine (given_any B41 (by decide) _ _ _ _ _ (HRN.out.ext X.out)).mono ?_
          rintro e wp ⟨A4, c4, A4', c4', rfl, x4, r4⟩
          have hzp := x4.size
          have R4 := Lib.hid r4
          have x4' := x4.trans' (Ext.alloc' wp (.cells #[.int .u8 s.n.kind, .string s.n.text, .slice A4 s.n.names.length c4, .slice A4' s.n.kids.length c4'] 25))
          have XP := Lib.hid x4'
          have BY := Lib.hid (Blk.new wp 25 #[.int .u8 s.n.kind, .string s.n.text, .slice A4 s.n.names.length c4, .slice A4' s.n.kids.length c4'])
          have R4W := Lib.hid (r4.ext (Ext.alloc' wp (.cells #[.int .u8 s.n.kind, .string s.n.text, .slice A4 s.n.names.length c4, .slice A4' s.n.kids.length c4'] 25)))
          clear x4 x4' r4 g0 g1 g2 g3 g4 g5 g6
          go_wp2_with fail
          refine (tput_any' (B := K41 + 2 * j) (Bx := B41) (by have := HBJ.out; omega) (by decide) (HTR.out.ext XP.out) HDC.out.wf ((HA.out.ext X.out).ext XP.out) R4W.out (fun hw => (R4W.out.narrow (K := K41) (by decide) hw HXW.out).wideB (by omega))).mono ?_
          rintro e w5 hdp
          obtain ⟨rfl, ht5, _⟩ := id hdp
          have HDP := Lib.hid hdp
          have HT5 := Lib.hid ht5
          have hby : Blk w5 wp.heap.size 25 #[.int .u8 s.n.kind, .string s.n.text, .slice A4 s.n.names.length c4, .slice A4' s.n.kids.length c4'] := (ht5.block _ (by simp) (by omega)).trans BY.out
          have BY5 := Lib.hid hby
          obtain ⟨p0, p1, p2, p3, _⟩ := hby.cells4
          have pl := hby.lt
          have hz5 := ht5.size
          have R5 : Hid (Rep B41 (fun b => (wr.heap.size ≤ b ∧ b < wp.heap.size) ∧ Nfz w5 b) w5 (dn1 + 1) s.n (.agg #[.int .u8 s.n.kind, .string s.n.text, .slice A4 s.n.names.length c4, .slice A4' s.n.kids.length c4'])) := by
            refine Lib.hid (Rep.keep (w := wp) (S := fun b => (wr.heap.size ≤ b ∧ Nfz wp b) ∧ b < wp.heap.size) ?_ (fun b hb hl => ?_) (fun b hb hl => ?_) _ _ _ (Rep.keep (Nat.le_refl _) (fun _ _ _ => rfl) (fun b hb hl => ⟨hb, hl⟩) _ _ _ R4.out))
            · have : wp.heap.size + 1 ≤ w5.heap.size := by simpa using hz5
              omega
            · exact (HT5.out.block b (by simp; omega) (by have := hb.1.1; omega)).trans (Below.heap_alloc _ _ _ hl)
            · exact ⟨⟨hb.1.1, hb.2⟩, hb.1.2.same ((HT5.out.block b (by simp; omega) (by have := hb.1.1; omega)).trans (Below.heap_alloc _ _ _ hl))⟩
          clear hdp ht5 hby
          go_wp2_with fail
          refine (spoil_own (fun b hb => hb.2) R5.out).mono ?_
          rintro e w6 ⟨rfl, t6⟩
          obtain ⟨tt, tb⟩ := TB.putSpoil (B' := K41 + 2 * j + 2) T.out XP.out (by omega) HDP.out t6 (fun b hb => ⟨hb.1.1, by have := hb.1.2; simp; omega⟩)
          have T6 := Lib.hid tb
          have N6 := Lib.hid (NN.out.turn tt)
          have X6 := Lib.hid (X.out.onG tt hgt)
          clear t6 tt tb p0 p1 p2 p3 pl R5 BY5 BY HDP HT5 R4 R4W XP HTR
          obtain ⟨A7, c7, A7', c7', hbn, hni⟩ := N6.out.box
          have HBN := Lib.hid hbn
          have HNI := Lib.hid hni
          obtain ⟨p0, p1, p2, p3, _⟩ := hbn.cells4
          have pl := hbn.lt
          clear hbn hni
          have hsn := T6.out.gt
          have hsl := T6.out.lt
          have hzx6 := X6.out.size
          obtain ⟨hcx, hfx⟩ := X6.out.rules
          have g3 := (hcx bo (of + j * 7 + 3) hbl).trans C3.out.1
          have g4 := (hcx bo (of + j * 7 + 4) hbl).trans C3.out.2.1
          have g5 := (hcx bo (of + j * 7 + 5) hbl).trans C3.out.2.2.1
          have g6 := (hcx bo (of + j * 7 + 6) hbl).trans C3.out.2.2.2
          have hbl6 : bo < w6.heap.size := by omega
          clear hcx hfx
          have XD := Lib.hid (show Ext w6 w6.drew from Below.drew (Below.refl _ _))
          go_upto_region 24 with fail
          refine wp_region_still_tail 7 (by kernel_rfl) (by kernel_rfl) ?_
          simp only [List.take_succ_cons, List.take_zero, List.drop_succ_cons, List.drop_zero]
          change wpStill _ _ w6.drew _ _ _
          repeat still_step
          refine wpStill_nil ?_
          change wpList _ _ _ _ _ w6.drew
          go_wp2_with fail
          refine (rput_any (w := w6.drew) (S := Sn w w6 g) (Sx := fun b => b < w.heap.size) (Bx := B41) (by have := HBJ.out; omega) (fun b hb => hb.1) HDC.out.wf (HNI.out.ext XD.out) ⟨dn1, (HRN1.out.ext X6.out).ext XD.out⟩ (fun hw => ⟨dn1, (((HRN1.out.narrow (K := K41) (by decide) hw HXW.out).wideB (by omega)).wide (Nat.le_refl _) (X6.out.trans' XD.out) (fun b hb _ => ⟨by show b < w6.heap.size; omega, by omega, by omega⟩) (Nat.le_refl _))⟩) ((HA.out.ext X6.out).ext XD.out)).mono ?_
          rw [rPut_eq HDC.out]
          rintro e w8 ⟨A8, c8, A8', c8', rfl, x8, r8⟩
          have x8 : Ext w6 w8 := ⟨x8.os, x8.tape, x8.output, x8.size, x8.block⟩
          have X8 := Lib.hid x8
          have R8 := Lib.hid r8
          have BN8 := Lib.hid (HBN.out.ext x8)
          obtain ⟨y0, y1, y2, y3, f0, f1, f2, f3⟩ := BN8.out.cells4
          have yl := BN8.out.lt
          clear x8 r8 p0 p1 p2 p3 pl
          go_wp2_with fail
          go_meet
          case rel =>
            rw [HPN.out]
            exact ⟨g, rfl, (X6.out.trans' X8.out).set4 (Nat.le_refl _) _ _ _ _, ((T6.out.ext X8.out).store _ _ _ _), NB.wideB (NB.store (B := K41 + 2 * j + 1) T6.out.gt T6.out.lt X8.out BN8.out ⟨_, _, _, _, rfl⟩ R8.out) (by omega)⟩
        by_cases hk : s.kind = 1
        · have hk0 : (s.kind == 0) = false := by rw [beq_eq_false_iff_ne]; omega
          have hk1 : (s.kind == 1) = true := by rw [beq_iff_eq]; omega
          have hpn : playN s tc = tc.tdel s.a := by unfold playN; rw [if_neg (by omega), if_pos hk]
          have HPN := Lib.hid hpn
          clear hpn hk g3 g4 g5 g6
          go_wp2_with fail
          refine (T.out.del (by have := HBJ.out; omega) HDC.out (HA.out.ext X.out)).mono ?_
          rintro e w6 ⟨rfl, tt, tb⟩
          have T6 := Lib.hid tb
          have N6 := Lib.hid (NN.out.turn tt)
          have X6 := Lib.hid (X.out.onG tt hgt)
          clear tt tb
          obtain ⟨A7, c7, A7', c7', hbn, hni⟩ := N6.out.box
          have HBN := Lib.hid hbn
          have HNI := Lib.hid hni
          obtain ⟨p0, p1, p2, p3, _⟩ := hbn.cells4
          have pl := hbn.lt
          clear hbn hni
          have hsn := T6.out.gt
          have hsl := T6.out.lt
          have hzx6 := X6.out.size
          go_wp2_with fail
          refine (rdel_any (S := Sn w w6 g) (by have := HBJ.out; omega) (fun b hb => hb.1) HDC.out.wf HNI.out (HA.out.ext X6.out)).mono ?_
          rw [rDel_eq HDC.out]
          rintro e w8 ⟨A8, c8, A8', c8', rfl, x8, r8⟩
          have X8 := Lib.hid x8
          have R8 := Lib.hid r8
          have BN8 := Lib.hid (HBN.out.ext x8)
          obtain ⟨y0, y1, y2, y3, f0, f1, f2, f3⟩ := BN8.out.cells4
          have yl := BN8.out.lt
          clear x8 r8 p0 p1 p2 p3 pl
          go_wp2_with fail
          go_meet
          case rel =>
            rw [HPN.out]
            exact ⟨g, rfl, (X6.out.trans' X8.out).set4 (Nat.le_refl _) _ _ _ _, ((T6.out.ext X8.out).store _ _ _ _), NB.wideB (NB.store (B := K41 + 2 * j + 1) T6.out.gt T6.out.lt X8.out BN8.out ⟨_, _, _, _, rfl⟩ R8.out) (by omega)⟩
        by_cases hk : s.kind = 2
        · have hk0 : (s.kind == 0) = false := by rw [beq_eq_false_iff_ne]; omega
          have hk1 : (s.kind == 1) = false := by rw [beq_eq_false_iff_ne]; omega
          have hk2 : (s.kind == 2) = true := by rw [beq_iff_eq]; omega
          have hpn : playN s tc = tc.tmove s.a s.b := by unfold playN; rw [if_neg (by omega), if_neg (by omega), if_pos hk]
          have HPN := Lib.hid hpn
          clear hpn hk g3 g4 g5 g6
          go_wp2_with fail
          refine (T.out.move (by have := HBJ.out; omega) HDC.out (HA.out.ext X.out) (HBV.out.ext X.out) (fun b hb => by omega)).mono ?_
          rintro e w6 ⟨rfl, tt, tb⟩
          have T6 := Lib.hid tb
          have N6 := Lib.hid (NN.out.turn tt)
          have X6 := Lib.hid (X.out.onG tt hgt)
          clear tt tb
          obtain ⟨A7, c7, A7', c7', hbn, hni⟩ := N6.out.box
          have HBN := Lib.hid hbn
          have HNI := Lib.hid hni
          obtain ⟨p0, p1, p2, p3, _⟩ := hbn.cells4
          have pl := hbn.lt
          clear hbn hni
          have hsn := T6.out.gt
          have hsl := T6.out.lt
          have hzx6 := X6.out.size
          go_wp2_with fail
          refine (rmove_any (S := Sn w w6 g) (by have := HBJ.out; omega) (fun b hb => hb.1) HDC.out HNI.out (HA.out.ext X6.out) (HBV.out.ext X6.out)).mono ?_
          rw [rMove_eq HDC.out]
          rintro e w8 ⟨A8, c8, A8', c8', rfl, x8, r8⟩
          have X8 := Lib.hid x8
          have R8 := Lib.hid r8
          have BN8 := Lib.hid (HBN.out.ext x8)
          obtain ⟨y0, y1, y2, y3, f0, f1, f2, f3⟩ := BN8.out.cells4
          have yl := BN8.out.lt
          clear x8 r8 p0 p1 p2 p3 pl
          go_wp2_with fail
          go_meet
          case rel =>
            rw [HPN.out]
            exact ⟨g, rfl, (X6.out.trans' X8.out).set4 (Nat.le_refl _) _ _ _ _, ((T6.out.ext X8.out).store _ _ _ _), NB.wideB (NB.store (B := K41 + 2 * j + 2) T6.out.gt T6.out.lt X8.out BN8.out ⟨_, _, _, _, rfl⟩ R8.out) (by omega)⟩
        by_cases hk : s.kind = 3
        · have hk0 : (s.kind == 0) = false := by rw [beq_eq_false_iff_ne]; omega
          have hk1 : (s.kind == 1) = false := by rw [beq_eq_false_iff_ne]; omega
          have hk2 : (s.kind == 2) = false := by rw [beq_eq_false_iff_ne]; omega
          have hk3 : (s.kind == 3) = true := by rw [beq_iff_eq]; omega
          have hpn : playN s tc = tc.tcopy s.a s.b := by unfold playN; rw [if_neg (by omega), if_neg (by omega), if_neg (by omega), if_pos hk]
          have HPN := Lib.hid hpn
          clear hpn hk g3 g4 g5 g6
          go_wp2_with fail
          refine (T.out.copy (by have := HBJ.out; omega) HDC.out (HA.out.ext X.out) (HBV.out.ext X.out)).mono ?_
          rintro e w6 ⟨rfl, tt, tb⟩
          have T6 := Lib.hid tb
          have N6 := Lib.hid (NN.out.turn tt)
          have X6 := Lib.hid (X.out.onG tt hgt)
          clear tt tb
          obtain ⟨A7, c7, A7', c7', hbn, hni⟩ := N6.out.box
          have HBN := Lib.hid hbn
          have HNI := Lib.hid hni
          obtain ⟨p0, p1, p2, p3, _⟩ := hbn.cells4
          have pl := hbn.lt
          clear hbn hni
          have hsn := T6.out.gt
          have hsl := T6.out.lt
          have hzx6 := X6.out.size
          go_wp2_with fail
          refine (rcopy_any (S := Sn w w6 g) (by have := HBJ.out; omega) (fun b hb => hb.1) HDC.out.wf HNI.out (HA.out.ext X6.out) (HBV.out.ext X6.out)).mono ?_
          rw [rCopy_eq HDC.out]
          rintro e w8 ⟨A8, c8, A8', c8', rfl, x8, r8⟩
          have X8 := Lib.hid x8
          have R8 := Lib.hid r8
          have BN8 := Lib.hid (HBN.out.ext x8)
          obtain ⟨y0, y1, y2, y3, f0, f1, f2, f3⟩ := BN8.out.cells4
          have yl := BN8.out.lt
          clear x8 r8 p0 p1 p2 p3 pl
          go_wp2_with fail
          go_meet
          case rel =>
            rw [HPN.out]
            exact ⟨g, rfl, (X6.out.trans' X8.out).set4 (Nat.le_refl _) _ _ _ _, ((T6.out.ext X8.out).store _ _ _ _), NB.wideB (NB.store (B := K41 + 2 * j + 1) T6.out.gt T6.out.lt X8.out BN8.out ⟨_, _, _, _, rfl⟩ R8.out) (by omega)⟩
        have hk0 : (s.kind == 0) = false := by rw [beq_eq_false_iff_ne]; omega
        have hk1 : (s.kind == 1) = false := by rw [beq_eq_false_iff_ne]; omega
        have hk2 : (s.kind == 2) = false := by rw [beq_eq_false_iff_ne]; omega
        have hk3 : (s.kind == 3) = false := by rw [beq_eq_false_iff_ne]; omega
        have hpn : playN s tc = tc := by unfold playN; rw [if_neg (by omega), if_neg (by omega), if_neg (by omega), if_neg (by omega)]
        have HPN := Lib.hid hpn
        obtain ⟨dT, htr⟩ := T.out.tr
        have HTR := Lib.hid htr
        clear hpn htr
        go_wp2_with fail
        refine (tclone_any (by have := HBJ.out; omega) HTR.out).mono ?_
        rintro e w4 ⟨g', rfl, hnt⟩
        have HNT := Lib.hid hnt
        have x4 := hnt.2.1
        have T4 := Lib.hid (T.out.ext x4)
        have X4 := Lib.hid (X.out.trans' x4)
        have hg' := hnt.1
        clear x4 hnt
        go_wp2_with fail
        refine (T4.out.del (by have := HBJ.out; omega) HDC.out (HA.out.ext X4.out)).mono ?_
        rintro e w5 ⟨rfl, t5, tb5⟩
        have T5 := Lib.hid tb5
        have X5 := Lib.hid (X4.out.onG t5 hgt)
        have TT5 := Lib.hid t5
        obtain ⟨hcx, hfx⟩ := X5.out.rules
        have hz5 := X5.out.size
        clear g3 g4 g5 g6
        have g3 := (hcx bo (of + j * 7 + 3) hbl).trans C3.out.1
        have g4 := (hcx bo (of + j * 7 + 4) hbl).trans C3.out.2.1
        have g5 := (hcx bo (of + j * 7 + 5) hbl).trans C3.out.2.2.1
        have g6 := (hcx bo (of + j * 7 + 6) hbl).trans C3.out.2.2.2
        have hbl5 : bo < w5.heap.size := by omega
        clear hcx hfx t5 tb5
        go_wp2_with fail
        refine (T5.out.put (Bx := B41) (by have := HBJ2.out; omega) (by decide) (N.tdel_dir HDC.out) (HBV.out.ext X5.out) (HRN.out.ext X5.out) (fun hw => ((HRN.out.narrow (K := K41) (by decide) hw HXW.out).wideB (by omega)).ext X5.out)).mono ?_
        rintro e w6 ⟨rfl, t6, _⟩
        have TT6 := Lib.hid (TT5.out.trans t6 fun _ h _ => h)
        have X6 := Lib.hid (X5.out.onG t6 hgt)
        clear t6
        go_wp2_with fail
        go_meet
        case rel =>
          rw [HPN.out]
          have tb := TB.newSpoil (w := w) (by omega) HNT.out TT6.out (fun b hb => by omega)
          exact ⟨g', rfl, X6.out, tb.wideB (by omega), (NB.clone NN.out HNT.out.2.1 TT6.out hg' tb.lt).wideB (by omega)⟩
      case rest =>
        obtain ⟨g', rfl, hx, htb, hnb⟩ := hcut
        have hdn := playN_dir HDC.out (s := s)
        generalize playN s tc = tn at htb hnb hdn
        have XC := Lib.hid hx
        have TC := Lib.hid htb
        have NC := Lib.hid hnb
        have HDN := Lib.hid hdn
        have hgl' := htb.lt
        have hgt' := htb.gt
        have hzc := hx.size
        obtain ⟨A7, c7, A7', c7', hbn, dN, hni⟩ := hnb.box
        have HBN := Lib.hid hbn
        have HNI := Lib.hid hni
        obtain ⟨p0, p1, p2, p3, _⟩ := hbn.cells4
        have pl := hbn.lt
        obtain ⟨xa, hxa⟩ : ∃ xa, xa = (tn.get s.a).getD N.zero := ⟨_, rfl⟩
        obtain ⟨ya, hya⟩ : ∃ ya, ya = (tn.get s.b).getD N.zero := ⟨_, rfl⟩
        have HXA := Lib.hid hxa
        have HYA := Lib.hid hya
        clear hx htb hnb hdn hbn hni hxa hya g0 g1 g2 g3 g4 g5 g6
        go_wp2_with fail
        refine (at7_any _ _ _ _ _ tn _ _ s.a _ HNI.out (HA.out.ext XC.out)).mono ?_
        rintro e w1 ⟨v1, rfl, x1, r1⟩
        rw [← HXA.out] at r1
        obtain ⟨A1, c1, A1', c1', rfl⟩ := r1.agg
        have x1' := x1.trans' (Ext.alloc' w1 (.cells #[.int .u8 xa.kind, .string xa.text, .slice A1 xa.names.length c1, .slice A1' xa.kids.length c1'] 25))
        have E1 := Lib.hid x1'
        have BX := Lib.hid (Blk.new w1 25 #[.int .u8 xa.kind, .string xa.text, .slice A1 xa.names.length c1, .slice A1' xa.kids.length c1'])
        have BN1 := Lib.hid (HBN.out.ext x1')
        clear x1 x1' r1 p0 p1 p2 p3 pl
        obtain ⟨p0, p1, p2, p3, _⟩ := BN1.out.cells4
        have pl := BN1.out.lt
        go_wp2_with fail
        refine (at7_any _ _ _ _ _ tn _ _ s.b _ (HNI.out.ext E1.out) (HBV.out.ext (XC.out.trans' E1.out))).mono ?_
        rintro e w2 ⟨v2, rfl, x2, r2⟩
        rw [← HYA.out] at r2
        obtain ⟨A2, c2, A2', c2', rfl⟩ := r2.agg
        have x2' := x2.trans' (Ext.alloc' w2 (.cells #[.int .u8 ya.kind, .string ya.text, .slice A2 ya.names.length c2, .slice A2' ya.kids.length c2'] 25))
        have E2 := Lib.hid (E1.out.trans' x2')
        have BY := Lib.hid (Blk.new w2 25 #[.int .u8 ya.kind, .string ya.text, .slice A2 ya.names.length c2, .slice A2' ya.kids.length c2'])
        have BX2 := Lib.hid (BX.out.ext x2')
        have BN2 := Lib.hid (BN1.out.ext x2')
        clear x2 x2' r2 p0 p1 p2 p3 pl
        go_upto_region 36 with fail
        obtain ⟨W2, hW2⟩ : ∃ W2, W2 = w2.alloc (.cells #[.int .u8 ya.kind, .string ya.text, .slice A2 ya.names.length c2, .slice A2' ya.kids.length c2'] 25) := ⟨_, rfl⟩
        have E2 : Hid (Ext wc W2) := Lib.hid (by rw [hW2]; exact E2.out)
        have BY : Hid (Blk W2 w2.heap.size 25 #[.int .u8 ya.kind, .string ya.text, .slice A2 ya.names.length c2, .slice A2' ya.kids.length c2']) := Lib.hid (by rw [hW2]; exact BY.out)
        have BX2 : Hid (Blk W2 w1.heap.size 25 #[.int .u8 xa.kind, .string xa.text, .slice A1 xa.names.length c1, .slice A1' xa.kids.length c1']) := Lib.hid (by rw [hW2]; exact BX2.out)
        have BN2 : Hid (Blk W2 w.heap.size 25 #[.int .u8 tn.kind, .string tn.text, .slice A7 tn.names.length c7, .slice A7' tn.kids.length c7']) := Lib.hid (by rw [hW2]; exact BN2.out)
        rw [← hW2]
        clear hW2 BX BN1 E1
        have XW := Lib.hid (XC.out.trans' E2.out)
        have TW := Lib.hid (TC.out.ext E2.out)
        have NW := Lib.hid (NC.out.ext E2.out)
        have NIW := Lib.hid (HNI.out.ext E2.out)
        go_cut [188] (fun s188 wx => s188 = .bool (decide (3000 ≤ tn.weight)) ∧ Ext W2 wx)
        case first =>
          have KA := Lib.hid (show ∀ u : Up W2, Calls Try.prog 48 #[.pointer (some ⟨g', 0, none⟩), .slice Aa s.a.length ca] u.val fun e w' => e = .returned (.int .u8 xa.kind) ∧ ∃ x : Up W2, w' = x.val from fun u => by
            rw [HXA.out]; exact Calls.up ((TW.out.ext u.ext).kind (by have := HBJ.out; omega) HDN.out ((HA.out.ext XW.out).up u)))
          have KB := Lib.hid (show ∀ u : Up W2, Calls Try.prog 48 #[.pointer (some ⟨g', 0, none⟩), .slice Ab s.b.length cb] u.val fun e w' => e = .returned (.int .u8 ya.kind) ∧ ∃ x : Up W2, w' = x.val from fun u => by
            rw [HYA.out]; exact Calls.up ((TW.out.ext u.ext).kind (by have := HBJ.out; omega) HDN.out ((HBV.out.ext XW.out).up u)))
          have KT := Lib.hid (show ∀ u : Up W2, Calls Try.prog 49 #[.pointer (some ⟨g', 0, none⟩), .slice Aa s.a.length ca] u.val fun e w' => e = .returned (.string xa.text) ∧ ∃ x : Up W2, w' = x.val from fun u => by
            rw [HXA.out]; exact Calls.up ((TW.out.ext u.ext).text (by have := HBJ.out; omega) HDN.out ((HA.out.ext XW.out).up u)))
          have KE := Lib.hid (show ∀ u : Up W2, Calls Try.prog 50 #[.pointer (some ⟨g', 0, none⟩), .slice Aa s.a.length ca] u.val fun e w' => e = .returned (.bool (emptyB xa)) ∧ ∃ x : Up W2, w' = x.val from fun u => by
            rw [HXA.out]; exact Calls.up ((TW.out.ext u.ext).empty (by have := HBJ.out; omega) HDN.out ((HA.out.ext XW.out).up u)))
          have KW := Lib.hid (show ∀ u : Up W2, Calls Try.prog 14 #[.agg #[.int .u8 tn.kind, .string tn.text, .slice A7 tn.names.length c7, .slice A7' tn.kids.length c7']] u.val fun e w' => e = .returned (.int .i64 tn.weight) ∧ ∃ x : Up W2, w' = x.val from fun u => Calls.up (weight_any _ _ _ tn _ _ (NIW.out.up u)))
          obtain ⟨hu, hfu⟩ := up_rules W2
          obtain ⟨p0, p1, p2, p3, _⟩ := BN2.out.cells4
          obtain ⟨q0, q1, q2, q3, _⟩ := BX2.out.cells4
          obtain ⟨r0, r1, r2, r3, _⟩ := BY.out.cells4
          have pl := BN2.out.lt
          have ql := BX2.out.lt
          have rl := BY.out.lt
          have t1 : (xa.kind != xa.kind) = false := by simp
          have t2 : (ya.kind != ya.kind) = false := by simp
          have hbe : (emptyB xa = false ∧ (xa.kind == 2) = false) ∨ (emptyB xa = false ∧ (xa.kind == 2) = true ∧ ((xa.names.length : Int) == 0) = false) ∨ (emptyB xa = true ∧ (xa.kind == 2) = true ∧ ((xa.names.length : Int) == 0) = true) := by
            unfold emptyB
            by_cases h1 : xa.kind = 2
            · by_cases h2 : xa.names.length = 0
              · right; right; simp [h1, h2]
              · right; left
                refine ⟨by simp [h2], by simp [h1], ?_⟩
                rw [beq_eq_false_iff_ne]; omega
            · left; simp [h1]
          refine wp_region_up0 (by kernel_rfl) (by kernel_rfl) ?_
          rcases hbe with ⟨hb, h1⟩ | ⟨hb, h1, h2⟩ | ⟨hb, h1, h2⟩
          all_goals
            rw [hb] at KE
            clear hb
            repeat (go_big_quiet_step ((first
              | (go_at_call 14; exact KW.out _)
              | (go_at_call 49; exact KT.out _)
              | (go_at_call 50; exact KE.out _)
              | (go_at_call 48; exact KA.out _)
              | (go_at_call 48; exact KB.out _))))
            refine wpQuiet_nil ?_
            rintro _ ⟨u1, rfl⟩
            go_wp2_with fail
            go_meet
            case rel => exact ⟨rfl, u1.ext⟩
        case rest =>
          obtain ⟨rfl, hxc⟩ := hcut
          have XV := Lib.hid (XW.out.trans' hxc)
          have TV := Lib.hid (TW.out.ext hxc)
          have NV := Lib.hid (NW.out.ext hxc)
          have NIV := Lib.hid (NIW.out.ext hxc)
          have BNV := Lib.hid (BN2.out.ext hxc)
          clear hxc XW TW NW NIW BN2 BX2 BY E2 XC TC NC HBN HNI
          obtain ⟨W3, hW3⟩ : ∃ W3, W3 = wc := ⟨_, rfl⟩
          subst hW3
          obtain ⟨p0, p1, p2, p3, _⟩ := BNV.out.cells4
          have pl := BNV.out.lt
          by_cases hw : 3000 ≤ tn.weight
          · go_wp2_with fail
            refine (weight_any _ _ _ tn _ _ NIV.out).mono ?_
            rintro e w4 ⟨rfl, x4⟩
            have X4 := Lib.hid (XV.out.trans' x4)
            clear x4
            go_wp2_with fail
            go_ret
            exact ⟨rfl, X4.out⟩
          · go_wp2_with fail
            obtain ⟨dr, hroot⟩ := TV.out.root (by have := HBJ.out; omega)
            refine hroot.mono ?_
            rintro e w4 ⟨A5, c5, A5', c5', rfl, x4, r4⟩
            have x4' := x4.trans' (Ext.alloc' w4 (.cells #[.int .u8 tn.kind, .string tn.text, .slice A5 tn.names.length c5, .slice A5' tn.kids.length c5'] 25))
            have X4 := Lib.hid x4'
            have R4 := Lib.hid r4
            have R4A := Lib.hid (r4.ext (Ext.alloc' w4 (.cells #[.int .u8 tn.kind, .string tn.text, .slice A5 tn.names.length c5, .slice A5' tn.kids.length c5'] 25)))
            have BR := Lib.hid (Blk.new w4 25 #[.int .u8 tn.kind, .string tn.text, .slice A5 tn.names.length c5, .slice A5' tn.kids.length c5'])
            have BN4 := Lib.hid (BNV.out.ext x4')
            have hz4 := x4.size
            clear x4 x4' r4 hroot p0 p1 p2 p3 pl
            obtain ⟨p0, p1, p2, p3, _⟩ := BN4.out.cells4
            have pl := BN4.out.lt
            go_wp2_with fail
            refine (same7_any _ _ _ _ _ _ tn tn _ _ _ R4A.out (NIV.out.ext X4.out)).mono ?_
            rw [N.same_refl]
            rintro e w5 ⟨rfl, x5⟩
            have X5 := Lib.hid (X4.out.trans' x5)
            have BR5 := Lib.hid (BR.out.ext x5)
            have hz5 := x5.size
            have R5 : Hid (Rep (K41 + 2 * j + 2) (fun b => (W3.heap.size ≤ b ∧ b < w4.heap.size) ∧ Nfz w5 b) w5 dr tn (.agg #[.int .u8 tn.kind, .string tn.text, .slice A5 tn.names.length c5, .slice A5' tn.kids.length c5'])) := by
              refine Lib.hid (Rep.keep (w := w4) (S := fun b => (W3.heap.size ≤ b ∧ Nfz w4 b) ∧ b < w4.heap.size) ?_ (fun b hb hl => ?_) (fun b hb hl => ?_) _ _ _ (Rep.keep (Nat.le_refl _) (fun _ _ _ => rfl) (fun b hb hl => ⟨hb, hl⟩) _ _ _ R4.out))
              · have := ((Ext.alloc' w4 (.cells #[.int .u8 tn.kind, .string tn.text, .slice A5 tn.names.length c5, .slice A5' tn.kids.length c5'] 25)).trans' x5).size
                omega
              · exact ((Ext.alloc' w4 (.cells #[.int .u8 tn.kind, .string tn.text, .slice A5 tn.names.length c5, .slice A5' tn.kids.length c5'] 25)).trans' x5).block b hl
              · exact ⟨⟨hb.1.1, hb.2⟩, hb.1.2.same (((Ext.alloc' w4 (.cells #[.int .u8 tn.kind, .string tn.text, .slice A5 tn.names.length c5, .slice A5' tn.kids.length c5'] 25)).trans' x5).block b hl)⟩
            clear x5 p0 p1 p2 p3 pl
            obtain ⟨p0, p1, p2, p3, _⟩ := BR5.out.cells4
            have pl := BR5.out.lt
            go_wp2_with fail
            refine (spoil_own (fun b hb => hb.2) R5.out).mono ?_
            rintro e w6 ⟨rfl, t6⟩
            have x6 := spoil_back X5.out t6 (fun b hb => hb.1.1)
            have X6 := Lib.hid (XV.out.trans' x6)
            have T6 := Lib.hid (TV.out.ext x6)
            have N6 := Lib.hid (NV.out.ext x6)
            clear t6 x6 p0 p1 p2 p3 pl
            go_wp2_with fail
            go_roundw
            case rel => exact ⟨j + 1, g', tn, by omega, by go_num, rfl, X6.out, T6.out.wideB (by omega), N6.out.wideB (by omega), HDN.out⟩
            case measure => simp [intOf]; omega
    · have hjn : ¬ (j : Int) < (l.length : Int) := by omega
      have hjn : ¬ (j : Int) < (l.length : Int) := by omega
      have hjl : j = l.length := by omega
      have hj60 := H60.out
      have hBj : K41 + 2 * j ≤ 2199023255552 := by omega
      obtain ⟨A7, c7, A7', c7', hbn, dN, hni⟩ := NN.out.box
      have HBN := Lib.hid hbn
      have HNI := Lib.hid hni
      clear hbn hni hjl
      go_upto_region 42 with fail
      obtain ⟨wc, hwc⟩ : ∃ wc, wc = wr := ⟨_, rfl⟩
      subst hwc
      obtain ⟨dr, hroot⟩ := (T.out.ext (Below.drew (Below.refl _ wc))).root hBj
      have HRT := Lib.hid hroot
      obtain ⟨p0, p1, p2, p3, _, _, _, _⟩ := HBN.out.cells4
      have pl := HBN.out.lt
      clear hroot
      go_region_with (first
        | (go_at_call 43; refine HRT.out.mono ?_; rintro e w5 ⟨A5, c5, A5', c5', rfl, x5, r5⟩; have hx5 := Ext.trans' (Below.drew (Below.refl _ wc)) x5; have X := Lib.hid (X.out.trans' hx5); have HB5 := Lib.hid (HBN.out.ext hx5); have R7 := Lib.hid (HNI.out.ext hx5); have R5 := Lib.hid r5; obtain ⟨q0, q1, q2, q3, _, _, _, _⟩ := HB5.out.cells4; have ql := HB5.out.lt; clear x5 r5 hx5)
        | (go_at_call 20; refine (same7_any _ _ _ _ _ _ _ _ _ _ _ R5.out R7.out).mono ?_; rw [N.same_refl]; rintro e w6 ⟨rfl, x6⟩; have X := Lib.hid (X.out.trans' x6); clear x6))
      all_goals
        go_wp2_with fail
        go_ret
        exact ⟨rfl, X.out⟩
theorem plays_law {w : World} {d : Nat} {t : N} {l : List Stp} {v lv : Value} (h : PlaysIn w d t l v lv) : Calls Try.prog 7 #[v, lv] w fun e w' => e = .returned (.bool true) ∧ Ext w w' := by
  by_cases h1 : 3000 ≤ t.weight
  · exact plays_1 h h1
  cases hl : largeB l
  · cases hm : t.may
    · exact plays_3 h h1 hl hm
    · exact plays_4 h h1 hl hm
  · exact plays_2 h h1 hl
end Go.Proofs.Ytocndkhgopjhhaa
