/- touchstoneref07.New; a tree and a file system side by side; touchstonelaw10.PrimDoes answers true. -/
import Derived.Test.YtocndkhgopjhhaaGreatProg
import Derived.Test.YtocndkhgopjhhaaGreatTold
import Derived.Test.YtocndkhgopjhhaaGreatNode
import Derived.Test.YtocndkhgopjhhaaGreatLongT
import Derived.Test.YtocndkhgopjhhaaGreatPrimK
import Derived.Outline
namespace Go.Proofs.YtocndkhgopjhhaaGreat
open Go.RowKit

set_option maxRecDepth 100000 in
set_option maxHeartbeats 1000000 in
theorem new7_any {B d : Nat} (hB : B ≤ 2199023255552) {S : Nat → Prop} {w : World} {v : Value} {t : N} (h : Rep B S w d t v) (hw : t.well = true) :
    Calls Tryz.prog 7 #[v] w fun e w' => ∃ g, e = .returned (.pointer (some ⟨g, 0, none⟩)) ∧ w.heap.size ≤ g ∧ Ext w w' ∧ FSIs B (fun b => (w.heap.size ≤ b ∧ b ≠ g) ∧ b < w'.heap.size) w' g t := by
  have HR := Lib.hid h
  have HW := Lib.hid hw
  obtain ⟨At, ct, At', ct', rfl⟩ := h.agg
  have X := Lib.hid (Ext.alloc' w (.cells #[.int .u8 t.kind, .string t.text, .slice At t.names.length ct, .slice At' t.kids.length ct'] 25))
  clear h hw
  go_enter Tryz.func7, Tryz.ntmps7
  go_wp2_with fail
  refine (made_any B hB _ _ t _ _ HW.out (HR.out.ext X.out)).mono ?_
  rintro e w1 ⟨A, c, A', c', rfl, x1, r1⟩
  have X1 := Lib.hid (X.out.trans' x1)
  have R1 := Lib.hid r1
  clear x1 r1
  go_wp2_with fail
  go_ret
  have hz := X1.out.size
  have e1 := Ext.alloc' w1 (.cells (fsC t A c A' c') 47)
  obtain ⟨d', rfl⟩ : ∃ e, d = e + 1 := ⟨d - 1, by have := R1.out.dpos; omega⟩
  refine ⟨w1.heap.size, rfl, hz, X1.out.trans' e1, d', A, c, A', c', Blk.new w1 _ _, R1.out.wide (Nat.le_refl _) e1 (fun b hb hl => ⟨⟨by have := X.out.size; omega, by omega⟩, by simp; omega⟩) (Nat.le_refl _), fun b hb => hb.1.2⟩

/-- a tree beside a file system that was made behind it. -/
theorem TIs.beside {B : Nat} {w w' : World} {g gf : Nat} {t : N} (h : TIs B w g t) (hx : Ext w w') (hf : w.heap.size ≤ gf) (hl : gf < w'.heap.size) : TIsX (fun b => b = gf) B w' g t := by
  obtain ⟨d, h, _⟩ := h
  have hgl := h.lt
  exact ⟨d, h.keep (Nat.le_refl _) (Nat.le_refl _) hx.size (hx.block g hgl) (fun b hb hl => hx.block b hl) (fun b hb hl => ⟨hb.1, fun e => by omega⟩) (fun _ h => h.1), fun b hb => by omega⟩
/-- beside a change of the blocks of X. -/
theorem TIsX.turn {X F : Nat → Prop} {B : Nat} {w w' : World} {g : Nat} {t : N} (h : TIsX X B w g t) (ht : Turns F w w') (hF : ∀ b, F b → X b ∧ b ≠ g) : TIsX X B w' g t := by
  obtain ⟨d, h, hX⟩ := h
  have hgl := h.lt
  exact ⟨d, h.keep (Nat.le_refl _) (Nat.le_refl _) ht.size (ht.block g hgl fun h => (hF g h).2 rfl) (fun b hb hl => ht.block b hl fun h => hb.2 (hF b h).1) (fun b hb _ => hb) (fun _ h => h.1), fun b hb => Nat.lt_of_lt_of_le (hX b hb) ht.size⟩
theorem FIs.beside {B : Nat} {w w' : World} {gt g : Nat} {t : N} (h : FSIs B (fun b => (w.heap.size ≤ b ∧ b ≠ g) ∧ b < w'.heap.size) w' g t) (hg : gt < w.heap.size) (hx : Ext w w') : FIs (fun b => b = gt) B w' g t := by
  obtain ⟨d, hf⟩ := h
  have hz := hx.size
  exact ⟨⟨d, hf.keep (Nat.le_refl _) (Nat.le_refl _) (Nat.le_refl _) rfl (fun _ _ _ => rfl) (fun b hb _ => ⟨⟨hb.1.2, fun e => by have := hb.1.1; omega⟩, hb.2⟩) (fun b hb => hb.1.1)⟩, fun b hb => by omega⟩

theorem may_dirT {t : N} (hm : t.may = true) : DirW t := by
  unfold N.may at hm
  simp only [Bool.and_eq_true, decide_eq_true_eq] at hm
  exact DirW.of hm.1.1.2 hm.1.1.1

set_option maxRecDepth 100000 in
set_option maxHeartbeats 8000000 in
theorem does_any {d : Nat} {w : World} {v lv : Value} {t : N} {l : List POp} (hn : Rep B41 (fun b => b < w.heap.size) w d t v) (hnw : t.wide K41) (h : POps (4 * B41) (fun b => b < w.heap.size) w lv l) :
    Calls Tryz.prog 3 #[v, lv] w fun e w' => e = .returned (.bool true) ∧ Ext w w' := by
  have H := Lib.hid h
  have HN := Lib.hid hn
  have HNW := Lib.hid hnw
  obtain ⟨At, ct, At', ct', rfl⟩ := hn.agg
  obtain ⟨A, c, rfl, hc, hm, _⟩ := h
  unfold maxLen at hm
  have hx0 := Ext.alloc' w (.cells #[.int .u8 t.kind, .string t.text, .slice At t.names.length ct, .slice At' t.kids.length ct'] 25)
  have HB := Lib.hid (Blk.new w 25 #[.int .u8 t.kind, .string t.text, .slice At t.names.length ct, .slice At' t.kids.length ct'])
  have HX := Lib.hid hx0
  clear hn hx0 hnw
  go_enter Tryz.func3, Tryz.ntmps3
  go_wp2_with fail
  refine (long10t_any (by decide) (HN.out.ext HX.out) (H.out.ext HX.out)).mono ?_
  rintro e w1 ⟨b, rfl, x1, hb⟩
  have X := Lib.hid (HX.out.trans' x1)
  have HB := Lib.hid (HB.out.ext x1)
  have HBB := Lib.hid hb
  clear x1 hb
  cases b
  case true =>
    go_wp2_with fail
    refine (awake10_any _).mono ?_
    rintro e w2 ⟨rfl, x2⟩
    have X := Lib.hid (X.out.trans' x2)
    clear x2
    go_wp2_with fail
    go_ret
    exact ⟨rfl, X.out⟩
  obtain ⟨hmy, hl40, hlen⟩ := HBB.out rfl
  have HM := Lib.hid hmy
  have HD := Lib.hid (may_dirT hmy)
  have HLEN := Lib.hid hlen
  clear hmy hlen
  obtain ⟨p0, p1, p2, p3, _, _, _, _⟩ := HB.out.cells4
  have pl := HB.out.lt
  go_wp2_with fail
  refine (tnew_any (by decide) ((HN.out.narrow (K := K41) (by decide) HD.out.wf HNW.out).ext X.out) HM.out).mono ?_
  rintro e w3 ⟨gt, rfl, hg, x3, tr⟩
  have hgw : w.heap.size ≤ gt := by have := X.out.size; omega
  have X := Lib.hid (X.out.trans' x3)
  have TR := Lib.hid (TIs.of tr (Nat.le_refl K41))
  have hgl := TR.out.lt
  have HB := Lib.hid (HB.out.ext x3)
  clear x3 tr p0 p1 p2 p3 pl hg
  obtain ⟨p0, p1, p2, p3, _, _, _, _⟩ := HB.out.cells4
  have pl := HB.out.lt
  go_wp2_with fail
  refine (new7_any (by decide) ((HN.out.narrow (K := K41) (by decide) HD.out.wf HNW.out).ext X.out) HD.out.wf).mono ?_
  rintro e w4 ⟨gf, rfl, hgf, x4, fs⟩
  have hfl : gf < w4.heap.size := by obtain ⟨_, hf⟩ := fs; exact hf.lt
  have TX := Lib.hid (TR.out.beside x4 hgf hfl)
  have FX := Lib.hid (FIs.beside fs hgl x4)
  have X := Lib.hid (X.out.trans' x4)
  have hgfw : w.heap.size ≤ gf := by omega
  have hne : gf ≠ gt := by omega
  clear x4 fs p0 p1 p2 p3 pl TR HB hgf hfl hgl
  go_wp2_with fail
  have hK : K41 = 1954687338268 := rfl
  go_loopw [8] (fun i wr => ∃ (j : Nat) (tc : N), j ≤ l.length ∧ i = .int .i64 j ∧ Ext w wr ∧ TIsX (fun b => b = gf) (K41 + 2 * j) wr gt tc ∧ FIs (fun b => b = gt) (K41 + 40 * j) wr gf tc ∧ DirW tc) (fun i _ => l.length - (intOf i).toNat)
  case atStart => exact ⟨0, t, Nat.zero_le _, rfl, X.out, TX.out, FX.out, HD.out⟩
  case round =>
    obtain ⟨j, tc, hj, rfl, hx, htr, hfr, hd⟩ := hrel
    have X := Lib.hid hx
    have TR := Lib.hid htr
    have FR := Lib.hid hfr
    have HDC := Lib.hid hd
    have hzx := hx.size
    clear hx htr hfr hd TX FX
    by_cases hlt : j < l.length
    · obtain ⟨o, ho⟩ : ∃ o, l[j]? = some o := ⟨_, List.getElem?_eq_getElem hlt⟩
      obtain ⟨hla, hlb⟩ := HLEN.out j o ho
      have HLA := Lib.hid hla
      have HLB := Lib.hid hlb
      obtain ⟨bo, of, c2, av, bv, e, _, hbl, _, _, c0, c1, c2', c3, c4, hts, ha, hbv⟩ := H.out.at' ho
      have HO := Lib.hid (show POpV (4 * B41) (fun b => b < w.heap.size) w o [.int .u8 o.kind, av, bv, .string o.text, .bool o.deep] from ⟨av, bv, rfl, hts, ha, hbv⟩)
      injection e with e1 e2 e3
      subst e1 e3
      obtain ⟨r, hr⟩ : ∃ r, pDo o tc = r := ⟨_, rfl⟩
      have HP := Lib.hid hr
      have HK : Hid (DirW r.2) := Lib.hid (by rw [← hr]; exact (pDo_keeps o HDC.out).2)
      obtain ⟨code, tn⟩ := r
      have HK : Hid (DirW tn) := Lib.hid HK.out
      have hcc : (code != code) = false := by simp
      obtain ⟨Aa, ca, rfl, _⟩ := ha
      obtain ⟨Ab, cb, rfl, _⟩ := hbv
      have HBJ := Lib.hid (show K41 + 2 * j + 2 ≤ 2199023255552 by omega)
      have HBF := Lib.hid (show K41 + 40 * j + 40 ≤ 2199023255552 by omega)
      have HC := Lib.hid (And.intro c0 (And.intro c1 (And.intro c2' (And.intro c3 c4))))
      have cells : ∀ W, Ext w W → W.cell? ⟨bo, of + j * 5, none⟩ = some (.int .u8 o.kind) ∧ W.cell? ⟨bo, of + j * 5 + 1, none⟩ = some (.slice Aa o.a.length ca) ∧ W.cell? ⟨bo, of + j * 5 + 2, none⟩ = some (.slice Ab o.b.length cb) ∧ W.cell? ⟨bo, of + j * 5 + 3, none⟩ = some (.string o.text) ∧ W.cell? ⟨bo, of + j * 5 + 4, none⟩ = some (.bool o.deep) ∧ bo < W.heap.size := by
        intro W hW
        obtain ⟨hcx, _⟩ := hW.rules
        obtain ⟨q0, q1, q2, q3, q4⟩ := HC.out
        exact ⟨(hcx bo _ hbl).trans q0, (hcx bo _ hbl).trans q1, (hcx bo _ hbl).trans q2, (hcx bo _ hbl).trans q3, (hcx bo _ hbl).trans q4, by have := hW.size; omega⟩
      have CL := Lib.hid cells
      obtain ⟨wc, hwc⟩ : ∃ wc, wc = wr := ⟨_, rfl⟩
      subst hwc
      obtain ⟨c0, c1, c2', c3, c4, bl⟩ := CL.out _ X.out
      have XD := Lib.hid (X.out.trans' (Below.drew (Below.refl _ wc)))
      have TD := Lib.hid (TR.out.ext (Below.drew (Below.refl _ wc)))
      have FD := Lib.hid (FR.out.ext (Below.drew (Below.refl _ wc)))
      clear ho hts cells hr hla hlb TR FR
      go_upto_region 10 with fail
      go_region_with (first
        | (go_at_call 8; refine (do_any HBJ.out TD.out HDC.out (HO.out.ext XD.out) (fun x hx => by omega)).mono ?_; rw [HP.out]; rintro e w5 ⟨rfl, t5, tr5⟩; have X5 := Lib.hid (XD.out.turnsG t5 hgw); have T5 : Hid (TIsX (fun b => b = gf) (K41 + 2 * j + 2) w5 gt tn) := Lib.hid tr5; have F5 := Lib.hid (FD.out.turn t5 (fun b hb => ⟨hb, fun e => hne (e.symm.trans hb)⟩)); obtain ⟨d0, d1, d2, d3, d4, dl⟩ := CL.out _ X5.out; clear t5 tr5)
        | (go_at_call 9; refine (told_any HBF.out HLA.out HLB.out F5.out HDC.out (HO.out.ext X5.out) (fun x hx => by omega)).mono ?_; rw [HP.out]; rintro e w6 ⟨rfl, t6, fr6⟩; have X6 := Lib.hid (X5.out.turnsG t6 hgfw); have F6 : Hid (FIs (fun b => b = gt) (K41 + 40 * j + 40) w6 gf tn) := Lib.hid fr6; have T6 := Lib.hid (T5.out.turn t6 (fun b hb => ⟨hb, fun e => hne (hb.symm.trans e)⟩)); obtain ⟨⟨df, A6, c6, A6', c6', hb6, hr6, hS6⟩, _⟩ := fr6; have B6 := Lib.hid hb6; have R6 := Lib.hid hr6; obtain ⟨⟨f1, f2, f3, f4, f5, f6⟩, _⟩ := hb6.cellsF; have fl := hb6.lt; obtain ⟨dr, hrt⟩ := T6.out.root HBJ.out; have HRT := Lib.hid hrt; clear t6 hb6 hr6 hS6 hrt)
        | (go_at_call 11; refine HRT.out.mono ?_; rintro e w7 ⟨A7, c7, A7', c7', rfl, x7, r7⟩; have X7 := Lib.hid (X6.out.trans' x7); have F7 := Lib.hid (F6.out.ext x7); have T7 := Lib.hid (T6.out.ext x7); have R7 := Lib.hid r7; have S7 := Lib.hid (R6.out.ext x7); obtain ⟨⟨h1, h2, h3, h4, h5, h6⟩, _⟩ := (B6.out.ext x7).cellsF; have hl7 := (B6.out.ext x7).lt; clear x7 r7)
        | (go_at_call 12; refine (node_any _ (by have := HBF.out; omega) _ _ tn _ _ HK.out.wf S7.out).mono ?_; rintro e w8 ⟨A8, c8, A8', c8', rfl, x8, r8⟩; have X8 := Lib.hid (X7.out.trans' x8); have F8 := Lib.hid (F7.out.ext x8); have T8 := Lib.hid (T7.out.ext x8); have R8 := Lib.hid r8; have R7 := Lib.hid (R7.out.ext x8); clear x8 r8)
        | (go_at_call 10; refine (same7_any _ _ _ _ _ _ _ _ _ _ _ R7.out R8.out).mono ?_; rw [N.same_refl]; rintro e w9 ⟨rfl, x9⟩; have X9 := Lib.hid (X8.out.trans' x9); have F9 := Lib.hid (F8.out.ext x9); have T9 := Lib.hid (T8.out.ext x9); clear x9))
      all_goals
        go_wp2_with fail
        go_roundw
        case rel => exact ⟨j + 1, tn, by omega, by go_num, X9.out, T9.out, F9.out, HK.out⟩
        case measure => simp [intOf]; omega
    · go_wp2_with fail
      refine (awake10_any _).mono ?_
      rintro e w2 ⟨rfl, x2⟩
      have X := Lib.hid (X.out.trans' x2)
      clear x2
      go_wp2_with fail
      go_ret
      exact ⟨rfl, X.out⟩
end Go.Proofs.YtocndkhgopjhhaaGreat
