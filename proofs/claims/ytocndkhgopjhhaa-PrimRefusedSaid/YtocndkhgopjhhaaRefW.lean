/- touchstonelaw10.PrimRefused answers true. -/
import Derived.Test.YtocndkhgopjhhaaProg
import Derived.Test.YtocndkhgopjhhaaPrimK
import Derived.Test.YtocndkhgopjhhaaPrimL
import Derived.Test.YtocndkhgopjhhaaBase
import Derived.Test.YtocndkhgopjhhaaStep
import Derived.Outline
namespace Go.Proofs.Ytocndkhgopjhhaa
open Go.RowKit

theorem Blk.turn' {w w' : World} {F : Nat → Prop} {g : Nat} {t : TypeId} {cs : Array Value} (h : Blk w g t cs) (ht : Turns F w w') (hg : ¬ F g) : Blk w' g t cs := (ht.block g h.lt hg).trans h
theorem Rep.turn' {B : Nat} {w w' : World} {gt d : Nat} {t : N} {v : Value} (h : Rep B (fun b => b ≠ gt) w d t v) (ht : Turns (fun b => b = gt) w w') : Rep B (fun b => b ≠ gt) w' d t v := Rep.keep ht.size (fun b hb hl => ht.block b hl hb) (fun _ h _ => h) _ _ _ h
theorem Rep.far' {B : Nat} {S : Nat → Prop} {w : World} {gt d : Nat} {t : N} {v : Value} (h : Rep B S w d t v) (hS : ∀ b, S b → b ≠ gt) : Rep B (fun b => b ≠ gt) w d t v := h.wide (Nat.le_refl _) (Below.refl _ _) (fun b h _ => hS b h) (Nat.le_refl _)

theorem may_dir {t : N} (hm : t.may = true) : DirW t := by
  unfold N.may at hm
  simp only [Bool.and_eq_true, decide_eq_true_eq] at hm
  exact DirW.of hm.1.1.2 hm.1.1.1

/-- what is asked of the steps' places -/
theorem POps.mono {B : Nat} {S S' : Nat → Prop} {w : World} {v : Value} {l : List POp} (h : POps B S w v l) (hS : ∀ b, S b → S' b) : POps B S' w v l := by
  obtain ⟨A, c, e, h1, h2, h3⟩ := h
  refine ⟨A, c, e, h1, h2, fun hp => ?_⟩
  obtain ⟨b, o, e, hb, hl, hc⟩ := h3 hp
  refine ⟨b, o, e, hS b hb, hl, fun i s hi => ?_⟩
  obtain ⟨cs, ⟨av, bv, e1, k1, g1, g2⟩, hk⟩ := hc i s hi
  exact ⟨cs, ⟨av, bv, e1, k1, g1.wide (Nat.le_refl _) (Below.refl _ _) (fun b h _ => hS b h), g2.wide (Nat.le_refl _) (Below.refl _ _) (fun b h _ => hS b h)⟩, hk⟩

set_option maxRecDepth 100000 in
set_option maxHeartbeats 8000000 in
theorem refused_any {d : Nat} {w : World} {v lv : Value} {t : N} {l : List POp} (hn : Rep B41 (fun b => b < w.heap.size) w d t v) (hnw : t.wide K41) (h : POps (4 * B41) (fun b => b < w.heap.size) w lv l) :
    Calls Try.prog 11 #[v, lv] w fun e w' => e = .returned (.bool true) ∧ Ext w w' := by
  have H := Lib.hid h
  have HN := Lib.hid hn
  have HNW := Lib.hid hnw
  obtain ⟨At, ct, At', ct', rfl⟩ := hn.agg
  obtain ⟨A, c, rfl, hc, hm, _⟩ := h
  unfold maxLen at hm
  have hx0 := Ext.alloc' w (.cells #[.int .u8 t.kind, .string t.text, .slice At t.names.length ct, .slice At' t.kids.length ct'] 25)
  have HB := Lib.hid (Blk.new w 25 #[.int .u8 t.kind, .string t.text, .slice At t.names.length ct, .slice At' t.kids.length ct'])
  have HX := Lib.hid hx0
  clear hn hx0 hnw
  go_enter Try.func11, Try.ntmps11
  go_wp2_with fail
  refine (long10_any (by decide) (HN.out.ext HX.out) (H.out.ext HX.out)).mono ?_
  rintro e w1 ⟨b, rfl, x1, hb⟩
  have X := Lib.hid (HX.out.trans' x1)
  have HB := Lib.hid (HB.out.ext x1)
  have HBB := Lib.hid hb
  clear x1 hb
  cases b
  case true =>
    go_wp2_with fail
    refine (awake10_any _).mono ?_
    rintro e w2 ⟨rfl, x2⟩
    have X := Lib.hid (X.out.trans' x2)
    clear x2
    go_wp2_with fail
    go_ret
    exact ⟨rfl, X.out⟩
  obtain ⟨hmy, hl40⟩ := HBB.out rfl
  have HM := Lib.hid hmy
  have HD := Lib.hid (may_dir hmy)
  clear hmy
  go_wp2_with fail
  refine (awake10_any _).mono ?_
  rintro e w2 ⟨rfl, x2⟩
  have X := Lib.hid (X.out.trans' x2)
  obtain ⟨p0, p1, p2, p3, _, _, _, _⟩ := (HB.out.ext x2).cells4
  have pl := (HB.out.ext x2).lt
  clear x2
  go_wp2_with fail
  refine (tnew_any (by decide) ((HN.out.narrow (K := K41) (by decide) HD.out.wf HNW.out).ext X.out) HM.out).mono ?_
  rintro e w3 ⟨g, rfl, hg, x3, tr⟩
  have hgw : w.heap.size ≤ g := by have := X.out.size; omega
  have X := Lib.hid (X.out.trans' x3)
  have TR := Lib.hid (TIs.of tr (Nat.le_refl K41))
  clear x3 tr p0 p1 p2 p3 pl hg
  go_wp2_with fail
  have hK : K41 = 1954687338268 := rfl
  go_loopw [7] (fun i wr => ∃ (j : Nat) (tc : N), j ≤ l.length ∧ i = .int .i64 j ∧ Ext w wr ∧ TIs (K41 + 2 * j) wr g tc ∧ DirW tc) (fun i _ => l.length - (intOf i).toNat)
  case atStart => exact ⟨0, t, Nat.zero_le _, rfl, X.out, TR.out, HD.out⟩
  case round =>
    obtain ⟨j, tc, hj, rfl, hx, htr, hd⟩ := hrel
    have X := Lib.hid hx
    have TR := Lib.hid htr
    have HDC := Lib.hid hd
    have hzx := hx.size
    clear hx htr hd
    by_cases hlt : j < l.length
    · obtain ⟨o, ho⟩ : ∃ o, l[j]? = some o := ⟨_, List.getElem?_eq_getElem hlt⟩
      obtain ⟨bo, of, c2, av, bv, e, _, hbl, _, _, c0, c1, c2', c3, c4, hts, ha, hbv⟩ := (H.out.ext X.out).at' ho
      have HO := Lib.hid (show POpV (4 * B41) (fun b => b < w.heap.size) wr o [.int .u8 o.kind, av, bv, .string o.text, .bool o.deep] from ⟨av, bv, rfl, hts, ha, hbv⟩)
      injection e with e1 e2 e3
      subst e1 e3
      have HK := Lib.hid (pDo_keeps o HDC.out)
      obtain ⟨Aa, ca, rfl, _⟩ := ha
      obtain ⟨Ab, cb, rfl, _⟩ := hbv
      have hBj : K41 + 2 * j + 2 ≤ 2199023255552 := by omega
      have HBJ := Lib.hid hBj
      obtain ⟨dr, hroot⟩ := TR.out.root (by omega)
      have HC := Lib.hid c0
      have HC' := Lib.hid (And.intro c1 (And.intro c2' (And.intro c3 c4)))
      clear ho hts hBj c0 c1 c2' c3 c4
      go_wp2_with fail
      refine hroot.mono ?_
      rintro e w4 ⟨A4, c4, A4', c4', rfl, x4, r4⟩
      have hgl := TR.out.lt
      have R4 := Lib.hid (r4.far' (gt := g) (fun b h => by have := h.1; omega))
      have e4 := Ext.alloc' w4 (.cells #[.int .u8 tc.kind, .string tc.text, .slice A4 tc.names.length c4, .slice A4' tc.kids.length c4'] 25)
      have B4 := Lib.hid (Blk.new w4 25 #[.int .u8 tc.kind, .string tc.text, .slice A4 tc.names.length c4, .slice A4' tc.kids.length c4'])
      have XE := Lib.hid (x4.trans' e4)
      have R4 := Lib.hid (R4.out.ext e4)
      have hz4 := x4.size
      obtain ⟨hcx, hfx⟩ := (x4.trans' e4).rules
      have c0 := (hcx bo (of + j * 5) hbl).trans HC.out
      have c1 := (hcx bo (of + j * 5 + 1) hbl).trans HC'.out.1
      have c2' := (hcx bo (of + j * 5 + 2) hbl).trans HC'.out.2.1
      have c3 := (hcx bo (of + j * 5 + 3) hbl).trans HC'.out.2.2.1
      have c4x := (hcx bo (of + j * 5 + 4) hbl).trans HC'.out.2.2.2
      have hbl4 : bo < w4.heap.size := by omega
      clear x4 r4 e4 hcx hfx hroot
      go_wp2_with fail
      refine (do_any HBJ.out (TR.out.ext XE.out) HDC.out (HO.out.ext XE.out) (fun x hx => by omega)).mono ?_
      rintro e w5 ⟨rfl, t5, tr5⟩
      have X5 := Lib.hid ((X.out.trans' XE.out).turnsG t5 hgw)
      have TR5 := Lib.hid tr5
      have R4 := Lib.hid (R4.out.turn' t5)
      have B4 := Lib.hid (B4.out.turn' t5 (by omega))
      clear t5 tr5 c0 c1 c2' c3 c4x
      go_wp2_with fail
      obtain ⟨dr5, hroot5⟩ := TR5.out.root HBJ.out
      refine hroot5.mono ?_
      rintro e w6 ⟨A6, c6, A6', c6', rfl, x6, r6⟩
      have hgl5 := TR5.out.lt
      have R6 := Lib.hid (r6.far' (gt := g) (fun b h => by have := h.1; omega))
      have e6 := Ext.alloc' w6 (.cells #[.int .u8 (pDo o tc).2.kind, .string (pDo o tc).2.text, .slice A6 (pDo o tc).2.names.length c6, .slice A6' (pDo o tc).2.kids.length c6'] 25)
      have B6 := Lib.hid (Blk.new w6 25 #[.int .u8 (pDo o tc).2.kind, .string (pDo o tc).2.text, .slice A6 (pDo o tc).2.names.length c6, .slice A6' (pDo o tc).2.kids.length c6'])
      have R6 := Lib.hid (R6.out.ext e6)
      have XE6 := Lib.hid (x6.trans' e6)
      have R4 := Lib.hid (R4.out.ext XE6.out)
      have B4 := Lib.hid (B4.out.ext XE6.out)
      have X6 := Lib.hid (X5.out.trans' XE6.out)
      have TR6 := Lib.hid (TR5.out.ext XE6.out)
      clear x6 r6 e6 hroot5
      have HWL := Lib.hid HK.out.2.wf
      obtain ⟨a0, a1, a2, a3, _, _, _, _⟩ := B4.out.cells4
      obtain ⟨b0, b1, b2, b3, _, _, _, _⟩ := B6.out.cells4
      have al := B4.out.lt
      by_cases hcd : (pDo o tc).1 = 0
      · have hcd1 : ((pDo o tc).1 != 0) = false := by simpa using hcd
        clear hcd
        go_wp2_with fail
        refine (well_any _ HBJ.out _ _ _ _ _ R6.out).mono ?_
        rw [HWL.out]
        rintro e w7 ⟨rfl, x7⟩
        have X7 := Lib.hid (X6.out.trans' x7)
        have TR7 := Lib.hid (TR6.out.ext x7)
        clear x7 a0 a1 a2 a3 b0 b1 b2 b3 al
        go_wp2_with fail
        go_roundw
        case rel => exact ⟨j + 1, _, by omega, by go_num, X7.out, (TR7.out.wide (by omega)), HK.out.2⟩
        case measure => simp [intOf]; omega
      · have hcd1 : ((pDo o tc).1 != 0) = true := by simpa using hcd
        have hsame : tc.same (pDo o tc).2 = true := by rw [HK.out.1 hcd]; exact N.same_refl _
        have HSM := Lib.hid hsame
        clear hcd hsame
        go_wp2_with fail
        refine (same7_any _ _ _ _ _ _ _ _ _ _ _ R4.out R6.out).mono ?_
        rw [HSM.out]
        rintro e w7 ⟨rfl, x7⟩
        have X7 := Lib.hid (X6.out.trans' x7)
        have TR7 := Lib.hid (TR6.out.ext x7)
        have R7 := Lib.hid (R6.out.ext x7)
        have B7 := Lib.hid (B6.out.ext x7)
        clear x7 a0 a1 a2 a3 b0 b1 b2 b3 al
        obtain ⟨b0, b1, b2, b3, _, _, _, _⟩ := B7.out.cells4
        have bl7 := B7.out.lt
        go_wp2_with fail
        refine (well_any _ HBJ.out _ _ _ _ _ R7.out).mono ?_
        rw [HWL.out]
        rintro e w8 ⟨rfl, x8⟩
        have X8 := Lib.hid (X7.out.trans' x8)
        have TR8 := Lib.hid (TR7.out.ext x8)
        clear x8 b0 b1 b2 b3 bl7
        go_wp2_with fail
        go_roundw
        case rel => exact ⟨j + 1, _, by omega, by go_num, X8.out, (TR8.out.wide (by omega)), HK.out.2⟩
        case measure => simp [intOf]; omega
    · go_wp2_with fail
      go_ret
      exact ⟨rfl, X.out⟩
end Go.Proofs.Ytocndkhgopjhhaa
