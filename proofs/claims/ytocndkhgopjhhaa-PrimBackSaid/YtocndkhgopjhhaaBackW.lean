/- touchstonelaw10.PrimBack answers true. -/
import Derived.Test.YtocndkhgopjhhaaProg
import Derived.Test.YtocndkhgopjhhaaRefW
import Derived.Deep.DeepCutAuto
import Derived.Deep.CutBlock
import Derived.Outline
namespace Go.Proofs.Ytocndkhgopjhhaa
open Go.RowKit

theorem pops1 {B : Nat} {S : Nat → Prop} {w : World} {s : POp} {a b c d e : Value} (h : POpV B S w s [a, b, c, d, e]) : POps B Any (w.alloc (.cells #[a, b, c, d, e] 89)) (.slice (some ⟨w.heap.size, 0, none⟩) 1 1) [s] := by
  refine ⟨_, 1, rfl, Nat.le_refl _, by simp [maxLen], fun _ => ⟨w.heap.size, 0, rfl, trivial, by simp, fun i x hi => ?_⟩⟩
  have h0 : i = 0 := by have := (List.getElem?_eq_some_iff.1 hi).1; simp at this; omega
  subst h0
  simp at hi
  subst hi
  have hx := Ext.alloc' w (.cells #[a, b, c, d, e] 89)
  obtain ⟨av, bv, e1, k1, h1, h2⟩ := h
  refine ⟨_, ⟨av, bv, e1, k1, h1.wide (Nat.le_refl _) hx (fun _ _ _ => trivial), h2.wide (Nat.le_refl _) hx (fun _ _ _ => trivial)⟩, fun k hk => ?_⟩
  have := (Blk.new w 89 #[a, b, c, d, e]).cell k
  simp [this]

/-- The trees in between. -/
theorem back_1 {t : N} {p : List ByteArray} (h : DirW t) (hc : (pMake (nDir [] []) t p).1 ≠ 0) : (pMake (nDir [] []) t p).2 = t := (pMake_keeps h).1 hc
theorem back_2 {t : N} {p : List ByteArray} {s : ByteArray} (h : DirW t) (hc : (pMake (nFile s) t p).1 ≠ 0) : (pMake (nFile s) t p).2 = t := (pMake_keeps h).1 hc
theorem back_3 {t : N} {a b : List ByteArray} (h : DirW t) (hc : (pRename t a b).1 ≠ 0) : (pRename t a b).2 = t := (pRename_keeps h).1 hc

set_option maxRecDepth 100000 in
set_option maxHeartbeats 8000000 in
theorem back_any {d : Nat} {w : World} {v v1 v2 : Value} {t : N} {a b : List ByteArray} (hn : Rep B41 (fun b => b < w.heap.size) w d t v) (hnw : t.wide K41) (h1 : Strs (4 * B41) (fun b => b < w.heap.size) w v1 a) (h2 : Strs (4 * B41) (fun b => b < w.heap.size) w v2 b) :
    Calls Try.prog 9 #[v, v1, v2] w fun e w' => e = .returned (.bool true) ∧ Ext w w' := by
  have H1 := Lib.hid h1
  have H2 := Lib.hid h2
  have HN := Lib.hid hn
  have HNW := Lib.hid hnw
  obtain ⟨At, ct, At', ct', rfl⟩ := hn.agg
  obtain ⟨A1, c1, rfl, _⟩ := h1
  obtain ⟨A2, c2, rfl, _⟩ := h2
  have hx0 := Ext.alloc' w (.cells #[.int .u8 t.kind, .string t.text, .slice At t.names.length ct, .slice At' t.kids.length ct'] 25)
  have HB := Lib.hid (Blk.new w 25 #[.int .u8 t.kind, .string t.text, .slice At t.names.length ct, .slice At' t.kids.length ct'])
  have HX := Lib.hid hx0
  have HZ := Lib.hid (show bN.size ≤ maxLen by decide)
  clear hn hx0 hnw
  go_enter Try.func9, Try.ntmps9
  go_wp2_with fail
  have hops := pops1 (s := ⟨0, a, b, bN, false⟩) (show POpV (4 * B41) (fun b => b < w.heap.size) (w.alloc (.cells #[.int .u8 t.kind, .string t.text, .slice At t.names.length ct, .slice At' t.kids.length ct'] 25)) ⟨0, a, b, bN, false⟩ [.int .u8 0, .slice A1 a.length c1, .slice A2 b.length c2, .string bN, .bool false] from ⟨_, _, rfl, HZ.out, H1.out.ext HX.out, H2.out.ext HX.out⟩)
  have e1 := Ext.alloc' (w.alloc (.cells #[.int .u8 t.kind, .string t.text, .slice At t.names.length ct, .slice At' t.kids.length ct'] 25)) (.cells #[.int .u8 0, .slice A1 a.length c1, .slice A2 b.length c2, .string bN, .bool false] 89)
  have X1 := Lib.hid (HX.out.trans' e1)
  rw [World.size_alloc] at hops
  refine (long10_any (by decide) (HN.out.ext X1.out) hops).mono ?_
  rintro e w1 ⟨bl, rfl, x1, hb⟩
  have X := Lib.hid (X1.out.trans' x1)
  have HB := Lib.hid ((HB.out.ext e1).ext x1)
  have HBB := Lib.hid hb
  clear x1 hb hops e1
  cases bl
  case true =>
    go_wp2_with fail
    refine (awake10_any _).mono ?_
    rintro e w2 ⟨rfl, x2⟩
    have X := Lib.hid (X.out.trans' x2)
    clear x2
    go_wp2_with fail
    go_ret
    exact ⟨rfl, X.out⟩
  obtain ⟨hmy, hl40⟩ := HBB.out rfl
  have HM := Lib.hid hmy
  have HD := Lib.hid (may_dir hmy)
  clear hmy hl40
  go_wp2_with fail
  refine (awake10_any _).mono ?_
  rintro e w2 ⟨rfl, x2⟩
  have X := Lib.hid (X.out.trans' x2)
  have HB := Lib.hid (HB.out.ext x2)
  obtain ⟨p0, p1, p2, p3, _, _, _, _⟩ := HB.out.cells4
  have pl := HB.out.lt
  clear x2
  go_wp2_with fail
  refine (tnew_any (by decide) ((HN.out.narrow (K := K41) (by decide) HD.out.wf HNW.out).ext X.out) HM.out).mono ?_
  rintro e w3 ⟨g, rfl, hg, x3, tr⟩
  have hgw : w.heap.size < g := by omega
  have hgw' : w.heap.size ≤ g := by omega
  have X := Lib.hid (X.out.trans' x3)
  have HB := Lib.hid (HB.out.ext x3)
  have TR := Lib.hid (TIs.of tr (Nat.le_refl K41))
  have HN' := Lib.hid (HN.out.far' (gt := g) (fun b h => by omega))
  clear x3 tr p0 p1 p2 p3 pl hg
  have hK1 : K41 + 2 ≤ 2199023255552 := by decide
  have hK2 : K41 + 2 + 2 ≤ 2199023255552 := by decide
  have hK3 : K41 + 2 + 2 + 2 ≤ 2199023255552 := by decide
  have hK4 : K41 + 2 + 2 + 2 + 2 ≤ 2199023255552 := by decide
  have hK5 : K41 + 2 + 2 + 2 + 2 + 2 ≤ 2199023255552 := by decide
  have hK6 : K41 + 2 + 2 + 2 + 2 + 2 + 2 ≤ 2199023255552 := by decide
  go_upto_region 6 with fail
  go_cut [50] (fun s wx => s = .bool false ∧ Ext w wx ∧ TIs (K41 + 2 + 2) wx g t ∧ Blk wx w.heap.size 25 #[.int .u8 t.kind, .string t.text, .slice At t.names.length ct, .slice At' t.kids.length ct'])
  case first =>
    go_wp2_with fail
    refine (makeDir_any hK1 TR.out HD.out (H1.out.ext X.out)).mono ?_
    rintro e w4 ⟨rfl, t4, tr4⟩
    have X := Lib.hid (X.out.turnsG t4 hgw')
    have TR := Lib.hid tr4
    have HB := Lib.hid (HB.out.turn' t4 (by omega))
    clear t4 tr4
    by_cases hc : (pMake (nDir [] []) t a).1 = 0
    · have hc1 : ((pMake (nDir [] []) t a).1 == 0) = true := by simpa using hc
      obtain ⟨k1, k2, k3⟩ := back_dir HD.out hc
      have K1 := Lib.hid k1
      have K2 := Lib.hid k2
      have K3 := Lib.hid k3
      have HD4 := Lib.hid (pMake_keeps (x := nDir [] []) (p := a) HD.out).2
      clear hc k1 k2 k3
      go_wp2_with fail
      refine (TR.out.kind hK1 HD4.out (H1.out.ext X.out)).mono ?_
      rw [K1.out]
      rintro e w5 ⟨rfl, x5⟩
      have X := Lib.hid (X.out.trans' x5)
      have TR := Lib.hid (TR.out.ext x5)
      have HB := Lib.hid (HB.out.ext x5)
      clear x5
      go_wp2_with fail
      refine (TR.out.empty hK1 HD4.out (H1.out.ext X.out)).mono ?_
      rw [K2.out]
      rintro e w6 ⟨rfl, x6⟩
      have X := Lib.hid (X.out.trans' x6)
      have TR := Lib.hid (TR.out.ext x6)
      have HB := Lib.hid (HB.out.ext x6)
      clear x6
      go_wp2_with fail
      refine (removeDir_any hK2 TR.out HD4.out (H1.out.ext X.out)).mono ?_
      rw [K3.out]
      rintro e w7 ⟨rfl, t7, tr7⟩
      have X := Lib.hid (X.out.turnsG t7 hgw')
      have TR : Hid (TIs (K41 + 2 + 2) w7 g t) := Lib.hid tr7
      have HB := Lib.hid (HB.out.turn' t7 (by omega))
      clear t7 tr7
      go_wp2_with fail
      go_meet
      exact ⟨rfl, X.out, TR.out, HB.out⟩
    · have hc1 : ((pMake (nDir [] []) t a).1 == 0) = false := by simpa using hc
      have HE := Lib.hid (back_1 HD.out hc)
      clear hc
      go_wp2_with fail
      go_meet
      exact ⟨rfl, X.out, (HE.out ▸ TR.out).wide (by omega), HB.out⟩
  case rest =>
    obtain ⟨rfl, x, tr, hb⟩ := hcut
    have X := Lib.hid x
    have TR := Lib.hid tr
    have HB := Lib.hid hb
    clear x tr hb
    go_upto_region 8 with fail
    go_cut [68] (fun s wx => s = .bool false ∧ Ext w wx ∧ TIs (K41 + 2 + 2 + 2 + 2) wx g t ∧ Blk wx w.heap.size 25 #[.int .u8 t.kind, .string t.text, .slice At t.names.length ct, .slice At' t.kids.length ct'])
    case first =>
      go_wp2_with fail
      refine (makeFile_any hK3 (s := bF) (by decide) TR.out HD.out (H1.out.ext X.out)).mono ?_
      rintro e w4 ⟨rfl, t4, tr4⟩
      have X := Lib.hid (X.out.turnsG t4 hgw')
      have TR := Lib.hid tr4
      have HB := Lib.hid (HB.out.turn' t4 (by omega))
      clear t4 tr4
      by_cases hc : (pMake (nFile bF) t a).1 = 0
      · have hc1 : ((pMake (nFile bF) t a).1 == 0) = true := by simpa using hc
        obtain ⟨k1, k3⟩ := back_file HD.out hc
        have K1 := Lib.hid k1
        have K3 := Lib.hid k3
        have HD4 := Lib.hid (pMake_keeps (x := nFile bF) (p := a) HD.out).2
        clear hc k1 k3
        go_wp2_with fail
        refine (TR.out.text hK3 HD4.out (H1.out.ext X.out)).mono ?_
        rw [K1.out]
        rintro e w5 ⟨rfl, x5⟩
        have X := Lib.hid (X.out.trans' x5)
        have TR := Lib.hid (TR.out.ext x5)
        have HB := Lib.hid (HB.out.ext x5)
        clear x5
        go_wp2_with fail
        refine (unlink_any hK4 TR.out HD4.out (H1.out.ext X.out)).mono ?_
        rw [K3.out]
        rintro e w7 ⟨rfl, t7, tr7⟩
        have X := Lib.hid (X.out.turnsG t7 hgw')
        have TR : Hid (TIs (K41 + 2 + 2 + 2 + 2) w7 g t) := Lib.hid tr7
        have HB := Lib.hid (HB.out.turn' t7 (by omega))
        clear t7 tr7
        go_wp2_with fail
        go_meet
        exact ⟨rfl, X.out, TR.out, HB.out⟩
      · have hc1 : ((pMake (nFile bF) t a).1 == 0) = false := by simpa using hc
        have HE := Lib.hid (back_2 HD.out hc)
        clear hc
        go_wp2_with fail
        go_meet
        exact ⟨rfl, X.out, (HE.out ▸ TR.out).wide (by omega), HB.out⟩
    case rest =>
      obtain ⟨rfl, x, tr, hb⟩ := hcut
      have X := Lib.hid x
      have TR := Lib.hid tr
      have HB := Lib.hid hb
      clear x tr hb
      go_upto_region 10 with fail
      go_cut [73] (fun s wx => s = .bool false ∧ Ext w wx ∧ TIs (K41 + 2 + 2 + 2 + 2) wx g t ∧ Blk wx w.heap.size 25 #[.int .u8 t.kind, .string t.text, .slice At t.names.length ct, .slice At' t.kids.length ct'])
      case first =>
        obtain ⟨dr, hroot⟩ := TIs.root hK4 (TR.out.ext (Below.drew (Below.refl _ wc)))
        have HRT := Lib.hid hroot
        obtain ⟨p0, p1, p2, p3, _, _, _, _⟩ := HB.out.cells4
        have pl := HB.out.lt
        clear hroot
        go_region_with (first
          | (go_at_call 43; refine HRT.out.mono ?_; rintro e w5 ⟨A5, c5, A5', c5', rfl, x5, r5⟩; have hx5 := Ext.trans' (Below.drew (Below.refl _ wc)) x5; have X5 := Lib.hid (X.out.trans' hx5); have TR5 := Lib.hid (TR.out.ext hx5); have HB5 := Lib.hid (HB.out.ext hx5); have R5 := Lib.hid r5; obtain ⟨q0, q1, q2, q3, _, _, _, _⟩ := HB5.out.cells4; have ql := HB5.out.lt; clear x5 r5 hx5)
          | (go_at_call 20; refine (same7_any _ _ _ _ _ _ _ _ _ _ _ R5.out (HN.out.ext X5.out)).mono ?_; rw [N.same_refl]; rintro e w6 ⟨rfl, x6⟩; have X6 := Lib.hid (X5.out.trans' x6); have TR6 := Lib.hid (TR5.out.ext x6); have HB6 := Lib.hid (HB5.out.ext x6); clear x6))
        all_goals
          go_wp2_with fail
          go_meet
          exact ⟨rfl, X6.out, TR6.out, HB6.out⟩
      case rest =>
        obtain ⟨rfl, x, tr, hb⟩ := hcut
        have X := Lib.hid x
        have TR := Lib.hid tr
        have HB := Lib.hid hb
        clear x tr hb
        go_upto_region 12 with fail
        go_cut [99] (fun s wx => s = .bool false ∧ Ext w wx ∧ TIs (K41 + 2 + 2 + 2 + 2 + 2 + 2) wx g t ∧ Blk wx w.heap.size 25 #[.int .u8 t.kind, .string t.text, .slice At t.names.length ct, .slice At' t.kids.length ct'])
        case first =>
          go_wp2_with fail
          refine (TR.out.kind hK4 HD.out (H2.out.ext X.out)).mono ?_
          rintro e w4 ⟨rfl, x4⟩
          have X := Lib.hid (X.out.trans' x4)
          have TR := Lib.hid (TR.out.ext x4)
          have HB := Lib.hid (HB.out.ext x4)
          clear x4
          by_cases hk0 : t.kindAt b = 0
          · have hk1 : (t.kindAt b == 0) = true := by simpa using hk0
            have HK0 := Lib.hid hk0
            clear hk0
            go_wp2_with fail
            refine (rename_any hK5 TR.out HD.out (H1.out.ext X.out) (H2.out.ext X.out) (fun b hb => by omega)).mono ?_
            rintro e w5 ⟨rfl, t5, tr5⟩
            have X := Lib.hid (X.out.turnsG t5 hgw')
            have TR := Lib.hid tr5
            have HB := Lib.hid (HB.out.turn' t5 (by omega))
            clear t5 tr5
            by_cases hc : (pRename t a b).1 = 0
            · have hc1 : ((pRename t a b).1 == 0) = true := by simpa using hc
              obtain ⟨k1, k3⟩ := back_move HD.out HK0.out hc
              have K1 := Lib.hid k1
              have K3 := Lib.hid k3
              have HD4 := Lib.hid (pRename_keeps (a := a) (b := b) HD.out).2
              clear hc k1 k3
              go_wp2_with fail
              refine (TR.out.kind hK5 HD4.out (H1.out.ext X.out)).mono ?_
              rw [K1.out]
              rintro e w6 ⟨rfl, x6⟩
              have X := Lib.hid (X.out.trans' x6)
              have TR := Lib.hid (TR.out.ext x6)
              have HB := Lib.hid (HB.out.ext x6)
              clear x6
              go_wp2_with fail
              refine (rename_any hK6 TR.out HD4.out (H2.out.ext X.out) (H1.out.ext X.out) (fun b hb => by omega)).mono ?_
              rw [K3.out]
              rintro e w7 ⟨rfl, t7, tr7⟩
              have X := Lib.hid (X.out.turnsG t7 hgw')
              have TR : Hid (TIs (K41 + 2 + 2 + 2 + 2 + 2 + 2) w7 g t) := Lib.hid tr7
              have HB := Lib.hid (HB.out.turn' t7 (by omega))
              clear t7 tr7
              go_wp2_with fail
              go_meet
              exact ⟨rfl, X.out, TR.out, HB.out⟩
            · have hc1 : ((pRename t a b).1 == 0) = false := by simpa using hc
              have HE := Lib.hid (back_3 HD.out hc)
              clear hc
              go_wp2_with fail
              go_meet
              exact ⟨rfl, X.out, (HE.out ▸ TR.out).wide (by omega), HB.out⟩
          · have hk1 : (t.kindAt b == 0) = false := by simpa using hk0
            clear hk0
            go_wp2_with fail
            go_meet
            exact ⟨rfl, X.out, TR.out.wide (by omega), HB.out⟩
        case rest =>
          obtain ⟨rfl, x, tr, hb⟩ := hcut
          have X := Lib.hid x
          have TR := Lib.hid tr
          have HB := Lib.hid hb
          clear x tr hb
          go_upto_region 14 with fail
          obtain ⟨dr, hroot⟩ := TIs.root hK6 (TR.out.ext (Below.drew (Below.refl _ wc)))
          have HRT := Lib.hid hroot
          obtain ⟨p0, p1, p2, p3, _, _, _, _⟩ := HB.out.cells4
          have pl := HB.out.lt
          clear hroot
          go_region_with (first
            | (go_at_call 43; refine HRT.out.mono ?_; rintro e w5 ⟨A5, c5, A5', c5', rfl, x5, r5⟩; have hx5 := Ext.trans' (Below.drew (Below.refl _ wc)) x5; have X5 := Lib.hid (X.out.trans' hx5); have TR5 := Lib.hid (TR.out.ext hx5); have HB5 := Lib.hid (HB.out.ext hx5); have R5 := Lib.hid r5; obtain ⟨q0, q1, q2, q3, _, _, _, _⟩ := HB5.out.cells4; have ql := HB5.out.lt; clear x5 r5 hx5)
            | (go_at_call 20; refine (same7_any _ _ _ _ _ _ _ _ _ _ _ R5.out (HN.out.ext X5.out)).mono ?_; rw [N.same_refl]; rintro e w6 ⟨rfl, x6⟩; have X6 := Lib.hid (X5.out.trans' x6); have TR6 := Lib.hid (TR5.out.ext x6); have HB6 := Lib.hid (HB5.out.ext x6); clear x6))
          all_goals
            go_wp2_with fail
            go_ret
            exact ⟨rfl, X6.out⟩
end Go.Proofs.Ytocndkhgopjhhaa
