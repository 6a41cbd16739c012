/- touchstonelaw10.PrimNames answers true. -/
import Derived.Test.YtocndkhgopjhhaaProg
import Derived.Test.YtocndkhgopjhhaaPNil
import Derived.Outline
namespace Go.Proofs.Ytocndkhgopjhhaa
open Go.RowKit

abbrev bZ : ByteArray := { data := #[122] }
abbrev bK : ByteArray := { data := #[107] }
abbrev bL : ByteArray := { data := #[108] }
abbrev bDD : ByteArray := { data := #[46, 46] }
abbrev b0 : ByteArray := { data := #[0] }
abbrev bText : ByteArray := { data := #[116, 101, 120, 116] }
theorem p_any (A : Option Addr) (n c : Nat) (w : World) : Calls Try.prog 66 #[.slice A n c] w fun e w' => e = .returned (.slice A n c) ∧ w' = w := by
  go_enter Try.func66, Try.ntmps66
  go_wp2_with fail
  go_ret
  exact ⟨rfl, rfl⟩
theorem strs2n (w : World) (a b : ByteArray) (ha : a.size ≤ maxLen) (hb : b.size ≤ maxLen) : Strs 16 (fun b => w.heap.size ≤ b) (w.alloc (.cells #[.string a, .string b] 9)) (.slice (some ⟨w.heap.size, 0, none⟩) 2 2) [a, b] := Strs.new w [a, b] (by simp; exact ⟨ha, hb⟩) (by simp) (by simp [maxLen])

theorem pn_d0 : DirW exT := DirW.of exT_well rfl
theorem pn_0 : pMake (nDir [] []) exT [bA] = (6, exT) := by
  have h : (pMake (nDir [] []) exT [bA]).1 = 6 := by decide +kernel
  exact Prod.ext h ((pMake_keeps pn_d0).1 (by rw [h]; decide))
theorem pn_1 : pRemove wDir exT [bD] = (57, exT) := by
  have h : (pRemove wDir exT [bD]).1 = 57 := by decide +kernel
  exact Prod.ext h ((pRemove_keeps pn_d0).1 (by rw [h]; decide))
theorem pn_2 : pRename exT [bD] [bD, bX] = (58, exT) := by
  have h : (pRename exT [bD] [bD, bX]).1 = 58 := by decide +kernel
  exact Prod.ext h ((pRename_keeps pn_d0).1 (by rw [h]; decide))
theorem pn_3 : pRename exT [bA] [bD] = (55, exT) := by
  have h : (pRename exT [bA] [bD]).1 = 55 := by decide +kernel
  exact Prod.ext h ((pRename_keeps pn_d0).1 (by rw [h]; decide))
theorem pn_4 : pCopy false exT [bD] [bQ] = (55, exT) := by
  have h : (pCopy false exT [bD] [bQ]).1 = 55 := by decide +kernel
  exact Prod.ext h ((pCopy_keeps pn_d0).1 (by rw [h]; decide))
theorem pn_5 : pMake (nDir [] []) exT [bQ, bR] = (5, exT) := by
  have h : (pMake (nDir [] []) exT [bQ, bR]).1 = 5 := by decide +kernel
  exact Prod.ext h ((pMake_keeps pn_d0).1 (by rw [h]; decide))
theorem pn_6 : pRemove wAll exT [] = (57, exT) := by
  have h : (pRemove wAll exT []).1 = 57 := by decide +kernel
  exact Prod.ext h ((pRemove_keeps pn_d0).1 (by rw [h]; decide))
theorem pn_7 : pRename exT [bA] [bA] = (6, exT) := by
  have h : (pRename exT [bA] [bA]).1 = 6 := by decide +kernel
  exact Prod.ext h ((pRename_keeps pn_d0).1 (by rw [h]; decide))
theorem pn_8 : pMake (.mk 3 bN [] []) exT [bZ] = (4, exT) := by
  have h : (pMake (.mk 3 bN [] []) exT [bZ]).1 = 4 := by decide +kernel
  exact Prod.ext h ((pMake_keeps pn_d0).1 (by rw [h]; decide))
theorem pn_9 : pMake (nFile b0) exT [bZ] = (4, exT) := by
  have h : (pMake (nFile b0) exT [bZ]).1 = 4 := by decide +kernel
  exact Prod.ext h ((pMake_keeps pn_d0).1 (by rw [h]; decide))
theorem pn_10 : pTouch exT [bD] = (0, exT) := by
  unfold pTouch
  rw [if_neg (by decide +kernel), if_neg (by decide +kernel), if_neg (by decide +kernel)]
theorem pn_11 : pRename exT [] [bZ] = (57, exT) := by
  have h : (pRename exT [] [bZ]).1 = 57 := by decide +kernel
  exact Prod.ext h ((pRename_keeps pn_d0).1 (by rw [h]; decide))
def pn12 : N := (pCopy true exT [bD] [bZ]).2
theorem pn_12 : pCopy true exT [bD] [bZ] = (0, pn12) := by
  have h : (pCopy true exT [bD] [bZ]).1 = 0 := by decide +kernel
  exact Prod.ext h rfl
theorem pn_d13 : DirW pn12 := (show DirW (pCopy true exT [bD] [bZ]).2 from (pCopy_keeps pn_d0).2)
theorem pn_13 : pCopy true pn12 [bD] [bZ] = (6, pn12) := by
  have h : (pCopy true pn12 [bD] [bZ]).1 = 6 := by decide +kernel
  exact Prod.ext h ((pCopy_keeps pn_d13).1 (by rw [h]; decide))
theorem pn_14 : pCopy false pn12 [bA] [bZ] = (55, pn12) := by
  have h : (pCopy false pn12 [bA] [bZ]).1 = 55 := by decide +kernel
  exact Prod.ext h ((pCopy_keeps pn_d13).1 (by rw [h]; decide))
theorem pn_15 : pRemove wLink pn12 [bD] = (55, pn12) := by
  have h : (pRemove wLink pn12 [bD]).1 = 55 := by decide +kernel
  exact Prod.ext h ((pRemove_keeps pn_d13).1 (by rw [h]; decide))
theorem pn_16 : pMake (nDir [] []) pn12 [] = (6, pn12) := by
  have h : (pMake (nDir [] []) pn12 []).1 = 6 := by decide +kernel
  exact Prod.ext h ((pMake_keeps pn_d13).1 (by rw [h]; decide))
theorem pn_17 : pRemove wDir pn12 [] = (57, pn12) := by
  have h : (pRemove wDir pn12 []).1 = 57 := by decide +kernel
  exact Prod.ext h ((pRemove_keeps pn_d13).1 (by rw [h]; decide))
def pn18 : N := (pRename pn12 [bZ, bE] [bA]).2
theorem pn_18 : pRename pn12 [bZ, bE] [bA] = (0, pn18) := by
  have h : (pRename pn12 [bZ, bE] [bA]).1 = 0 := by decide +kernel
  exact Prod.ext h rfl
theorem pn_d19 : DirW pn18 := (show DirW (pRename pn12 [bZ, bE] [bA]).2 from (pRename_keeps pn_d13).2)
theorem pn_19 : pMake (nDir [] []) pn18 [bDD] = (5, pn18) := by
  have h : (pMake (nDir [] []) pn18 [bDD]).1 = 5 := by decide +kernel
  exact Prod.ext h ((pMake_keeps pn_d19).1 (by rw [h]; decide))
def pn20 : N := (pMake (nFile bText) pn18 [bK]).2
theorem pn_20 : pMake (nFile bText) pn18 [bK] = (0, pn20) := by
  have h : (pMake (nFile bText) pn18 [bK]).1 = 0 := by decide +kernel
  exact Prod.ext h rfl
theorem pn_d21 : DirW pn20 := (show DirW (pMake (nFile bText) pn18 [bK]).2 from (pMake_keeps pn_d19).2)
theorem pn_21 : pTouch pn20 [bK] = (0, pn20) := by
  unfold pTouch
  rw [if_neg (by decide +kernel), if_neg (by decide +kernel), if_neg (by decide +kernel)]
def pn22 : N := (pMake (.mk 3 bK [] []) pn20 [bL]).2
theorem pn_22 : pMake (.mk 3 bK [] []) pn20 [bL] = (0, pn22) := by
  have h : (pMake (.mk 3 bK [] []) pn20 [bL]).1 = 0 := by decide +kernel
  exact Prod.ext h rfl
theorem pn_d23 : DirW pn22 := (show DirW (pMake (.mk 3 bK [] []) pn20 [bL]).2 from (pMake_keeps pn_d21).2)
theorem pn_23 : pCopy false pn22 [bK] [bL] = (55, pn22) := by
  have h : (pCopy false pn22 [bK] [bL]).1 = 55 := by decide +kernel
  exact Prod.ext h ((pCopy_keeps pn_d23).1 (by rw [h]; decide))
theorem pn_24 : pn22.kindAt [bL] = 3 := by decide +kernel
theorem pn_25 : ((pn22.get [bK]).getD N.zero).text = bText := by decide +kernel
theorem pn_26 : pn22.kindAt [bZ] = 2 := by decide +kernel
theorem pn_27 : emptyB ((pn22.get [bZ]).getD N.zero) = true := by decide +kernel

set_option maxRecDepth 100000 in
set_option maxHeartbeats 16000000 in
theorem pNames_any (w : World) : Calls Try.prog 10 #[] w fun e w' => e = .returned (.bool true) ∧ Ext w w' := by
  go_enter Try.func10, Try.ntmps10
  go_wp2_with fail
  go_loopw [2] (fun i wr => ∃ k : Nat, k ≤ 9 ∧ i = .int .i64 k ∧ Ext w wr) (fun i _ => 9 - (intOf i).toNat)
  case atStart => exact ⟨0, by omega, rfl, Below.refl _ _⟩
  case round =>
    obtain ⟨k, hk, rfl, hx⟩ := hrel
    have HX := Lib.hid hx
    clear hx
    by_cases hlt : k < 9
    · have hk9 : (k : Int) < 9 := by omega
      go_wp2_with (first
        | (go_at_call 66; refine (p_any _ _ _ _).mono ?_; rintro e wx ⟨rfl, rfl⟩)
        | (go_at_call 67; refine (do_nil _ _ _ _ _ _ _ _ _ _).mono ?_; rintro e w1 ⟨rfl, x1⟩; have X1 := Lib.hid (((HX.out.trans' (Ext.alloc' _ _)).trans' (Ext.alloc' _ _)).trans' x1); clear x1))
      go_roundw
      case rel => exact ⟨k + 1, by omega, by go_num, X1.out⟩
      case measure => simp [intOf]; omega
    · have hk9 : ¬ (k : Int) < 9 := by omega
      go_wp2_with fail
      refine (example_any _).mono ?_
      rintro e w0 ⟨g, rfl, hg, x0, tr⟩
      have hzz := HX.out.size
      have HG := Lib.hid (show w.heap.size ≤ g by omega)
      have X := Lib.hid (HX.out.trans' x0)
      have TR := Lib.hid tr
      clear hg x0 tr hk hlt hk9 HX hzz
      go_wp2_with fail
      refine (p_any _ _ _ _).mono ?_
      rintro e wx ⟨rfl, rfl⟩
      go_wp2_with fail
      have e0 := Ext.alloc' w0 (.cells #[.string bA] 9)
      refine (makeDir_any (by decide) (TR.out.ext e0) pn_d0 (strs1 w0 bA (by decide))).mono ?_
      rw [pn_0]
      rintro e w1 ⟨rfl, tt, tr⟩
      have X := Lib.hid ((X.out.trans' e0).turnsG tt HG.out)
      have TR : Hid (TIs (4 + 2) w1 g exT) := Lib.hid tr
      clear e0 tt tr
      go_wp2_with fail
      refine (p_any _ _ _ _).mono ?_
      rintro e wx ⟨rfl, rfl⟩
      go_wp2_with fail
      have e1 := Ext.alloc' w1 (.cells #[.string bD] 9)
      refine (removeDir_any (by decide) (TR.out.ext e1) pn_d0 (strs1 w1 bD (by decide))).mono ?_
      rw [pn_1]
      rintro e w2 ⟨rfl, tt, tr⟩
      have X := Lib.hid ((X.out.trans' e1).turnsG tt HG.out)
      have TR : Hid (TIs (4 + 2 + 2) w2 g exT) := Lib.hid tr
      clear e1 tt tr
      go_wp2_with fail
      refine (p_any _ _ _ _).mono ?_
      rintro e wx ⟨rfl, rfl⟩
      go_wp2_with fail
      refine (p_any _ _ _ _).mono ?_
      rintro e wx ⟨rfl, rfl⟩
      go_wp2_with fail
      have e2 : Ext w2 ((w2.alloc (.cells #[.string bD] 9)).alloc (.cells #[.string bD, .string bX] 9)) := (Ext.alloc' _ _).trans' (Ext.alloc' _ _)
      refine (rename_any (by decide) (TR.out.ext e2) pn_d0 ((strs1n w2 bD (by decide)).ext (Ext.alloc' _ _)) (strs2' w2 _ bD bX (by decide) (by decide)) (fun b hb => by have := TR.out.lt; omega)).mono ?_
      rw [pn_2]
      rintro e w3 ⟨rfl, tt, tr⟩
      have X := Lib.hid ((X.out.trans' e2).turnsG tt HG.out)
      have TR : Hid (TIs (4 + 2 + 2 + 2) w3 g exT) := Lib.hid tr
      clear e2 tt tr
      go_wp2_with fail
      refine (p_any _ _ _ _).mono ?_
      rintro e wx ⟨rfl, rfl⟩
      go_wp2_with fail
      refine (p_any _ _ _ _).mono ?_
      rintro e wx ⟨rfl, rfl⟩
      go_wp2_with fail
      have e3 : Ext w3 ((w3.alloc (.cells #[.string bA] 9)).alloc (.cells #[.string bD] 9)) := (Ext.alloc' _ _).trans' (Ext.alloc' _ _)
      refine (rename_any (by decide) (TR.out.ext e3) pn_d0 ((strs1n w3 bA (by decide)).ext (Ext.alloc' _ _)) (strs1' w3 _ bD (by decide)) (fun b hb => by have := TR.out.lt; omega)).mono ?_
      rw [pn_3]
      rintro e w4 ⟨rfl, tt, tr⟩
      have X := Lib.hid ((X.out.trans' e3).turnsG tt HG.out)
      have TR : Hid (TIs (4 + 2 + 2 + 2 + 2) w4 g exT) := Lib.hid tr
      clear e3 tt tr
      go_wp2_with fail
      refine (p_any _ _ _ _).mono ?_
      rintro e wx ⟨rfl, rfl⟩
      go_wp2_with fail
      refine (p_any _ _ _ _).mono ?_
      rintro e wx ⟨rfl, rfl⟩
      go_wp2_with fail
      have e4 : Ext w4 ((w4.alloc (.cells #[.string bD] 9)).alloc (.cells #[.string bQ] 9)) := (Ext.alloc' _ _).trans' (Ext.alloc' _ _)
      refine (pcopy_any (by decide) (TR.out.ext e4) pn_d0 ((strs1n w4 bD (by decide)).ext (Ext.alloc' _ _)) (strs1' w4 _ bQ (by decide))).mono ?_
      rw [pn_4]
      rintro e w5 ⟨rfl, tt, tr⟩
      have X := Lib.hid ((X.out.trans' e4).turnsG tt HG.out)
      have TR : Hid (TIs (4 + 2 + 2 + 2 + 2 + 2) w5 g exT) := Lib.hid tr
      clear e4 tt tr
      go_wp2_with fail
      refine (p_any _ _ _ _).mono ?_
      rintro e wx ⟨rfl, rfl⟩
      go_wp2_with fail
      have e5 := Ext.alloc' w5 (.cells #[.string bQ, .string bR] 9)
      refine (makeDir_any (by decide) (TR.out.ext e5) pn_d0 (strs2 w5 bQ bR (by decide) (by decide))).mono ?_
      rw [pn_5]
      rintro e w6 ⟨rfl, tt, tr⟩
      have X := Lib.hid ((X.out.trans' e5).turnsG tt HG.out)
      have TR : Hid (TIs (4 + 2 + 2 + 2 + 2 + 2 + 2) w6 g exT) := Lib.hid tr
      clear e5 tt tr
      go_wp2_with fail
      have e6 : Ext w6 w6 := Below.refl _ _
      refine (removeAll_any (by decide) (TR.out.ext e6) pn_d0 (Strs.nil0 (B := 16) (S := fun _ => False))).mono ?_
      rw [pn_6]
      rintro e w7 ⟨rfl, tt, tr⟩
      have X := Lib.hid ((X.out.trans' e6).turnsG tt HG.out)
      have TR : Hid (TIs (4 + 2 + 2 + 2 + 2 + 2 + 2 + 2) w7 g exT) := Lib.hid tr
      clear e6 tt tr
      go_wp2_with fail
      refine (p_any _ _ _ _).mono ?_
      rintro e wx ⟨rfl, rfl⟩
      go_wp2_with fail
      refine (p_any _ _ _ _).mono ?_
      rintro e wx ⟨rfl, rfl⟩
      go_wp2_with fail
      have e7 : Ext w7 ((w7.alloc (.cells #[.string bA] 9)).alloc (.cells #[.string bA] 9)) := (Ext.alloc' _ _).trans' (Ext.alloc' _ _)
      refine (rename_any (by decide) (TR.out.ext e7) pn_d0 ((strs1n w7 bA (by decide)).ext (Ext.alloc' _ _)) (strs1' w7 _ bA (by decide)) (fun b hb => by have := TR.out.lt; omega)).mono ?_
      rw [pn_7]
      rintro e w8 ⟨rfl, tt, tr⟩
      have X := Lib.hid ((X.out.trans' e7).turnsG tt HG.out)
      have TR : Hid (TIs (4 + 2 + 2 + 2 + 2 + 2 + 2 + 2 + 2) w8 g exT) := Lib.hid tr
      clear e7 tt tr
      go_wp2_with fail
      refine (p_any _ _ _ _).mono ?_
      rintro e wx ⟨rfl, rfl⟩
      go_wp2_with fail
      have e8 := Ext.alloc' w8 (.cells #[.string bZ] 9)
      refine (makeLink_any (by decide) (s := bN) (by decide) (TR.out.ext e8) pn_d0 (strs1 w8 bZ (by decide))).mono ?_
      rw [pn_8]
      rintro e w9 ⟨rfl, tt, tr⟩
      have X := Lib.hid ((X.out.trans' e8).turnsG tt HG.out)
      have TR : Hid (TIs (4 + 2 + 2 + 2 + 2 + 2 + 2 + 2 + 2 + 2) w9 g exT) := Lib.hid tr
      clear e8 tt tr
      go_wp2_with fail
      refine (p_any _ _ _ _).mono ?_
      rintro e wx ⟨rfl, rfl⟩
      go_wp2_with fail
      have e9 := Ext.alloc' w9 (.cells #[.string bZ] 9)
      refine (makeFile_any (by decide) (s := b0) (by decide) (TR.out.ext e9) pn_d0 (strs1 w9 bZ (by decide))).mono ?_
      rw [pn_9]
      rintro e w10 ⟨rfl, tt, tr⟩
      have X := Lib.hid ((X.out.trans' e9).turnsG tt HG.out)
      have TR : Hid (TIs (4 + 2 + 2 + 2 + 2 + 2 + 2 + 2 + 2 + 2 + 2) w10 g exT) := Lib.hid tr
      clear e9 tt tr
      go_wp2_with fail
      refine (p_any _ _ _ _).mono ?_
      rintro e wx ⟨rfl, rfl⟩
      go_wp2_with fail
      have e10 := Ext.alloc' w10 (.cells #[.string bD] 9)
      refine (touch_any (by decide) (TR.out.ext e10) pn_d0 (strs1 w10 bD (by decide))).mono ?_
      rw [pn_10]
      rintro e w11 ⟨rfl, tt, tr⟩
      have X := Lib.hid ((X.out.trans' e10).turnsG tt HG.out)
      have TR : Hid (TIs (4 + 2 + 2 + 2 + 2 + 2 + 2 + 2 + 2 + 2 + 2 + 2) w11 g exT) := Lib.hid tr
      clear e10 tt tr
      go_wp2_with fail
      refine (p_any _ _ _ _).mono ?_
      rintro e wx ⟨rfl, rfl⟩
      go_wp2_with fail
      have e11 := Ext.alloc' w11 (.cells #[.string bZ] 9)
      refine (rename_any (by decide) (TR.out.ext e11) pn_d0 (Strs.nil0 (B := 16) (S := fun _ => False)) (strs1 w11 bZ (by decide)) (fun b hb => hb.elim)).mono ?_
      rw [pn_11]
      rintro e w12 ⟨rfl, tt, tr⟩
      have X := Lib.hid ((X.out.trans' e11).turnsG tt HG.out)
      have TR : Hid (TIs (4 + 2 + 2 + 2 + 2 + 2 + 2 + 2 + 2 + 2 + 2 + 2 + 2) w12 g exT) := Lib.hid tr
      clear e11 tt tr
      go_wp2_with fail
      refine (p_any _ _ _ _).mono ?_
      rintro e wx ⟨rfl, rfl⟩
      go_wp2_with fail
      refine (p_any _ _ _ _).mono ?_
      rintro e wx ⟨rfl, rfl⟩
      go_wp2_with fail
      have e12 : Ext w12 ((w12.alloc (.cells #[.string bD] 9)).alloc (.cells #[.string bZ] 9)) := (Ext.alloc' _ _).trans' (Ext.alloc' _ _)
      refine (pcopy_any (by decide) (TR.out.ext e12) pn_d0 ((strs1n w12 bD (by decide)).ext (Ext.alloc' _ _)) (strs1' w12 _ bZ (by decide))).mono ?_
      rw [pn_12]
      rintro e w13 ⟨rfl, tt, tr⟩
      have X := Lib.hid ((X.out.trans' e12).turnsG tt HG.out)
      have TR : Hid (TIs (4 + 2 + 2 + 2 + 2 + 2 + 2 + 2 + 2 + 2 + 2 + 2 + 2 + 2) w13 g pn12) := Lib.hid tr
      clear e12 tt tr
      go_wp2_with fail
      refine (p_any _ _ _ _).mono ?_
      rintro e wx ⟨rfl, rfl⟩
      go_wp2_with fail
      refine (p_any _ _ _ _).mono ?_
      rintro e wx ⟨rfl, rfl⟩
      go_wp2_with fail
      have e13 : Ext w13 ((w13.alloc (.cells #[.string bD] 9)).alloc (.cells #[.string bZ] 9)) := (Ext.alloc' _ _).trans' (Ext.alloc' _ _)
      refine (pcopy_any (by decide) (TR.out.ext e13) pn_d13 ((strs1n w13 bD (by decide)).ext (Ext.alloc' _ _)) (strs1' w13 _ bZ (by decide))).mono ?_
      rw [pn_13]
      rintro e w14 ⟨rfl, tt, tr⟩
      have X := Lib.hid ((X.out.trans' e13).turnsG tt HG.out)
      have TR : Hid (TIs (4 + 2 + 2 + 2 + 2 + 2 + 2 + 2 + 2 + 2 + 2 + 2 + 2 + 2 + 2) w14 g pn12) := Lib.hid tr
      clear e13 tt tr
      go_wp2_with fail
      refine (p_any _ _ _ _).mono ?_
      rintro e wx ⟨rfl, rfl⟩
      go_wp2_with fail
      refine (p_any _ _ _ _).mono ?_
      rintro e wx ⟨rfl, rfl⟩
      go_wp2_with fail
      have e14 : Ext w14 ((w14.alloc (.cells #[.string bA] 9)).alloc (.cells #[.string bZ] 9)) := (Ext.alloc' _ _).trans' (Ext.alloc' _ _)
      refine (pcopy_any (by decide) (TR.out.ext e14) pn_d13 ((strs1n w14 bA (by decide)).ext (Ext.alloc' _ _)) (strs1' w14 _ bZ (by decide))).mono ?_
      rw [pn_14]
      rintro e w15 ⟨rfl, tt, tr⟩
      have X := Lib.hid ((X.out.trans' e14).turnsG tt HG.out)
      have TR : Hid (TIs (4 + 2 + 2 + 2 + 2 + 2 + 2 + 2 + 2 + 2 + 2 + 2 + 2 + 2 + 2 + 2) w15 g pn12) := Lib.hid tr
      clear e14 tt tr
      go_wp2_with fail
      refine (p_any _ _ _ _).mono ?_
      rintro e wx ⟨rfl, rfl⟩
      go_wp2_with fail
      have e15 := Ext.alloc' w15 (.cells #[.string bD] 9)
      refine (unlink_any (by decide) (TR.out.ext e15) pn_d13 (strs1 w15 bD (by decide))).mono ?_
      rw [pn_15]
      rintro e w16 ⟨rfl, tt, tr⟩
      have X := Lib.hid ((X.out.trans' e15).turnsG tt HG.out)
      have TR : Hid (TIs (4 + 2 + 2 + 2 + 2 + 2 + 2 + 2 + 2 + 2 + 2 + 2 + 2 + 2 + 2 + 2 + 2) w16 g pn12) := Lib.hid tr
      clear e15 tt tr
      go_wp2_with fail
      have e16 : Ext w16 w16 := Below.refl _ _
      refine (makeDir_any (by decide) (TR.out.ext e16) pn_d13 (Strs.nil0 (B := 16) (S := fun _ => False))).mono ?_
      rw [pn_16]
      rintro e w17 ⟨rfl, tt, tr⟩
      have X := Lib.hid ((X.out.trans' e16).turnsG tt HG.out)
      have TR : Hid (TIs (4 + 2 + 2 + 2 + 2 + 2 + 2 + 2 + 2 + 2 + 2 + 2 + 2 + 2 + 2 + 2 + 2 + 2) w17 g pn12) := Lib.hid tr
      clear e16 tt tr
      go_wp2_with fail
      have e17 : Ext w17 w17 := Below.refl _ _
      refine (removeDir_any (by decide) (TR.out.ext e17) pn_d13 (Strs.nil0 (B := 16) (S := fun _ => False))).mono ?_
      rw [pn_17]
      rintro e w18 ⟨rfl, tt, tr⟩
      have X := Lib.hid ((X.out.trans' e17).turnsG tt HG.out)
      have TR : Hid (TIs (4 + 2 + 2 + 2 + 2 + 2 + 2 + 2 + 2 + 2 + 2 + 2 + 2 + 2 + 2 + 2 + 2 + 2 + 2) w18 g pn12) := Lib.hid tr
      clear e17 tt tr
      go_wp2_with fail
      refine (p_any _ _ _ _).mono ?_
      rintro e wx ⟨rfl, rfl⟩
      go_wp2_with fail
      refine (p_any _ _ _ _).mono ?_
      rintro e wx ⟨rfl, rfl⟩
      go_wp2_with fail
      have e18 : Ext w18 ((w18.alloc (.cells #[.string bZ, .string bE] 9)).alloc (.cells #[.string bA] 9)) := (Ext.alloc' _ _).trans' (Ext.alloc' _ _)
      refine (rename_any (by decide) (TR.out.ext e18) pn_d13 ((strs2n w18 bZ bE (by decide) (by decide)).ext (Ext.alloc' _ _)) (strs1' w18 _ bA (by decide)) (fun b hb => by have := TR.out.lt; omega)).mono ?_
      rw [pn_18]
      rintro e w19 ⟨rfl, tt, tr⟩
      have X := Lib.hid ((X.out.trans' e18).turnsG tt HG.out)
      have TR : Hid (TIs (4 + 2 + 2 + 2 + 2 + 2 + 2 + 2 + 2 + 2 + 2 + 2 + 2 + 2 + 2 + 2 + 2 + 2 + 2 + 2) w19 g pn18) := Lib.hid tr
      clear e18 tt tr
      go_wp2_with fail
      refine (p_any _ _ _ _).mono ?_
      rintro e wx ⟨rfl, rfl⟩
      go_wp2_with fail
      have e19 := Ext.alloc' w19 (.cells #[.string bDD] 9)
      refine (makeDir_any (by decide) (TR.out.ext e19) pn_d19 (strs1 w19 bDD (by decide))).mono ?_
      rw [pn_19]
      rintro e w20 ⟨rfl, tt, tr⟩
      have X := Lib.hid ((X.out.trans' e19).turnsG tt HG.out)
      have TR : Hid (TIs (4 + 2 + 2 + 2 + 2 + 2 + 2 + 2 + 2 + 2 + 2 + 2 + 2 + 2 + 2 + 2 + 2 + 2 + 2 + 2 + 2) w20 g pn18) := Lib.hid tr
      clear e19 tt tr
      go_wp2_with fail
      refine (p_any _ _ _ _).mono ?_
      rintro e wx ⟨rfl, rfl⟩
      go_wp2_with fail
      have e20 := Ext.alloc' w20 (.cells #[.string bK] 9)
      refine (makeFile_any (by decide) (s := bText) (by decide) (TR.out.ext e20) pn_d19 (strs1 w20 bK (by decide))).mono ?_
      rw [pn_20]
      rintro e w21 ⟨rfl, tt, tr⟩
      have X := Lib.hid ((X.out.trans' e20).turnsG tt HG.out)
      have TR : Hid (TIs (4 + 2 + 2 + 2 + 2 + 2 + 2 + 2 + 2 + 2 + 2 + 2 + 2 + 2 + 2 + 2 + 2 + 2 + 2 + 2 + 2 + 2) w21 g pn20) := Lib.hid tr
      clear e20 tt tr
      go_wp2_with fail
      refine (p_any _ _ _ _).mono ?_
      rintro e wx ⟨rfl, rfl⟩
      go_wp2_with fail
      have e21 := Ext.alloc' w21 (.cells #[.string bK] 9)
      refine (touch_any (by decide) (TR.out.ext e21) pn_d21 (strs1 w21 bK (by decide))).mono ?_
      rw [pn_21]
      rintro e w22 ⟨rfl, tt, tr⟩
      have X := Lib.hid ((X.out.trans' e21).turnsG tt HG.out)
      have TR : Hid (TIs (4 + 2 + 2 + 2 + 2 + 2 + 2 + 2 + 2 + 2 + 2 + 2 + 2 + 2 + 2 + 2 + 2 + 2 + 2 + 2 + 2 + 2 + 2) w22 g pn20) := Lib.hid tr
      clear e21 tt tr
      go_wp2_with fail
      refine (p_any _ _ _ _).mono ?_
      rintro e wx ⟨rfl, rfl⟩
      go_wp2_with fail
      have e22 := Ext.alloc' w22 (.cells #[.string bL] 9)
      refine (makeLink_any (by decide) (s := bK) (by decide) (TR.out.ext e22) pn_d21 (strs1 w22 bL (by decide))).mono ?_
      rw [pn_22]
      rintro e w23 ⟨rfl, tt, tr⟩
      have X := Lib.hid ((X.out.trans' e22).turnsG tt HG.out)
      have TR : Hid (TIs (4 + 2 + 2 + 2 + 2 + 2 + 2 + 2 + 2 + 2 + 2 + 2 + 2 + 2 + 2 + 2 + 2 + 2 + 2 + 2 + 2 + 2 + 2 + 2) w23 g pn22) := Lib.hid tr
      clear e22 tt tr
      go_wp2_with fail
      refine (p_any _ _ _ _).mono ?_
      rintro e wx ⟨rfl, rfl⟩
      go_wp2_with fail
      refine (p_any _ _ _ _).mono ?_
      rintro e wx ⟨rfl, rfl⟩
      go_wp2_with fail
      have e23 : Ext w23 ((w23.alloc (.cells #[.string bK] 9)).alloc (.cells #[.string bL] 9)) := (Ext.alloc' _ _).trans' (Ext.alloc' _ _)
      refine (pcopy_any (by decide) (TR.out.ext e23) pn_d23 ((strs1n w23 bK (by decide)).ext (Ext.alloc' _ _)) (strs1' w23 _ bL (by decide))).mono ?_
      rw [pn_23]
      rintro e w24 ⟨rfl, tt, tr⟩
      have X := Lib.hid ((X.out.trans' e23).turnsG tt HG.out)
      have TR : Hid (TIs (4 + 2 + 2 + 2 + 2 + 2 + 2 + 2 + 2 + 2 + 2 + 2 + 2 + 2 + 2 + 2 + 2 + 2 + 2 + 2 + 2 + 2 + 2 + 2 + 2) w24 g pn22) := Lib.hid tr
      clear e23 tt tr
      go_wp2_with fail
      refine (p_any _ _ _ _).mono ?_
      rintro e wx ⟨rfl, rfl⟩
      go_wp2_with fail
      have e24 := Ext.alloc' w24 (.cells #[.string bL] 9)
      refine ((TR.out.ext e24).kind (by decide) pn_d23 (strs1 w24 bL (by decide))).mono ?_
      rw [pn_24]
      rintro e w25 ⟨rfl, xx⟩
      have X := Lib.hid (X.out.trans' (e24.trans' xx))
      have TR := Lib.hid (TR.out.ext (e24.trans' xx))
      clear e24 xx
      go_wp2_with fail
      refine (p_any _ _ _ _).mono ?_
      rintro e wx ⟨rfl, rfl⟩
      go_wp2_with fail
      have e25 := Ext.alloc' w25 (.cells #[.string bK] 9)
      refine ((TR.out.ext e25).text (by decide) pn_d23 (strs1 w25 bK (by decide))).mono ?_
      rw [pn_25]
      rintro e w26 ⟨rfl, xx⟩
      have X := Lib.hid (X.out.trans' (e25.trans' xx))
      have TR := Lib.hid (TR.out.ext (e25.trans' xx))
      clear e25 xx
      go_wp2_with fail
      refine (p_any _ _ _ _).mono ?_
      rintro e wx ⟨rfl, rfl⟩
      go_wp2_with fail
      have e26 := Ext.alloc' w26 (.cells #[.string bZ] 9)
      refine ((TR.out.ext e26).kind (by decide) pn_d23 (strs1 w26 bZ (by decide))).mono ?_
      rw [pn_26]
      rintro e w27 ⟨rfl, xx⟩
      have X := Lib.hid (X.out.trans' (e26.trans' xx))
      have TR := Lib.hid (TR.out.ext (e26.trans' xx))
      clear e26 xx
      go_wp2_with fail
      refine (p_any _ _ _ _).mono ?_
      rintro e wx ⟨rfl, rfl⟩
      go_wp2_with fail
      have e27 := Ext.alloc' w27 (.cells #[.string bZ] 9)
      refine ((TR.out.ext e27).empty (by decide) pn_d23 (strs1 w27 bZ (by decide))).mono ?_
      rw [pn_27]
      rintro e w28 ⟨rfl, xx⟩
      have X := Lib.hid (X.out.trans' (e27.trans' xx))
      have TR := Lib.hid (TR.out.ext (e27.trans' xx))
      clear e27 xx
      go_wp2_with fail
      refine (awake10_any _).mono ?_
      rintro e wz ⟨rfl, xz⟩
      have X := Lib.hid (X.out.trans' xz)
      clear xz
      go_wp2_with fail
      go_ret
      exact ⟨rfl, X.out⟩
end Go.Proofs.Ytocndkhgopjhhaa
