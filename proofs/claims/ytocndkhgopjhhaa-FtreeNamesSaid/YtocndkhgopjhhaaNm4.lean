/- touchstonelaw07.FtreeNames answers true. -/
import Derived.Test.YtocndkhgopjhhaaProg
import Derived.Test.YtocndkhgopjhhaaNm3
import Derived.Test.YtocndkhgopjhhaaNil7
import Derived.Test.YtocndkhgopjhhaaNm6
import Derived.Deep.DeepCutAuto
import Derived.Outline
namespace Go.Proofs.Ytocndkhgopjhhaa
open Go.RowKit

theorem ft_l1 : N.tput exF [] (nDir [] []) = exF := tput_no (by decide +kernel)
theorem ft_l2 : N.tput exF [bA, bB] (nFile bN) = exF := tput_no (by decide +kernel)
theorem ft_l3 : N.tput exF [bDD] (nFile bN) = exF := tput_no (by decide +kernel)
theorem ft_l4 : N.tput exF [bZ] (N.zero) = exF := tput_no (by decide +kernel)
theorem ft_l5 : N.tput exF [bY] (nDir [bA] []) = exF := tput_no (by decide +kernel)
theorem ft_l6 : N.tdel exF [] = exF := tdel_no (by decide +kernel)
theorem ft_l7 : N.tdel exF [bQ] = exF := tdel_no (by decide +kernel)
theorem ft_l8 : N.tdel exF [bA, bB] = exF := tdel_no (by decide +kernel)
theorem ft_l9 : N.tmove exF [] [bQ] = exF := tmove_no (by decide +kernel)
theorem ft_l10 : N.tmove exF [bQ] [bR] = exF := tmove_no (by decide +kernel)
theorem ft_l11 : N.tmove exF [bA] [bA] = exF := tmove_no (by decide +kernel)
theorem ft_l12 : N.tmove exF [bA] [bDot] = exF := tmove_no (by decide +kernel)
theorem ft_l13 : N.tmove exF [bD, bL] [bD] = exF := tmove_no (by decide +kernel)
theorem ft_l14 : N.tcopy exF [bD] [bD, bX] = exF := tcopy_no (by decide +kernel)
theorem ft_l15 : N.tcopy exF [bA] [bA, bB] = exF := tcopy_no (by decide +kernel)
def ft16 : N := N.tcopy exF [bD] [bA]
theorem ft_l16 : N.tcopy exF [bD] [bA] = ft16 := rfl
theorem ft_d16 : DirW ft16 := N.tcopy_dir exF_dir
def ft17 : N := N.tput ft16 [bA, bL] (nFile bN)
theorem ft_l17 : N.tput ft16 [bA, bL] (nFile bN) = ft17 := rfl
theorem ft_d17 : DirW ft17 := N.tput_dir ft_d16
theorem ft_a1 : ft17.kindAt [bD, bL] = 3 := by decide +kernel
theorem ft_a2 : ft17.kindAt [bA, bL] = 1 := by decide +kernel
def ft18 : N := N.tdel ft17 [bA, bL]
theorem ft_l18 : N.tdel ft17 [bA, bL] = ft18 := rfl
theorem ft_d18 : DirW ft18 := N.tdel_dir ft_d17
def ft19 : N := N.tput ft18 [bD, bK] (towerN 30)
theorem ft_l19 : N.tput ft18 [bD, bK] (towerN 30) = ft19 := rfl
theorem ft_l19' {t : N} (h : towerN 30 = t) : N.tput ft18 [bD, bK] t = ft19 := h ▸ ft_l19
theorem ft_d19 : DirW ft19 := N.tput_dir ft_d18
theorem ft_a3 : emptyB ((ft19.get [bA]).getD N.zero) = true := by decide +kernel
theorem ft_a4 : ft19.kindAt [bD, bL] = 3 := by decide +kernel
theorem ft_a5 : ft19.kindAt [bD, bK, bA] = 2 := by decide +kernel
set_option maxRecDepth 100000 in
set_option maxHeartbeats 32000000 in
theorem ftNames_any (w : World) : Calls Try.prog 6 #[] w fun e w' => e = .returned (.bool true) ∧ Ext w w' := by
  go_enter Try.func6, Try.ntmps6
  go_wp2_with fail
  refine (works_any _).mono ?_
  rintro e w0 ⟨rfl, x0⟩
  have X0 := Lib.hid x0
  clear x0
  go_wp2_with fail
  have e0 : Ext w0 w0 := (Below.refl _ _)
  refine (many_any 256 (by decide) _).mono ?_
  rintro e w1 ⟨rfl, xx⟩
  have E1 := Lib.hid (e0.trans' xx)
  clear e0 xx 
  go_wp2_with fail
  have e1 : Ext w1 w1 := (Below.refl _ _)
  refine (file_any _ _).mono ?_
  rintro e w2 ⟨rfl, xx⟩
  have E2 := Lib.hid (e1.trans' xx)
  clear e1 xx 
  go_wp2_with fail
  have e2 : Ext w2 w2 := (Below.refl _ _)
  refine (many_any 257 (by decide) _).mono ?_
  rintro e w3 ⟨rfl, xx⟩
  have E3 := Lib.hid (e2.trans' xx)
  clear e2 xx 
  go_wp2_with fail
  have e3 : Ext w3 w3 := (Below.refl _ _)
  refine (file_any _ _).mono ?_
  rintro e w4 ⟨rfl, xx⟩
  have E4 := Lib.hid (e3.trans' xx)
  clear e3 xx 
  go_wp2_with fail
  have e4 : Ext w4 w4 := (Below.refl _ _)
  refine (file_any _ _).mono ?_
  rintro e w5 ⟨rfl, xx⟩
  have E5 := Lib.hid (e4.trans' xx)
  clear e4 xx 
  go_wp2_with fail
  have e5 : Ext w5 ((w5.alloc (.cells #[.string (bA)] 9)).alloc (.cells #[.int .u8 0, .string bN, .slice none 0 0, .slice none 0 0] 25)) := ((Ext.alloc' _ _).trans' (Ext.alloc' _ _))
  have s6_ := ((strs1 w5 (bA) (by decide +kernel)).ext (Ext.alloc' _ (.cells #[.int .u8 0, .string bN, .slice none 0 0, .slice none 0 0] 25)))
  have k7_ := (kids1 (w5.alloc (.cells #[.string (bA)] 9)) (d := 1) (t := N.zero) (Rep.zero (by decide)))
  refine (dir_any _).mono ?_
  rintro e w6 ⟨rfl, xx⟩
  have E6 := Lib.hid (e5.trans' xx)
  have S6 := Lib.hid (s6_.ext xx)
  have K7 := Lib.hid (k7_.ext' xx)
  clear e5 xx s6_ k7_
  have K7 := Lib.hid (by have h := K7.out; rw [World.size_alloc] at h; exact h)
  go_wp2_with fail
  have e6 : Ext w6 (w6.alloc (.cells #[.string (bA)] 9)) := (Ext.alloc' _ _)
  have s10_ := (strs1 w6 (bA) (by decide +kernel))
  refine (dir_any _).mono ?_
  rintro e w7 ⟨rfl, xx⟩
  have E7 := Lib.hid (e6.trans' xx)
  have S10 := Lib.hid (s10_.ext xx)
  clear e6 xx s10_
  go_wp2_with fail
  have e7 : Ext w7 (w7.alloc (.cells #[.string (bB), .string (bA)] 9)) := (Ext.alloc' _ _)
  have s11_ := (strs2 w7 (bB) (bA) (by decide +kernel) (by decide +kernel))
  refine (file_any _ _).mono ?_
  rintro e w8 ⟨rfl, xx⟩
  have E8 := Lib.hid (e7.trans' xx)
  have S11 := Lib.hid (s11_.ext xx)
  clear e7 xx s11_
  go_wp2_with fail
  have e8 : Ext w8 w8 := (Below.refl _ _)
  refine (file_any _ _).mono ?_
  rintro e w9 ⟨rfl, xx⟩
  have E9 := Lib.hid (e8.trans' xx)
  clear e8 xx 
  go_wp2_with fail
  have e9 : Ext w9 (w9.alloc (.cells #[.int .u8 1, .string bN, .slice none 0 0, .slice none 0 0, .int .u8 1, .string bN, .slice none 0 0, .slice none 0 0] 25)) := (Ext.alloc' _ _)
  have k11_ := (kids2 w9 (d := 1) (rep_file (d := 0) (s := bN) (by decide)) (rep_file (d := 0) (s := bN) (by decide)))
  refine (dir_any _).mono ?_
  rintro e w10 ⟨rfl, xx⟩
  have E10 := Lib.hid (e9.trans' xx)
  have K11 := Lib.hid (k11_.ext' xx)
  clear e9 xx k11_
  go_wp2_with fail
  have e10 : Ext w10 (w10.alloc (.cells #[.string (bA), .string (bA)] 9)) := (Ext.alloc' _ _)
  have s12_ := (strs2 w10 (bA) (bA) (by decide +kernel) (by decide +kernel))
  refine (file_any _ _).mono ?_
  rintro e w11 ⟨rfl, xx⟩
  have E11 := Lib.hid (e10.trans' xx)
  have S12 := Lib.hid (s12_.ext xx)
  clear e10 xx s12_
  go_wp2_with fail
  have e11 : Ext w11 w11 := (Below.refl _ _)
  refine (file_any _ _).mono ?_
  rintro e w12 ⟨rfl, xx⟩
  have E12 := Lib.hid (e11.trans' xx)
  clear e11 xx 
  go_wp2_with fail
  have e12 : Ext w12 (w12.alloc (.cells #[.int .u8 1, .string bN, .slice none 0 0, .slice none 0 0, .int .u8 1, .string bN, .slice none 0 0, .slice none 0 0] 25)) := (Ext.alloc' _ _)
  have k12_ := (kids2 w12 (d := 1) (rep_file (d := 0) (s := bN) (by decide)) (rep_file (d := 0) (s := bN) (by decide)))
  refine (dir_any _).mono ?_
  rintro e w13 ⟨rfl, xx⟩
  have E13 := Lib.hid (e12.trans' xx)
  have K12 := Lib.hid (k12_.ext' xx)
  clear e12 xx k12_
  go_wp2_with fail
  have e13 : Ext w13 (w13.alloc (.cells #[.string (bDot)] 9)) := (Ext.alloc' _ _)
  have s13_ := (strs1 w13 (bDot) (by decide +kernel))
  refine (file_any _ _).mono ?_
  rintro e w14 ⟨rfl, xx⟩
  have E14 := Lib.hid (e13.trans' xx)
  have S13 := Lib.hid (s13_.ext xx)
  clear e13 xx s13_
  go_wp2_with fail
  have e14 : Ext w14 (w14.alloc (.cells #[.int .u8 1, .string bN, .slice none 0 0, .slice none 0 0] 25)) := (Ext.alloc' _ _)
  have k13_ := (kids1 w14 (d := 1) (rep_file (d := 0) (s := bN) (by decide)))
  refine (dir_any _).mono ?_
  rintro e w15 ⟨rfl, xx⟩
  have E15 := Lib.hid (e14.trans' xx)
  have K13 := Lib.hid (k13_.ext' xx)
  clear e14 xx k13_
  go_wp2_with fail
  have e15 : Ext w15 (w15.alloc (.cells #[.string (bSl)] 9)) := (Ext.alloc' _ _)
  have s14_ := (strs1 w15 (bSl) (by decide +kernel))
  refine (file_any _ _).mono ?_
  rintro e w16 ⟨rfl, xx⟩
  have E16 := Lib.hid (e15.trans' xx)
  have S14 := Lib.hid (s14_.ext xx)
  clear e15 xx s14_
  go_wp2_with fail
  have e16 : Ext w16 (w16.alloc (.cells #[.int .u8 1, .string bN, .slice none 0 0, .slice none 0 0] 25)) := (Ext.alloc' _ _)
  have k14_ := (kids1 w16 (d := 1) (rep_file (d := 0) (s := bN) (by decide)))
  refine (dir_any _).mono ?_
  rintro e w17 ⟨rfl, xx⟩
  have E17 := Lib.hid (e16.trans' xx)
  have K14 := Lib.hid (k14_.ext' xx)
  clear e16 xx k14_
  go_wp2_with fail
  have e17 : Ext w17 w17 := (Below.refl _ _)
  refine (many_any 64 (by decide) _).mono ?_
  rintro e w18 ⟨rfl, xx⟩
  have E18 := Lib.hid (e17.trans' xx)
  clear e17 xx 
  go_wp2_with fail
  have e18 : Ext w18 (w18.alloc (.cells #[.string (aStr 64)] 9)) := (Ext.alloc' _ _)
  have s15_ := (strs1 w18 (aStr 64) (by decide +kernel))
  refine (file_any _ _).mono ?_
  rintro e w19 ⟨rfl, xx⟩
  have E19 := Lib.hid (e18.trans' xx)
  have S15 := Lib.hid (s15_.ext xx)
  clear e18 xx s15_
  go_wp2_with fail
  have e19 : Ext w19 (w19.alloc (.cells #[.int .u8 1, .string bN, .slice none 0 0, .slice none 0 0] 25)) := (Ext.alloc' _ _)
  have k15_ := (kids1 w19 (d := 1) (rep_file (d := 0) (s := bN) (by decide)))
  refine (dir_any _).mono ?_
  rintro e w20 ⟨rfl, xx⟩
  have E20 := Lib.hid (e19.trans' xx)
  have K15 := Lib.hid (k15_.ext' xx)
  clear e19 xx k15_
  go_wp2_with fail
  have e20 : Ext w20 w20 := (Below.refl _ _)
  refine (many_any 65 (by decide) _).mono ?_
  rintro e w21 ⟨rfl, xx⟩
  have E21 := Lib.hid (e20.trans' xx)
  clear e20 xx 
  go_wp2_with fail
  have e21 : Ext w21 (w21.alloc (.cells #[.string (aStr 65)] 9)) := (Ext.alloc' _ _)
  have s16_ := (strs1 w21 (aStr 65) (by decide +kernel))
  refine (file_any _ _).mono ?_
  rintro e w22 ⟨rfl, xx⟩
  have E22 := Lib.hid (e21.trans' xx)
  have S16 := Lib.hid (s16_.ext xx)
  clear e21 xx s16_
  go_wp2_with fail
  have e22 : Ext w22 (w22.alloc (.cells #[.int .u8 1, .string bN, .slice none 0 0, .slice none 0 0] 25)) := (Ext.alloc' _ _)
  have k16_ := (kids1 w22 (d := 1) (rep_file (d := 0) (s := bN) (by decide)))
  refine (dir_any _).mono ?_
  rintro e w23 ⟨rfl, xx⟩
  have E23 := Lib.hid (e22.trans' xx)
  have K16 := Lib.hid (k16_.ext' xx)
  clear e22 xx k16_
  go_wp2_with fail
  have e23 : Ext w23 ((w23.alloc (.cells #[.string (bA)] 9)).alloc (.cells #[.int .u8 0, .string bN, .slice none 0 0, .slice none 0 0] 25)) := ((Ext.alloc' _ _).trans' (Ext.alloc' _ _))
  have s17_ := ((strs1 w23 (bA) (by decide +kernel)).ext (Ext.alloc' _ (.cells #[.int .u8 0, .string bN, .slice none 0 0, .slice none 0 0] 25)))
  have k17_ := (kids1 (w23.alloc (.cells #[.string (bA)] 9)) (d := 1) (t := N.zero) (Rep.zero (by decide)))
  refine (dir_any _).mono ?_
  rintro e w24 ⟨rfl, xx⟩
  have E24 := Lib.hid (e23.trans' xx)
  have S17 := Lib.hid (s17_.ext xx)
  have K17 := Lib.hid (k17_.ext' xx)
  clear e23 xx s17_ k17_
  have K17 := Lib.hid (by have h := K17.out; rw [World.size_alloc] at h; exact h)
  go_wp2_with fail
  have e24 : Ext w24 w24 := (Below.refl _ _)
  refine (tower_any 24 (by decide) _).mono ?_
  rintro e w25 ⟨A19, c19, A19', c19', rfl, xx, r19⟩
  have E25 := Lib.hid (e24.trans' xx)
  clear e24 xx 
  have R19 := Lib.hid r19
  clear r19
  go_wp2_with fail
  have e25 : Ext w25 w25 := (Below.refl _ _)
  refine (tower_any 25 (by decide) _).mono ?_
  rintro e w26 ⟨A20, c20, A20', c20', rfl, xx, r20⟩
  have E26 := Lib.hid (e25.trans' xx)
  clear e25 xx 
  have R20 := Lib.hid r20
  clear r20
  go_wp2_with fail
  have e26 : Ext w26 w26 := (Below.refl _ _)
  refine (wide_any 1023 (by decide) _).mono ?_
  rintro e w27 ⟨A21, c21, A21', c21', rfl, xx, r21⟩
  have E27 := Lib.hid (e26.trans' xx)
  clear e26 xx 
  have R21 := Lib.hid r21
  clear r21
  go_wp2_with fail
  have e27 : Ext w27 w27 := (Below.refl _ _)
  refine (wide_any 1024 (by decide) _).mono ?_
  rintro e w28 ⟨A22, c22, A22', c22', rfl, xx, r22⟩
  have E28 := Lib.hid (e27.trans' xx)
  clear e27 xx 
  have R22 := Lib.hid r22
  clear r22
  go_wp2_with fail
  skip
  have XF := Lib.hid ((((((((((((((((((((((((((((X0.out.trans' E1.out).trans' E2.out).trans' E3.out).trans' E4.out).trans' E5.out).trans' E6.out).trans' E7.out).trans' E8.out).trans' E9.out).trans' E10.out).trans' E11.out).trans' E12.out).trans' E13.out).trans' E14.out).trans' E15.out).trans' E16.out).trans' E17.out).trans' E18.out).trans' E19.out).trans' E20.out).trans' E21.out).trans' E22.out).trans' E23.out).trans' E24.out).trans' E25.out).trans' E26.out).trans' E27.out).trans' E28.out)
  have C6 := Lib.hid ((((((((((((((((((((((((show Rep 4 Any w6 _ (.mk 1 bN [bA] []) _ from Rep.join (by decide) (S6.out.wide (by decide) (Below.refl _ _) (fun _ h _ => h)) (Kids.nil (d := 0))).ext E7.out).ext E8.out).ext E9.out).ext E10.out).ext E11.out).ext E12.out).ext E13.out).ext E14.out).ext E15.out).ext E16.out).ext E17.out).ext E18.out).ext E19.out).ext E20.out).ext E21.out).ext E22.out).ext E23.out).ext E24.out).ext E25.out).ext E26.out).ext E27.out).ext E28.out))
  have C7 := Lib.hid ((((((((((((((((((((((((show Rep 4 Any w6 _ (.mk 1 bN [] [N.zero]) _ from Rep.join (by decide) Strs.nil0 K7.out).ext E7.out).ext E8.out).ext E9.out).ext E10.out).ext E11.out).ext E12.out).ext E13.out).ext E14.out).ext E15.out).ext E16.out).ext E17.out).ext E18.out).ext E19.out).ext E20.out).ext E21.out).ext E22.out).ext E23.out).ext E24.out).ext E25.out).ext E26.out).ext E27.out).ext E28.out))
  have C10 := Lib.hid (((((((((((((((((((((((show Rep 4 Any w7 _ (nDir [bA] []) _ from rep_dir (d := 0) S10.out Kids.nil).ext E8.out).ext E9.out).ext E10.out).ext E11.out).ext E12.out).ext E13.out).ext E14.out).ext E15.out).ext E16.out).ext E17.out).ext E18.out).ext E19.out).ext E20.out).ext E21.out).ext E22.out).ext E23.out).ext E24.out).ext E25.out).ext E26.out).ext E27.out).ext E28.out))
  have C11 := Lib.hid ((((((((((((((((((((show Rep 4 Any w10 _ (nDir [bB, bA] [nFile bN, nFile bN]) _ from rep_dir ((S11.out.ext E9.out).ext E10.out) K11.out).ext E11.out).ext E12.out).ext E13.out).ext E14.out).ext E15.out).ext E16.out).ext E17.out).ext E18.out).ext E19.out).ext E20.out).ext E21.out).ext E22.out).ext E23.out).ext E24.out).ext E25.out).ext E26.out).ext E27.out).ext E28.out))
  have C12 := Lib.hid (((((((((((((((((show Rep 4 Any w13 _ (nDir [bA, bA] [nFile bN, nFile bN]) _ from rep_dir ((S12.out.ext E12.out).ext E13.out) K12.out).ext E14.out).ext E15.out).ext E16.out).ext E17.out).ext E18.out).ext E19.out).ext E20.out).ext E21.out).ext E22.out).ext E23.out).ext E24.out).ext E25.out).ext E26.out).ext E27.out).ext E28.out))
  have C13 := Lib.hid (((((((((((((((show Rep 4 Any w15 _ (nDir [bDot] [nFile bN]) _ from rep_dir (S13.out.ext E15.out) K13.out).ext E16.out).ext E17.out).ext E18.out).ext E19.out).ext E20.out).ext E21.out).ext E22.out).ext E23.out).ext E24.out).ext E25.out).ext E26.out).ext E27.out).ext E28.out))
  have C14 := Lib.hid (((((((((((((show Rep 4 Any w17 _ (nDir [bSl] [nFile bN]) _ from rep_dir (S14.out.ext E17.out) K14.out).ext E18.out).ext E19.out).ext E20.out).ext E21.out).ext E22.out).ext E23.out).ext E24.out).ext E25.out).ext E26.out).ext E27.out).ext E28.out))
  have C15 := Lib.hid ((((((((((show Rep 4 Any w20 _ (nDir [aStr 64] [nFile bN]) _ from rep_dir (S15.out.ext E20.out) K15.out).ext E21.out).ext E22.out).ext E23.out).ext E24.out).ext E25.out).ext E26.out).ext E27.out).ext E28.out))
  have C16 := Lib.hid (((((((show Rep 4 Any w23 _ (nDir [aStr 65] [nFile bN]) _ from rep_dir (S16.out.ext E23.out) K16.out).ext E24.out).ext E25.out).ext E26.out).ext E27.out).ext E28.out))
  have C17 := Lib.hid ((((((show Rep 4 Any w24 _ (nDir [bA] [N.zero]) _ from rep_dir S17.out K17.out).ext E25.out).ext E26.out).ext E27.out).ext E28.out))
  have C19 := Lib.hid (((((show Rep 4 Any w25 _ (towerN 24) _ from R19.out).ext E26.out).ext E27.out).ext E28.out))
  have C20 := Lib.hid ((((show Rep 4 Any w26 _ (towerN 25) _ from R20.out).ext E27.out).ext E28.out))
  have C21 := Lib.hid (((show Rep 2000 Any w27 _ (wideN 1023) _ from R21.out).ext E28.out))
  have C22 := Lib.hid ((show Rep 2000 Any w28 _ (wideN 1024) _ from R22.out))
  clear E1 E2 E3 E4 E5 E6 E7 E8 E9 E10 E11 E12 E13 E14 E15 E16 E17 E18 E19 E20 E21 E22 E23 E24 E25 E26 E27 E28 S6 K7 S10 S11 K11 S12 K12 S13 K13 S14 K14 S15 K15 S16 K16 S17 K17 R19 R20 R21 R22
  go_loopw [106] (fun i wr => ∃ j : Nat, j ≤ 23 ∧ i = .int .i64 j ∧ Ext w wr ∧ CasesAt wr w28.heap.size nmCases) (fun i _ => 23 - (intOf i).toNat)
  case atStart =>
    refine ⟨0, by omega, rfl, XF.out.trans' (Ext.alloc' _ _), ?_⟩
    refine ⟨_, Blk.new _ _ _, ?_⟩
    exact (.cons ⟨_, _, _, _, _, rfl, Rep.leaf (d := 0) (by decide +kernel)⟩ (.cons ⟨_, _, _, _, _, rfl, Rep.leaf (d := 0) (by decide +kernel)⟩ (.cons ⟨_, _, _, _, _, rfl, Rep.leaf (d := 0) (by decide +kernel)⟩ (.cons ⟨_, _, _, _, _, rfl, Rep.leaf (d := 0) (by decide +kernel)⟩ (.cons ⟨_, _, _, _, _, rfl, Rep.leaf (d := 0) (by decide +kernel)⟩ (.cons ⟨_, _, _, _, _, rfl, Rep.leaf (d := 0) (by decide +kernel)⟩ (.cons ⟨_, _, _, _, _, rfl, ((Rep.wideB (B := 4) (B' := 2000) (by decide) C6.out).alloc _)⟩ (.cons ⟨_, _, _, _, _, rfl, ((Rep.wideB (B := 4) (B' := 2000) (by decide) C7.out).alloc _)⟩ (.cons ⟨_, _, _, _, _, rfl, Rep.leaf (d := 0) (by decide +kernel)⟩ (.cons ⟨_, _, _, _, _, rfl, Rep.leaf (d := 0) (by decide +kernel)⟩ (.cons ⟨_, _, _, _, _, rfl, ((Rep.wideB (B := 4) (B' := 2000) (by decide) C10.out).alloc _)⟩ (.cons ⟨_, _, _, _, _, rfl, ((Rep.wideB (B := 4) (B' := 2000) (by decide) C11.out).alloc _)⟩ (.cons ⟨_, _, _, _, _, rfl, ((Rep.wideB (B := 4) (B' := 2000) (by decide) C12.out).alloc _)⟩ (.cons ⟨_, _, _, _, _, rfl, ((Rep.wideB (B := 4) (B' := 2000) (by decide) C13.out).alloc _)⟩ (.cons ⟨_, _, _, _, _, rfl, ((Rep.wideB (B := 4) (B' := 2000) (by decide) C14.out).alloc _)⟩ (.cons ⟨_, _, _, _, _, rfl, ((Rep.wideB (B := 4) (B' := 2000) (by decide) C15.out).alloc _)⟩ (.cons ⟨_, _, _, _, _, rfl, ((Rep.wideB (B := 4) (B' := 2000) (by decide) C16.out).alloc _)⟩ (.cons ⟨_, _, _, _, _, rfl, ((Rep.wideB (B := 4) (B' := 2000) (by decide) C17.out).alloc _)⟩ (.cons ⟨_, _, _, _, _, rfl, Rep.leaf (d := 0) (by decide +kernel)⟩ (.cons ⟨_, _, _, _, _, rfl, ((Rep.wideB (B := 4) (B' := 2000) (by decide) C19.out).alloc _)⟩ (.cons ⟨_, _, _, _, _, rfl, ((Rep.wideB (B := 4) (B' := 2000) (by decide) C20.out).alloc _)⟩ (.cons ⟨_, _, _, _, _, rfl, ((Rep.wideB (B := 2000) (B' := 2000) (by decide) C21.out).alloc _)⟩ (.cons ⟨_, _, _, _, _, rfl, ((Rep.wideB (B := 2000) (B' := 2000) (by decide) C22.out).alloc _)⟩ .nil)))))))))))))))))))))))
  case round =>
    obtain ⟨j, hj, rfl, hx, hca⟩ := hrel
    have HX := Lib.hid hx
    have HCA := Lib.hid hca
    clear hx hca XF X0 C6 C7 C10 C11 C12 C13 C14 C15 C16 C17 C19 C20 C21 C22
    by_cases hlt : j < 23
    · obtain ⟨x, hxj⟩ : ∃ x, nmCases[j]? = some x := ⟨_, List.getElem?_eq_getElem (by simpa [nmCases] using hlt)⟩
      obtain ⟨cs, hb, hf⟩ := HCA.out
      obtain ⟨a, b, c, d, e, f, ⟨A, c0, A', c1, dd, hcs, hr⟩, h0, h1, h2, h3, h4, h5⟩ := hf.get hxj
      simp only [List.cons.injEq, and_true] at hcs
      obtain ⟨rfl, rfl, rfl, rfl, rfl, rfl⟩ := hcs
      obtain ⟨hwl, hmy⟩ := nmCases_at hxj
      have HWL := Lib.hid hwl
      have HMY := Lib.hid hmy
      have HR := Lib.hid hr
      have hbl := hb.lt
      have g0 := hb.cell (j * 6)
      have g1 := hb.cell (j * 6 + 1)
      have g2 := hb.cell (j * 6 + 2)
      have g3 := hb.cell (j * 6 + 3)
      have g4 := hb.cell (j * 6 + 4)
      have g5 := hb.cell (j * 6 + 5)
      rw [List.getElem?_toArray] at g0 g1 g2 g3 g4 g5
      rw [h0] at g0
      rw [h1] at g1
      rw [h2] at g2
      rw [h3] at g3
      rw [h4] at g4
      rw [h5] at g5
      have hi : (j : Int) < 23 := by omega
      obtain ⟨n, aw, am⟩ := x
      simp only at hwl hmy HWL HMY HR g0 g1 g2 g3 g4 g5
      have HB2 := Lib.hid (Blk.new wr 59 #[.int .u8 n.kind, .string n.text, .slice A n.names.length c0, .slice A' n.kids.length c1, .bool aw, .bool am])
      have hx2 := Ext.alloc' wr (.cells #[.int .u8 n.kind, .string n.text, .slice A n.names.length c0, .slice A' n.kids.length c1, .bool aw, .bool am] 59)
      have HX2 := Lib.hid hx2
      clear hb hf hr h0 h1 h2 h3 h4 h5 hwl hmy hxj hx2
      go_upto_region 6 with fail
      obtain ⟨W2, hW2⟩ : ∃ W, W = wr.alloc (.cells #[.int .u8 n.kind, .string n.text, .slice A n.names.length c0, .slice A' n.kids.length c1, .bool aw, .bool am] 59) := ⟨_, rfl⟩
      rw [← hW2] at HB2 HX2 ⊢
      have hu : ∀ (u : Up W2) (o : Nat), u.val.cell? ⟨wr.heap.size, o, none⟩ = #[Value.int .u8 n.kind, .string n.text, .slice A n.names.length c0, .slice A' n.kids.length c1, .bool aw, .bool am][o]? := fun u o => (HB2.out.up u).cell o
      have hu0 : ∀ u : Up W2, u.val.cell? ⟨wr.heap.size, 0, none⟩ = some (.int .u8 n.kind) ∧ u.val.cell? ⟨wr.heap.size, 1, none⟩ = some (.string n.text) ∧ u.val.cell? ⟨wr.heap.size, 2, none⟩ = some (.slice A n.names.length c0) ∧ u.val.cell? ⟨wr.heap.size, 3, none⟩ = some (.slice A' n.kids.length c1) ∧ u.val.cell? ⟨wr.heap.size, 4, none⟩ = some (.bool aw) ∧ u.val.cell? ⟨wr.heap.size, 5, none⟩ = some (.bool am) := fun u => ⟨hu u 0, hu u 1, hu u 2, hu u 3, hu u 4, hu u 5⟩
      clear hu hW2
      refine wp_region_up0 (by kernel_rfl) (by kernel_rfl) ?_
      cases aw <;> cases am
      all_goals
        repeat (go_big_quiet_step (first
          | (go_at_call 15; exact Calls.up (HWL.out ▸ well_any 2000 (by decide) _ _ _ _ _ ((HR.out.ext HX2.out).up _)))
          | (go_at_call 17; exact Calls.up (HMY.out ▸ may_any 2000 (by decide) _ _ _ _ _ ((HR.out.ext HX2.out).up _)))))
        refine wpQuiet_nil ?_
        rintro _ ⟨u1, rfl⟩
        obtain ⟨r0, r1, r2, r3, r4, r5⟩ := hu0 u1
        have rl : wr.heap.size < u1.val.heap.size := (HB2.out.up u1).lt
        have HB3 := Lib.hid (HB2.out.up u1)
        have HX3 := Lib.hid (HX2.out.trans' u1.ext)
        clear hu0
        go_wp2_with fail
        first
          | (refine (tnew_no (by decide) (HR.out.ext HX3.out) HMY.out).mono ?_
             rintro e w9 ⟨rfl, x9⟩)
          | (refine (tnew_any (by decide) (HR.out.ext HX3.out) HMY.out).mono ?_
             rintro e w9 ⟨gg, rfl, _, x9, _⟩)
        have HB9 := Lib.hid (HB3.out.ext x9)
        have HX9 := Lib.hid (HX3.out.trans' x9)
        have r4 : w9.cell? ⟨wr.heap.size, 5, none⟩ = some _ := HB9.out.cell 5
        have rl : wr.heap.size < w9.heap.size := HB9.out.lt
        clear x9 r0 r1 r2 r3 r5
        go_wp2_with fail
        go_roundw
        case rel => exact ⟨j + 1, by omega, by go_num, HX.out.trans' HX9.out, HCA.out.ext HX9.out⟩
        case measure => simp [intOf]; omega
    · have hi : ¬ (j : Int) < 23 := by omega
      clear hj hlt HCA
      obtain ⟨u0, hu0⟩ : ∃ u0, u0 = wr := ⟨_, rfl⟩
      subst hu0
      have X := HX
      go_wp2_with fail
      have s0 := strs2 u0 bA bD (by decide) (by decide)
      refine (file_any _ _).mono ?_
      rintro e u1 ⟨rfl, xx⟩
      have S0 := Lib.hid (s0.ext xx)
      have X := Lib.hid ((X.out.trans' (Ext.alloc' _ _)).trans' xx)
      clear s0 xx
      go_wp2_with fail
      have s1 := (strs1 u1 bL (by decide)).ext (Ext.alloc' _ (.cells #[.int .u8 3, .string bTo, .slice none 0 0, .slice none 0 0] 25))
      have k1 := kids1 (u1.alloc (.cells #[.string bL] 9)) (d := 1) (t := .mk 3 bTo [] []) (v0 := .int .u8 3) (v1 := .string bTo) (v2 := .slice none 0 0) (v3 := .slice none 0 0) (Rep.leaf (by decide))
      rw [World.size_alloc] at k1
      refine (dir_any _).mono ?_
      rintro e u2 ⟨rfl, xx⟩
      have e1 := ((Ext.alloc' u1 (.cells #[.string bL] 9)).trans' (Ext.alloc' _ (.cells #[.int .u8 3, .string bTo, .slice none 0 0, .slice none 0 0] 25))).trans' xx
      have R2 := Lib.hid (rep_dir (s1.ext xx) (k1.ext' xx))
      have S0 := Lib.hid (S0.out.ext e1)
      have X := Lib.hid (X.out.trans' e1)
      clear s1 k1 xx e1
      go_wp2_with fail
      have k2 := kids2 u2 (rep_file (w := u2) (d := 1) (s := bX) (by decide)) R2.out
      refine (dir_any _).mono ?_
      rintro e u3 ⟨rfl, xx⟩
      have e2 := (Ext.alloc' u2 (.cells #[.int .u8 1, .string bX, .slice none 0 0, .slice none 0 0, .int .u8 2, .string { data := #[] }, .slice (some ⟨u1.heap.size, 0, none⟩) 1 1, .slice (some ⟨u1.heap.size + 1, 0, none⟩) 1 1] 25)).trans' xx
      have R3 := Lib.hid (show Rep 4 Any u3 3 exF _ from rep_dir (S0.out.ext e2) (k2.ext' xx))
      have X := Lib.hid (X.out.trans' e2)
      clear k2 xx e2 S0 R2
      go_wp2_with fail
      refine (tnew_any (by decide) R3.out exF_may).mono ?_
      rintro e u4 ⟨g, rfl, hg, xx, tr⟩
      have HG := Lib.hid (show w.heap.size ≤ g by have := X.out.size; omega)
      have X := Lib.hid (X.out.trans' xx)
      have TR := Lib.hid (TIs.of tr (Nat.le_refl 4))
      clear hg xx tr R3
      go_wp2_with fail
      obtain ⟨dr, hroot⟩ := TR.out.root (by decide)
      refine hroot.mono ?_
      rintro e u5 ⟨A7, c7, A7', c7', rfl, xx, rr⟩
      have hgl := TR.out.lt
      have R7 := Lib.hid ((rr.farN (gt := g) (fun b h => by have := h.1; omega)).ext (Ext.alloc' _ (.cells #[.int .u8 exF.kind, .string exF.text, .slice A7 exF.names.length c7, .slice A7' exF.kids.length c7'] 25)))
      have B7 := Lib.hid (Blk.new u5 25 #[.int .u8 exF.kind, .string exF.text, .slice A7 exF.names.length c7, .slice A7' exF.kids.length c7'])
      have hz5 := xx.size
      have hne : u5.heap.size ≠ g := by omega
      have xx := xx.trans' (Ext.alloc' u5 (.cells #[.int .u8 exF.kind, .string exF.text, .slice A7 exF.names.length c7, .slice A7' exF.kids.length c7'] 25))
      have X := Lib.hid (X.out.trans' xx)
      have TR := Lib.hid (TR.out.ext xx)
      clear xx rr hroot hz5 hgl
      obtain ⟨v5, hv5⟩ : ∃ v, v = u5.alloc (.cells #[.int .u8 exF.kind, .string exF.text, .slice A7 exF.names.length c7, .slice A7' exF.kids.length c7'] 25) := ⟨_, rfl⟩
      go_wp2_with fail
      refine (dir_any _).mono ?_
      rintro e y ⟨rfl, xx⟩
      have ee := Ext.trans' (Below.refl _ _) xx
      have X := Lib.hid (X.out.trans' ee)
      have TR := Lib.hid (TR.out.ext ee)
      have R7 := Lib.hid (R7.out.ext ee)
      have B7 := Lib.hid (B7.out.ext ee)
      clear ee xx
      go_wp2_with fail
      refine (TR.out.put (by decide) exF_dir (Strs.nil0 (B := 16) (S := Any)) (show Rep 4 Any _ 1 (nDir [] []) _ from Rep.leaf (by decide)) (by decide)).mono ?_
      rw [ft_l1]
      rintro e u6 ⟨rfl, tt, tr⟩
      have X := Lib.hid (X.out.turnsG tt HG.out)
      have R7 := Lib.hid (R7.out.turnN tt)
      have B7 := Lib.hid (B7.out.turnN tt hne)
      have TR : Hid (TIs (4 + 2) u6 g exF) := Lib.hid tr
      clear tt tr
      -- 1
      go_wp2_with fail
      have sp := (strs2 u6 bA bB (by decide) (by decide))
      refine (file_any _ _).mono ?_
      rintro e y ⟨rfl, xx⟩
      have ee := Ext.trans' (Ext.alloc' _ _) xx
      have SP := Lib.hid (sp.ext xx)
      have X := Lib.hid (X.out.trans' ee)
      have TR := Lib.hid (TR.out.ext ee)
      have R7 := Lib.hid (R7.out.ext ee)
      have B7 := Lib.hid (B7.out.ext ee)
      clear ee xx sp
      go_wp2_with fail
      refine (TR.out.put (by decide) exF_dir SP.out (show Rep 4 Any _ 1 (nFile bN) _ from rep_file (by decide)) (by decide)).mono ?_
      rw [ft_l2]
      rintro e u7 ⟨rfl, tt, tr⟩
      have X := Lib.hid (X.out.turnsG tt HG.out)
      have R7 := Lib.hid (R7.out.turnN tt)
      have B7 := Lib.hid (B7.out.turnN tt hne)
      have TR : Hid (TIs (4 + 2 + 2) u7 g exF) := Lib.hid tr
      clear tt tr SP
      -- 2
      go_wp2_with fail
      have sp := (strs1 u7 bDD (by decide))
      refine (file_any _ _).mono ?_
      rintro e y ⟨rfl, xx⟩
      have ee := Ext.trans' (Ext.alloc' _ _) xx
      have SP := Lib.hid (sp.ext xx)
      have X := Lib.hid (X.out.trans' ee)
      have TR := Lib.hid (TR.out.ext ee)
      have R7 := Lib.hid (R7.out.ext ee)
      have B7 := Lib.hid (B7.out.ext ee)
      clear ee xx sp
      go_wp2_with fail
      refine (TR.out.put (by decide) exF_dir SP.out (show Rep 4 Any _ 1 (nFile bN) _ from rep_file (by decide)) (by decide)).mono ?_
      rw [ft_l3]
      rintro e u8 ⟨rfl, tt, tr⟩
      have X := Lib.hid (X.out.turnsG tt HG.out)
      have R7 := Lib.hid (R7.out.turnN tt)
      have B7 := Lib.hid (B7.out.turnN tt hne)
      have TR : Hid (TIs (4 + 2 + 2 + 2) u8 g exF) := Lib.hid tr
      clear tt tr SP
      -- 3
      go_wp2_with fail
      refine (TIs.put (by decide) (TR.out.ext (Ext.alloc' _ _)) exF_dir (strs1 _ bZ (by decide)) (show Rep 4 Any _ 1 N.zero _ from Rep.zero (by decide)) (by decide)).mono ?_
      rw [ft_l4]
      rintro e u9 ⟨rfl, tt, tr⟩
      have X := Lib.hid ((X.out.trans' (Ext.alloc' _ _)).turnsG tt HG.out)
      have R7 := Lib.hid ((R7.out.ext (Ext.alloc' _ _)).turnN tt)
      have B7 := Lib.hid ((B7.out.ext (Ext.alloc' _ _)).turnN tt hne)
      have TR : Hid (TIs (4 + 2 + 2 + 2 + 2) u9 g exF) := Lib.hid tr
      clear tt tr
      -- 4
      go_wp2_with fail
      have sp := (strs1 u9 bY (by decide))
      have sn := (strs1' u9 (.cells #[.string bY] 9) bA (by decide))
      refine (dir_any _).mono ?_
      rintro e y ⟨rfl, xx⟩
      have ee := Ext.trans' ((Ext.alloc' _ _).trans' (Ext.alloc' _ _)) xx
      have SP := Lib.hid ((sp.ext (Ext.alloc' _ _)).ext xx)
      have SN := Lib.hid (sn.ext xx)
      have X := Lib.hid (X.out.trans' ee)
      have TR := Lib.hid (TR.out.ext ee)
      have R7 := Lib.hid (R7.out.ext ee)
      have B7 := Lib.hid (B7.out.ext ee)
      clear ee xx sp sn
      go_wp2_with fail
      refine (TR.out.put (by decide) exF_dir SP.out (show Rep 4 Any _ 1 (nDir [bA] []) _ from rep_dir SN.out Kids.nil) (by decide)).mono ?_
      rw [ft_l5]
      rintro e u10 ⟨rfl, tt, tr⟩
      have X := Lib.hid (X.out.turnsG tt HG.out)
      have R7 := Lib.hid (R7.out.turnN tt)
      have B7 := Lib.hid (B7.out.turnN tt hne)
      have TR : Hid (TIs (4 + 2 + 2 + 2 + 2 + 2) u10 g exF) := Lib.hid tr
      clear tt tr SP
      -- 5
      go_wp2_with fail
      refine (TIs.del (by decide) TR.out exF_dir (Strs.nil0 (B := 16) (S := fun _ => False))).mono ?_
      rw [ft_l6]
      rintro e u11 ⟨rfl, tt, tr⟩
      have X := Lib.hid (X.out.turnsG tt HG.out)
      have R7 := Lib.hid (R7.out.turnN tt)
      have B7 := Lib.hid (B7.out.turnN tt hne)
      have TR : Hid (TIs (4 + 2 + 2 + 2 + 2 + 2 + 2) u11 g exF) := Lib.hid tr
      clear tt tr
      -- 6
      go_wp2_with fail
      refine (TIs.del (by decide) (TR.out.ext (Ext.alloc' _ _)) exF_dir (strs1 _ bQ (by decide))).mono ?_
      rw [ft_l7]
      rintro e u12 ⟨rfl, tt, tr⟩
      have X := Lib.hid ((X.out.trans' (Ext.alloc' _ _)).turnsG tt HG.out)
      have R7 := Lib.hid ((R7.out.ext (Ext.alloc' _ _)).turnN tt)
      have B7 := Lib.hid ((B7.out.ext (Ext.alloc' _ _)).turnN tt hne)
      have TR : Hid (TIs (4 + 2 + 2 + 2 + 2 + 2 + 2 + 2) u12 g exF) := Lib.hid tr
      clear tt tr
      -- 7
      go_wp2_with fail
      refine (TIs.del (by decide) (TR.out.ext (Ext.alloc' _ _)) exF_dir (strs2 _ bA bB (by decide) (by decide))).mono ?_
      rw [ft_l8]
      rintro e u13 ⟨rfl, tt, tr⟩
      have X := Lib.hid ((X.out.trans' (Ext.alloc' _ _)).turnsG tt HG.out)
      have R7 := Lib.hid ((R7.out.ext (Ext.alloc' _ _)).turnN tt)
      have B7 := Lib.hid ((B7.out.ext (Ext.alloc' _ _)).turnN tt hne)
      have TR : Hid (TIs (4 + 2 + 2 + 2 + 2 + 2 + 2 + 2 + 2) u13 g exF) := Lib.hid tr
      clear tt tr
      -- 8
      go_wp2_with fail
      refine (TIs.move (by decide) (TR.out.ext (Ext.alloc' _ _)) exF_dir (Strs.nil0 (B := 16) (S := fun _ => False)) (strs1 _ bQ (by decide)) (fun b hb => hb.elim)).mono ?_
      rw [ft_l9]
      rintro e u14 ⟨rfl, tt, tr⟩
      have X := Lib.hid ((X.out.trans' (Ext.alloc' _ _)).turnsG tt HG.out)
      have R7 := Lib.hid ((R7.out.ext (Ext.alloc' _ _)).turnN tt)
      have B7 := Lib.hid ((B7.out.ext (Ext.alloc' _ _)).turnN tt hne)
      have TR : Hid (TIs (4 + 2 + 2 + 2 + 2 + 2 + 2 + 2 + 2 + 2) u14 g exF) := Lib.hid tr
      clear tt tr
      -- 9
      go_wp2_with fail
      refine (TIs.move (by decide) (TR.out.ext ((Ext.alloc' _ _).trans' (Ext.alloc' _ _))) exF_dir ((strs1n _ bQ (by decide)).ext (Ext.alloc' _ _)) (strs1' _ _ bR (by decide)) (fun b hb => by have := TR.out.lt; omega)).mono ?_
      rw [ft_l10]
      rintro e u15 ⟨rfl, tt, tr⟩
      have X := Lib.hid ((X.out.trans' ((Ext.alloc' _ _).trans' (Ext.alloc' _ _))).turnsG tt HG.out)
      have R7 := Lib.hid ((R7.out.ext ((Ext.alloc' _ _).trans' (Ext.alloc' _ _))).turnN tt)
      have B7 := Lib.hid ((B7.out.ext ((Ext.alloc' _ _).trans' (Ext.alloc' _ _))).turnN tt hne)
      have TR : Hid (TIs (4 + 2 + 2 + 2 + 2 + 2 + 2 + 2 + 2 + 2 + 2) u15 g exF) := Lib.hid tr
      clear tt tr
      -- 10
      go_wp2_with fail
      refine (TIs.move (by decide) (TR.out.ext ((Ext.alloc' _ _).trans' (Ext.alloc' _ _))) exF_dir ((strs1n _ bA (by decide)).ext (Ext.alloc' _ _)) (strs1' _ _ bA (by decide)) (fun b hb => by have := TR.out.lt; omega)).mono ?_
      rw [ft_l11]
      rintro e u16 ⟨rfl, tt, tr⟩
      have X := Lib.hid ((X.out.trans' ((Ext.alloc' _ _).trans' (Ext.alloc' _ _))).turnsG tt HG.out)
      have R7 := Lib.hid ((R7.out.ext ((Ext.alloc' _ _).trans' (Ext.alloc' _ _))).turnN tt)
      have B7 := Lib.hid ((B7.out.ext ((Ext.alloc' _ _).trans' (Ext.alloc' _ _))).turnN tt hne)
      have TR : Hid (TIs (4 + 2 + 2 + 2 + 2 + 2 + 2 + 2 + 2 + 2 + 2 + 2) u16 g exF) := Lib.hid tr
      clear tt tr
      -- 11
      go_wp2_with fail
      refine (TIs.move (by decide) (TR.out.ext ((Ext.alloc' _ _).trans' (Ext.alloc' _ _))) exF_dir ((strs1n _ bA (by decide)).ext (Ext.alloc' _ _)) (strs1' _ _ bDot (by decide)) (fun b hb => by have := TR.out.lt; omega)).mono ?_
      rw [ft_l12]
      rintro e u17 ⟨rfl, tt, tr⟩
      have X := Lib.hid ((X.out.trans' ((Ext.alloc' _ _).trans' (Ext.alloc' _ _))).turnsG tt HG.out)
      have R7 := Lib.hid ((R7.out.ext ((Ext.alloc' _ _).trans' (Ext.alloc' _ _))).turnN tt)
      have B7 := Lib.hid ((B7.out.ext ((Ext.alloc' _ _).trans' (Ext.alloc' _ _))).turnN tt hne)
      have TR : Hid (TIs (4 + 2 + 2 + 2 + 2 + 2 + 2 + 2 + 2 + 2 + 2 + 2 + 2) u17 g exF) := Lib.hid tr
      clear tt tr
      -- 12
      go_wp2_with fail
      refine (TIs.move (by decide) (TR.out.ext ((Ext.alloc' _ _).trans' (Ext.alloc' _ _))) exF_dir ((strs2n _ bD bL (by decide) (by decide)).ext (Ext.alloc' _ _)) (strs1' _ _ bD (by decide)) (fun b hb => by have := TR.out.lt; omega)).mono ?_
      rw [ft_l13]
      rintro e u18 ⟨rfl, tt, tr⟩
      have X := Lib.hid ((X.out.trans' ((Ext.alloc' _ _).trans' (Ext.alloc' _ _))).turnsG tt HG.out)
      have R7 := Lib.hid ((R7.out.ext ((Ext.alloc' _ _).trans' (Ext.alloc' _ _))).turnN tt)
      have B7 := Lib.hid ((B7.out.ext ((Ext.alloc' _ _).trans' (Ext.alloc' _ _))).turnN tt hne)
      have TR : Hid (TIs (4 + 2 + 2 + 2 + 2 + 2 + 2 + 2 + 2 + 2 + 2 + 2 + 2 + 2) u18 g exF) := Lib.hid tr
      clear tt tr
      -- 13
      go_wp2_with fail
      refine (TIs.copy (by decide) (TR.out.ext ((Ext.alloc' _ _).trans' (Ext.alloc' _ _))) exF_dir ((strs1 _ bD (by decide)).ext (Ext.alloc' _ _)) (strs2' _ _ bD bX (by decide) (by decide))).mono ?_
      rw [ft_l14]
      rintro e u19 ⟨rfl, tt, tr⟩
      have X := Lib.hid ((X.out.trans' ((Ext.alloc' _ _).trans' (Ext.alloc' _ _))).turnsG tt HG.out)
      have R7 := Lib.hid ((R7.out.ext ((Ext.alloc' _ _).trans' (Ext.alloc' _ _))).turnN tt)
      have B7 := Lib.hid ((B7.out.ext ((Ext.alloc' _ _).trans' (Ext.alloc' _ _))).turnN tt hne)
      have TR : Hid (TIs (4 + 2 + 2 + 2 + 2 + 2 + 2 + 2 + 2 + 2 + 2 + 2 + 2 + 2 + 2) u19 g exF) := Lib.hid tr
      clear tt tr
      -- 14
      go_wp2_with fail
      refine (TIs.copy (by decide) (TR.out.ext ((Ext.alloc' _ _).trans' (Ext.alloc' _ _))) exF_dir ((strs1 _ bA (by decide)).ext (Ext.alloc' _ _)) (strs2' _ _ bA bB (by decide) (by decide))).mono ?_
      rw [ft_l15]
      rintro e u20 ⟨rfl, tt, tr⟩
      have X := Lib.hid ((X.out.trans' ((Ext.alloc' _ _).trans' (Ext.alloc' _ _))).turnsG tt HG.out)
      have R7 := Lib.hid ((R7.out.ext ((Ext.alloc' _ _).trans' (Ext.alloc' _ _))).turnN tt)
      have B7 := Lib.hid ((B7.out.ext ((Ext.alloc' _ _).trans' (Ext.alloc' _ _))).turnN tt hne)
      have TR : Hid (TIs (4 + 2 + 2 + 2 + 2 + 2 + 2 + 2 + 2 + 2 + 2 + 2 + 2 + 2 + 2 + 2) u20 g exF) := Lib.hid tr
      clear tt tr
      -- 15
      go_upto_region 31 with fail
      go_cut [257] (fun s wx => s = .bool false ∧ Ext w wx ∧ TIs (4 + 2 + 2 + 2 + 2 + 2 + 2 + 2 + 2 + 2 + 2 + 2 + 2 + 2 + 2 + 2) wx g exF)
      case first =>
        refine ft_reg31 (by decide) TR.out B7.out R7.out ?_ _ (by kernel_rfl)
        intro _ _ _ _ _ _ _ _ _ _ _ _ _ _ _ _ _ _ _ _ _ _ _ _ _ _ _ _ _ _ _ _ _ _ _ _ _ _ _ _ _ _ w' hx
        go_wp2_with fail
        go_meet
        exact ⟨rfl, X.out.trans' hx, TR.out.ext hx⟩
      case rest =>
        obtain ⟨rfl, hx, tr⟩ := hcut
        have X := Lib.hid hx
        have TR := Lib.hid tr
        clear hx tr R7 B7 hne
        go_wp2_with fail
        refine (TIs.copy (by decide) (TR.out.ext ((Ext.alloc' _ _).trans' (Ext.alloc' _ _))) exF_dir ((strs1 _ bD (by decide)).ext (Ext.alloc' _ _)) (strs1' _ _ bA (by decide))).mono ?_
        rw [ft_l16]
        rintro e u21 ⟨rfl, tt, tr⟩
        have X := Lib.hid ((X.out.trans' ((Ext.alloc' _ _).trans' (Ext.alloc' _ _))).turnsG tt HG.out)
        have TR : Hid (TIs (4 + 2 + 2 + 2 + 2 + 2 + 2 + 2 + 2 + 2 + 2 + 2 + 2 + 2 + 2 + 2 + 2) u21 g ft16) := Lib.hid tr
        clear tt tr
        -- 16
        go_wp2_with fail
        have sp := (strs2 u21 bA bL (by decide) (by decide))
        refine (file_any _ _).mono ?_
        rintro e y ⟨rfl, xx⟩
        have ee := Ext.trans' (Ext.alloc' _ _) xx
        have SP := Lib.hid (sp.ext xx)
        have X := Lib.hid (X.out.trans' ee)
        have TR := Lib.hid (TR.out.ext ee)
        clear ee xx sp
        go_wp2_with fail
        refine (TR.out.put (by decide) ft_d16 SP.out (show Rep 4 Any _ 1 (nFile bN) _ from rep_file (by decide)) (by decide)).mono ?_
        rw [ft_l17]
        rintro e u22 ⟨rfl, tt, tr⟩
        have X := Lib.hid (X.out.turnsG tt HG.out)
        have TR : Hid (TIs (4 + 2 + 2 + 2 + 2 + 2 + 2 + 2 + 2 + 2 + 2 + 2 + 2 + 2 + 2 + 2 + 2 + 2) u22 g ft17) := Lib.hid tr
        clear tt tr SP
        -- 17
        go_wp2_with fail
        refine ((TR.out.ext (Ext.alloc' _ _)).kind (by decide) ft_d17 (strs2 _ bD bL (by decide) (by decide))).mono ?_
        rw [ft_a1]
        rintro e u23 ⟨rfl, xx⟩
        have X := Lib.hid (X.out.trans' ((Ext.alloc' _ _).trans' xx))
        have TR := Lib.hid (TR.out.ext ((Ext.alloc' _ _).trans' xx))
        clear xx
        go_wp2_with fail
        refine ((TR.out.ext (Ext.alloc' _ _)).kind (by decide) ft_d17 (strs2 _ bA bL (by decide) (by decide))).mono ?_
        rw [ft_a2]
        rintro e u24 ⟨rfl, xx⟩
        have X := Lib.hid (X.out.trans' ((Ext.alloc' _ _).trans' xx))
        have TR := Lib.hid (TR.out.ext ((Ext.alloc' _ _).trans' xx))
        clear xx
        go_wp2_with fail
        refine (TIs.del (by decide) (TR.out.ext (Ext.alloc' _ _)) ft_d17 (strs2 _ bA bL (by decide) (by decide))).mono ?_
        rw [ft_l18]
        rintro e u25 ⟨rfl, tt, tr⟩
        have X := Lib.hid ((X.out.trans' (Ext.alloc' _ _)).turnsG tt HG.out)
        have TR : Hid (TIs (4 + 2 + 2 + 2 + 2 + 2 + 2 + 2 + 2 + 2 + 2 + 2 + 2 + 2 + 2 + 2 + 2 + 2 + 2) u25 g ft18) := Lib.hid tr
        clear tt tr
        -- 18
        go_wp2_with fail
        have sp := (strs2 u25 bD bK (by decide) (by decide))
        obtain ⟨tw, htw⟩ : ∃ tw, towerN 30 = tw := ⟨_, rfl⟩
        have HTW := Lib.hid htw
        refine (tower_any 30 (by decide) _).mono ?_
        rw [htw]
        clear htw
        rintro e y ⟨A8, c8, A8', c8', rfl, xx, rn⟩
        have ee := Ext.trans' (Ext.alloc' _ _) xx
        have SP := Lib.hid (sp.ext xx)
        have RN := Lib.hid rn
        have X := Lib.hid (X.out.trans' ee)
        have TR := Lib.hid (TR.out.ext ee)
        clear ee xx sp rn
        go_wp2_with fail
        refine (TR.out.put (by decide) ft_d18 SP.out RN.out (by decide)).mono ?_
        rw [ft_l19' HTW.out]
        rintro e u26 ⟨rfl, tt, tr⟩
        have X := Lib.hid (X.out.turnsG tt HG.out)
        have TR : Hid (TIs (4 + 2 + 2 + 2 + 2 + 2 + 2 + 2 + 2 + 2 + 2 + 2 + 2 + 2 + 2 + 2 + 2 + 2 + 2 + 2) u26 g ft19) := Lib.hid tr
        clear tt tr SP
        -- 19
        go_wp2_with fail
        refine ((TR.out.ext (Ext.alloc' _ _)).empty (by decide) ft_d19 (strs1 _ bA (by decide))).mono ?_
        rw [ft_a3]
        rintro e u27 ⟨rfl, xx⟩
        have X := Lib.hid (X.out.trans' ((Ext.alloc' _ _).trans' xx))
        have TR := Lib.hid (TR.out.ext ((Ext.alloc' _ _).trans' xx))
        clear xx
        go_wp2_with fail
        refine ((TR.out.ext (Ext.alloc' _ _)).kind (by decide) ft_d19 (strs2 _ bD bL (by decide) (by decide))).mono ?_
        rw [ft_a4]
        rintro e u28 ⟨rfl, xx⟩
        have X := Lib.hid (X.out.trans' ((Ext.alloc' _ _).trans' xx))
        have TR := Lib.hid (TR.out.ext ((Ext.alloc' _ _).trans' xx))
        clear xx
        go_wp2_with fail
        refine ((TR.out.ext (Ext.alloc' _ _)).kind (by decide) ft_d19 (strs3 _ bD bK bA (by decide) (by decide) (by decide))).mono ?_
        rw [ft_a5]
        rintro e u29 ⟨rfl, xx⟩
        have X := Lib.hid (X.out.trans' ((Ext.alloc' _ _).trans' xx))
        have TR := Lib.hid (TR.out.ext ((Ext.alloc' _ _).trans' xx))
        clear xx
        go_wp2_with fail
        have sp := (strs1 u29 bA (by decide))
        refine (file_any _ _).mono ?_
        rintro e y ⟨rfl, xx⟩
        have SP := Lib.hid (sp.ext xx)
        have X := Lib.hid (X.out.trans' ((Ext.alloc' _ _).trans' xx))
        clear sp xx
        go_wp2_with fail
        refine (tput_nil (Bx := 4) (by decide) SP.out (show Rep 4 Any _ 1 (nFile bN) _ from rep_file (by decide)) (by decide +kernel)).mono ?_
        rintro e u30 ⟨rfl, xx⟩
        have X := Lib.hid (X.out.trans' xx)
        clear xx
        go_wp2_with fail
        refine (tdel_nil _ _ _ _).mono ?_
        rintro e u31 ⟨rfl, xx⟩
        have X := Lib.hid (X.out.trans' ((Ext.alloc' _ _).trans' xx))
        clear xx
        go_wp2_with fail
        refine (tmove_nil _ _ _ _ _ _ _).mono ?_
        rintro e u32 ⟨rfl, xx⟩
        have X := Lib.hid (X.out.trans' (((Ext.alloc' _ _).trans' (Ext.alloc' _ _)).trans' xx))
        clear xx
        go_wp2_with fail
        refine (tcopy_nil _ _ _ _ _ _ _).mono ?_
        rintro e u33 ⟨rfl, xx⟩
        have X := Lib.hid (X.out.trans' (((Ext.alloc' _ _).trans' (Ext.alloc' _ _)).trans' xx))
        clear xx
        go_wp2_with fail
        refine (tclone_nil _).mono ?_
        rintro e u34 ⟨rfl, xx⟩
        have X := Lib.hid (X.out.trans' xx)
        clear xx
        go_wp2_with fail
        refine (tkind_nil _ _ _ _).mono ?_
        rintro e u35 ⟨rfl, xx⟩
        have X := Lib.hid (X.out.trans' xx)
        clear xx
        go_wp2_with fail
        refine (ttext_nil _ _ _ _).mono ?_
        rintro e u36 ⟨rfl, xx⟩
        have X := Lib.hid (X.out.trans' xx)
        clear xx
        go_wp2_with fail
        refine (tempty_nil _ _ _ _).mono ?_
        rintro e u37 ⟨rfl, xx⟩
        have X := Lib.hid (X.out.trans' xx)
        clear xx
        go_wp2_with fail
        refine (troot_nil _).mono ?_
        rintro e u38 ⟨rfl, xx⟩
        have X := Lib.hid (X.out.trans' xx)
        clear xx
        go_wp2_with fail
        refine (dir_any _).mono ?_
        rintro e u39 ⟨rfl, xx⟩
        have X := Lib.hid (X.out.trans' xx)
        clear xx
        go_wp2_with fail
        refine (same7_any 4 4 Any Any 1 1 (nDir [] []) (nDir [] []) _ _ _ (Rep.leaf (by decide)) (Rep.leaf (by decide))).mono ?_
        rw [N.same_refl]
        rintro e uz ⟨rfl, xx⟩
        have X := Lib.hid (X.out.trans' xx)
        clear xx
        go_wp2_with fail
        go_ret
        exact ⟨rfl, X.out⟩
end Go.Proofs.Ytocndkhgopjhhaa
