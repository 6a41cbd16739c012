/- touchstoneref07's Put, Del, Copy, Move: what they compute. -/
import Derived.Test.YtocndkhgopjhhaaProg
import Derived.Test.YtocndkhgopjhhaaRef7
namespace Go.Proofs.Ytocndkhgopjhhaa
open Go.RowKit

theorem rOpen_ne {t : N} {p : List ByteArray} (h : rOpen t p = true) : p ≠ [] := fun e => by subst e; cases h

set_option maxRecDepth 100000 in
set_option maxHeartbeats 2000000 in
theorem rput_any {B Bp Bx : Nat} {S Sp Sx : Nat → Prop} {w : World} {t x : N} {v xv pv : Value} {p : List ByteArray} (hB : B + 1 ≤ 2199023255552) (hS : ∀ b, S b → b < w.heap.size) (hw : t.well = true) (ht : NIs B S w t v) (hx : NIs Bx Sx w x xv) (hxn : x.well = true → NIs B S w x xv) (hp : Strs Bp Sp w pv p) :
    Calls Try.prog 54 #[v, pv, xv] w (RPost (B + 1) S (rPut t p x) w) := by
  have HT := Lib.hid ht
  have HX := Lib.hid hx
  have HXN := Lib.hid hxn
  have HS := Lib.hid hS
  have HP := Lib.hid hp
  obtain ⟨A0, c0, A0', c0', rfl⟩ := ht.agg
  obtain ⟨A1, c1, A1', c1', rfl⟩ := hx.agg
  obtain ⟨Ap, cp, rfl, _⟩ := hp
  clear ht hx hxn hS
  have X := Lib.hid (show Ext w (((w.alloc (.cells #[.int .u8 t.kind, .string t.text, .slice A0 t.names.length c0, .slice A0' t.kids.length c0'] 25)).alloc (.cells #[.int .u8 x.kind, .string x.text, .slice A1 x.names.length c1, .slice A1' x.kids.length c1'] 25)).alloc (.cells #[.int .u8 0, .string { data := #[] }, .slice none 0 0, .slice none 0 0] 25)) from (((Ext.alloc' _ _).trans' (Ext.alloc' _ _)).trans' (Ext.alloc' _ _)))
  have B0 := Lib.hid (show Blk (((w.alloc (.cells #[.int .u8 t.kind, .string t.text, .slice A0 t.names.length c0, .slice A0' t.kids.length c0'] 25)).alloc (.cells #[.int .u8 x.kind, .string x.text, .slice A1 x.names.length c1, .slice A1' x.kids.length c1'] 25)).alloc (.cells #[.int .u8 0, .string { data := #[] }, .slice none 0 0, .slice none 0 0] 25)) (w.heap.size) 25 #[.int .u8 t.kind, .string t.text, .slice A0 t.names.length c0, .slice A0' t.kids.length c0'] from (((Blk.new _ _ _).alloc _).alloc _))
  have B1 := Lib.hid (show Blk (((w.alloc (.cells #[.int .u8 t.kind, .string t.text, .slice A0 t.names.length c0, .slice A0' t.kids.length c0'] 25)).alloc (.cells #[.int .u8 x.kind, .string x.text, .slice A1 x.names.length c1, .slice A1' x.kids.length c1'] 25)).alloc (.cells #[.int .u8 0, .string { data := #[] }, .slice none 0 0, .slice none 0 0] 25)) (w.heap.size + 1) 25 #[.int .u8 x.kind, .string x.text, .slice A1 x.names.length c1, .slice A1' x.kids.length c1'] from ((Blk.new' _ _ _ (by simp)).alloc _))
  have B2 := Lib.hid (show Blk (((w.alloc (.cells #[.int .u8 t.kind, .string t.text, .slice A0 t.names.length c0, .slice A0' t.kids.length c0'] 25)).alloc (.cells #[.int .u8 x.kind, .string x.text, .slice A1 x.names.length c1, .slice A1' x.kids.length c1'] 25)).alloc (.cells #[.int .u8 0, .string { data := #[] }, .slice none 0 0, .slice none 0 0] 25)) (w.heap.size + 2) 25 #[.int .u8 0, .string { data := #[] }, .slice none 0 0, .slice none 0 0] from (Blk.new' _ _ _ (by simp)))
  obtain ⟨p0, p1, p2, p3, _⟩ := B0.out.cells4
  obtain ⟨q0, q1, q2, q3, _⟩ := B1.out.cells4
  obtain ⟨dx, hxr⟩ := HX.out
  have HXR := Lib.hid hxr
  clear hxr
  cases hwl : x.well
  · have e : rPut t p x = t := by unfold rPut; rw [if_pos hwl]
    rw [e]
    have HWL := Lib.hid hwl
    clear hwl p0 p1 p2 p3 q0 q1 q2 q3
    go_enter Try.func54, Try.ntmps54
    go_wp2_with (go_at_call 16; refine (well7_any _ _ _ _ _ _ (HXR.out.ext X.out)).mono ?_; rw [HWL.out]; rintro e w1 ⟨rfl, x1⟩; have X := Lib.hid (X.out.trans' x1); have B0 := Lib.hid (B0.out.ext x1); have B1 := Lib.hid (B1.out.ext x1); have B2 := Lib.hid (B2.out.ext x1); obtain ⟨p0, p1, p2, p3, _⟩ := B0.out.cells4; obtain ⟨y0, y1, y2, y3, f0, f1, f2, f3⟩ := B2.out.cells4; have pl := B0.out.lt; have yl := B2.out.lt; clear x1)
    refine bodyPost_ret (results_cell rfl _ _ _ _ _ _ _ rfl (B2.out.set4 _ _ _ _)) rfl ?_
    exact (fin_same HT.out X.out (by omega)).wideB (by omega)
  · have HWL := Lib.hid hwl
    cases ho : rOpen t p
    · have e : rPut t p x = t := by unfold rPut; rw [if_neg (by rw [hwl]; simp), if_pos ho]
      rw [e]
      have HO := Lib.hid ho
      obtain ⟨dt, htr⟩ := HT.out
      have HTR := Lib.hid htr
      clear hwl ho htr p0 p1 p2 p3 q0 q1 q2 q3
      go_enter Try.func54, Try.ntmps54
      go_wp2_with (first
        | (go_at_call 16; refine (well7_any _ _ _ _ _ _ (HXR.out.ext X.out)).mono ?_; rw [HWL.out]; rintro e w1 ⟨rfl, x1⟩; have X := Lib.hid (X.out.trans' x1); have B0 := Lib.hid (B0.out.ext x1); have B1 := Lib.hid (B1.out.ext x1); have B2 := Lib.hid (B2.out.ext x1); obtain ⟨p0, p1, p2, p3, _⟩ := B0.out.cells4; have pl := B0.out.lt; clear x1)
        | (go_at_call 109; refine (open7_any (HTR.out.ext X.out) (HP.out.ext X.out)).mono ?_; rw [HO.out]; rintro e w1 ⟨rfl, x1⟩; have X := Lib.hid (X.out.trans' x1); have B0 := Lib.hid (B0.out.ext x1); have B1 := Lib.hid (B1.out.ext x1); have B2 := Lib.hid (B2.out.ext x1); obtain ⟨p0, p1, p2, p3, _⟩ := B0.out.cells4; obtain ⟨y0, y1, y2, y3, f0, f1, f2, f3⟩ := B2.out.cells4; have pl := B0.out.lt; have yl := B2.out.lt; clear x1))
      refine bodyPost_ret (results_cell rfl _ _ _ _ _ _ _ rfl (B2.out.set4 _ _ _ _)) rfl ?_
      exact (fin_same HT.out X.out (by omega)).wideB (by omega)
    · have e : rPut t p x = withN t p x := by unfold rPut; rw [if_neg (by rw [hwl]; simp), if_neg (by rw [ho]; simp)]
      rw [e]
      have HO := Lib.hid ho
      have HPN := Lib.hid (rOpen_ne ho)
      obtain ⟨dt, htr⟩ := HT.out
      have HTR := Lib.hid htr
      obtain ⟨dy, hyr⟩ := HXN.out hwl
      have HYR := Lib.hid hyr
      have HW := Lib.hid hw
      clear hwl ho htr hyr p0 p1 p2 p3 q0 q1 q2 q3
      go_enter Try.func54, Try.ntmps54
      go_wp2_with (first
        | (go_at_call 16; refine (well7_any _ _ _ _ _ _ (HXR.out.ext X.out)).mono ?_; rw [HWL.out]; rintro e w1 ⟨rfl, x1⟩; have X := Lib.hid (X.out.trans' x1); have B0 := Lib.hid (B0.out.ext x1); have B1 := Lib.hid (B1.out.ext x1); have B2 := Lib.hid (B2.out.ext x1); obtain ⟨p0, p1, p2, p3, _⟩ := B0.out.cells4; have pl := B0.out.lt; clear x1)
        | (go_at_call 109; refine (open7_any (HTR.out.ext X.out) (HP.out.ext X.out)).mono ?_; rw [HO.out]; rintro e w1 ⟨rfl, x1⟩; have X := Lib.hid (X.out.trans' x1); have B0 := Lib.hid (B0.out.ext x1); have B1 := Lib.hid (B1.out.ext x1); have B2 := Lib.hid (B2.out.ext x1); obtain ⟨p0, p1, p2, p3, _⟩ := B0.out.cells4; obtain ⟨q0, q1, q2, q3, _⟩ := B1.out.cells4; have pl := B0.out.lt; have ql := B1.out.lt; have yl := B2.out.lt; clear x1)
        | (go_at_call 110; refine (with_ris hB X.out HS.out HW.out (HTR.out.ext X.out) (HYR.out.ext X.out) HPN.out (HP.out.ext X.out)).mono ?_; rintro e w5 ⟨A5, c5, A5', c5', rfl, x5, r5⟩; have R5 := Lib.hid r5; have X5 := Lib.hid x5; have B2 := Lib.hid (B2.out.ext x5); obtain ⟨y0, y1, y2, y3, f0, f1, f2, f3⟩ := B2.out.cells4; have yl5 := B2.out.lt; clear x5 r5))
      refine bodyPost_ret (results_cell rfl _ _ _ _ _ _ _ rfl (B2.out.set4 _ _ _ _)) rfl ?_
      exact fin_with (g := w.heap.size + 2) X.out X5.out (by omega) (by omega) (fun b hb => by have := HS.out b hb; exact ⟨by omega, .inl hb⟩) R5.out

set_option maxRecDepth 100000 in
set_option maxHeartbeats 400000 in
theorem rdel_1 {B Bp : Nat} {S Sp : Nat → Prop} {w : World} {t : N} {v pv : Value} {p : List ByteArray} (hw : t.well = true) (ht : NIs B S w t v) (hp : Strs Bp Sp w pv p) (hg : (t.get p).isSome = false) :
    Calls Try.prog 55 #[v, pv] w (RPost (B + 1) S t w) := by
  have HT := Lib.hid ht
  have HP := Lib.hid hp
  obtain ⟨A0, c0, A0', c0', rfl⟩ := ht.agg
  obtain ⟨Ap, cp, rfl, _, hcm, _⟩ := hp
  unfold maxLen at hcm
  obtain ⟨dt, htr⟩ := ht
  have HTR := Lib.hid htr
  have HW := Lib.hid hw
  have HG := Lib.hid hg
  clear htr hw hg
  have X := Lib.hid (show Ext w ((w.alloc (.cells #[.int .u8 t.kind, .string t.text, .slice A0 t.names.length c0, .slice A0' t.kids.length c0'] 25)).alloc (.cells #[.int .u8 0, .string { data := #[] }, .slice none 0 0, .slice none 0 0] 25)) from ((Ext.alloc' _ _).trans' (Ext.alloc' _ _)))
  have B0 := Lib.hid (show Blk ((w.alloc (.cells #[.int .u8 t.kind, .string t.text, .slice A0 t.names.length c0, .slice A0' t.kids.length c0'] 25)).alloc (.cells #[.int .u8 0, .string { data := #[] }, .slice none 0 0, .slice none 0 0] 25)) (w.heap.size) 25 #[.int .u8 t.kind, .string t.text, .slice A0 t.names.length c0, .slice A0' t.kids.length c0'] from ((Blk.new _ _ _).alloc _))
  have B1 := Lib.hid (show Blk ((w.alloc (.cells #[.int .u8 t.kind, .string t.text, .slice A0 t.names.length c0, .slice A0' t.kids.length c0'] 25)).alloc (.cells #[.int .u8 0, .string { data := #[] }, .slice none 0 0, .slice none 0 0] 25)) (w.heap.size + 1) 25 #[.int .u8 0, .string { data := #[] }, .slice none 0 0, .slice none 0 0] from (Blk.new' _ _ _ (by simp)))
  go_enter Try.func55, Try.ntmps55
  go_wp2_with fail
  refine (at7_any _ _ _ _ _ _ _ _ p _ (HTR.out.ext X.out) (HP.out.ext X.out)).mono ?_
  rintro e w1 ⟨vg, rfl, x1, r1⟩
  obtain ⟨A2, c2, A2', c2', rfl⟩ := r1.agg
  have X := Lib.hid (X.out.trans' x1)
  have B0 := Lib.hid (B0.out.ext x1)
  have B1 := Lib.hid (B1.out.ext x1)
  have R1 := Lib.hid r1
  clear x1 r1
  rw [HG.out]
  have Xa := Lib.hid (X.out.trans' (Ext.alloc' w1 (.cells #[.int .u8 ((t.get p).getD N.zero).kind, .string ((t.get p).getD N.zero).text, .slice A2 ((t.get p).getD N.zero).names.length c2, .slice A2' ((t.get p).getD N.zero).kids.length c2'] 25)))
  have B0a := Lib.hid (B0.out.alloc (.cells #[.int .u8 ((t.get p).getD N.zero).kind, .string ((t.get p).getD N.zero).text, .slice A2 ((t.get p).getD N.zero).names.length c2, .slice A2' ((t.get p).getD N.zero).kids.length c2'] 25))
  have B1a := Lib.hid (B1.out.alloc (.cells #[.int .u8 ((t.get p).getD N.zero).kind, .string ((t.get p).getD N.zero).text, .slice A2 ((t.get p).getD N.zero).names.length c2, .slice A2' ((t.get p).getD N.zero).kids.length c2'] 25))
  obtain ⟨p0, p1, p2, p3, _⟩ := B0.out.cells4
  obtain ⟨y0, y1, y2, y3, f0, f1, f2, f3⟩ := B1.out.cells4
  have pl := B0.out.lt
  have yl := B1.out.lt
  go_wp2_with fail
  refine bodyPost_ret (results_cell rfl _ _ _ _ _ _ _ rfl ((B1.out.set4 _ _ _ _).alloc (.cells #[.int .u8 ((t.get p).getD N.zero).kind, .string ((t.get p).getD N.zero).text, .slice A2 ((t.get p).getD N.zero).names.length c2, .slice A2' ((t.get p).getD N.zero).kids.length c2'] 25))) rfl ?_
  exact RPost.wideB (B := B) (fin_ext HT.out ((X.out.set4 (g := w.heap.size + 1) (by omega) _ _ _ _).trans' (Ext.alloc' _ _))) (by omega)

set_option maxRecDepth 100000 in
set_option maxHeartbeats 400000 in
theorem rdel_2 {B Bp : Nat} {S Sp : Nat → Prop} {w : World} {t : N} {v pv : Value} (hw : t.well = true) (ht : NIs B S w t v) (hp : Strs Bp Sp w pv []) (hg : (t.get []).isSome = true) :
    Calls Try.prog 55 #[v, pv] w (RPost (B + 1) S t w) := by
  have HT := Lib.hid ht
  have HP := Lib.hid hp
  obtain ⟨A0, c0, A0', c0', rfl⟩ := ht.agg
  obtain ⟨Ap, cp, rfl, _, hcm, _⟩ := hp
  unfold maxLen at hcm
  obtain ⟨dt, htr⟩ := ht
  have HTR := Lib.hid htr
  have HW := Lib.hid hw
  have HG := Lib.hid hg
  clear htr hw hg
  have X := Lib.hid (show Ext w ((w.alloc (.cells #[.int .u8 t.kind, .string t.text, .slice A0 t.names.length c0, .slice A0' t.kids.length c0'] 25)).alloc (.cells #[.int .u8 0, .string { data := #[] }, .slice none 0 0, .slice none 0 0] 25)) from ((Ext.alloc' _ _).trans' (Ext.alloc' _ _)))
  have B0 := Lib.hid (show Blk ((w.alloc (.cells #[.int .u8 t.kind, .string t.text, .slice A0 t.names.length c0, .slice A0' t.kids.length c0'] 25)).alloc (.cells #[.int .u8 0, .string { data := #[] }, .slice none 0 0, .slice none 0 0] 25)) (w.heap.size) 25 #[.int .u8 t.kind, .string t.text, .slice A0 t.names.length c0, .slice A0' t.kids.length c0'] from ((Blk.new _ _ _).alloc _))
  have B1 := Lib.hid (show Blk ((w.alloc (.cells #[.int .u8 t.kind, .string t.text, .slice A0 t.names.length c0, .slice A0' t.kids.length c0'] 25)).alloc (.cells #[.int .u8 0, .string { data := #[] }, .slice none 0 0, .slice none 0 0] 25)) (w.heap.size + 1) 25 #[.int .u8 0, .string { data := #[] }, .slice none 0 0, .slice none 0 0] from (Blk.new' _ _ _ (by simp)))
  go_enter Try.func55, Try.ntmps55
  go_wp2_with fail
  refine (at7_any _ _ _ _ _ _ _ _ [] _ (HTR.out.ext X.out) (HP.out.ext X.out)).mono ?_
  rintro e w1 ⟨vg, rfl, x1, r1⟩
  obtain ⟨A2, c2, A2', c2', rfl⟩ := r1.agg
  have X := Lib.hid (X.out.trans' x1)
  have B0 := Lib.hid (B0.out.ext x1)
  have B1 := Lib.hid (B1.out.ext x1)
  have R1 := Lib.hid r1
  clear x1 r1
  rw [HG.out]
  have Xa := Lib.hid (X.out.trans' (Ext.alloc' w1 (.cells #[.int .u8 ((t.get []).getD N.zero).kind, .string ((t.get []).getD N.zero).text, .slice A2 ((t.get []).getD N.zero).names.length c2, .slice A2' ((t.get []).getD N.zero).kids.length c2'] 25)))
  have B0a := Lib.hid (B0.out.alloc (.cells #[.int .u8 ((t.get []).getD N.zero).kind, .string ((t.get []).getD N.zero).text, .slice A2 ((t.get []).getD N.zero).names.length c2, .slice A2' ((t.get []).getD N.zero).kids.length c2'] 25))
  have B1a := Lib.hid (B1.out.alloc (.cells #[.int .u8 ((t.get []).getD N.zero).kind, .string ((t.get []).getD N.zero).text, .slice A2 ((t.get []).getD N.zero).names.length c2, .slice A2' ((t.get []).getD N.zero).kids.length c2'] 25))
  obtain ⟨p0, p1, p2, p3, _⟩ := B0.out.cells4
  obtain ⟨y0, y1, y2, y3, f0, f1, f2, f3⟩ := B1.out.cells4
  have pl := B0.out.lt
  have yl := B1.out.lt
  go_wp2_with fail
  refine bodyPost_ret (results_cell rfl _ _ _ _ _ _ _ rfl ((B1.out.set4 _ _ _ _).alloc (.cells #[.int .u8 ((t.get []).getD N.zero).kind, .string ((t.get []).getD N.zero).text, .slice A2 ((t.get []).getD N.zero).names.length c2, .slice A2' ((t.get []).getD N.zero).kids.length c2'] 25))) rfl ?_
  exact RPost.wideB (B := B) (fin_ext HT.out ((X.out.set4 (g := w.heap.size + 1) (by omega) _ _ _ _).trans' (Ext.alloc' _ _))) (by omega)

set_option maxRecDepth 100000 in
set_option maxHeartbeats 400000 in
theorem rdel_3 {B Bp : Nat} {S Sp : Nat → Prop} {w : World} {t : N} {v pv : Value} {s : ByteArray} {r : List ByteArray} (hB : B + 1 ≤ 2199023255552) (hS : ∀ b, S b → b < w.heap.size) (hw : t.well = true) (ht : NIs B S w t v) (hp : Strs Bp Sp w pv (s :: r)) (hg : (t.get (s :: r)).isSome = true) :
    Calls Try.prog 55 #[v, pv] w (RPost (B + 1) S (withN t (s :: r) N.zero) w) := by
  have HS := Lib.hid hS
  clear hS
  have HT := Lib.hid ht
  have HP := Lib.hid hp
  obtain ⟨A0, c0, A0', c0', rfl⟩ := ht.agg
  obtain ⟨Ap, cp, rfl, _, hcm, _⟩ := hp
  unfold maxLen at hcm
  obtain ⟨dt, htr⟩ := ht
  have HTR := Lib.hid htr
  have HW := Lib.hid hw
  have HG := Lib.hid hg
  clear htr hw hg
  have X := Lib.hid (show Ext w ((w.alloc (.cells #[.int .u8 t.kind, .string t.text, .slice A0 t.names.length c0, .slice A0' t.kids.length c0'] 25)).alloc (.cells #[.int .u8 0, .string { data := #[] }, .slice none 0 0, .slice none 0 0] 25)) from ((Ext.alloc' _ _).trans' (Ext.alloc' _ _)))
  have B0 := Lib.hid (show Blk ((w.alloc (.cells #[.int .u8 t.kind, .string t.text, .slice A0 t.names.length c0, .slice A0' t.kids.length c0'] 25)).alloc (.cells #[.int .u8 0, .string { data := #[] }, .slice none 0 0, .slice none 0 0] 25)) (w.heap.size) 25 #[.int .u8 t.kind, .string t.text, .slice A0 t.names.length c0, .slice A0' t.kids.length c0'] from ((Blk.new _ _ _).alloc _))
  have B1 := Lib.hid (show Blk ((w.alloc (.cells #[.int .u8 t.kind, .string t.text, .slice A0 t.names.length c0, .slice A0' t.kids.length c0'] 25)).alloc (.cells #[.int .u8 0, .string { data := #[] }, .slice none 0 0, .slice none 0 0] 25)) (w.heap.size + 1) 25 #[.int .u8 0, .string { data := #[] }, .slice none 0 0, .slice none 0 0] from (Blk.new' _ _ _ (by simp)))
  go_enter Try.func55, Try.ntmps55
  go_wp2_with fail
  refine (at7_any _ _ _ _ _ _ _ _ (s :: r) _ (HTR.out.ext X.out) (HP.out.ext X.out)).mono ?_
  rintro e w1 ⟨vg, rfl, x1, r1⟩
  obtain ⟨A2, c2, A2', c2', rfl⟩ := r1.agg
  have X := Lib.hid (X.out.trans' x1)
  have B0 := Lib.hid (B0.out.ext x1)
  have B1 := Lib.hid (B1.out.ext x1)
  have R1 := Lib.hid r1
  clear x1 r1
  rw [HG.out]
  have Xa := Lib.hid (X.out.trans' (Ext.alloc' w1 (.cells #[.int .u8 ((t.get (s :: r)).getD N.zero).kind, .string ((t.get (s :: r)).getD N.zero).text, .slice A2 ((t.get (s :: r)).getD N.zero).names.length c2, .slice A2' ((t.get (s :: r)).getD N.zero).kids.length c2'] 25)))
  have B0a := Lib.hid (B0.out.alloc (.cells #[.int .u8 ((t.get (s :: r)).getD N.zero).kind, .string ((t.get (s :: r)).getD N.zero).text, .slice A2 ((t.get (s :: r)).getD N.zero).names.length c2, .slice A2' ((t.get (s :: r)).getD N.zero).kids.length c2'] 25))
  have B1a := Lib.hid (B1.out.alloc (.cells #[.int .u8 ((t.get (s :: r)).getD N.zero).kind, .string ((t.get (s :: r)).getD N.zero).text, .slice A2 ((t.get (s :: r)).getD N.zero).names.length c2, .slice A2' ((t.get (s :: r)).getD N.zero).kids.length c2'] 25))
  obtain ⟨p0, p1, p2, p3, _⟩ := B0.out.cells4
  obtain ⟨y0, y1, y2, y3, f0, f1, f2, f3⟩ := B1.out.cells4
  have pl := B0.out.lt
  have yl := B1.out.lt
  clear p0 p1 p2 p3 y0 y1 y2 y3 f0 f1 f2 f3 pl yl
  obtain ⟨p0, p1, p2, p3, _⟩ := B0.out.cells4
  have pl := B0.out.lt
  have yl := B1.out.lt
  go_wp2_with fail
  refine (with_ris (dx := 0) (x := N.zero) hB Xa.out HS.out HW.out (HTR.out.ext Xa.out) (Rep.zero (by decide)) (List.cons_ne_nil _ _) (HP.out.ext Xa.out)).mono ?_
  rintro e w5 ⟨A5, c5, A5', c5', rfl, x5, r5⟩
  have R5 := Lib.hid r5
  have X5 := Lib.hid x5
  have B1 := Lib.hid (B1a.out.ext x5)
  clear x5 r5 p0 p1 p2 p3
  obtain ⟨y0, y1, y2, y3, f0, f1, f2, f3⟩ := B1.out.cells4
  have yl5 := B1.out.lt
  go_wp2_with fail
  refine bodyPost_ret (results_cell rfl _ _ _ _ _ _ _ rfl (B1.out.set4 _ _ _ _)) rfl ?_
  exact fin_with (g := w.heap.size + 1) Xa.out X5.out (by omega) (by simp; omega) (fun b hb => by have := HS.out b hb; exact ⟨by omega, .inl hb⟩) R5.out
theorem rdel_any {B Bp : Nat} {S Sp : Nat → Prop} {w : World} {t : N} {v pv : Value} {p : List ByteArray} (hB : B + 1 ≤ 2199023255552) (hS : ∀ b, S b → b < w.heap.size) (hw : t.well = true) (ht : NIs B S w t v) (hp : Strs Bp Sp w pv p) : Calls Try.prog 55 #[v, pv] w (RPost (B + 1) S (rDel t p) w) := by
  cases hg : (t.get p).isSome
  · rw [show rDel t p = t by unfold rDel; rw [if_pos hg]]
    exact rdel_1 hw ht hp hg
  · cases p with
    | nil =>
      rw [show rDel t [] = t by unfold rDel; rw [if_neg (by rw [hg]; simp), if_pos rfl]]
      exact rdel_2 hw ht hp hg
    | cons s r =>
      rw [show rDel t (s :: r) = withN t (s :: r) N.zero by unfold rDel; rw [if_neg (by rw [hg]; simp), if_neg (List.cons_ne_nil _ _)]]
      exact rdel_3 hB hS hw ht hp hg

set_option maxRecDepth 100000 in
set_option maxHeartbeats 400000 in
theorem rcopy_1 {B B1 B2 : Nat} {S S1 S2 : Nat → Prop} {w : World} {t : N} {v av bv : Value} {a : List ByteArray} {b : List ByteArray} (ht : NIs B S w t v) (ha : Strs B1 S1 w av a) (hb : Strs B2 S2 w bv b) (hg : (t.get a).isSome = false) :
    Calls Try.prog 57 #[v, av, bv] w (RPost (B + 1) S t w) := by
  have HT := Lib.hid ht
  have HP := Lib.hid ha
  have HQ := Lib.hid hb
  obtain ⟨A0, c0, A0', c0', rfl⟩ := ht.agg
  obtain ⟨Ap, cp, rfl, _, hcm, _⟩ := ha
  obtain ⟨Aq, cq, rfl, _, hcn, _⟩ := hb
  unfold maxLen at hcm hcn
  obtain ⟨dt, htr⟩ := ht
  have HTR := Lib.hid htr
  have HG := Lib.hid hg
  clear htr hg
  have X := Lib.hid (show Ext w ((w.alloc (.cells #[.int .u8 t.kind, .string t.text, .slice A0 t.names.length c0, .slice A0' t.kids.length c0'] 25)).alloc (.cells #[.int .u8 0, .string { data := #[] }, .slice none 0 0, .slice none 0 0] 25)) from ((Ext.alloc' _ _).trans' (Ext.alloc' _ _)))
  have B0 := Lib.hid (show Blk ((w.alloc (.cells #[.int .u8 t.kind, .string t.text, .slice A0 t.names.length c0, .slice A0' t.kids.length c0'] 25)).alloc (.cells #[.int .u8 0, .string { data := #[] }, .slice none 0 0, .slice none 0 0] 25)) (w.heap.size) 25 #[.int .u8 t.kind, .string t.text, .slice A0 t.names.length c0, .slice A0' t.kids.length c0'] from ((Blk.new _ _ _).alloc _))
  have B1 := Lib.hid (show Blk ((w.alloc (.cells #[.int .u8 t.kind, .string t.text, .slice A0 t.names.length c0, .slice A0' t.kids.length c0'] 25)).alloc (.cells #[.int .u8 0, .string { data := #[] }, .slice none 0 0, .slice none 0 0] 25)) (w.heap.size + 1) 25 #[.int .u8 0, .string { data := #[] }, .slice none 0 0, .slice none 0 0] from (Blk.new' _ _ _ (by simp)))
  go_enter Try.func57, Try.ntmps57
  go_wp2_with fail
  refine (at7_any _ _ _ _ _ _ _ _ a _ (HTR.out.ext X.out) (HP.out.ext X.out)).mono ?_
  rintro e w1 ⟨vg, rfl, x1, r1⟩
  obtain ⟨A2, c2, A2', c2', rfl⟩ := r1.agg
  have X := Lib.hid (X.out.trans' x1)
  have B0 := Lib.hid (B0.out.ext x1)
  have B1 := Lib.hid (B1.out.ext x1)
  have R1 := Lib.hid r1
  clear x1 r1
  rw [HG.out]
  have Xa := Lib.hid (X.out.trans' (Ext.alloc' w1 (.cells #[.int .u8 ((t.get a).getD N.zero).kind, .string ((t.get a).getD N.zero).text, .slice A2 ((t.get a).getD N.zero).names.length c2, .slice A2' ((t.get a).getD N.zero).kids.length c2'] 25)))
  have B0a := Lib.hid (B0.out.alloc (.cells #[.int .u8 ((t.get a).getD N.zero).kind, .string ((t.get a).getD N.zero).text, .slice A2 ((t.get a).getD N.zero).names.length c2, .slice A2' ((t.get a).getD N.zero).kids.length c2'] 25))
  have B1a := Lib.hid (B1.out.alloc (.cells #[.int .u8 ((t.get a).getD N.zero).kind, .string ((t.get a).getD N.zero).text, .slice A2 ((t.get a).getD N.zero).names.length c2, .slice A2' ((t.get a).getD N.zero).kids.length c2'] 25))
  obtain ⟨p0, p1, p2, p3, _⟩ := B0.out.cells4
  obtain ⟨y0, y1, y2, y3, f0, f1, f2, f3⟩ := B1.out.cells4
  have pl := B0.out.lt
  have yl := B1.out.lt
  go_wp2_with fail
  refine bodyPost_ret (results_cell rfl _ _ _ _ _ _ _ rfl ((B1.out.set4 _ _ _ _).alloc (.cells #[.int .u8 ((t.get a).getD N.zero).kind, .string ((t.get a).getD N.zero).text, .slice A2 ((t.get a).getD N.zero).names.length c2, .slice A2' ((t.get a).getD N.zero).kids.length c2'] 25))) rfl ?_
  exact RPost.wideB (B := B) (fin_ext HT.out ((X.out.set4 (g := w.heap.size + 1) (by omega) _ _ _ _).trans' (Ext.alloc' _ _))) (by omega)

set_option maxRecDepth 100000 in
set_option maxHeartbeats 400000 in
theorem rcopy_2 {B B1 B2 : Nat} {S S1 S2 : Nat → Prop} {w : World} {t : N} {v av bv : Value}  {b : List ByteArray} (ht : NIs B S w t v) (ha : Strs B1 S1 w av []) (hb : Strs B2 S2 w bv b) (hg : (t.get []).isSome = true) :
    Calls Try.prog 57 #[v, av, bv] w (RPost (B + 1) S t w) := by
  have HT := Lib.hid ht
  have HP := Lib.hid ha
  have HQ := Lib.hid hb
  obtain ⟨A0, c0, A0', c0', rfl⟩ := ht.agg
  obtain ⟨Ap, cp, rfl, _, hcm, _⟩ := ha
  obtain ⟨Aq, cq, rfl, _, hcn, _⟩ := hb
  unfold maxLen at hcm hcn
  obtain ⟨dt, htr⟩ := ht
  have HTR := Lib.hid htr
  have HG := Lib.hid hg
  clear htr hg
  have X := Lib.hid (show Ext w ((w.alloc (.cells #[.int .u8 t.kind, .string t.text, .slice A0 t.names.length c0, .slice A0' t.kids.length c0'] 25)).alloc (.cells #[.int .u8 0, .string { data := #[] }, .slice none 0 0, .slice none 0 0] 25)) from ((Ext.alloc' _ _).trans' (Ext.alloc' _ _)))
  have B0 := Lib.hid (show Blk ((w.alloc (.cells #[.int .u8 t.kind, .string t.text, .slice A0 t.names.length c0, .slice A0' t.kids.length c0'] 25)).alloc (.cells #[.int .u8 0, .string { data := #[] }, .slice none 0 0, .slice none 0 0] 25)) (w.heap.size) 25 #[.int .u8 t.kind, .string t.text, .slice A0 t.names.length c0, .slice A0' t.kids.length c0'] from ((Blk.new _ _ _).alloc _))
  have B1 := Lib.hid (show Blk ((w.alloc (.cells #[.int .u8 t.kind, .string t.text, .slice A0 t.names.length c0, .slice A0' t.kids.length c0'] 25)).alloc (.cells #[.int .u8 0, .string { data := #[] }, .slice none 0 0, .slice none 0 0] 25)) (w.heap.size + 1) 25 #[.int .u8 0, .string { data := #[] }, .slice none 0 0, .slice none 0 0] from (Blk.new' _ _ _ (by simp)))
  go_enter Try.func57, Try.ntmps57
  go_wp2_with fail
  refine (at7_any _ _ _ _ _ _ _ _ [] _ (HTR.out.ext X.out) (HP.out.ext X.out)).mono ?_
  rintro e w1 ⟨vg, rfl, x1, r1⟩
  obtain ⟨A2, c2, A2', c2', rfl⟩ := r1.agg
  have X := Lib.hid (X.out.trans' x1)
  have B0 := Lib.hid (B0.out.ext x1)
  have B1 := Lib.hid (B1.out.ext x1)
  have R1 := Lib.hid r1
  clear x1 r1
  rw [HG.out]
  have Xa := Lib.hid (X.out.trans' (Ext.alloc' w1 (.cells #[.int .u8 ((t.get []).getD N.zero).kind, .string ((t.get []).getD N.zero).text, .slice A2 ((t.get []).getD N.zero).names.length c2, .slice A2' ((t.get []).getD N.zero).kids.length c2'] 25)))
  have B0a := Lib.hid (B0.out.alloc (.cells #[.int .u8 ((t.get []).getD N.zero).kind, .string ((t.get []).getD N.zero).text, .slice A2 ((t.get []).getD N.zero).names.length c2, .slice A2' ((t.get []).getD N.zero).kids.length c2'] 25))
  have B1a := Lib.hid (B1.out.alloc (.cells #[.int .u8 ((t.get []).getD N.zero).kind, .string ((t.get []).getD N.zero).text, .slice A2 ((t.get []).getD N.zero).names.length c2, .slice A2' ((t.get []).getD N.zero).kids.length c2'] 25))
  obtain ⟨p0, p1, p2, p3, _⟩ := B0.out.cells4
  obtain ⟨y0, y1, y2, y3, f0, f1, f2, f3⟩ := B1.out.cells4
  have pl := B0.out.lt
  have yl := B1.out.lt
  go_wp2_with fail
  refine bodyPost_ret (results_cell rfl _ _ _ _ _ _ _ rfl ((B1.out.set4 _ _ _ _).alloc (.cells #[.int .u8 ((t.get []).getD N.zero).kind, .string ((t.get []).getD N.zero).text, .slice A2 ((t.get []).getD N.zero).names.length c2, .slice A2' ((t.get []).getD N.zero).kids.length c2'] 25))) rfl ?_
  exact RPost.wideB (B := B) (fin_ext HT.out ((X.out.set4 (g := w.heap.size + 1) (by omega) _ _ _ _).trans' (Ext.alloc' _ _))) (by omega)

set_option maxRecDepth 100000 in
set_option maxHeartbeats 400000 in
theorem rcopy_3 {B B1 B2 : Nat} {S S1 S2 : Nat → Prop} {w : World} {t : N} {v av bv : Value} {s : ByteArray} {r : List ByteArray} {b : List ByteArray} (ht : NIs B S w t v) (ha : Strs B1 S1 w av (s :: r)) (hb : Strs B2 S2 w bv b) (hg : (t.get (s :: r)).isSome = true) (ho : rOpen t b = false) :
    Calls Try.prog 57 #[v, av, bv] w (RPost (B + 1) S t w) := by
  have HO := Lib.hid ho
  clear ho
  have HT := Lib.hid ht
  have HP := Lib.hid ha
  have HQ := Lib.hid hb
  obtain ⟨A0, c0, A0', c0', rfl⟩ := ht.agg
  obtain ⟨Ap, cp, rfl, _, hcm, _⟩ := ha
  obtain ⟨Aq, cq, rfl, _, hcn, _⟩ := hb
  unfold maxLen at hcm hcn
  obtain ⟨dt, htr⟩ := ht
  have HTR := Lib.hid htr
  have HG := Lib.hid hg
  clear htr hg
  have HP : Hid (Strs B1 S1 w (.slice Ap (r.length + 1) cp) (s :: r)) := Lib.hid HP.out
  have X := Lib.hid (show Ext w ((w.alloc (.cells #[.int .u8 t.kind, .string t.text, .slice A0 t.names.length c0, .slice A0' t.kids.length c0'] 25)).alloc (.cells #[.int .u8 0, .string { data := #[] }, .slice none 0 0, .slice none 0 0] 25)) from ((Ext.alloc' _ _).trans' (Ext.alloc' _ _)))
  have B0 := Lib.hid (show Blk ((w.alloc (.cells #[.int .u8 t.kind, .string t.text, .slice A0 t.names.length c0, .slice A0' t.kids.length c0'] 25)).alloc (.cells #[.int .u8 0, .string { data := #[] }, .slice none 0 0, .slice none 0 0] 25)) (w.heap.size) 25 #[.int .u8 t.kind, .string t.text, .slice A0 t.names.length c0, .slice A0' t.kids.length c0'] from ((Blk.new _ _ _).alloc _))
  have B1 := Lib.hid (show Blk ((w.alloc (.cells #[.int .u8 t.kind, .string t.text, .slice A0 t.names.length c0, .slice A0' t.kids.length c0'] 25)).alloc (.cells #[.int .u8 0, .string { data := #[] }, .slice none 0 0, .slice none 0 0] 25)) (w.heap.size + 1) 25 #[.int .u8 0, .string { data := #[] }, .slice none 0 0, .slice none 0 0] from (Blk.new' _ _ _ (by simp)))
  go_enter Try.func57, Try.ntmps57
  go_wp2_with fail
  refine (at7_any _ _ _ _ _ _ _ _ (s :: r) _ (HTR.out.ext X.out) (HP.out.ext X.out)).mono ?_
  rintro e w1 ⟨vg, rfl, x1, r1⟩
  obtain ⟨A2, c2, A2', c2', rfl⟩ := r1.agg
  have X := Lib.hid (X.out.trans' x1)
  have B0 := Lib.hid (B0.out.ext x1)
  have B1 := Lib.hid (B1.out.ext x1)
  have R1 := Lib.hid r1
  clear x1 r1
  rw [HG.out]
  have Xa := Lib.hid (X.out.trans' (Ext.alloc' w1 (.cells #[.int .u8 ((t.get (s :: r)).getD N.zero).kind, .string ((t.get (s :: r)).getD N.zero).text, .slice A2 ((t.get (s :: r)).getD N.zero).names.length c2, .slice A2' ((t.get (s :: r)).getD N.zero).kids.length c2'] 25)))
  have B0a := Lib.hid (B0.out.alloc (.cells #[.int .u8 ((t.get (s :: r)).getD N.zero).kind, .string ((t.get (s :: r)).getD N.zero).text, .slice A2 ((t.get (s :: r)).getD N.zero).names.length c2, .slice A2' ((t.get (s :: r)).getD N.zero).kids.length c2'] 25))
  have B1a := Lib.hid (B1.out.alloc (.cells #[.int .u8 ((t.get (s :: r)).getD N.zero).kind, .string ((t.get (s :: r)).getD N.zero).text, .slice A2 ((t.get (s :: r)).getD N.zero).names.length c2, .slice A2' ((t.get (s :: r)).getD N.zero).kids.length c2'] 25))
  obtain ⟨p0, p1, p2, p3, _⟩ := B0.out.cells4
  obtain ⟨y0, y1, y2, y3, f0, f1, f2, f3⟩ := B1.out.cells4
  have pl := B0.out.lt
  have yl := B1.out.lt
  have BYa := Lib.hid (Blk.new w1 25 #[.int .u8 ((t.get (s :: r)).getD N.zero).kind, .string ((t.get (s :: r)).getD N.zero).text, .slice A2 ((t.get (s :: r)).getD N.zero).names.length c2, .slice A2' ((t.get (s :: r)).getD N.zero).kids.length c2'])
  have R1a := Lib.hid (R1.out.ext (Ext.alloc' w1 (.cells #[.int .u8 ((t.get (s :: r)).getD N.zero).kind, .string ((t.get (s :: r)).getD N.zero).text, .slice A2 ((t.get (s :: r)).getD N.zero).names.length c2, .slice A2' ((t.get (s :: r)).getD N.zero).kids.length c2'] 25)))
  go_wp2_with (go_at_call 109; (with_reducible refine (open7_any (HTR.out.ext Xa.out) (HQ.out.ext Xa.out)).mono ?_); rw [HO.out]; rintro e y2 ⟨rfl, xx⟩; have Xa := Lib.hid (Xa.out.trans' xx); have B0a := Lib.hid (B0a.out.ext xx); have B1a := Lib.hid (B1a.out.ext xx); have R1a := Lib.hid (R1a.out.ext xx); have BYa := Lib.hid (BYa.out.ext xx); clear xx; obtain ⟨p0, p1, p2, p3, _⟩ := B0a.out.cells4; obtain ⟨k0, k1, k2, k3, _⟩ := BYa.out.cells4; obtain ⟨y0, y1, y2, y3, f0, f1, f2, f3⟩ := B1a.out.cells4; have pl := B0a.out.lt; have yl := B1a.out.lt; have kl := BYa.out.lt)
  refine bodyPost_ret (results_cell rfl _ _ _ _ _ _ _ rfl (B1a.out.set4 _ _ _ _)) rfl ?_
  exact RPost.wideB (B := B) (fin_ext HT.out (Xa.out.set4 (g := w.heap.size + 1) (by omega) _ _ _ _)) (by omega)

set_option maxRecDepth 100000 in
set_option maxHeartbeats 400000 in
theorem rcopy_4 {B B1 B2 : Nat} {S S1 S2 : Nat → Prop} {w : World} {t : N} {v av bv : Value} {s : ByteArray} {r : List ByteArray} {b : List ByteArray} (ht : NIs B S w t v) (ha : Strs B1 S1 w av (s :: r)) (hb : Strs B2 S2 w bv b) (hg : (t.get (s :: r)).isSome = true) (ho : rOpen t b = true) (hu : underL (s :: r) b = true) :
    Calls Try.prog 57 #[v, av, bv] w (RPost (B + 1) S t w) := by
  have HO := Lib.hid ho
  clear ho
  have HU := Lib.hid hu
  clear hu
  have HT := Lib.hid ht
  have HP := Lib.hid ha
  have HQ := Lib.hid hb
  obtain ⟨A0, c0, A0', c0', rfl⟩ := ht.agg
  obtain ⟨Ap, cp, rfl, _, hcm, _⟩ := ha
  obtain ⟨Aq, cq, rfl, _, hcn, _⟩ := hb
  unfold maxLen at hcm hcn
  obtain ⟨dt, htr⟩ := ht
  have HTR := Lib.hid htr
  have HG := Lib.hid hg
  clear htr hg
  have HP : Hid (Strs B1 S1 w (.slice Ap (r.length + 1) cp) (s :: r)) := Lib.hid HP.out
  have X := Lib.hid (show Ext w ((w.alloc (.cells #[.int .u8 t.kind, .string t.text, .slice A0 t.names.length c0, .slice A0' t.kids.length c0'] 25)).alloc (.cells #[.int .u8 0, .string { data := #[] }, .slice none 0 0, .slice none 0 0] 25)) from ((Ext.alloc' _ _).trans' (Ext.alloc' _ _)))
  have B0 := Lib.hid (show Blk ((w.alloc (.cells #[.int .u8 t.kind, .string t.text, .slice A0 t.names.length c0, .slice A0' t.kids.length c0'] 25)).alloc (.cells #[.int .u8 0, .string { data := #[] }, .slice none 0 0, .slice none 0 0] 25)) (w.heap.size) 25 #[.int .u8 t.kind, .string t.text, .slice A0 t.names.length c0, .slice A0' t.kids.length c0'] from ((Blk.new _ _ _).alloc _))
  have B1 := Lib.hid (show Blk ((w.alloc (.cells #[.int .u8 t.kind, .string t.text, .slice A0 t.names.length c0, .slice A0' t.kids.length c0'] 25)).alloc (.cells #[.int .u8 0, .string { data := #[] }, .slice none 0 0, .slice none 0 0] 25)) (w.heap.size + 1) 25 #[.int .u8 0, .string { data := #[] }, .slice none 0 0, .slice none 0 0] from (Blk.new' _ _ _ (by simp)))
  go_enter Try.func57, Try.ntmps57
  go_wp2_with fail
  refine (at7_any _ _ _ _ _ _ _ _ (s :: r) _ (HTR.out.ext X.out) (HP.out.ext X.out)).mono ?_
  rintro e w1 ⟨vg, rfl, x1, r1⟩
  obtain ⟨A2, c2, A2', c2', rfl⟩ := r1.agg
  have X := Lib.hid (X.out.trans' x1)
  have B0 := Lib.hid (B0.out.ext x1)
  have B1 := Lib.hid (B1.out.ext x1)
  have R1 := Lib.hid r1
  clear x1 r1
  rw [HG.out]
  have Xa := Lib.hid (X.out.trans' (Ext.alloc' w1 (.cells #[.int .u8 ((t.get (s :: r)).getD N.zero).kind, .string ((t.get (s :: r)).getD N.zero).text, .slice A2 ((t.get (s :: r)).getD N.zero).names.length c2, .slice A2' ((t.get (s :: r)).getD N.zero).kids.length c2'] 25)))
  have B0a := Lib.hid (B0.out.alloc (.cells #[.int .u8 ((t.get (s :: r)).getD N.zero).kind, .string ((t.get (s :: r)).getD N.zero).text, .slice A2 ((t.get (s :: r)).getD N.zero).names.length c2, .slice A2' ((t.get (s :: r)).getD N.zero).kids.length c2'] 25))
  have B1a := Lib.hid (B1.out.alloc (.cells #[.int .u8 ((t.get (s :: r)).getD N.zero).kind, .string ((t.get (s :: r)).getD N.zero).text, .slice A2 ((t.get (s :: r)).getD N.zero).names.length c2, .slice A2' ((t.get (s :: r)).getD N.zero).kids.length c2'] 25))
  obtain ⟨p0, p1, p2, p3, _⟩ := B0.out.cells4
  obtain ⟨y0, y1, y2, y3, f0, f1, f2, f3⟩ := B1.out.cells4
  have pl := B0.out.lt
  have yl := B1.out.lt
  have BYa := Lib.hid (Blk.new w1 25 #[.int .u8 ((t.get (s :: r)).getD N.zero).kind, .string ((t.get (s :: r)).getD N.zero).text, .slice A2 ((t.get (s :: r)).getD N.zero).names.length c2, .slice A2' ((t.get (s :: r)).getD N.zero).kids.length c2'])
  have R1a := Lib.hid (R1.out.ext (Ext.alloc' w1 (.cells #[.int .u8 ((t.get (s :: r)).getD N.zero).kind, .string ((t.get (s :: r)).getD N.zero).text, .slice A2 ((t.get (s :: r)).getD N.zero).names.length c2, .slice A2' ((t.get (s :: r)).getD N.zero).kids.length c2'] 25)))
  go_wp2_with (first | (go_at_call 109; (with_reducible refine (open7_any (HTR.out.ext Xa.out) (HQ.out.ext Xa.out)).mono ?_); rw [HO.out]; rintro e y2 ⟨rfl, xx⟩; have Xa := Lib.hid (Xa.out.trans' xx); have B0a := Lib.hid (B0a.out.ext xx); have B1a := Lib.hid (B1a.out.ext xx); have R1a := Lib.hid (R1a.out.ext xx); have BYa := Lib.hid (BYa.out.ext xx); clear xx; obtain ⟨p0, p1, p2, p3, _⟩ := B0a.out.cells4; obtain ⟨k0, k1, k2, k3, _⟩ := BYa.out.cells4; obtain ⟨y0, y1, y2, y3, f0, f1, f2, f3⟩ := B1a.out.cells4; have pl := B0a.out.lt; have yl := B1a.out.lt; have kl := BYa.out.lt) | (go_at_call 58; (with_reducible refine (under6_any (HP.out.ext Xa.out) (HQ.out.ext Xa.out)).mono ?_); rw [HU.out]; rintro e y3 ⟨rfl, xx⟩; have Xa := Lib.hid (Xa.out.trans' xx); have B0a := Lib.hid (B0a.out.ext xx); have B1a := Lib.hid (B1a.out.ext xx); have R1a := Lib.hid (R1a.out.ext xx); have BYa := Lib.hid (BYa.out.ext xx); clear xx; obtain ⟨p0, p1, p2, p3, _⟩ := B0a.out.cells4; obtain ⟨k0, k1, k2, k3, _⟩ := BYa.out.cells4; obtain ⟨y0, y1, y2, y3, f0, f1, f2, f3⟩ := B1a.out.cells4; have pl := B0a.out.lt; have yl := B1a.out.lt; have kl := BYa.out.lt))
  refine bodyPost_ret (results_cell rfl _ _ _ _ _ _ _ rfl (B1a.out.set4 _ _ _ _)) rfl ?_
  exact RPost.wideB (B := B) (fin_ext HT.out (Xa.out.set4 (g := w.heap.size + 1) (by omega) _ _ _ _)) (by omega)

set_option maxRecDepth 100000 in
set_option maxHeartbeats 400000 in
theorem rcopy_5 {B B1 B2 : Nat} {S S1 S2 : Nat → Prop} {w : World} {t : N} {v av bv : Value} {s : ByteArray} {r : List ByteArray} {b : List ByteArray} (ht : NIs B S w t v) (ha : Strs B1 S1 w av (s :: r)) (hb : Strs B2 S2 w bv b) (hg : (t.get (s :: r)).isSome = true) (ho : rOpen t b = true) (hu : underL (s :: r) b = false) (hv : underL b (s :: r) = true) :
    Calls Try.prog 57 #[v, av, bv] w (RPost (B + 1) S t w) := by
  have HO := Lib.hid ho
  clear ho
  have HU := Lib.hid hu
  clear hu
  have HV := Lib.hid hv
  clear hv
  have HT := Lib.hid ht
  have HP := Lib.hid ha
  have HQ := Lib.hid hb
  obtain ⟨A0, c0, A0', c0', rfl⟩ := ht.agg
  obtain ⟨Ap, cp, rfl, _, hcm, _⟩ := ha
  obtain ⟨Aq, cq, rfl, _, hcn, _⟩ := hb
  unfold maxLen at hcm hcn
  obtain ⟨dt, htr⟩ := ht
  have HTR := Lib.hid htr
  have HG := Lib.hid hg
  clear htr hg
  have HP : Hid (Strs B1 S1 w (.slice Ap (r.length + 1) cp) (s :: r)) := Lib.hid HP.out
  have X := Lib.hid (show Ext w ((w.alloc (.cells #[.int .u8 t.kind, .string t.text, .slice A0 t.names.length c0, .slice A0' t.kids.length c0'] 25)).alloc (.cells #[.int .u8 0, .string { data := #[] }, .slice none 0 0, .slice none 0 0] 25)) from ((Ext.alloc' _ _).trans' (Ext.alloc' _ _)))
  have B0 := Lib.hid (show Blk ((w.alloc (.cells #[.int .u8 t.kind, .string t.text, .slice A0 t.names.length c0, .slice A0' t.kids.length c0'] 25)).alloc (.cells #[.int .u8 0, .string { data := #[] }, .slice none 0 0, .slice none 0 0] 25)) (w.heap.size) 25 #[.int .u8 t.kind, .string t.text, .slice A0 t.names.length c0, .slice A0' t.kids.length c0'] from ((Blk.new _ _ _).alloc _))
  have B1 := Lib.hid (show Blk ((w.alloc (.cells #[.int .u8 t.kind, .string t.text, .slice A0 t.names.length c0, .slice A0' t.kids.length c0'] 25)).alloc (.cells #[.int .u8 0, .string { data := #[] }, .slice none 0 0, .slice none 0 0] 25)) (w.heap.size + 1) 25 #[.int .u8 0, .string { data := #[] }, .slice none 0 0, .slice none 0 0] from (Blk.new' _ _ _ (by simp)))
  go_enter Try.func57, Try.ntmps57
  go_wp2_with fail
  refine (at7_any _ _ _ _ _ _ _ _ (s :: r) _ (HTR.out.ext X.out) (HP.out.ext X.out)).mono ?_
  rintro e w1 ⟨vg, rfl, x1, r1⟩
  obtain ⟨A2, c2, A2', c2', rfl⟩ := r1.agg
  have X := Lib.hid (X.out.trans' x1)
  have B0 := Lib.hid (B0.out.ext x1)
  have B1 := Lib.hid (B1.out.ext x1)
  have R1 := Lib.hid r1
  clear x1 r1
  rw [HG.out]
  have Xa := Lib.hid (X.out.trans' (Ext.alloc' w1 (.cells #[.int .u8 ((t.get (s :: r)).getD N.zero).kind, .string ((t.get (s :: r)).getD N.zero).text, .slice A2 ((t.get (s :: r)).getD N.zero).names.length c2, .slice A2' ((t.get (s :: r)).getD N.zero).kids.length c2'] 25)))
  have B0a := Lib.hid (B0.out.alloc (.cells #[.int .u8 ((t.get (s :: r)).getD N.zero).kind, .string ((t.get (s :: r)).getD N.zero).text, .slice A2 ((t.get (s :: r)).getD N.zero).names.length c2, .slice A2' ((t.get (s :: r)).getD N.zero).kids.length c2'] 25))
  have B1a := Lib.hid (B1.out.alloc (.cells #[.int .u8 ((t.get (s :: r)).getD N.zero).kind, .string ((t.get (s :: r)).getD N.zero).text, .slice A2 ((t.get (s :: r)).getD N.zero).names.length c2, .slice A2' ((t.get (s :: r)).getD N.zero).kids.length c2'] 25))
  obtain ⟨p0, p1, p2, p3, _⟩ := B0.out.cells4
  obtain ⟨y0, y1, y2, y3, f0, f1, f2, f3⟩ := B1.out.cells4
  have pl := B0.out.lt
  have yl := B1.out.lt
  have BYa := Lib.hid (Blk.new w1 25 #[.int .u8 ((t.get (s :: r)).getD N.zero).kind, .string ((t.get (s :: r)).getD N.zero).text, .slice A2 ((t.get (s :: r)).getD N.zero).names.length c2, .slice A2' ((t.get (s :: r)).getD N.zero).kids.length c2'])
  have R1a := Lib.hid (R1.out.ext (Ext.alloc' w1 (.cells #[.int .u8 ((t.get (s :: r)).getD N.zero).kind, .string ((t.get (s :: r)).getD N.zero).text, .slice A2 ((t.get (s :: r)).getD N.zero).names.length c2, .slice A2' ((t.get (s :: r)).getD N.zero).kids.length c2'] 25)))
  go_wp2_with (first | (go_at_call 109; (with_reducible refine (open7_any (HTR.out.ext Xa.out) (HQ.out.ext Xa.out)).mono ?_); rw [HO.out]; rintro e y2 ⟨rfl, xx⟩; have Xa := Lib.hid (Xa.out.trans' xx); have B0a := Lib.hid (B0a.out.ext xx); have B1a := Lib.hid (B1a.out.ext xx); have R1a := Lib.hid (R1a.out.ext xx); have BYa := Lib.hid (BYa.out.ext xx); clear xx; obtain ⟨p0, p1, p2, p3, _⟩ := B0a.out.cells4; obtain ⟨k0, k1, k2, k3, _⟩ := BYa.out.cells4; obtain ⟨y0, y1, y2, y3, f0, f1, f2, f3⟩ := B1a.out.cells4; have pl := B0a.out.lt; have yl := B1a.out.lt; have kl := BYa.out.lt) | (go_at_call 58; (with_reducible refine (under6_any (HP.out.ext Xa.out) (HQ.out.ext Xa.out)).mono ?_); rw [HU.out]; rintro e y3 ⟨rfl, xx⟩; have Xa := Lib.hid (Xa.out.trans' xx); have B0a := Lib.hid (B0a.out.ext xx); have B1a := Lib.hid (B1a.out.ext xx); have R1a := Lib.hid (R1a.out.ext xx); have BYa := Lib.hid (BYa.out.ext xx); clear xx; obtain ⟨p0, p1, p2, p3, _⟩ := B0a.out.cells4; obtain ⟨k0, k1, k2, k3, _⟩ := BYa.out.cells4; obtain ⟨y0, y1, y2, y3, f0, f1, f2, f3⟩ := B1a.out.cells4; have pl := B0a.out.lt; have yl := B1a.out.lt; have kl := BYa.out.lt) | (go_at_call 58; (with_reducible refine (under6_any (HQ.out.ext Xa.out) (HP.out.ext Xa.out)).mono ?_); rw [HV.out]; rintro e y4 ⟨rfl, xx⟩; have Xa := Lib.hid (Xa.out.trans' xx); have B0a := Lib.hid (B0a.out.ext xx); have B1a := Lib.hid (B1a.out.ext xx); have R1a := Lib.hid (R1a.out.ext xx); have BYa := Lib.hid (BYa.out.ext xx); clear xx; obtain ⟨p0, p1, p2, p3, _⟩ := B0a.out.cells4; obtain ⟨k0, k1, k2, k3, _⟩ := BYa.out.cells4; obtain ⟨y0, y1, y2, y3, f0, f1, f2, f3⟩ := B1a.out.cells4; have pl := B0a.out.lt; have yl := B1a.out.lt; have kl := BYa.out.lt))
  refine bodyPost_ret (results_cell rfl _ _ _ _ _ _ _ rfl (B1a.out.set4 _ _ _ _)) rfl ?_
  exact RPost.wideB (B := B) (fin_ext HT.out (Xa.out.set4 (g := w.heap.size + 1) (by omega) _ _ _ _)) (by omega)

set_option maxRecDepth 100000 in
set_option maxHeartbeats 400000 in
theorem rcopy_6 {B B1 B2 : Nat} {S S1 S2 : Nat → Prop} {w : World} {t : N} {v av bv : Value} {s : ByteArray} {r : List ByteArray} {b : List ByteArray} (hB : B + 1 ≤ 2199023255552) (hS : ∀ b, S b → b < w.heap.size) (hw : t.well = true) (ht : NIs B S w t v) (ha : Strs B1 S1 w av (s :: r)) (hb : Strs B2 S2 w bv b) (hg : (t.get (s :: r)).isSome = true) (ho : rOpen t b = true) (hu : underL (s :: r) b = false) (hv : underL b (s :: r) = false) :
    Calls Try.prog 57 #[v, av, bv] w (RPost (B + 1) S (withN t b ((t.get (s :: r)).getD N.zero)) w) := by
  have HW := Lib.hid hw
  have HS := Lib.hid hS
  clear hw hS
  have HO := Lib.hid ho
  have HU := Lib.hid hu
  have HV := Lib.hid hv
  have HBN := Lib.hid (rOpen_ne ho)
  clear ho hu hv
  have HT := Lib.hid ht
  have HP := Lib.hid ha
  have HQ := Lib.hid hb
  obtain ⟨A0, c0, A0', c0', rfl⟩ := ht.agg
  obtain ⟨Ap, cp, rfl, _, hcm, _⟩ := ha
  obtain ⟨Aq, cq, rfl, _, hcn, _⟩ := hb
  unfold maxLen at hcm hcn
  obtain ⟨dt, htr⟩ := ht
  have HTR := Lib.hid htr
  have HG := Lib.hid hg
  clear htr hg
  have HP : Hid (Strs B1 S1 w (.slice Ap (r.length + 1) cp) (s :: r)) := Lib.hid HP.out
  have X := Lib.hid (show Ext w ((w.alloc (.cells #[.int .u8 t.kind, .string t.text, .slice A0 t.names.length c0, .slice A0' t.kids.length c0'] 25)).alloc (.cells #[.int .u8 0, .string { data := #[] }, .slice none 0 0, .slice none 0 0] 25)) from ((Ext.alloc' _ _).trans' (Ext.alloc' _ _)))
  have B0 := Lib.hid (show Blk ((w.alloc (.cells #[.int .u8 t.kind, .string t.text, .slice A0 t.names.length c0, .slice A0' t.kids.length c0'] 25)).alloc (.cells #[.int .u8 0, .string { data := #[] }, .slice none 0 0, .slice none 0 0] 25)) (w.heap.size) 25 #[.int .u8 t.kind, .string t.text, .slice A0 t.names.length c0, .slice A0' t.kids.length c0'] from ((Blk.new _ _ _).alloc _))
  have B1 := Lib.hid (show Blk ((w.alloc (.cells #[.int .u8 t.kind, .string t.text, .slice A0 t.names.length c0, .slice A0' t.kids.length c0'] 25)).alloc (.cells #[.int .u8 0, .string { data := #[] }, .slice none 0 0, .slice none 0 0] 25)) (w.heap.size + 1) 25 #[.int .u8 0, .string { data := #[] }, .slice none 0 0, .slice none 0 0] from (Blk.new' _ _ _ (by simp)))
  go_enter Try.func57, Try.ntmps57
  go_wp2_with fail
  refine (at7_any _ _ _ _ _ _ _ _ (s :: r) _ (HTR.out.ext X.out) (HP.out.ext X.out)).mono ?_
  rintro e w1 ⟨vg, rfl, x1, r1⟩
  obtain ⟨A2, c2, A2', c2', rfl⟩ := r1.agg
  have X := Lib.hid (X.out.trans' x1)
  have B0 := Lib.hid (B0.out.ext x1)
  have B1 := Lib.hid (B1.out.ext x1)
  have R1 := Lib.hid r1
  clear x1 r1
  rw [HG.out]
  have Xa := Lib.hid (X.out.trans' (Ext.alloc' w1 (.cells #[.int .u8 ((t.get (s :: r)).getD N.zero).kind, .string ((t.get (s :: r)).getD N.zero).text, .slice A2 ((t.get (s :: r)).getD N.zero).names.length c2, .slice A2' ((t.get (s :: r)).getD N.zero).kids.length c2'] 25)))
  have B0a := Lib.hid (B0.out.alloc (.cells #[.int .u8 ((t.get (s :: r)).getD N.zero).kind, .string ((t.get (s :: r)).getD N.zero).text, .slice A2 ((t.get (s :: r)).getD N.zero).names.length c2, .slice A2' ((t.get (s :: r)).getD N.zero).kids.length c2'] 25))
  have B1a := Lib.hid (B1.out.alloc (.cells #[.int .u8 ((t.get (s :: r)).getD N.zero).kind, .string ((t.get (s :: r)).getD N.zero).text, .slice A2 ((t.get (s :: r)).getD N.zero).names.length c2, .slice A2' ((t.get (s :: r)).getD N.zero).kids.length c2'] 25))
  obtain ⟨p0, p1, p2, p3, _⟩ := B0.out.cells4
  obtain ⟨y0, y1, y2, y3, f0, f1, f2, f3⟩ := B1.out.cells4
  have pl := B0.out.lt
  have yl := B1.out.lt
  have BYa := Lib.hid (Blk.new w1 25 #[.int .u8 ((t.get (s :: r)).getD N.zero).kind, .string ((t.get (s :: r)).getD N.zero).text, .slice A2 ((t.get (s :: r)).getD N.zero).names.length c2, .slice A2' ((t.get (s :: r)).getD N.zero).kids.length c2'])
  have R1a := Lib.hid (R1.out.ext (Ext.alloc' w1 (.cells #[.int .u8 ((t.get (s :: r)).getD N.zero).kind, .string ((t.get (s :: r)).getD N.zero).text, .slice A2 ((t.get (s :: r)).getD N.zero).names.length c2, .slice A2' ((t.get (s :: r)).getD N.zero).kids.length c2'] 25)))
  go_wp2_with (first | (go_at_call 109; (with_reducible refine (open7_any (HTR.out.ext Xa.out) (HQ.out.ext Xa.out)).mono ?_); rw [HO.out]; rintro e y2 ⟨rfl, xx⟩; have Xa := Lib.hid (Xa.out.trans' xx); have B0a := Lib.hid (B0a.out.ext xx); have B1a := Lib.hid (B1a.out.ext xx); have R1a := Lib.hid (R1a.out.ext xx); have BYa := Lib.hid (BYa.out.ext xx); clear xx; obtain ⟨p0, p1, p2, p3, _⟩ := B0a.out.cells4; obtain ⟨k0, k1, k2, k3, _⟩ := BYa.out.cells4; obtain ⟨y0, y1, y2, y3, f0, f1, f2, f3⟩ := B1a.out.cells4; have pl := B0a.out.lt; have yl := B1a.out.lt; have kl := BYa.out.lt) | (go_at_call 58; (with_reducible refine (under6_any (HP.out.ext Xa.out) (HQ.out.ext Xa.out)).mono ?_); rw [HU.out]; rintro e y3 ⟨rfl, xx⟩; have Xa := Lib.hid (Xa.out.trans' xx); have B0a := Lib.hid (B0a.out.ext xx); have B1a := Lib.hid (B1a.out.ext xx); have R1a := Lib.hid (R1a.out.ext xx); have BYa := Lib.hid (BYa.out.ext xx); clear xx; obtain ⟨p0, p1, p2, p3, _⟩ := B0a.out.cells4; obtain ⟨k0, k1, k2, k3, _⟩ := BYa.out.cells4; obtain ⟨y0, y1, y2, y3, f0, f1, f2, f3⟩ := B1a.out.cells4; have pl := B0a.out.lt; have yl := B1a.out.lt; have kl := BYa.out.lt) | (go_at_call 58; (with_reducible refine (under6_any (HQ.out.ext Xa.out) (HP.out.ext Xa.out)).mono ?_); rw [HV.out]; rintro e y4 ⟨rfl, xx⟩; have Xa := Lib.hid (Xa.out.trans' xx); have B0a := Lib.hid (B0a.out.ext xx); have B1a := Lib.hid (B1a.out.ext xx); have R1a := Lib.hid (R1a.out.ext xx); have BYa := Lib.hid (BYa.out.ext xx); clear xx; obtain ⟨p0, p1, p2, p3, _⟩ := B0a.out.cells4; obtain ⟨k0, k1, k2, k3, _⟩ := BYa.out.cells4; obtain ⟨y0, y1, y2, y3, f0, f1, f2, f3⟩ := B1a.out.cells4; have pl := B0a.out.lt; have yl := B1a.out.lt; have kl := BYa.out.lt) | (go_at_call 110; (with_reducible refine (with_ris hB Xa.out HS.out HW.out (HTR.out.ext Xa.out) R1a.out HBN.out (HQ.out.ext Xa.out)).mono ?_); rintro e w5 ⟨A5, c5, A5', c5', rfl, x5, r5⟩; have R5 := Lib.hid r5; have X5 := Lib.hid x5; have B1 := Lib.hid (B1a.out.ext x5); obtain ⟨y0, y1, y2, y3, f0, f1, f2, f3⟩ := B1.out.cells4; have yl5 := B1.out.lt; clear x5 r5))
  refine bodyPost_ret (results_cell rfl _ _ _ _ _ _ _ rfl (B1.out.set4 _ _ _ _)) rfl ?_
  exact fin_with (g := w.heap.size + 1) Xa.out X5.out (by omega) (by omega) (fun b hb => by have := HS.out b hb; exact ⟨by omega, .inl hb⟩) R5.out

set_option maxRecDepth 100000 in
set_option maxHeartbeats 400000 in
theorem rmove_1 {B B1 B2 : Nat} {S S1 S2 : Nat → Prop} {w : World} {t : N} {v av bv : Value} {a : List ByteArray} {b : List ByteArray} (ht : NIs B S w t v) (ha : Strs B1 S1 w av a) (hb : Strs B2 S2 w bv b) (hg : (t.get a).isSome = false) :
    Calls Try.prog 56 #[v, av, bv] w (RPost (B + 1) S t w) := by
  have HT := Lib.hid ht
  have HP := Lib.hid ha
  have HQ := Lib.hid hb
  obtain ⟨A0, c0, A0', c0', rfl⟩ := ht.agg
  obtain ⟨Ap, cp, rfl, _, hcm, _⟩ := ha
  obtain ⟨Aq, cq, rfl, _, hcn, _⟩ := hb
  unfold maxLen at hcm hcn
  obtain ⟨dt, htr⟩ := ht
  have HTR := Lib.hid htr
  have HG := Lib.hid hg
  clear htr hg
  have X := Lib.hid (show Ext w ((w.alloc (.cells #[.int .u8 t.kind, .string t.text, .slice A0 t.names.length c0, .slice A0' t.kids.length c0'] 25)).alloc (.cells #[.int .u8 0, .string { data := #[] }, .slice none 0 0, .slice none 0 0] 25)) from ((Ext.alloc' _ _).trans' (Ext.alloc' _ _)))
  have B0 := Lib.hid (show Blk ((w.alloc (.cells #[.int .u8 t.kind, .string t.text, .slice A0 t.names.length c0, .slice A0' t.kids.length c0'] 25)).alloc (.cells #[.int .u8 0, .string { data := #[] }, .slice none 0 0, .slice none 0 0] 25)) (w.heap.size) 25 #[.int .u8 t.kind, .string t.text, .slice A0 t.names.length c0, .slice A0' t.kids.length c0'] from ((Blk.new _ _ _).alloc _))
  have B1 := Lib.hid (show Blk ((w.alloc (.cells #[.int .u8 t.kind, .string t.text, .slice A0 t.names.length c0, .slice A0' t.kids.length c0'] 25)).alloc (.cells #[.int .u8 0, .string { data := #[] }, .slice none 0 0, .slice none 0 0] 25)) (w.heap.size + 1) 25 #[.int .u8 0, .string { data := #[] }, .slice none 0 0, .slice none 0 0] from (Blk.new' _ _ _ (by simp)))
  go_enter Try.func56, Try.ntmps56
  go_wp2_with fail
  refine (at7_any _ _ _ _ _ _ _ _ a _ (HTR.out.ext X.out) (HP.out.ext X.out)).mono ?_
  rintro e w1 ⟨vg, rfl, x1, r1⟩
  obtain ⟨A2, c2, A2', c2', rfl⟩ := r1.agg
  have X := Lib.hid (X.out.trans' x1)
  have B0 := Lib.hid (B0.out.ext x1)
  have B1 := Lib.hid (B1.out.ext x1)
  have R1 := Lib.hid r1
  clear x1 r1
  rw [HG.out]
  have Xa := Lib.hid (X.out.trans' (Ext.alloc' w1 (.cells #[.int .u8 ((t.get a).getD N.zero).kind, .string ((t.get a).getD N.zero).text, .slice A2 ((t.get a).getD N.zero).names.length c2, .slice A2' ((t.get a).getD N.zero).kids.length c2'] 25)))
  have B0a := Lib.hid (B0.out.alloc (.cells #[.int .u8 ((t.get a).getD N.zero).kind, .string ((t.get a).getD N.zero).text, .slice A2 ((t.get a).getD N.zero).names.length c2, .slice A2' ((t.get a).getD N.zero).kids.length c2'] 25))
  have B1a := Lib.hid (B1.out.alloc (.cells #[.int .u8 ((t.get a).getD N.zero).kind, .string ((t.get a).getD N.zero).text, .slice A2 ((t.get a).getD N.zero).names.length c2, .slice A2' ((t.get a).getD N.zero).kids.length c2'] 25))
  obtain ⟨p0, p1, p2, p3, _⟩ := B0.out.cells4
  obtain ⟨y0, y1, y2, y3, f0, f1, f2, f3⟩ := B1.out.cells4
  have pl := B0.out.lt
  have yl := B1.out.lt
  go_wp2_with fail
  refine bodyPost_ret (results_cell rfl _ _ _ _ _ _ _ rfl ((B1.out.set4 _ _ _ _).alloc (.cells #[.int .u8 ((t.get a).getD N.zero).kind, .string ((t.get a).getD N.zero).text, .slice A2 ((t.get a).getD N.zero).names.length c2, .slice A2' ((t.get a).getD N.zero).kids.length c2'] 25))) rfl ?_
  exact RPost.wideB (B := B) (fin_ext HT.out ((X.out.set4 (g := w.heap.size + 1) (by omega) _ _ _ _).trans' (Ext.alloc' _ _))) (by omega)

set_option maxRecDepth 100000 in
set_option maxHeartbeats 400000 in
theorem rmove_2 {B B1 B2 : Nat} {S S1 S2 : Nat → Prop} {w : World} {t : N} {v av bv : Value}  {b : List ByteArray} (ht : NIs B S w t v) (ha : Strs B1 S1 w av []) (hb : Strs B2 S2 w bv b) (hg : (t.get []).isSome = true) :
    Calls Try.prog 56 #[v, av, bv] w (RPost (B + 1) S t w) := by
  have HT := Lib.hid ht
  have HP := Lib.hid ha
  have HQ := Lib.hid hb
  obtain ⟨A0, c0, A0', c0', rfl⟩ := ht.agg
  obtain ⟨Ap, cp, rfl, _, hcm, _⟩ := ha
  obtain ⟨Aq, cq, rfl, _, hcn, _⟩ := hb
  unfold maxLen at hcm hcn
  obtain ⟨dt, htr⟩ := ht
  have HTR := Lib.hid htr
  have HG := Lib.hid hg
  clear htr hg
  have X := Lib.hid (show Ext w ((w.alloc (.cells #[.int .u8 t.kind, .string t.text, .slice A0 t.names.length c0, .slice A0' t.kids.length c0'] 25)).alloc (.cells #[.int .u8 0, .string { data := #[] }, .slice none 0 0, .slice none 0 0] 25)) from ((Ext.alloc' _ _).trans' (Ext.alloc' _ _)))
  have B0 := Lib.hid (show Blk ((w.alloc (.cells #[.int .u8 t.kind, .string t.text, .slice A0 t.names.length c0, .slice A0' t.kids.length c0'] 25)).alloc (.cells #[.int .u8 0, .string { data := #[] }, .slice none 0 0, .slice none 0 0] 25)) (w.heap.size) 25 #[.int .u8 t.kind, .string t.text, .slice A0 t.names.length c0, .slice A0' t.kids.length c0'] from ((Blk.new _ _ _).alloc _))
  have B1 := Lib.hid (show Blk ((w.alloc (.cells #[.int .u8 t.kind, .string t.text, .slice A0 t.names.length c0, .slice A0' t.kids.length c0'] 25)).alloc (.cells #[.int .u8 0, .string { data := #[] }, .slice none 0 0, .slice none 0 0] 25)) (w.heap.size + 1) 25 #[.int .u8 0, .string { data := #[] }, .slice none 0 0, .slice none 0 0] from (Blk.new' _ _ _ (by simp)))
  go_enter Try.func56, Try.ntmps56
  go_wp2_with fail
  refine (at7_any _ _ _ _ _ _ _ _ [] _ (HTR.out.ext X.out) (HP.out.ext X.out)).mono ?_
  rintro e w1 ⟨vg, rfl, x1, r1⟩
  obtain ⟨A2, c2, A2', c2', rfl⟩ := r1.agg
  have X := Lib.hid (X.out.trans' x1)
  have B0 := Lib.hid (B0.out.ext x1)
  have B1 := Lib.hid (B1.out.ext x1)
  have R1 := Lib.hid r1
  clear x1 r1
  rw [HG.out]
  have Xa := Lib.hid (X.out.trans' (Ext.alloc' w1 (.cells #[.int .u8 ((t.get []).getD N.zero).kind, .string ((t.get []).getD N.zero).text, .slice A2 ((t.get []).getD N.zero).names.length c2, .slice A2' ((t.get []).getD N.zero).kids.length c2'] 25)))
  have B0a := Lib.hid (B0.out.alloc (.cells #[.int .u8 ((t.get []).getD N.zero).kind, .string ((t.get []).getD N.zero).text, .slice A2 ((t.get []).getD N.zero).names.length c2, .slice A2' ((t.get []).getD N.zero).kids.length c2'] 25))
  have B1a := Lib.hid (B1.out.alloc (.cells #[.int .u8 ((t.get []).getD N.zero).kind, .string ((t.get []).getD N.zero).text, .slice A2 ((t.get []).getD N.zero).names.length c2, .slice A2' ((t.get []).getD N.zero).kids.length c2'] 25))
  obtain ⟨p0, p1, p2, p3, _⟩ := B0.out.cells4
  obtain ⟨y0, y1, y2, y3, f0, f1, f2, f3⟩ := B1.out.cells4
  have pl := B0.out.lt
  have yl := B1.out.lt
  go_wp2_with fail
  refine bodyPost_ret (results_cell rfl _ _ _ _ _ _ _ rfl ((B1.out.set4 _ _ _ _).alloc (.cells #[.int .u8 ((t.get []).getD N.zero).kind, .string ((t.get []).getD N.zero).text, .slice A2 ((t.get []).getD N.zero).names.length c2, .slice A2' ((t.get []).getD N.zero).kids.length c2'] 25))) rfl ?_
  exact RPost.wideB (B := B) (fin_ext HT.out ((X.out.set4 (g := w.heap.size + 1) (by omega) _ _ _ _).trans' (Ext.alloc' _ _))) (by omega)

set_option maxRecDepth 100000 in
set_option maxHeartbeats 400000 in
theorem rmove_3 {B B1 B2 : Nat} {S S1 S2 : Nat → Prop} {w : World} {t : N} {v av bv : Value} {s : ByteArray} {r : List ByteArray} {b : List ByteArray} (ht : NIs B S w t v) (ha : Strs B1 S1 w av (s :: r)) (hb : Strs B2 S2 w bv b) (hg : (t.get (s :: r)).isSome = true) (ho : rOpen t b = false) :
    Calls Try.prog 56 #[v, av, bv] w (RPost (B + 1) S t w) := by
  have HO := Lib.hid ho
  clear ho
  have HT := Lib.hid ht
  have HP := Lib.hid ha
  have HQ := Lib.hid hb
  obtain ⟨A0, c0, A0', c0', rfl⟩ := ht.agg
  obtain ⟨Ap, cp, rfl, _, hcm, _⟩ := ha
  obtain ⟨Aq, cq, rfl, _, hcn, _⟩ := hb
  unfold maxLen at hcm hcn
  obtain ⟨dt, htr⟩ := ht
  have HTR := Lib.hid htr
  have HG := Lib.hid hg
  clear htr hg
  have HP : Hid (Strs B1 S1 w (.slice Ap (r.length + 1) cp) (s :: r)) := Lib.hid HP.out
  have X := Lib.hid (show Ext w ((w.alloc (.cells #[.int .u8 t.kind, .string t.text, .slice A0 t.names.length c0, .slice A0' t.kids.length c0'] 25)).alloc (.cells #[.int .u8 0, .string { data := #[] }, .slice none 0 0, .slice none 0 0] 25)) from ((Ext.alloc' _ _).trans' (Ext.alloc' _ _)))
  have B0 := Lib.hid (show Blk ((w.alloc (.cells #[.int .u8 t.kind, .string t.text, .slice A0 t.names.length c0, .slice A0' t.kids.length c0'] 25)).alloc (.cells #[.int .u8 0, .string { data := #[] }, .slice none 0 0, .slice none 0 0] 25)) (w.heap.size) 25 #[.int .u8 t.kind, .string t.text, .slice A0 t.names.length c0, .slice A0' t.kids.length c0'] from ((Blk.new _ _ _).alloc _))
  have B1 := Lib.hid (show Blk ((w.alloc (.cells #[.int .u8 t.kind, .string t.text, .slice A0 t.names.length c0, .slice A0' t.kids.length c0'] 25)).alloc (.cells #[.int .u8 0, .string { data := #[] }, .slice none 0 0, .slice none 0 0] 25)) (w.heap.size + 1) 25 #[.int .u8 0, .string { data := #[] }, .slice none 0 0, .slice none 0 0] from (Blk.new' _ _ _ (by simp)))
  go_enter Try.func56, Try.ntmps56
  go_wp2_with fail
  refine (at7_any _ _ _ _ _ _ _ _ (s :: r) _ (HTR.out.ext X.out) (HP.out.ext X.out)).mono ?_
  rintro e w1 ⟨vg, rfl, x1, r1⟩
  obtain ⟨A2, c2, A2', c2', rfl⟩ := r1.agg
  have X := Lib.hid (X.out.trans' x1)
  have B0 := Lib.hid (B0.out.ext x1)
  have B1 := Lib.hid (B1.out.ext x1)
  have R1 := Lib.hid r1
  clear x1 r1
  rw [HG.out]
  have Xa := Lib.hid (X.out.trans' (Ext.alloc' w1 (.cells #[.int .u8 ((t.get (s :: r)).getD N.zero).kind, .string ((t.get (s :: r)).getD N.zero).text, .slice A2 ((t.get (s :: r)).getD N.zero).names.length c2, .slice A2' ((t.get (s :: r)).getD N.zero).kids.length c2'] 25)))
  have B0a := Lib.hid (B0.out.alloc (.cells #[.int .u8 ((t.get (s :: r)).getD N.zero).kind, .string ((t.get (s :: r)).getD N.zero).text, .slice A2 ((t.get (s :: r)).getD N.zero).names.length c2, .slice A2' ((t.get (s :: r)).getD N.zero).kids.length c2'] 25))
  have B1a := Lib.hid (B1.out.alloc (.cells #[.int .u8 ((t.get (s :: r)).getD N.zero).kind, .string ((t.get (s :: r)).getD N.zero).text, .slice A2 ((t.get (s :: r)).getD N.zero).names.length c2, .slice A2' ((t.get (s :: r)).getD N.zero).kids.length c2'] 25))
  obtain ⟨p0, p1, p2, p3, _⟩ := B0.out.cells4
  obtain ⟨y0, y1, y2, y3, f0, f1, f2, f3⟩ := B1.out.cells4
  have pl := B0.out.lt
  have yl := B1.out.lt
  have BYa := Lib.hid (Blk.new w1 25 #[.int .u8 ((t.get (s :: r)).getD N.zero).kind, .string ((t.get (s :: r)).getD N.zero).text, .slice A2 ((t.get (s :: r)).getD N.zero).names.length c2, .slice A2' ((t.get (s :: r)).getD N.zero).kids.length c2'])
  have R1a := Lib.hid (R1.out.ext (Ext.alloc' w1 (.cells #[.int .u8 ((t.get (s :: r)).getD N.zero).kind, .string ((t.get (s :: r)).getD N.zero).text, .slice A2 ((t.get (s :: r)).getD N.zero).names.length c2, .slice A2' ((t.get (s :: r)).getD N.zero).kids.length c2'] 25)))
  go_wp2_with (go_at_call 109; (with_reducible refine (open7_any (HTR.out.ext Xa.out) (HQ.out.ext Xa.out)).mono ?_); rw [HO.out]; rintro e y2 ⟨rfl, xx⟩; have Xa := Lib.hid (Xa.out.trans' xx); have B0a := Lib.hid (B0a.out.ext xx); have B1a := Lib.hid (B1a.out.ext xx); have R1a := Lib.hid (R1a.out.ext xx); have BYa := Lib.hid (BYa.out.ext xx); clear xx; obtain ⟨p0, p1, p2, p3, _⟩ := B0a.out.cells4; obtain ⟨k0, k1, k2, k3, _⟩ := BYa.out.cells4; obtain ⟨y0, y1, y2, y3, f0, f1, f2, f3⟩ := B1a.out.cells4; have pl := B0a.out.lt; have yl := B1a.out.lt; have kl := BYa.out.lt)
  refine bodyPost_ret (results_cell rfl _ _ _ _ _ _ _ rfl (B1a.out.set4 _ _ _ _)) rfl ?_
  exact RPost.wideB (B := B) (fin_ext HT.out (Xa.out.set4 (g := w.heap.size + 1) (by omega) _ _ _ _)) (by omega)

set_option maxRecDepth 100000 in
set_option maxHeartbeats 400000 in
theorem rmove_4 {B B1 B2 : Nat} {S S1 S2 : Nat → Prop} {w : World} {t : N} {v av bv : Value} {s : ByteArray} {r : List ByteArray} {b : List ByteArray} (ht : NIs B S w t v) (ha : Strs B1 S1 w av (s :: r)) (hb : Strs B2 S2 w bv b) (hg : (t.get (s :: r)).isSome = true) (ho : rOpen t b = true) (hu : underL (s :: r) b = true) :
    Calls Try.prog 56 #[v, av, bv] w (RPost (B + 1) S t w) := by
  have HO := Lib.hid ho
  clear ho
  have HU := Lib.hid hu
  clear hu
  have HT := Lib.hid ht
  have HP := Lib.hid ha
  have HQ := Lib.hid hb
  obtain ⟨A0, c0, A0', c0', rfl⟩ := ht.agg
  obtain ⟨Ap, cp, rfl, _, hcm, _⟩ := ha
  obtain ⟨Aq, cq, rfl, _, hcn, _⟩ := hb
  unfold maxLen at hcm hcn
  obtain ⟨dt, htr⟩ := ht
  have HTR := Lib.hid htr
  have HG := Lib.hid hg
  clear htr hg
  have HP : Hid (Strs B1 S1 w (.slice Ap (r.length + 1) cp) (s :: r)) := Lib.hid HP.out
  have X := Lib.hid (show Ext w ((w.alloc (.cells #[.int .u8 t.kind, .string t.text, .slice A0 t.names.length c0, .slice A0' t.kids.length c0'] 25)).alloc (.cells #[.int .u8 0, .string { data := #[] }, .slice none 0 0, .slice none 0 0] 25)) from ((Ext.alloc' _ _).trans' (Ext.alloc' _ _)))
  have B0 := Lib.hid (show Blk ((w.alloc (.cells #[.int .u8 t.kind, .string t.text, .slice A0 t.names.length c0, .slice A0' t.kids.length c0'] 25)).alloc (.cells #[.int .u8 0, .string { data := #[] }, .slice none 0 0, .slice none 0 0] 25)) (w.heap.size) 25 #[.int .u8 t.kind, .string t.text, .slice A0 t.names.length c0, .slice A0' t.kids.length c0'] from ((Blk.new _ _ _).alloc _))
  have B1 := Lib.hid (show Blk ((w.alloc (.cells #[.int .u8 t.kind, .string t.text, .slice A0 t.names.length c0, .slice A0' t.kids.length c0'] 25)).alloc (.cells #[.int .u8 0, .string { data := #[] }, .slice none 0 0, .slice none 0 0] 25)) (w.heap.size + 1) 25 #[.int .u8 0, .string { data := #[] }, .slice none 0 0, .slice none 0 0] from (Blk.new' _ _ _ (by simp)))
  go_enter Try.func56, Try.ntmps56
  go_wp2_with fail
  refine (at7_any _ _ _ _ _ _ _ _ (s :: r) _ (HTR.out.ext X.out) (HP.out.ext X.out)).mono ?_
  rintro e w1 ⟨vg, rfl, x1, r1⟩
  obtain ⟨A2, c2, A2', c2', rfl⟩ := r1.agg
  have X := Lib.hid (X.out.trans' x1)
  have B0 := Lib.hid (B0.out.ext x1)
  have B1 := Lib.hid (B1.out.ext x1)
  have R1 := Lib.hid r1
  clear x1 r1
  rw [HG.out]
  have Xa := Lib.hid (X.out.trans' (Ext.alloc' w1 (.cells #[.int .u8 ((t.get (s :: r)).getD N.zero).kind, .string ((t.get (s :: r)).getD N.zero).text, .slice A2 ((t.get (s :: r)).getD N.zero).names.length c2, .slice A2' ((t.get (s :: r)).getD N.zero).kids.length c2'] 25)))
  have B0a := Lib.hid (B0.out.alloc (.cells #[.int .u8 ((t.get (s :: r)).getD N.zero).kind, .string ((t.get (s :: r)).getD N.zero).text, .slice A2 ((t.get (s :: r)).getD N.zero).names.length c2, .slice A2' ((t.get (s :: r)).getD N.zero).kids.length c2'] 25))
  have B1a := Lib.hid (B1.out.alloc (.cells #[.int .u8 ((t.get (s :: r)).getD N.zero).kind, .string ((t.get (s :: r)).getD N.zero).text, .slice A2 ((t.get (s :: r)).getD N.zero).names.length c2, .slice A2' ((t.get (s :: r)).getD N.zero).kids.length c2'] 25))
  obtain ⟨p0, p1, p2, p3, _⟩ := B0.out.cells4
  obtain ⟨y0, y1, y2, y3, f0, f1, f2, f3⟩ := B1.out.cells4
  have pl := B0.out.lt
  have yl := B1.out.lt
  have BYa := Lib.hid (Blk.new w1 25 #[.int .u8 ((t.get (s :: r)).getD N.zero).kind, .string ((t.get (s :: r)).getD N.zero).text, .slice A2 ((t.get (s :: r)).getD N.zero).names.length c2, .slice A2' ((t.get (s :: r)).getD N.zero).kids.length c2'])
  have R1a := Lib.hid (R1.out.ext (Ext.alloc' w1 (.cells #[.int .u8 ((t.get (s :: r)).getD N.zero).kind, .string ((t.get (s :: r)).getD N.zero).text, .slice A2 ((t.get (s :: r)).getD N.zero).names.length c2, .slice A2' ((t.get (s :: r)).getD N.zero).kids.length c2'] 25)))
  go_wp2_with (first | (go_at_call 109; (with_reducible refine (open7_any (HTR.out.ext Xa.out) (HQ.out.ext Xa.out)).mono ?_); rw [HO.out]; rintro e y2 ⟨rfl, xx⟩; have Xa := Lib.hid (Xa.out.trans' xx); have B0a := Lib.hid (B0a.out.ext xx); have B1a := Lib.hid (B1a.out.ext xx); have R1a := Lib.hid (R1a.out.ext xx); have BYa := Lib.hid (BYa.out.ext xx); clear xx; obtain ⟨p0, p1, p2, p3, _⟩ := B0a.out.cells4; obtain ⟨k0, k1, k2, k3, _⟩ := BYa.out.cells4; obtain ⟨y0, y1, y2, y3, f0, f1, f2, f3⟩ := B1a.out.cells4; have pl := B0a.out.lt; have yl := B1a.out.lt; have kl := BYa.out.lt) | (go_at_call 58; (with_reducible refine (under6_any (HP.out.ext Xa.out) (HQ.out.ext Xa.out)).mono ?_); rw [HU.out]; rintro e y3 ⟨rfl, xx⟩; have Xa := Lib.hid (Xa.out.trans' xx); have B0a := Lib.hid (B0a.out.ext xx); have B1a := Lib.hid (B1a.out.ext xx); have R1a := Lib.hid (R1a.out.ext xx); have BYa := Lib.hid (BYa.out.ext xx); clear xx; obtain ⟨p0, p1, p2, p3, _⟩ := B0a.out.cells4; obtain ⟨k0, k1, k2, k3, _⟩ := BYa.out.cells4; obtain ⟨y0, y1, y2, y3, f0, f1, f2, f3⟩ := B1a.out.cells4; have pl := B0a.out.lt; have yl := B1a.out.lt; have kl := BYa.out.lt))
  refine bodyPost_ret (results_cell rfl _ _ _ _ _ _ _ rfl (B1a.out.set4 _ _ _ _)) rfl ?_
  exact RPost.wideB (B := B) (fin_ext HT.out (Xa.out.set4 (g := w.heap.size + 1) (by omega) _ _ _ _)) (by omega)

set_option maxRecDepth 100000 in
set_option maxHeartbeats 400000 in
theorem rmove_5 {B B1 B2 : Nat} {S S1 S2 : Nat → Prop} {w : World} {t : N} {v av bv : Value} {s : ByteArray} {r : List ByteArray} {b : List ByteArray} (ht : NIs B S w t v) (ha : Strs B1 S1 w av (s :: r)) (hb : Strs B2 S2 w bv b) (hg : (t.get (s :: r)).isSome = true) (ho : rOpen t b = true) (hu : underL (s :: r) b = false) (hv : underL b (s :: r) = true) :
    Calls Try.prog 56 #[v, av, bv] w (RPost (B + 1) S t w) := by
  have HO := Lib.hid ho
  clear ho
  have HU := Lib.hid hu
  clear hu
  have HV := Lib.hid hv
  clear hv
  have HT := Lib.hid ht
  have HP := Lib.hid ha
  have HQ := Lib.hid hb
  obtain ⟨A0, c0, A0', c0', rfl⟩ := ht.agg
  obtain ⟨Ap, cp, rfl, _, hcm, _⟩ := ha
  obtain ⟨Aq, cq, rfl, _, hcn, _⟩ := hb
  unfold maxLen at hcm hcn
  obtain ⟨dt, htr⟩ := ht
  have HTR := Lib.hid htr
  have HG := Lib.hid hg
  clear htr hg
  have HP : Hid (Strs B1 S1 w (.slice Ap (r.length + 1) cp) (s :: r)) := Lib.hid HP.out
  have X := Lib.hid (show Ext w ((w.alloc (.cells #[.int .u8 t.kind, .string t.text, .slice A0 t.names.length c0, .slice A0' t.kids.length c0'] 25)).alloc (.cells #[.int .u8 0, .string { data := #[] }, .slice none 0 0, .slice none 0 0] 25)) from ((Ext.alloc' _ _).trans' (Ext.alloc' _ _)))
  have B0 := Lib.hid (show Blk ((w.alloc (.cells #[.int .u8 t.kind, .string t.text, .slice A0 t.names.length c0, .slice A0' t.kids.length c0'] 25)).alloc (.cells #[.int .u8 0, .string { data := #[] }, .slice none 0 0, .slice none 0 0] 25)) (w.heap.size) 25 #[.int .u8 t.kind, .string t.text, .slice A0 t.names.length c0, .slice A0' t.kids.length c0'] from ((Blk.new _ _ _).alloc _))
  have B1 := Lib.hid (show Blk ((w.alloc (.cells #[.int .u8 t.kind, .string t.text, .slice A0 t.names.length c0, .slice A0' t.kids.length c0'] 25)).alloc (.cells #[.int .u8 0, .string { data := #[] }, .slice none 0 0, .slice none 0 0] 25)) (w.heap.size + 1) 25 #[.int .u8 0, .string { data := #[] }, .slice none 0 0, .slice none 0 0] from (Blk.new' _ _ _ (by simp)))
  go_enter Try.func56, Try.ntmps56
  go_wp2_with fail
  refine (at7_any _ _ _ _ _ _ _ _ (s :: r) _ (HTR.out.ext X.out) (HP.out.ext X.out)).mono ?_
  rintro e w1 ⟨vg, rfl, x1, r1⟩
  obtain ⟨A2, c2, A2', c2', rfl⟩ := r1.agg
  have X := Lib.hid (X.out.trans' x1)
  have B0 := Lib.hid (B0.out.ext x1)
  have B1 := Lib.hid (B1.out.ext x1)
  have R1 := Lib.hid r1
  clear x1 r1
  rw [HG.out]
  have Xa := Lib.hid (X.out.trans' (Ext.alloc' w1 (.cells #[.int .u8 ((t.get (s :: r)).getD N.zero).kind, .string ((t.get (s :: r)).getD N.zero).text, .slice A2 ((t.get (s :: r)).getD N.zero).names.length c2, .slice A2' ((t.get (s :: r)).getD N.zero).kids.length c2'] 25)))
  have B0a := Lib.hid (B0.out.alloc (.cells #[.int .u8 ((t.get (s :: r)).getD N.zero).kind, .string ((t.get (s :: r)).getD N.zero).text, .slice A2 ((t.get (s :: r)).getD N.zero).names.length c2, .slice A2' ((t.get (s :: r)).getD N.zero).kids.length c2'] 25))
  have B1a := Lib.hid (B1.out.alloc (.cells #[.int .u8 ((t.get (s :: r)).getD N.zero).kind, .string ((t.get (s :: r)).getD N.zero).text, .slice A2 ((t.get (s :: r)).getD N.zero).names.length c2, .slice A2' ((t.get (s :: r)).getD N.zero).kids.length c2'] 25))
  obtain ⟨p0, p1, p2, p3, _⟩ := B0.out.cells4
  obtain ⟨y0, y1, y2, y3, f0, f1, f2, f3⟩ := B1.out.cells4
  have pl := B0.out.lt
  have yl := B1.out.lt
  have BYa := Lib.hid (Blk.new w1 25 #[.int .u8 ((t.get (s :: r)).getD N.zero).kind, .string ((t.get (s :: r)).getD N.zero).text, .slice A2 ((t.get (s :: r)).getD N.zero).names.length c2, .slice A2' ((t.get (s :: r)).getD N.zero).kids.length c2'])
  have R1a := Lib.hid (R1.out.ext (Ext.alloc' w1 (.cells #[.int .u8 ((t.get (s :: r)).getD N.zero).kind, .string ((t.get (s :: r)).getD N.zero).text, .slice A2 ((t.get (s :: r)).getD N.zero).names.length c2, .slice A2' ((t.get (s :: r)).getD N.zero).kids.length c2'] 25)))
  go_wp2_with (first | (go_at_call 109; (with_reducible refine (open7_any (HTR.out.ext Xa.out) (HQ.out.ext Xa.out)).mono ?_); rw [HO.out]; rintro e y2 ⟨rfl, xx⟩; have Xa := Lib.hid (Xa.out.trans' xx); have B0a := Lib.hid (B0a.out.ext xx); have B1a := Lib.hid (B1a.out.ext xx); have R1a := Lib.hid (R1a.out.ext xx); have BYa := Lib.hid (BYa.out.ext xx); clear xx; obtain ⟨p0, p1, p2, p3, _⟩ := B0a.out.cells4; obtain ⟨k0, k1, k2, k3, _⟩ := BYa.out.cells4; obtain ⟨y0, y1, y2, y3, f0, f1, f2, f3⟩ := B1a.out.cells4; have pl := B0a.out.lt; have yl := B1a.out.lt; have kl := BYa.out.lt) | (go_at_call 58; (with_reducible refine (under6_any (HP.out.ext Xa.out) (HQ.out.ext Xa.out)).mono ?_); rw [HU.out]; rintro e y3 ⟨rfl, xx⟩; have Xa := Lib.hid (Xa.out.trans' xx); have B0a := Lib.hid (B0a.out.ext xx); have B1a := Lib.hid (B1a.out.ext xx); have R1a := Lib.hid (R1a.out.ext xx); have BYa := Lib.hid (BYa.out.ext xx); clear xx; obtain ⟨p0, p1, p2, p3, _⟩ := B0a.out.cells4; obtain ⟨k0, k1, k2, k3, _⟩ := BYa.out.cells4; obtain ⟨y0, y1, y2, y3, f0, f1, f2, f3⟩ := B1a.out.cells4; have pl := B0a.out.lt; have yl := B1a.out.lt; have kl := BYa.out.lt) | (go_at_call 58; (with_reducible refine (under6_any (HQ.out.ext Xa.out) (HP.out.ext Xa.out)).mono ?_); rw [HV.out]; rintro e y4 ⟨rfl, xx⟩; have Xa := Lib.hid (Xa.out.trans' xx); have B0a := Lib.hid (B0a.out.ext xx); have B1a := Lib.hid (B1a.out.ext xx); have R1a := Lib.hid (R1a.out.ext xx); have BYa := Lib.hid (BYa.out.ext xx); clear xx; obtain ⟨p0, p1, p2, p3, _⟩ := B0a.out.cells4; obtain ⟨k0, k1, k2, k3, _⟩ := BYa.out.cells4; obtain ⟨y0, y1, y2, y3, f0, f1, f2, f3⟩ := B1a.out.cells4; have pl := B0a.out.lt; have yl := B1a.out.lt; have kl := BYa.out.lt))
  refine bodyPost_ret (results_cell rfl _ _ _ _ _ _ _ rfl (B1a.out.set4 _ _ _ _)) rfl ?_
  exact RPost.wideB (B := B) (fin_ext HT.out (Xa.out.set4 (g := w.heap.size + 1) (by omega) _ _ _ _)) (by omega)

set_option maxRecDepth 100000 in
set_option maxHeartbeats 400000 in
theorem rmove_6 {B B1 B2 : Nat} {S S1 S2 : Nat → Prop} {w : World} {t : N} {v av bv : Value} {s : ByteArray} {r : List ByteArray} {b : List ByteArray} (hB : B + 2 ≤ 2199023255552) (hS : ∀ b, S b → b < w.heap.size) (hw : t.well = true) (ht : NIs B S w t v) (ha : Strs B1 S1 w av (s :: r)) (hb : Strs B2 S2 w bv b) (hg : (t.get (s :: r)).isSome = true) (hww : (withN t b ((t.get (s :: r)).getD N.zero)).well = true) (ho : rOpen t b = true) (hu : underL (s :: r) b = false) (hv : underL b (s :: r) = false) :
    Calls Try.prog 56 #[v, av, bv] w (RPost (B + 2) S (withN (withN t b ((t.get (s :: r)).getD N.zero)) (s :: r) N.zero) w) := by
  have HW := Lib.hid hw
  have HS := Lib.hid hS
  have HWW := Lib.hid hww
  clear hw hww hS
  have HO := Lib.hid ho
  have HU := Lib.hid hu
  have HV := Lib.hid hv
  have HBN := Lib.hid (rOpen_ne ho)
  clear ho hu hv
  have HT := Lib.hid ht
  have HP := Lib.hid ha
  have HQ := Lib.hid hb
  obtain ⟨A0, c0, A0', c0', rfl⟩ := ht.agg
  obtain ⟨Ap, cp, rfl, _, hcm, _⟩ := ha
  obtain ⟨Aq, cq, rfl, _, hcn, _⟩ := hb
  unfold maxLen at hcm hcn
  obtain ⟨dt, htr⟩ := ht
  have HTR := Lib.hid htr
  have HG := Lib.hid hg
  clear htr hg
  have HP : Hid (Strs B1 S1 w (.slice Ap (r.length + 1) cp) (s :: r)) := Lib.hid HP.out
  have X := Lib.hid (show Ext w ((w.alloc (.cells #[.int .u8 t.kind, .string t.text, .slice A0 t.names.length c0, .slice A0' t.kids.length c0'] 25)).alloc (.cells #[.int .u8 0, .string { data := #[] }, .slice none 0 0, .slice none 0 0] 25)) from ((Ext.alloc' _ _).trans' (Ext.alloc' _ _)))
  have B0 := Lib.hid (show Blk ((w.alloc (.cells #[.int .u8 t.kind, .string t.text, .slice A0 t.names.length c0, .slice A0' t.kids.length c0'] 25)).alloc (.cells #[.int .u8 0, .string { data := #[] }, .slice none 0 0, .slice none 0 0] 25)) (w.heap.size) 25 #[.int .u8 t.kind, .string t.text, .slice A0 t.names.length c0, .slice A0' t.kids.length c0'] from ((Blk.new _ _ _).alloc _))
  have B1 := Lib.hid (show Blk ((w.alloc (.cells #[.int .u8 t.kind, .string t.text, .slice A0 t.names.length c0, .slice A0' t.kids.length c0'] 25)).alloc (.cells #[.int .u8 0, .string { data := #[] }, .slice none 0 0, .slice none 0 0] 25)) (w.heap.size + 1) 25 #[.int .u8 0, .string { data := #[] }, .slice none 0 0, .slice none 0 0] from (Blk.new' _ _ _ (by simp)))
  go_enter Try.func56, Try.ntmps56
  go_wp2_with fail
  refine (at7_any _ _ _ _ _ _ _ _ (s :: r) _ (HTR.out.ext X.out) (HP.out.ext X.out)).mono ?_
  rintro e w1 ⟨vg, rfl, x1, r1⟩
  obtain ⟨A2, c2, A2', c2', rfl⟩ := r1.agg
  have X := Lib.hid (X.out.trans' x1)
  have B0 := Lib.hid (B0.out.ext x1)
  have B1 := Lib.hid (B1.out.ext x1)
  have R1 := Lib.hid r1
  clear x1 r1
  rw [HG.out]
  have Xa := Lib.hid (X.out.trans' (Ext.alloc' w1 (.cells #[.int .u8 ((t.get (s :: r)).getD N.zero).kind, .string ((t.get (s :: r)).getD N.zero).text, .slice A2 ((t.get (s :: r)).getD N.zero).names.length c2, .slice A2' ((t.get (s :: r)).getD N.zero).kids.length c2'] 25)))
  have B0a := Lib.hid (B0.out.alloc (.cells #[.int .u8 ((t.get (s :: r)).getD N.zero).kind, .string ((t.get (s :: r)).getD N.zero).text, .slice A2 ((t.get (s :: r)).getD N.zero).names.length c2, .slice A2' ((t.get (s :: r)).getD N.zero).kids.length c2'] 25))
  have B1a := Lib.hid (B1.out.alloc (.cells #[.int .u8 ((t.get (s :: r)).getD N.zero).kind, .string ((t.get (s :: r)).getD N.zero).text, .slice A2 ((t.get (s :: r)).getD N.zero).names.length c2, .slice A2' ((t.get (s :: r)).getD N.zero).kids.length c2'] 25))
  obtain ⟨p0, p1, p2, p3, _⟩ := B0.out.cells4
  obtain ⟨y0, y1, y2, y3, f0, f1, f2, f3⟩ := B1.out.cells4
  have pl := B0.out.lt
  have yl := B1.out.lt
  have BYa := Lib.hid (Blk.new w1 25 #[.int .u8 ((t.get (s :: r)).getD N.zero).kind, .string ((t.get (s :: r)).getD N.zero).text, .slice A2 ((t.get (s :: r)).getD N.zero).names.length c2, .slice A2' ((t.get (s :: r)).getD N.zero).kids.length c2'])
  have R1a := Lib.hid (R1.out.ext (Ext.alloc' w1 (.cells #[.int .u8 ((t.get (s :: r)).getD N.zero).kind, .string ((t.get (s :: r)).getD N.zero).text, .slice A2 ((t.get (s :: r)).getD N.zero).names.length c2, .slice A2' ((t.get (s :: r)).getD N.zero).kids.length c2'] 25)))
  go_wp2_with (first | (go_at_call 109; (with_reducible refine (open7_any (HTR.out.ext Xa.out) (HQ.out.ext Xa.out)).mono ?_); rw [HO.out]; rintro e y2 ⟨rfl, xx⟩; have Xa := Lib.hid (Xa.out.trans' xx); have B0a := Lib.hid (B0a.out.ext xx); have B1a := Lib.hid (B1a.out.ext xx); have R1a := Lib.hid (R1a.out.ext xx); have BYa := Lib.hid (BYa.out.ext xx); clear xx; obtain ⟨p0, p1, p2, p3, _⟩ := B0a.out.cells4; obtain ⟨k0, k1, k2, k3, _⟩ := BYa.out.cells4; obtain ⟨y0, y1, y2, y3, f0, f1, f2, f3⟩ := B1a.out.cells4; have pl := B0a.out.lt; have yl := B1a.out.lt; have kl := BYa.out.lt) | (go_at_call 58; (with_reducible refine (under6_any (HP.out.ext Xa.out) (HQ.out.ext Xa.out)).mono ?_); rw [HU.out]; rintro e y3 ⟨rfl, xx⟩; have Xa := Lib.hid (Xa.out.trans' xx); have B0a := Lib.hid (B0a.out.ext xx); have B1a := Lib.hid (B1a.out.ext xx); have R1a := Lib.hid (R1a.out.ext xx); have BYa := Lib.hid (BYa.out.ext xx); clear xx; obtain ⟨p0, p1, p2, p3, _⟩ := B0a.out.cells4; obtain ⟨k0, k1, k2, k3, _⟩ := BYa.out.cells4; obtain ⟨y0, y1, y2, y3, f0, f1, f2, f3⟩ := B1a.out.cells4; have pl := B0a.out.lt; have yl := B1a.out.lt; have kl := BYa.out.lt) | (go_at_call 58; (with_reducible refine (under6_any (HQ.out.ext Xa.out) (HP.out.ext Xa.out)).mono ?_); rw [HV.out]; rintro e y4 ⟨rfl, xx⟩; have Xa := Lib.hid (Xa.out.trans' xx); have B0a := Lib.hid (B0a.out.ext xx); have B1a := Lib.hid (B1a.out.ext xx); have R1a := Lib.hid (R1a.out.ext xx); have BYa := Lib.hid (BYa.out.ext xx); clear xx; obtain ⟨p0, p1, p2, p3, _⟩ := B0a.out.cells4; obtain ⟨k0, k1, k2, k3, _⟩ := BYa.out.cells4; obtain ⟨y0, y1, y2, y3, f0, f1, f2, f3⟩ := B1a.out.cells4; have pl := B0a.out.lt; have yl := B1a.out.lt; have kl := BYa.out.lt) | (go_at_call 110; (with_reducible refine (with_ris (by omega) Xa.out HS.out HW.out (HTR.out.ext Xa.out) R1a.out HBN.out (HQ.out.ext Xa.out)).mono ?_); rintro e w5 ⟨A5, c5, A5', c5', rfl, x5, r5⟩; have R5 := Lib.hid (Rep.keep (S' := fun b => (S b ∨ w.heap.size + 2 ≤ b) ∧ b < w5.heap.size) (Nat.le_refl _) (fun _ _ _ => rfl) (fun b hb hl => ⟨by rcases hb with hb | hb; exact .inl hb; exact .inr (by omega), hl⟩) _ _ _ r5); have X5 := Lib.hid x5; have B1 := Lib.hid (B1a.out.ext x5); obtain ⟨y0, y1, y2, y3, f0, f1, f2, f3⟩ := B1.out.cells4; have yl5 := B1.out.lt; clear x5 r5))
  refine (with_any (dx := 0) (x := N.zero) (by omega) (S := fun b => (S b ∨ w.heap.size + 2 ≤ b) ∧ b < w5.heap.size) (fun _ h => h.2) HWW.out R5.out (Rep.zero (by decide)) (List.cons_ne_nil _ _) (HP.out.ext (Xa.out.trans' X5.out))).mono ?_
  rintro e w6 ⟨A6, c6, A6', c6', rfl, x6, r6⟩
  have R6 := Lib.hid r6
  have X6 := Lib.hid x6
  have B1 := Lib.hid (B1.out.ext x6)
  clear x6 r6 y0 y1 y2 y3 f0 f1 f2 f3
  obtain ⟨y0, y1, y2, y3, f0, f1, f2, f3⟩ := B1.out.cells4
  have yl6 := B1.out.lt
  go_wp2_with fail
  refine bodyPost_ret (results_cell rfl _ _ _ _ _ _ _ rfl (B1.out.set4 _ _ _ _)) rfl ?_
  exact fin_with (g := w.heap.size + 1) (Xa.out.trans' X5.out) X6.out (by omega) (by omega) (fun b hb => by
    rcases hb.1 with h | h
    · have := HS.out b h
      exact ⟨by omega, .inl h⟩
    · exact ⟨by omega, .inr (by omega)⟩) R6.out
theorem rcopy_any {B B1 B2 : Nat} {S S1 S2 : Nat → Prop} {w : World} {t : N} {v av bv : Value} {a b : List ByteArray} (hB : B + 1 ≤ 2199023255552) (hS : ∀ b, S b → b < w.heap.size) (hw : t.well = true) (ht : NIs B S w t v) (ha : Strs B1 S1 w av a) (hb : Strs B2 S2 w bv b) : Calls Try.prog 57 #[v, av, bv] w (RPost (B + 1) S (rCopy t a b) w) := by
  cases hg : (t.get a).isSome
  · rw [show rCopy t a b = t by unfold rCopy; rw [if_neg (by unfold rApart; rw [hg]; simp)]]
    exact (rcopy_1 ht ha hb hg).mono fun e w' h => h.wideB (by omega)
  cases a with
  | nil =>
    rw [show rCopy t [] b = t by unfold rCopy; rw [if_neg (by unfold rApart; simp)]]
    exact (rcopy_2 ht ha hb hg).mono fun e w' h => h.wideB (by omega)
  | cons s r =>
  cases ho : rOpen t b
  · rw [show rCopy t (s :: r) b = t by unfold rCopy; rw [if_neg (by unfold rApart; rw [ho]; simp)]]
    exact (rcopy_3 ht ha hb hg ho).mono fun e w' h => h.wideB (by omega)
  cases hu : underL (s :: r) b
  case true =>
    rw [show rCopy t (s :: r) b = t by unfold rCopy; rw [if_neg (by unfold rApart; rw [hu]; simp)]]
    exact (rcopy_4 ht ha hb hg ho hu).mono fun e w' h => h.wideB (by omega)
  cases hv : underL b (s :: r)
  case true =>
    rw [show rCopy t (s :: r) b = t by unfold rCopy; rw [if_neg (by unfold rApart; rw [hv]; simp)]]
    exact (rcopy_5 ht ha hb hg ho hu hv).mono fun e w' h => h.wideB (by omega)
  have hap : rApart t (s :: r) b = true := by unfold rApart; rw [hg, ho, hu, hv]; simp
  rw [show rCopy t (s :: r) b = withN t b ((t.get (s :: r)).getD N.zero) by unfold rCopy; rw [if_pos hap]]
  exact rcopy_6 hB hS hw ht ha hb hg ho hu hv
theorem rmove_any {B B1 B2 : Nat} {S S1 S2 : Nat → Prop} {w : World} {t : N} {v av bv : Value} {a b : List ByteArray} (hB : B + 2 ≤ 2199023255552) (hS : ∀ b, S b → b < w.heap.size) (hd : DirW t) (ht : NIs B S w t v) (ha : Strs B1 S1 w av a) (hb : Strs B2 S2 w bv b) : Calls Try.prog 56 #[v, av, bv] w (RPost (B + 2) S (rMove t a b) w) := by
  cases hg : (t.get a).isSome
  · rw [show rMove t a b = t by unfold rMove; rw [if_neg (by unfold rApart; rw [hg]; simp)]]
    exact (rmove_1 ht ha hb hg).mono fun e w' h => h.wideB (by omega)
  cases a with
  | nil =>
    rw [show rMove t [] b = t by unfold rMove; rw [if_neg (by unfold rApart; simp)]]
    exact (rmove_2 ht ha hb hg).mono fun e w' h => h.wideB (by omega)
  | cons s r =>
  cases ho : rOpen t b
  · rw [show rMove t (s :: r) b = t by unfold rMove; rw [if_neg (by unfold rApart; rw [ho]; simp)]]
    exact (rmove_3 ht ha hb hg ho).mono fun e w' h => h.wideB (by omega)
  cases hu : underL (s :: r) b
  case true =>
    rw [show rMove t (s :: r) b = t by unfold rMove; rw [if_neg (by unfold rApart; rw [hu]; simp)]]
    exact (rmove_4 ht ha hb hg ho hu).mono fun e w' h => h.wideB (by omega)
  cases hv : underL b (s :: r)
  case true =>
    rw [show rMove t (s :: r) b = t by unfold rMove; rw [if_neg (by unfold rApart; rw [hv]; simp)]]
    exact (rmove_5 ht ha hb hg ho hu hv).mono fun e w' h => h.wideB (by omega)
  have hap : rApart t (s :: r) b = true := by unfold rApart; rw [hg, ho, hu, hv]; simp
  rw [show rMove t (s :: r) b = withN (withN t b ((t.get (s :: r)).getD N.zero)) (s :: r) N.zero by unfold rMove; rw [if_pos hap]]
  have hww : (withN t b ((t.get (s :: r)).getD N.zero)).well = true := by
    rw [rApart_eq hd] at hap
    obtain ⟨h0, h2, h3, h4, x, hx⟩ := apartB_iff hd.wf hap
    rw [hx]
    have hxw := get_well hd.wf hx
    show (withN t b x).well = true
    rw [with_put hd.wf hxw h2]
    exact (put_done hd.wf hxw h2).dir.wf
  exact rmove_6 hB hS hd.wf ht ha hb hg hww ho hu hv
end Go.Proofs.Ytocndkhgopjhhaa
