/- (*touchstoneref07.FS).set on terms that are made whole. -/
import Derived.Test.YtocndkhgopjhhaaGreatProg
import Derived.Test.YtocndkhgopjhhaaGreatFsC
import Derived.Deep.RegionHeld3
import Derived.StillTailTactics
import Derived.Outline
namespace Go.Proofs.YtocndkhgopjhhaaGreat
open Go.RowKit

def TM (B : Nat) (S : Nat → Prop) (w : World) (t : N) (v : Value) : Prop := ∃ d, TRep B S w (d + 1) t v
section
variable {B B' : Nat} {S S' : Nat → Prop} {w w' : World} {t : N} {v : Value} {d : Nat}
theorem TM.of (h : TRep B S w d t v) : TM B S w t v := by
  have := h.dpos
  obtain ⟨d, rfl⟩ : ∃ e, d = e + 1 := ⟨d - 1, by omega⟩
  exact ⟨d, h⟩
theorem TM.ext (h : TM B S w t v) (hx : Ext w w') : TM B S w' t v := by obtain ⟨d, h⟩ := h; exact ⟨d, h.ext hx⟩
theorem TM.keep (h : TM B S w t v) (hB : B ≤ B') (hz : w.heap.size ≤ w'.heap.size) (hS : ∀ b, S b → b < w.heap.size → w'.heap[b]? = w.heap[b]?) (hSS : ∀ b, S b → b < w.heap.size → S' b) : TM B' S' w' t v := by
  obtain ⟨d, h⟩ := h; exact ⟨d, TRep.keep hB hz hS hSS (Nat.le_refl _) _ _ h⟩
theorem TM.agg (h : TM B S w t v) : ∃ A c A' c', v = termV t A c A' c' := by obtain ⟨d, h⟩ := h; exact h.agg
end
/-- What a call that hands a term out comes to. -/
def TPostE (B : Nat) (S : Nat → Prop) (t : N) (w : World) (e : Ending) (w' : World) : Prop :=
  ∃ A c A' c', e = .returned (termV t A c A' c') ∧ Ext w w' ∧ TM B (fun b => S b ∨ w.heap.size ≤ b) w' t (termV t A c A' c')
theorem twith_e {B : Nat} {S : Nat → Prop} {w : World} {t x : N} {tv xv : Value} {s : ByteArray} (hB : B + 1 ≤ 2199023255552) (hS : ∀ b, S b → b < w.heap.size) (hl : t.names.length = t.kids.length) (hs : s.size ≤ maxLen) (hr : TM B S w t tv) (hxr : TM B S w x xv) :
    Calls Tryz.prog 88 #[tv, .string s, xv] w (TPostE (B + 1) S (withT t s x) w) := by
  obtain ⟨d, hr⟩ := hr
  obtain ⟨dx, hxr⟩ := hxr
  refine (twith_any hB hS hl hs hr hxr).mono ?_
  rintro e w' ⟨A, c, A', c', he, hx, h⟩
  exact ⟨A, c, A', c', he, hx, TM.of h⟩
/-- behind a store beside. -/
theorem TPostE.box {B : Nat} {S : Nat → Prop} {t : N} {w w0 w1 : World} {A : Option Addr} {c : Nat} {A' : Option Addr} {c' g : Nat} (hx0 : Ext w w0) (hx : Ext w0 w1) (hg : w.heap.size ≤ g) (hgl : g < w0.heap.size) (hS : ∀ b, S b → b < w.heap.size) (h : TM B (fun b => S b ∨ w0.heap.size ≤ b) w1 t (termV t A c A' c')) :
    TPostE B S t w (.returned (termV t A c A' c')) (set6 w1 g (.int .i64 (-1)) (.int .u8 t.kind) (.string t.text) (.int .i64 (-1)) (.slice A t.names.length c) (.slice A' t.kids.length c')) := by
  refine ⟨A, c, A', c', rfl, (hx0.trans' hx).set6 hg _ _ _ _ _ _, h.keep (Nat.le_refl _) (by rw [size_set6]; exact Nat.le_refl _) (fun b hb _ => heap_set6 _ _ _ _ _ _ _ _ ?_) (fun b hb _ => ?_)⟩
  · rcases hb with hb | hb
    · have := hS b hb; omega
    · omega
  · rcases hb with hb | hb
    · exact .inl hb
    · have := hx0.size; exact .inr (by omega)

set_option maxRecDepth 100000 in
set_option maxHeartbeats 4000000 in
theorem set_any {Bp : Nat} {Sp : Nat → Prop} {g : Nat} : ∀ (p : List ByteArray) (B : Nat) (S : Nat → Prop) (w : World) (t x : N) (tv xv pv : Value), p ≠ [] → B + p.length ≤ 2199023255552 → (∀ b, S b → b < w.heap.size) → g < w.heap.size → Wz t → TM B S w t tv → TM B S w x xv → Strs Bp Sp w pv p →
    Calls Tryz.prog 79 #[.pointer (some ⟨g, 0, none⟩), tv, pv, xv] w (TPostE (B + p.length) S (setT t p x) w) := by
  intro p
  induction p with
  | nil => intro B S w t x tv xv pv h; exact absurd rfl h
  | cons s q ih =>
  intro B S w t x tv xv pv _ hB hS hg hw hr hxr hp
  have IH := Lib.hid ih
  have HS := Lib.hid hS
  have HW := Lib.hid hw
  have HR := Lib.hid hr
  have HX := Lib.hid hxr
  have HP := Lib.hid hp
  obtain ⟨A, c, A', c', rfl⟩ := hr.agg
  obtain ⟨Ax, cx, Ax', cx', rfl⟩ := hxr.agg
  obtain ⟨Ap, cp, rfl, hcp, hmp, hBp, hsp, hpc⟩ := hp
  obtain ⟨bp, op, rfl, _, hbp, hpc⟩ := hpc (by simp)
  have HPT := Lib.hid HP.out.tail
  have hp0 : w.cell? ⟨bp, op, none⟩ = some (.string s) := by simpa using hpc 0 s rfl
  have hsm : s.size ≤ maxLen := hsp s (by simp)
  have HSM := Lib.hid hsm
  have hb1 : B + 1 ≤ 2199023255552 := by simp at hB; omega
  have e0 : Ext w (((w.alloc (.cells #[.int .i64 (-1), .int .u8 t.kind, .string t.text, .int .i64 (-1), .slice A t.names.length c, .slice A' t.kids.length c'] 45)).alloc (.cells #[.int .i64 (-1), .int .u8 x.kind, .string x.text, .int .i64 (-1), .slice Ax x.names.length cx, .slice Ax' x.kids.length cx'] 45)).alloc (.cells tz6 45)) := ((Ext.alloc' _ _).trans' (Ext.alloc' _ _)).trans' (Ext.alloc' _ _)
  have k5 := ((Blk.new w 45 #[.int .i64 (-1), .int .u8 t.kind, .string t.text, .int .i64 (-1), .slice A t.names.length c, .slice A' t.kids.length c']).alloc (.cells #[.int .i64 (-1), .int .u8 x.kind, .string x.text, .int .i64 (-1), .slice Ax x.names.length cx, .slice Ax' x.kids.length cx'] 45)).alloc (.cells tz6 45)
  have k7 := (Blk.new' (w.alloc (.cells #[.int .i64 (-1), .int .u8 t.kind, .string t.text, .int .i64 (-1), .slice A t.names.length c, .slice A' t.kids.length c'] 45)) 45 #[.int .i64 (-1), .int .u8 x.kind, .string x.text, .int .i64 (-1), .slice Ax x.names.length cx, .slice Ax' x.kids.length cx'] (n := w.heap.size + 1) (by simp)).alloc (.cells tz6 45)
  have k8 := Blk.new' ((w.alloc (.cells #[.int .i64 (-1), .int .u8 t.kind, .string t.text, .int .i64 (-1), .slice A t.names.length c, .slice A' t.kids.length c'] 45)).alloc (.cells #[.int .i64 (-1), .int .u8 x.kind, .string x.text, .int .i64 (-1), .slice Ax x.names.length cx, .slice Ax' x.kids.length cx'] 45)) 45 tz6 (n := w.heap.size + 1 + 1) (by simp)
  obtain ⟨W, hW⟩ : ∃ W, W = ((w.alloc (.cells #[.int .i64 (-1), .int .u8 t.kind, .string t.text, .int .i64 (-1), .slice A t.names.length c, .slice A' t.kids.length c'] 45)).alloc (.cells #[.int .i64 (-1), .int .u8 x.kind, .string x.text, .int .i64 (-1), .slice Ax x.names.length cx, .slice Ax' x.kids.length cx'] 45)).alloc (.cells tz6 45) := ⟨_, rfl⟩
  rw [← hW] at e0 k5 k7 k8
  have hzW : W.heap.size = w.heap.size + 3 := by rw [hW]; simp
  have E0 := Lib.hid e0
  have B8 := Lib.hid k8
  have B5 := Lib.hid k5
  have B7 := Lib.hid k7
  have HZW := Lib.hid hzW
  have HWW := Lib.hid hW
  have hpl : (s :: q).length = q.length + 1 := rfl
  have hcp0 := Lib.hid hcp
  clear hS hw hr hxr hsp hpc hmp hBp ih e0 k5 k7 k8 hzW hW hcp
  have cp0 : W.cell? ⟨bp, op, none⟩ = some (.string s) := (E0.out.cell (p := ⟨bp, op, none⟩) hbp).trans hp0
  have hbpW : bp < W.heap.size := by have := HZW.out; omega
  have hg8 : w.heap.size + 1 + 1 < W.heap.size := by have := HZW.out; omega
  cases q with
  | nil =>
    clear IH HPT hpl
    go_enter Tryz.func79, Tryz.ntmps79
    go_upto_region 2 with fail
    rw [← HWW.out]
    obtain ⟨⟨p0, p1, p2, p3, p4, p5⟩, _⟩ := B5.out.cells6
    obtain ⟨⟨q0, q1, q2, q3, q4, q5⟩, _⟩ := B7.out.cells6
    have pl := B5.out.lt
    have ql := B7.out.lt
    refine wp_region_still_tail 5 (by kernel_rfl) (by kernel_rfl) ?_
    simp only [List.take_succ_cons, List.take_zero, List.drop_succ_cons, List.drop_zero]
    change wpStill _ _ W.drew _ _ _
    repeat still_step
    refine wpStill_nil ?_
    change wpList _ _ _ _ _ W.drew
    have XD := Lib.hid (show Ext W W.drew from Below.drew (Below.refl _ _))
    go_wp2_with fail
    refine (twith_e (S := S) hb1 (fun b hb => by have := HS.out b hb; have := HZW.out; show b < W.heap.size; omega) HW.out.len HSM.out ((HR.out.ext E0.out).ext XD.out) ((HX.out.ext E0.out).ext XD.out)).mono ?_
    rintro e w4 ⟨A4, c4, A4', c4', rfl, x4, r4⟩
    have x4' : Ext W w4 := ⟨x4.os, x4.tape, x4.output, x4.size, x4.block⟩
    have X4 := Lib.hid x4'
    have R4 := Lib.hid r4
    have B84 := Lib.hid (B8.out.ext x4')
    obtain ⟨⟨y0, y1, y2, y3, y4, y5⟩, f0, f1, f2, f3, f4, f5⟩ := B84.out.cells6
    have yl := B84.out.lt
    clear x4 x4' r4 p0 p1 p2 p3 p4 p5 q0 q1 q2 q3 q4 q5 cp0
    go_wp2_with fail
    refine bodyPost_ret (results_tcell rfl _ _ _ _ _ _ _ _ _ rfl (B84.out.set6 _ _ _ _ _ _)) rfl ?_
    exact TPostE.box E0.out X4.out (by omega) hg8 HS.out R4.out
  | cons a r =>
    have hpl2 : (s :: a :: r).length = r.length + 2 := rfl
    have hB2 : B + (a :: r).length ≤ 2199023255552 := by simp at hB ⊢; omega
    have hB3 : B + (a :: r).length + 1 ≤ 2199023255552 := by simp at hB ⊢; omega
    have HB2 := Lib.hid hB2
    have HB3 := Lib.hid hB3
    have HPL : Hid (∀ t, TPostE (B + (s :: a :: r).length) S t = TPostE (B + (a :: r).length + 1) S t) := Lib.hid fun _ => rfl
    rw [HPL.out]
    obtain ⟨pl, hpl3⟩ : ∃ n, n = (s :: a :: r).length := ⟨_, rfl⟩
    have hcp2 : 2 ≤ pl := by rw [hpl3]; simp
    rw [← hpl3] at HPT ⊢
    have hp1 : ¬ (pl : Int) = 1 := by omega
    have hpq : ((pl : Int) == 1) = false := by rw [beq_eq_false_iff_ne]; omega
    have hpi : (1 : Int) ≤ (pl : Int) := by omega
    have hp00 : (0 : Int) < (pl : Int) := by omega
    have hp01 : 0 < pl := by omega
    have hcpp : pl ≤ cp := by rw [hpl3]; exact hcp0.out
    have hst : setT t (s :: a :: r) x = withT t s (setT ((t.kid s).getD N.zero) (a :: r) x) := by
      rw [setT]
      intro h; cases h
    rw [hst]
    clear hpl hpl2 hpl3 hB2 hB3 hst hB
    go_enter Tryz.func79, Tryz.ntmps79
    go_upto_region 3 with fail
    rw [← HWW.out]
    have HS0 := Lib.hid (show W.cell? ⟨w.heap.size, 0, none⟩ = some (.int .i64 (-1)) ∧ W.cell? ⟨w.heap.size, 1, none⟩ = some (.int .u8 t.kind) ∧ W.cell? ⟨w.heap.size, 2, none⟩ = some (.string t.text) ∧ W.cell? ⟨w.heap.size, 3, none⟩ = some (.int .i64 (-1)) ∧ W.cell? ⟨w.heap.size, 4, none⟩ = some (.slice A t.names.length c) ∧ W.cell? ⟨w.heap.size, 5, none⟩ = some (.slice A' t.kids.length c') ∧ W.cell? ⟨w.heap.size + 1, 0, none⟩ = some (.int .i64 (-1)) ∧ W.cell? ⟨w.heap.size + 1, 1, none⟩ = some (.int .u8 x.kind) ∧ W.cell? ⟨w.heap.size + 1, 2, none⟩ = some (.string x.text) ∧ W.cell? ⟨w.heap.size + 1, 3, none⟩ = some (.int .i64 (-1)) ∧ W.cell? ⟨w.heap.size + 1, 4, none⟩ = some (.slice Ax x.names.length cx) ∧ W.cell? ⟨w.heap.size + 1, 5, none⟩ = some (.slice Ax' x.kids.length cx') ∧ W.cell? ⟨bp, op, none⟩ = some (.string s) ∧ W.heap.size ≤ W.heap.size from ⟨B5.out.cell 0, B5.out.cell 1, B5.out.cell 2, B5.out.cell 3, B5.out.cell 4, B5.out.cell 5, B7.out.cell 0, B7.out.cell 1, B7.out.cell 2, B7.out.cell 3, B7.out.cell 4, B7.out.cell 5, cp0, Nat.le_refl _⟩)
    have hS0 : W.drew.cell? ⟨w.heap.size, 0, none⟩ = some (.int .i64 (-1)) ∧ W.drew.cell? ⟨w.heap.size, 1, none⟩ = some (.int .u8 t.kind) ∧ W.drew.cell? ⟨w.heap.size, 2, none⟩ = some (.string t.text) ∧ W.drew.cell? ⟨w.heap.size, 3, none⟩ = some (.int .i64 (-1)) ∧ W.drew.cell? ⟨w.heap.size, 4, none⟩ = some (.slice A t.names.length c) ∧ W.drew.cell? ⟨w.heap.size, 5, none⟩ = some (.slice A' t.kids.length c') ∧ W.drew.cell? ⟨w.heap.size + 1, 0, none⟩ = some (.int .i64 (-1)) ∧ W.drew.cell? ⟨w.heap.size + 1, 1, none⟩ = some (.int .u8 x.kind) ∧ W.drew.cell? ⟨w.heap.size + 1, 2, none⟩ = some (.string x.text) ∧ W.drew.cell? ⟨w.heap.size + 1, 3, none⟩ = some (.int .i64 (-1)) ∧ W.drew.cell? ⟨w.heap.size + 1, 4, none⟩ = some (.slice Ax x.names.length cx) ∧ W.drew.cell? ⟨w.heap.size + 1, 5, none⟩ = some (.slice Ax' x.kids.length cx') ∧ W.drew.cell? ⟨bp, op, none⟩ = some (.string s) ∧ W.heap.size ≤ W.drew.heap.size := HS0.out
    have K1 := Lib.hid (show ∀ w1 w2 : World, (w1.cell? ⟨w.heap.size, 0, none⟩ = some (.int .i64 (-1)) ∧ w1.cell? ⟨w.heap.size, 1, none⟩ = some (.int .u8 t.kind) ∧ w1.cell? ⟨w.heap.size, 2, none⟩ = some (.string t.text) ∧ w1.cell? ⟨w.heap.size, 3, none⟩ = some (.int .i64 (-1)) ∧ w1.cell? ⟨w.heap.size, 4, none⟩ = some (.slice A t.names.length c) ∧ w1.cell? ⟨w.heap.size, 5, none⟩ = some (.slice A' t.kids.length c') ∧ w1.cell? ⟨w.heap.size + 1, 0, none⟩ = some (.int .i64 (-1)) ∧ w1.cell? ⟨w.heap.size + 1, 1, none⟩ = some (.int .u8 x.kind) ∧ w1.cell? ⟨w.heap.size + 1, 2, none⟩ = some (.string x.text) ∧ w1.cell? ⟨w.heap.size + 1, 3, none⟩ = some (.int .i64 (-1)) ∧ w1.cell? ⟨w.heap.size + 1, 4, none⟩ = some (.slice Ax x.names.length cx) ∧ w1.cell? ⟨w.heap.size + 1, 5, none⟩ = some (.slice Ax' x.kids.length cx') ∧ w1.cell? ⟨bp, op, none⟩ = some (.string s) ∧ W.heap.size ≤ w1.heap.size) → Ext w1 w2 → (w2.cell? ⟨w.heap.size, 0, none⟩ = some (.int .i64 (-1)) ∧ w2.cell? ⟨w.heap.size, 1, none⟩ = some (.int .u8 t.kind) ∧ w2.cell? ⟨w.heap.size, 2, none⟩ = some (.string t.text) ∧ w2.cell? ⟨w.heap.size, 3, none⟩ = some (.int .i64 (-1)) ∧ w2.cell? ⟨w.heap.size, 4, none⟩ = some (.slice A t.names.length c) ∧ w2.cell? ⟨w.heap.size, 5, none⟩ = some (.slice A' t.kids.length c') ∧ w2.cell? ⟨w.heap.size + 1, 0, none⟩ = some (.int .i64 (-1)) ∧ w2.cell? ⟨w.heap.size + 1, 1, none⟩ = some (.int .u8 x.kind) ∧ w2.cell? ⟨w.heap.size + 1, 2, none⟩ = some (.string x.text) ∧ w2.cell? ⟨w.heap.size + 1, 3, none⟩ = some (.int .i64 (-1)) ∧ w2.cell? ⟨w.heap.size + 1, 4, none⟩ = some (.slice Ax x.names.length cx) ∧ w2.cell? ⟨w.heap.size + 1, 5, none⟩ = some (.slice Ax' x.kids.length cx') ∧ w2.cell? ⟨bp, op, none⟩ = some (.string s) ∧ W.heap.size ≤ w2.heap.size) from fun w1 w2 ⟨h0, h1, h2, h3, h4, h5, h6, h7, h8, h9, h10, h11, h12, hz⟩ hx => by
      have hzz := HZW.out
      exact ⟨(hx.cell (p := ⟨w.heap.size, 0, none⟩) (by show _ < w1.heap.size; simp only; omega)).trans h0, (hx.cell (p := ⟨w.heap.size, 1, none⟩) (by show _ < w1.heap.size; simp only; omega)).trans h1, (hx.cell (p := ⟨w.heap.size, 2, none⟩) (by show _ < w1.heap.size; simp only; omega)).trans h2, (hx.cell (p := ⟨w.heap.size, 3, none⟩) (by show _ < w1.heap.size; simp only; omega)).trans h3, (hx.cell (p := ⟨w.heap.size, 4, none⟩) (by show _ < w1.heap.size; simp only; omega)).trans h4, (hx.cell (p := ⟨w.heap.size, 5, none⟩) (by show _ < w1.heap.size; simp only; omega)).trans h5, (hx.cell (p := ⟨w.heap.size + 1, 0, none⟩) (by show _ < w1.heap.size; simp only; omega)).trans h6, (hx.cell (p := ⟨w.heap.size + 1, 1, none⟩) (by show _ < w1.heap.size; simp only; omega)).trans h7, (hx.cell (p := ⟨w.heap.size + 1, 2, none⟩) (by show _ < w1.heap.size; simp only; omega)).trans h8, (hx.cell (p := ⟨w.heap.size + 1, 3, none⟩) (by show _ < w1.heap.size; simp only; omega)).trans h9, (hx.cell (p := ⟨w.heap.size + 1, 4, none⟩) (by show _ < w1.heap.size; simp only; omega)).trans h10, (hx.cell (p := ⟨w.heap.size + 1, 5, none⟩) (by show _ < w1.heap.size; simp only; omega)).trans h11, (hx.cell (p := ⟨bp, op, none⟩) (by show _ < w1.heap.size; simp only; omega)).trans h12, Nat.le_trans hz hx.size⟩)
    have K2 := Lib.hid (show ∀ (w1 : World) (k : Nat) (u : Value), (w1.cell? ⟨w.heap.size, 0, none⟩ = some (.int .i64 (-1)) ∧ w1.cell? ⟨w.heap.size, 1, none⟩ = some (.int .u8 t.kind) ∧ w1.cell? ⟨w.heap.size, 2, none⟩ = some (.string t.text) ∧ w1.cell? ⟨w.heap.size, 3, none⟩ = some (.int .i64 (-1)) ∧ w1.cell? ⟨w.heap.size, 4, none⟩ = some (.slice A t.names.length c) ∧ w1.cell? ⟨w.heap.size, 5, none⟩ = some (.slice A' t.kids.length c') ∧ w1.cell? ⟨w.heap.size + 1, 0, none⟩ = some (.int .i64 (-1)) ∧ w1.cell? ⟨w.heap.size + 1, 1, none⟩ = some (.int .u8 x.kind) ∧ w1.cell? ⟨w.heap.size + 1, 2, none⟩ = some (.string x.text) ∧ w1.cell? ⟨w.heap.size + 1, 3, none⟩ = some (.int .i64 (-1)) ∧ w1.cell? ⟨w.heap.size + 1, 4, none⟩ = some (.slice Ax x.names.length cx) ∧ w1.cell? ⟨w.heap.size + 1, 5, none⟩ = some (.slice Ax' x.kids.length cx') ∧ w1.cell? ⟨bp, op, none⟩ = some (.string s) ∧ W.heap.size ≤ w1.heap.size) → ((w1.setCell ⟨w.heap.size + 1 + 1, k, none⟩ u).cell? ⟨w.heap.size, 0, none⟩ = some (.int .i64 (-1)) ∧ (w1.setCell ⟨w.heap.size + 1 + 1, k, none⟩ u).cell? ⟨w.heap.size, 1, none⟩ = some (.int .u8 t.kind) ∧ (w1.setCell ⟨w.heap.size + 1 + 1, k, none⟩ u).cell? ⟨w.heap.size, 2, none⟩ = some (.string t.text) ∧ (w1.setCell ⟨w.heap.size + 1 + 1, k, none⟩ u).cell? ⟨w.heap.size, 3, none⟩ = some (.int .i64 (-1)) ∧ (w1.setCell ⟨w.heap.size + 1 + 1, k, none⟩ u).cell? ⟨w.heap.size, 4, none⟩ = some (.slice A t.names.length c) ∧ (w1.setCell ⟨w.heap.size + 1 + 1, k, none⟩ u).cell? ⟨w.heap.size, 5, none⟩ = some (.slice A' t.kids.length c') ∧ (w1.setCell ⟨w.heap.size + 1 + 1, k, none⟩ u).cell? ⟨w.heap.size + 1, 0, none⟩ = some (.int .i64 (-1)) ∧ (w1.setCell ⟨w.heap.size + 1 + 1, k, none⟩ u).cell? ⟨w.heap.size + 1, 1, none⟩ = some (.int .u8 x.kind) ∧ (w1.setCell ⟨w.heap.size + 1 + 1, k, none⟩ u).cell? ⟨w.heap.size + 1, 2, none⟩ = some (.string x.text) ∧ (w1.setCell ⟨w.heap.size + 1 + 1, k, none⟩ u).cell? ⟨w.heap.size + 1, 3, none⟩ = some (.int .i64 (-1)) ∧ (w1.setCell ⟨w.heap.size + 1 + 1, k, none⟩ u).cell? ⟨w.heap.size + 1, 4, none⟩ = some (.slice Ax x.names.length cx) ∧ (w1.setCell ⟨w.heap.size + 1 + 1, k, none⟩ u).cell? ⟨w.heap.size + 1, 5, none⟩ = some (.slice Ax' x.kids.length cx') ∧ (w1.setCell ⟨w.heap.size + 1 + 1, k, none⟩ u).cell? ⟨bp, op, none⟩ = some (.string s) ∧ W.heap.size ≤ (w1.setCell ⟨w.heap.size + 1 + 1, k, none⟩ u).heap.size) from fun w1 k u ⟨h0, h1, h2, h3, h4, h5, h6, h7, h8, h9, h10, h11, h12, hz⟩ =>
      ⟨(World.cell?_of_block (w := w1) (a := ⟨w.heap.size, 0, none⟩) (Below.heap_setCell w1 _ _ _ (by show _ ≠ w.heap.size + 1 + 1; simp only; omega))).trans h0, (World.cell?_of_block (w := w1) (a := ⟨w.heap.size, 1, none⟩) (Below.heap_setCell w1 _ _ _ (by show _ ≠ w.heap.size + 1 + 1; simp only; omega))).trans h1, (World.cell?_of_block (w := w1) (a := ⟨w.heap.size, 2, none⟩) (Below.heap_setCell w1 _ _ _ (by show _ ≠ w.heap.size + 1 + 1; simp only; omega))).trans h2, (World.cell?_of_block (w := w1) (a := ⟨w.heap.size, 3, none⟩) (Below.heap_setCell w1 _ _ _ (by show _ ≠ w.heap.size + 1 + 1; simp only; omega))).trans h3, (World.cell?_of_block (w := w1) (a := ⟨w.heap.size, 4, none⟩) (Below.heap_setCell w1 _ _ _ (by show _ ≠ w.heap.size + 1 + 1; simp only; omega))).trans h4, (World.cell?_of_block (w := w1) (a := ⟨w.heap.size, 5, none⟩) (Below.heap_setCell w1 _ _ _ (by show _ ≠ w.heap.size + 1 + 1; simp only; omega))).trans h5, (World.cell?_of_block (w := w1) (a := ⟨w.heap.size + 1, 0, none⟩) (Below.heap_setCell w1 _ _ _ (by show _ ≠ w.heap.size + 1 + 1; simp only; omega))).trans h6, (World.cell?_of_block (w := w1) (a := ⟨w.heap.size + 1, 1, none⟩) (Below.heap_setCell w1 _ _ _ (by show _ ≠ w.heap.size + 1 + 1; simp only; omega))).trans h7, (World.cell?_of_block (w := w1) (a := ⟨w.heap.size + 1, 2, none⟩) (Below.heap_setCell w1 _ _ _ (by show _ ≠ w.heap.size + 1 + 1; simp only; omega))).trans h8, (World.cell?_of_block (w := w1) (a := ⟨w.heap.size + 1, 3, none⟩) (Below.heap_setCell w1 _ _ _ (by show _ ≠ w.heap.size + 1 + 1; simp only; omega))).trans h9, (World.cell?_of_block (w := w1) (a := ⟨w.heap.size + 1, 4, none⟩) (Below.heap_setCell w1 _ _ _ (by show _ ≠ w.heap.size + 1 + 1; simp only; omega))).trans h10, (World.cell?_of_block (w := w1) (a := ⟨w.heap.size + 1, 5, none⟩) (Below.heap_setCell w1 _ _ _ (by show _ ≠ w.heap.size + 1 + 1; simp only; omega))).trans h11, (World.cell?_of_block (w := w1) (a := ⟨bp, op, none⟩) (Below.heap_setCell w1 _ _ _ (by show _ ≠ w.heap.size + 1 + 1; simp only; omega))).trans h12, by simpa [World.setCell] using hz⟩)
    have F8 : Hid (∀ w1 : World, Ext W w1 → Blk w1 (w.heap.size + 1 + 1) 45 tz6) := Lib.hid fun w1 hx => B8.out.ext hx
    have XD := Lib.hid (show Ext W W.drew from Below.drew (Below.refl _ _))
    have hgW : g < W.drew.heap.size := by show g < W.heap.size; omega
    have hap : (some (⟨bp, op, none⟩ : Addr)).map (fun a => a.add 1) = some ⟨bp, op + 1, none⟩ := rfl
    have hc1 : ¬ cp = 1 := by omega
    clear cp0
    go_region_held3 (fun w' => w'.cell? ⟨w.heap.size, 0, none⟩ = some (.int .i64 (-1)) ∧ w'.cell? ⟨w.heap.size, 1, none⟩ = some (.int .u8 t.kind) ∧ w'.cell? ⟨w.heap.size, 2, none⟩ = some (.string t.text) ∧ w'.cell? ⟨w.heap.size, 3, none⟩ = some (.int .i64 (-1)) ∧ w'.cell? ⟨w.heap.size, 4, none⟩ = some (.slice A t.names.length c) ∧ w'.cell? ⟨w.heap.size, 5, none⟩ = some (.slice A' t.kids.length c') ∧ w'.cell? ⟨w.heap.size + 1, 0, none⟩ = some (.int .i64 (-1)) ∧ w'.cell? ⟨w.heap.size + 1, 1, none⟩ = some (.int .u8 x.kind) ∧ w'.cell? ⟨w.heap.size + 1, 2, none⟩ = some (.string x.text) ∧ w'.cell? ⟨w.heap.size + 1, 3, none⟩ = some (.int .i64 (-1)) ∧ w'.cell? ⟨w.heap.size + 1, 4, none⟩ = some (.slice Ax x.names.length cx) ∧ w'.cell? ⟨w.heap.size + 1, 5, none⟩ = some (.slice Ax' x.kids.length cx') ∧ w'.cell? ⟨bp, op, none⟩ = some (.string s) ∧ W.heap.size ≤ w'.heap.size)
      (first | (with_reducible exact hS0) | (with_reducible exact K1.out _ _ (by assumption) (by assumption)) | (with_reducible exact K2.out _ _ _ (K2.out _ _ _ (K2.out _ _ _ (K2.out _ _ _ (K2.out _ _ _ (K2.out _ _ _ (by assumption))))))))
      (first
        | (go_at_call 87; refine (kid_any hgW HW.out.len ((HR.out.ext E0.out).ext XD.out).choose_spec).mono ?_; rintro e w4 hpost; obtain ⟨A4, c4, A4', c4', rfl, x4, r4⟩ := hpost.term; have X4 := Lib.hid x4; have R4 := Lib.hid (TM.of r4); have WZ4 := Lib.hid (HW.out.kid s); clear r4 hpost)
        | (go_at_call 79; refine (IH.out B S _ _ x _ _ _ (List.cons_ne_nil _ _) HB2.out (fun b hb => by have := HS.out b hb; have := X4.out.size; have := HZW.out; have : W.heap.size ≤ W.drew.heap.size := Nat.le_refl _; omega) (Nat.lt_of_lt_of_le hgW X4.out.size) WZ4.out R4.out (((HX.out.ext E0.out).ext XD.out).ext X4.out) (((HPT.out.ext E0.out).ext XD.out).ext X4.out)).mono ?_; rintro e w5 ⟨A5, c5, A5', c5', rfl, x5, r5⟩; have X5 := Lib.hid x5; have R5 := Lib.hid r5; clear r5)
        | (go_at_call 88; refine (twith_e (S := fun b => (S b ∨ w4.heap.size ≤ b) ∧ b < w5.heap.size) HB3.out (fun b hb => hb.2) HW.out.len HSM.out (((((HR.out.ext E0.out).ext XD.out).ext X4.out).ext X5.out).keep (Nat.le_add_right _ _) (Nat.le_refl _) (fun _ _ _ => rfl) (fun b hb hl => ⟨.inl hb, hl⟩)) (R5.out.keep (Nat.le_refl _) (Nat.le_refl _) (fun _ _ _ => rfl) (fun b hb hl => ⟨hb, hl⟩))).mono ?_; rintro e w6 ⟨A6, c6, A6', c6', rfl, x6, r6⟩; have X6 := Lib.hid x6; have R6 := Lib.hid r6; clear r6; have B86 := F8.out w6 (((XD.out.trans' X4.out).trans' X5.out).trans' x6); have HB86 := Lib.hid B86; obtain ⟨⟨y0, y1, y2, y3, y4, y5⟩, f0, f1, f2, f3, f4, f5⟩ := B86.cells6; have yl := B86.lt; clear B86))
    all_goals
      go_wp2_with fail
      refine bodyPost_ret (results_tcell rfl _ _ _ _ _ _ _ _ _ rfl (HB86.out.set6 _ _ _ _ _ _)) rfl ?_
      have hx4 : Ext W w4 := XD.out.trans' X4.out
      refine TPostE.box E0.out ((hx4.trans' X5.out).trans' X6.out) (by omega) hg8 HS.out (R6.out.keep (Nat.le_refl _) (Nat.le_refl _) (fun _ _ _ => rfl) (fun b hb _ => ?_))
      have h4 := hx4.size
      have h5 := X5.out.size
      rcases hb with ⟨hb | hb, _⟩ | hb
      · exact .inl hb
      · exact .inr (by omega)
      · exact .inr (by omega)
end Go.Proofs.YtocndkhgopjhhaaGreat
