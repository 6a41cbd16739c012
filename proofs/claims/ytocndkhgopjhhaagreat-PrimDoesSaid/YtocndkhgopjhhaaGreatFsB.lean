/- touchstoneref07's file system over a term that is made whole: at, Kind, IsEmpty. -/
import Derived.Test.YtocndkhgopjhhaaGreatProg
import Derived.Test.YtocndkhgopjhhaaGreatFsA
import Derived.Test.YtocndkhgopjhhaaGreatWell7
import Derived.StillTailTactics
import Derived.Deep.DeepCutAuto
import Derived.Outline
namespace Go.Proofs.YtocndkhgopjhhaaGreat
open Go.RowKit

/-- well formed, or not there. -/
def Wz (t : N) : Prop := t.well = true ∨ t = N.zero
theorem Wz.len {t : N} (h : Wz t) : t.names.length = t.kids.length := by
  rcases h with h | rfl
  · by_cases e : t.kind = 2
    · exact (DirW.of h e).len
    · obtain ⟨k, tx, ns, ks⟩ := t
      obtain ⟨rfl, rfl⟩ := N.well_leaf h e
      rfl
  · rfl
theorem Wz.noKid {t : N} (h : Wz t) (hk : t.kind ≠ 2) (s : ByteArray) : t.kid s = none := by
  rcases h with h | rfl
  · cases hks : t.kid s with
    | none => rfl
    | some k => exact absurd (kind_dir h hks) hk
  · rfl
theorem Wz.noName {t : N} (h : Wz t) {s : ByteArray} (hn : nameB s = false) : t.kid s = none := by
  rcases h with h | rfl
  · cases hks : t.kid s with
    | none => rfl
    | some k =>
      have hd := DirW.of h (kind_dir h hks)
      obtain ⟨i, hi, _⟩ := hd.kid_iff.1 hks
      rw [hd.name s (List.mem_of_getElem? hi)] at hn
      cases hn
  · rfl
theorem Wz.kid {t : N} (h : Wz t) (s : ByteArray) : Wz ((t.kid s).getD N.zero) := by
  cases hks : t.kid s with
  | none => exact .inr rfl
  | some k =>
    rcases h with h | rfl
    · exact .inl ((DirW.of h (kind_dir h hks)).kid_well hks)
    · cases hks
theorem get_zero (p : List ByteArray) : (N.zero.get p).getD N.zero = N.zero := by
  cases p with
  | nil => rfl
  | cons s r => rfl
theorem get_step (t : N) (s : ByteArray) (r : List ByteArray) : (t.get (s :: r)).getD N.zero = (((t.kid s).getD N.zero).get r).getD N.zero := by
  rw [N.get_cons]
  cases t.kid s with
  | none => exact (get_zero r).symm
  | some k => rfl
theorem get_off {t : N} {s : ByteArray} {r : List ByteArray} (h : t.kid s = none) : (t.get (s :: r)).getD N.zero = N.zero := by
  rw [get_step, h]; exact get_zero r

/-- a term comes out. -/
def TermPost (B : Nat) (S : Nat → Prop) (d : Nat) (t : N) (w : World) (e : Ending) (w' : World) : Prop := ∃ A c A' c', e = .returned (termV t A c A' c') ∧ Ext w w' ∧ TRep B S w' d t (termV t A c A' c')
theorem KidPost.term {B d : Nat} {S : Nat → Prop} {o : Option N} {w : World} {e : Ending} {w' : World} (h : KidPost B S d o w e w') : TermPost B S d (o.getD N.zero) w e w' := by
  obtain ⟨v, he, hx, hr⟩ := h
  obtain ⟨A, c, A', c', rfl⟩ := hr.agg
  exact ⟨A, c, A', c', he, hx, hr⟩

set_option maxRecDepth 100000 in
set_option maxHeartbeats 4000000 in
theorem fat_any {B Bp d : Nat} {S Sp : Nat → Prop} {w : World} {g : Nat} {t : N} {pv : Value} {p : List ByteArray} (hS : ∀ b, S b → b < w.heap.size) (h : FSAt B S w g (d + 1) t) (hw : Wz t) (hp : Strs Bp Sp w pv p) :
    Calls Tryz.prog 76 #[.pointer (some ⟨g, 0, none⟩), pv] w (TermPost B S (d + 1) ((t.get p).getD N.zero) w) := by
  obtain ⟨q, hq⟩ : ∃ q, q = (t.get p).getD N.zero := ⟨_, rfl⟩
  rw [← hq]
  have HQ := Lib.hid hq
  have H0 := Lib.hid h.zero
  have HS := Lib.hid hS
  have HW := Lib.hid hw
  obtain ⟨A, c, A', c', hb, hr, _⟩ := h
  obtain ⟨Ap, cp, rfl, hcp, hmp, hBp, hsp, hpc⟩ := hp
  have HPC := Lib.hid hpc
  have HSP := Lib.hid hsp
  have HR := Lib.hid hr
  have hgl := hb.lt
  have c1 : w.cell? ⟨g, 1, none⟩ = some (.int .i64 (-1)) := hb.cell 1
  have c2 : w.cell? ⟨g, 2, none⟩ = some (.int .u8 t.kind) := hb.cell 2
  have c3 : w.cell? ⟨g, 3, none⟩ = some (.string t.text) := hb.cell 3
  have c4 : w.cell? ⟨g, 4, none⟩ = some (.int .i64 (-1)) := hb.cell 4
  have c5 : w.cell? ⟨g, 5, none⟩ = some (.slice A t.names.length c) := hb.cell 5
  have c6 : w.cell? ⟨g, 6, none⟩ = some (.slice A' t.kids.length c') := hb.cell 6
  have e0 := (Ext.alloc' w (.cells tz6 45)).trans' (Ext.alloc' _ (.cells #[.int .i64 (-1), .int .u8 t.kind, .string t.text, .int .i64 (-1), .slice A t.names.length c, .slice A' t.kids.length c'] 45))
  have E0 := Lib.hid e0
  have X4 := Lib.hid ((Blk.new w 45 tz6).alloc (.cells #[.int .i64 (-1), .int .u8 t.kind, .string t.text, .int .i64 (-1), .slice A t.names.length c, .slice A' t.kids.length c'] 45))
  have X5 := Lib.hid (Blk.new' (w.alloc (.cells tz6 45)) 45 #[.int .i64 (-1), .int .u8 t.kind, .string t.text, .int .i64 (-1), .slice A t.names.length c, .slice A' t.kids.length c'] (n := w.heap.size + 1) (by simp))
  clear hq hS hw hb hr hpc hsp hBp e0
  unfold maxLen at hmp
  have hgl1 : g < w.heap.size + 1 := by omega
  go_enter Tryz.func76, Tryz.ntmps76
  go_wp2_with fail
  clear c1 c2 c3 c4 c5 c6
  go_loopw [6] (fun i wr => ∃ (j : Nat) (tc : N) (A : Option Addr) (c : Nat) (A' : Option Addr) (c' : Nat), j ≤ p.length ∧ i = .int .i64 j ∧ Ext w wr ∧ Blk wr w.heap.size 45 tz6 ∧
      Blk wr (w.heap.size + 1) 45 #[.int .i64 (-1), .int .u8 tc.kind, .string tc.text, .int .i64 (-1), .slice A tc.names.length c, .slice A' tc.kids.length c'] ∧ TRep B S wr (d + 1) tc (termV tc A c A' c') ∧ Wz tc ∧ q = (tc.get (p.drop j)).getD N.zero) (fun i _ => p.length - (intOf i).toNat)
  case atStart => exact ⟨0, t, A, c, A', c', Nat.zero_le _, rfl, E0.out, X4.out, X5.out, HR.out.ext E0.out, HW.out, HQ.out⟩
  case round =>
    obtain ⟨j, tc, A, c, A', c', hj, rfl, hx, h4, h5, hr, hwz, hq⟩ := hrel
    have X := Lib.hid hx
    have B4 := Lib.hid h4
    have B5 := Lib.hid h5
    have R := Lib.hid hr
    have WZ := Lib.hid hwz
    have HQ := Lib.hid hq
    have hzx := hx.size
    obtain ⟨⟨y0, y1, y2, y3, y4, y5⟩, f0, f1, f2, f3, f4, f5⟩ := h4.cells6
    obtain ⟨⟨p0, p1, p2, p3, p4, p5⟩, g0, g1, g2, g3, g4, g5⟩ := h5.cells6
    have yl := h4.lt
    have pl := h5.lt
    clear hx h4 h5 hr hwz hq E0 X4 X5 HR HW
    by_cases hlt : j < p.length
    · have hi : (j : Int) < (p.length : Int) := by omega
      obtain ⟨bp, op, rfl, hSp, hbp, hcp⟩ := HPC.out (by omega)
      have cj := hcp j _ (List.getElem?_eq_getElem hlt)
      have hpd := List.drop_eq_getElem_cons hlt
      have hsz := HSP.out _ (List.getElem_mem hlt)
      generalize p[j] = s at cj hpd hsz
      have HPD := Lib.hid hpd
      have HSZ := Lib.hid hsz
      have CJ := Lib.hid cj
      have cj0 : wr.cell? ⟨bp, op + j, none⟩ = some (.string s) := (X.out.cell (p := ⟨bp, op + j, none⟩) hbp).trans cj
      have hbpW : bp < wr.heap.size := by omega
      clear hcp hpd hsz cj HPC
      by_cases hk : tc.kind = 2
      · have hk2 : (tc.kind != 2) = false := by simpa using hk
        clear hk
        go_wp2_with fail
        refine (kindT_any (H0.out.ext X.out)).mono ?_
        rintro e w1 ⟨rfl, x1⟩
        have X1 := Lib.hid (X.out.trans' x1)
        have E1 := Lib.hid x1
        clear x1 p0 p1 p2 p3 p4 p5 g0 g1 g2 g3 g4 g5 y0 y1 y2 y3 y4 y5 f0 f1 f2 f3 f4 f5 cj0
        go_wp2_with fail
        refine (stop_any (H0.out.ext X1.out)).mono ?_
        rintro e w2 ⟨rfl, x2⟩
        have X2 := Lib.hid (X1.out.trans' x2)
        have E2 := Lib.hid (E1.out.trans' x2)
        have hz2 := x2.size
        have hz1 := E1.out.size
        have cj0 : w2.cell? ⟨bp, op + j, none⟩ = some (.string s) := (X2.out.cell (p := ⟨bp, op + j, none⟩) hbp).trans CJ.out
        have hbpW2 : bp < w2.heap.size := by omega
        have h5 := B5.out.ext E2.out
        have h4 := B4.out.ext E2.out
        have B52 := Lib.hid h5
        have B42 := Lib.hid h4
        obtain ⟨⟨p0, p1, p2, p3, p4, p5⟩, g0, g1, g2, g3, g4, g5⟩ := h5.cells6
        obtain ⟨⟨y0, y1, y2, y3, y4, y5⟩, f0, f1, f2, f3, f4, f5⟩ := h4.cells6
        have pl2 := h5.lt
        have yl2 := h4.lt
        clear x2 h4 h5 B4 B5
        cases hnm : nameB s
        · have HN := Lib.hid hnm
          have HQ2 : Hid (q = N.zero) := Lib.hid (by rw [HQ.out, HPD.out, get_off (WZ.out.noName hnm)])
          clear hnm
          go_wp2_with (go_at_call 69; refine (name6_any s _ HSZ.out).mono ?_; rw [HN.out]; rintro e w3 ⟨rfl, hw3⟩; subst w3)
          refine (absent_any _).mono ?_
          rintro e w4 ⟨rfl, x4⟩
          have X4 := Lib.hid (X2.out.trans' x4)
          have B44 := Lib.hid (B42.out.ext x4)
          clear x4 y0 y1 y2 y3 y4 y5 f0 f1 f2 f3 f4 f5
          obtain ⟨⟨y0, y1, y2, y3, y4, y5⟩, f0, f1, f2, f3, f4, f5⟩ := B44.out.cells6
          have yl4 := B44.out.lt
          go_wp2_with fail
          refine bodyPost_ret (results_tcell rfl _ _ _ _ _ _ _ _ _ rfl (B44.out.set6 _ _ _ _ _ _)) rfl ?_
          rw [HQ2.out]
          exact ⟨none, 0, none, 0, rfl, X4.out.set6 (Nat.le_refl _) _ _ _ _ _ _, TRep.zero⟩
        · have HN := Lib.hid hnm
          clear hnm
          go_upto_region 7 with (go_at_call 69; refine (name6_any s _ HSZ.out).mono ?_; rw [HN.out]; rintro e w3 ⟨rfl, hw3⟩; subst w3)
          refine wp_region_still_tail 6 (by kernel_rfl) (by kernel_rfl) ?_
          simp only [List.take_succ_cons, List.take_zero, List.drop_succ_cons, List.drop_zero]
          change wpStill _ _ w2.drew _ _ _
          repeat still_step
          refine wpStill_nil ?_
          change wpList _ _ _ _ _ w2.drew
          have XD := Lib.hid (show Ext w2 w2.drew from Below.drew (Below.refl _ _))
          go_wp2_with fail
          refine (kid_any (show g < w2.drew.heap.size by show g < w2.heap.size; omega) WZ.out.len ((R.out.ext E2.out).ext XD.out)).mono ?_
          rintro e w4 hpost
          obtain ⟨A4, c4, A4', c4', rfl, x4, r4⟩ := hpost.term
          have x4' : Ext w2 w4 := ⟨x4.os, x4.tape, x4.output, x4.size, x4.block⟩
          have X4 := Lib.hid (X2.out.trans' x4')
          have R4 := Lib.hid r4
          have B44 := Lib.hid (B42.out.ext x4')
          have B54 := Lib.hid (B52.out.ext x4')
          clear x4 x4' r4 hpost p0 p1 p2 p3 p4 p5 g0 g1 g2 g3 g4 g5 y0 y1 y2 y3 y4 y5 f0 f1 f2 f3 f4 f5 cj0
          obtain ⟨⟨p0, p1, p2, p3, p4, p5⟩, g0, g1, g2, g3, g4, g5⟩ := B54.out.cells6
          have pl4 := B54.out.lt
          have WZ4 := Lib.hid (WZ.out.kid s)
          have HQ4 : Hid (q = (((tc.kid s).getD N.zero).get (p.drop (j + 1))).getD N.zero) := Lib.hid (by rw [HQ.out, HPD.out, get_step])
          generalize (tc.kid s).getD N.zero = t4 at R4 WZ4 HQ4 ⊢
          go_wp2_with fail
          go_roundw
          case rel =>
            refine ⟨j + 1, t4, A4, c4, A4', c4', by omega, by go_num, X4.out.set6 (by omega) _ _ _ _ _ _, ?_, B54.out.set6 _ _ _ _ _ _, ?_, WZ4.out, HQ4.out⟩
            · exact (heap_set6 _ _ _ _ _ _ _ _ (by omega)).trans B44.out
            · exact TRep.keep (Nat.le_refl _) (by show w4.heap.size ≤ (set6 _ _ _ _ _ _ _ _).heap.size; rw [size_set6]; exact Nat.le_refl _) (fun b hb _ => heap_set6 _ _ _ _ _ _ _ _ (by have := HS.out b hb; omega)) (fun _ h _ => h) (Nat.le_refl _) _ _ R4.out
          case measure => simp [intOf]; omega
      · have hk2 : (tc.kind != 2) = true := by simpa using hk
        have HQ2 : Hid (q = N.zero) := Lib.hid (by rw [HQ.out, HPD.out, get_off (WZ.out.noKid hk s)])
        clear hk
        go_wp2_with fail
        refine (kindT_any (H0.out.ext X.out)).mono ?_
        rintro e w1 ⟨rfl, x1⟩
        have X1 := Lib.hid (X.out.trans' x1)
        have B41' := Lib.hid (B4.out.ext x1)
        clear x1 p0 p1 p2 p3 p4 p5 g0 g1 g2 g3 g4 g5 y0 y1 y2 y3 y4 y5 f0 f1 f2 f3 f4 f5 cj0
        go_wp2_with fail
        refine (absent_any _).mono ?_
        rintro e w4 ⟨rfl, x4⟩
        have X4 := Lib.hid (X1.out.trans' x4)
        have B44 := Lib.hid (B41'.out.ext x4)
        clear x4
        obtain ⟨⟨y0, y1, y2, y3, y4, y5⟩, f0, f1, f2, f3, f4, f5⟩ := B44.out.cells6
        have yl4 := B44.out.lt
        go_wp2_with fail
        refine bodyPost_ret (results_tcell rfl _ _ _ _ _ _ _ _ _ rfl (B44.out.set6 _ _ _ _ _ _)) rfl ?_
        rw [HQ2.out]
        exact ⟨none, 0, none, 0, rfl, X4.out.set6 (Nat.le_refl _) _ _ _ _ _ _, TRep.zero⟩
    · have hi : ¬ (j : Int) < (p.length : Int) := by omega
      have HQ2 : Hid (q = tc) := Lib.hid (by rw [HQ.out, List.drop_eq_nil_of_le (by omega)]; rfl)
      go_wp2_with fail
      refine bodyPost_ret (results_tcell rfl _ _ _ _ _ _ _ _ _ rfl (B4.out.set6 _ _ _ _ _ _)) rfl ?_
      rw [HQ2.out]
      exact ⟨A, c, A', c', rfl, X.out.set6 (Nat.le_refl _) _ _ _ _ _ _, TRep.keep (Nat.le_refl _) (by rw [size_set6]; exact Nat.le_refl _) (fun b hb _ => heap_set6 _ _ _ _ _ _ _ _ (by have := HS.out b hb; omega)) (fun _ h _ => h) (Nat.le_refl _) _ _ R.out⟩
end Go.Proofs.YtocndkhgopjhhaaGreat
