/- touchstoneref07's file system over a term that is made whole: Kind, IsEmpty, open. -/
import Derived.Test.YtocndkhgopjhhaaGreatProg
import Derived.Test.YtocndkhgopjhhaaGreatFsB
import Derived.Test.YtocndkhgopjhhaaGreatPrim
import Derived.StillTailTactics
import Derived.Deep.DeepCutAuto
import Derived.Outline
namespace Go.Proofs.YtocndkhgopjhhaaGreat
open Go.RowKit

set_option maxRecDepth 100000 in
set_option maxHeartbeats 1000000 in
theorem fKind_any {B Bp d : Nat} {S Sp : Nat → Prop} {w : World} {g : Nat} {t : N} {pv : Value} {p : List ByteArray} (hS : ∀ b, S b → b < w.heap.size) (h : FSAt B S w g (d + 1) t) (hw : Wz t) (hp : Strs Bp Sp w pv p) :
    Calls Tryz.prog 59 #[.pointer (some ⟨g, 0, none⟩), pv] w fun e w' => e = .returned (.int .u8 (t.kindAt p)) ∧ Ext w w' := by
  have H0 := Lib.hid h.zero
  have H := Lib.hid h
  have HP := Lib.hid hp
  obtain ⟨kq, hkq⟩ : ∃ k, k = t.kindAt p := ⟨_, rfl⟩
  rw [← hkq]
  have HK : Hid (kq = ((t.get p).getD N.zero).kind) := Lib.hid hkq
  obtain ⟨Ap, cp, rfl, _⟩ := hp
  clear h hkq
  go_enter Tryz.func59, Tryz.ntmps59
  go_wp2_with fail
  refine (fat_any hS H.out hw HP.out).mono ?_
  rintro e w1 ⟨A1, c1, A1', c1', rfl, x1, r1⟩
  generalize (t.get p).getD N.zero = q at *
  have X1 := Lib.hid x1
  have E1 := Lib.hid (x1.trans' (Ext.alloc' w1 (.cells #[.int .i64 (-1), .int .u8 q.kind, .string q.text, .int .i64 (-1), .slice A1 q.names.length c1, .slice A1' q.kids.length c1'] 45)))
  have Z1 := H0.out.ext E1.out
  have ZZ := Lib.hid Z1
  obtain ⟨z7, z9, zl⟩ := Z1
  have zl1 := (H0.out.ext x1).2.2
  have zl2 : g < w1.heap.size + 1 := by omega
  clear x1 r1
  go_wp2_with fail
  refine (kindT_any ZZ.out).mono ?_
  rintro e w2 ⟨rfl, x2⟩
  have X2 := Lib.hid (E1.out.trans' x2)
  clear x2
  go_wp2_with fail
  go_ret
  exact ⟨ret_int HK.out.symm, X2.out⟩

set_option maxRecDepth 100000 in
set_option maxHeartbeats 1000000 in
theorem fopen_any {B Bp d : Nat} {S Sp : Nat → Prop} {w : World} {g : Nat} {t : N} {pv : Value} {p : List ByteArray} (hS : ∀ b, S b → b < w.heap.size) (h : FSAt B S w g (d + 1) t) (hw : Wz t) (hp : Strs Bp Sp w pv p) :
    Calls Tryz.prog 78 #[.pointer (some ⟨g, 0, none⟩), pv] w fun e w' => e = .returned (.bool (openB t p)) ∧ Ext w w' := by
  have H0 := Lib.hid h.zero
  have H := Lib.hid h
  have HP := Lib.hid hp
  obtain ⟨Ap, cp, rfl, hcp, hmp, hBp, hsp, hpc⟩ := hp
  have HPC := Lib.hid hpc
  have HSP := Lib.hid hsp
  unfold maxLen at hmp
  clear h hpc hsp
  rcases snoc_or p with rfl | ⟨q, s, rfl⟩
  · clear HPC HSP
    go_enter Tryz.func78, Tryz.ntmps78
    go_wp2_with fail
    go_ret
    exact ⟨rfl, Below.refl _ _⟩
  · have hl : (q ++ [s]).length = q.length + 1 := by simp
    have HO := Lib.hid (openB_snoc t q s)
    have hIn := HP.out.init'
    have HIN := Lib.hid hIn
    obtain ⟨bp, op, rfl, _, hbp, hpc⟩ := HPC.out (by rw [hl]; omega)
    have cj : w.cell? ⟨bp, op + q.length, none⟩ = some (.string s) := hpc q.length s (by simp)
    have HSZ := Lib.hid (HSP.out s (by simp))
    rw [hl] at hcp ⊢
    have hq1 : (q.length : Int) + 1 - 1 = q.length := by omega
    have hbp' : bp < w.heap.size := hbp
    clear hpc HPC HSP hIn hl
    obtain ⟨o, ho⟩ : ∃ o, o = openB t (q ++ [s]) := ⟨_, rfl⟩
    rw [← ho]
    have HO := Lib.hid (ho.trans HO.out)
    clear ho
    cases hn : nameB s
    · have HN := Lib.hid hn
      have HR : Hid (o = false) := Lib.hid (by rw [HO.out, hn]; rfl)
      clear hn
      go_enter Tryz.func78, Tryz.ntmps78
      go_wp2_with (go_at_call 69; refine (name6_any s _ HSZ.out).mono ?_; rw [HN.out]; rintro e w3 ⟨rfl, hw3⟩; subst w3)
      go_ret
      exact ⟨ret_bool HR.out.symm, Below.refl _ _⟩
    · have HN := Lib.hid hn
      have HR : Hid (o = decide (t.kindAt q = 2)) := Lib.hid (by rw [HO.out, hn]; rfl)
      clear hn
      have HK := Lib.hid (fun w1 (_ : w = w1) => fKind_any hS H.out hw HIN.out)
      obtain ⟨kq, hkq⟩ : ∃ k, k = t.kindAt q := ⟨_, rfl⟩
      rw [← hkq] at HR HK
      clear hkq
      go_enter Tryz.func78, Tryz.ntmps78
      by_cases hk : kq = 2
      · have hk2 : (kq == 2) = true := by simpa using hk
        have HRR : Hid (o = true) := Lib.hid (by rw [HR.out, decide_eq_true hk])
        clear hk
        go_wp2_with (first | (go_at_call 69; refine (name6_any s _ HSZ.out).mono ?_; rw [HN.out]; rintro e w3 ⟨rfl, hw3⟩; subst w3) | (go_at_call 59; refine (HK.out _ rfl).mono ?_; rintro e w4 ⟨rfl, x4⟩; have X4 := Lib.hid x4; obtain ⟨z7, z9, zl⟩ := H0.out.ext x4; clear x4))
        go_ret
        exact ⟨ret_bool HRR.out.symm, X4.out⟩
      · have hk2 : (kq == 2) = false := by simpa using hk
        have HRR : Hid (o = false) := Lib.hid (by rw [HR.out, decide_eq_false hk])
        clear hk
        go_wp2_with (first | (go_at_call 69; refine (name6_any s _ HSZ.out).mono ?_; rw [HN.out]; rintro e w3 ⟨rfl, hw3⟩; subst w3) | (go_at_call 59; refine (HK.out _ rfl).mono ?_; rintro e w4 ⟨rfl, x4⟩; have X4 := Lib.hid x4; clear x4))
        go_ret
        exact ⟨ret_bool HRR.out.symm, X4.out⟩

theorem Wz.get {t : N} (h : Wz t) (p : List ByteArray) : Wz ((t.get p).getD N.zero) := by
  induction p generalizing t with
  | nil => exact h
  | cons s r ih => rw [get_step]; exact ih (h.kid s)
theorem Wz.kids {t : N} (h : Wz t) : ∀ k ∈ t.kids, k.well = true := by
  rcases h with h | rfl
  · by_cases e : t.kind = 2
    · exact (DirW.of h e).well
    · obtain ⟨k, tx, ns, ks⟩ := t
      obtain ⟨rfl, rfl⟩ := N.well_leaf h e
      intro x hx
      cases hx
  · intro x hx; cases hx

set_option maxRecDepth 100000 in
set_option maxHeartbeats 4000000 in
theorem isEmpty_any {B Bp d : Nat} {S Sp : Nat → Prop} {w : World} {g : Nat} {t : N} {pv : Value} {p : List ByteArray} (hS : ∀ b, S b → b < w.heap.size) (h : FSAt B S w g (d + 1) t) (hw : Wz t) (hp : Strs Bp Sp w pv p) :
    Calls Tryz.prog 62 #[.pointer (some ⟨g, 0, none⟩), pv] w fun e w' => e = .returned (.bool (emptyB ((t.get p).getD N.zero))) ∧ Ext w w' := by
  have H0 := Lib.hid h.zero
  have H := Lib.hid h
  have HP := Lib.hid hp
  have HW := Lib.hid hw
  have HS := Lib.hid hS
  have HK := Lib.hid (show t.kindAt p = ((t.get p).getD N.zero).kind from rfl)
  have WZ := Lib.hid (hw.get p)
  obtain ⟨q, hq⟩ : ∃ q, q = (t.get p).getD N.zero := ⟨_, rfl⟩
  have HQ := Lib.hid hq
  rw [← hq] at HK WZ ⊢
  obtain ⟨o, ho⟩ : ∃ o, o = emptyB q := ⟨_, rfl⟩
  rw [← ho]
  have HO : Hid (o = (decide (q.kind = 2) && decide (q.names.length = 0))) := Lib.hid ho
  obtain ⟨Ap, cp, rfl, _⟩ := hp
  clear h hS hw hq ho
  go_enter Tryz.func62, Tryz.ntmps62
  go_wp2_with fail
  refine (fKind_any HS.out H.out HW.out HP.out).mono ?_
  rw [HK.out]
  rintro e w1 ⟨rfl, x1⟩
  have X1 := Lib.hid x1
  obtain ⟨z7, z9, zl⟩ := H0.out.ext x1
  have HS1 := Lib.hid (fun b (hb : S b) => Nat.lt_of_lt_of_le (HS.out b hb) x1.size)
  clear x1
  by_cases hk : q.kind = 2
  · have hk2 : (q.kind != 2) = false := by simpa using hk
    have HO2 : Hid (o = decide (q.names.length = 0)) := Lib.hid (by rw [HO.out, decide_eq_true hk]; rfl)
    clear hk HO
    go_wp2_with fail
    refine (fat_any HS1.out (H.out.ext X1.out) HW.out (HP.out.ext X1.out)).mono ?_
    rw [← HQ.out]
    rintro e w2 ⟨A2, c2, A2', c2', rfl, x2, r2⟩
    have E2 := Lib.hid (X1.out.trans' (x2.trans' (Ext.alloc' w2 (.cells #[.int .i64 (-1), .int .u8 q.kind, .string q.text, .int .i64 (-1), .slice A2 q.names.length c2, .slice A2' q.kids.length c2'] 45))))
    have R2 := Lib.hid (r2.ext (Ext.alloc' w2 (.cells #[.int .i64 (-1), .int .u8 q.kind, .string q.text, .int .i64 (-1), .slice A2 q.names.length c2, .slice A2' q.kids.length c2'] 45)))
    have B2 := Lib.hid (Blk.new w2 45 #[.int .i64 (-1), .int .u8 q.kind, .string q.text, .int .i64 (-1), .slice A2 q.names.length c2, .slice A2' q.kids.length c2'])
    clear x2 r2 z7 z9 zl
    go_wp2_with fail
    go_loopw [7] (fun i wr => i = .int .i64 0 ∧ (w2.alloc (.cells #[.int .i64 (-1), .int .u8 q.kind, .string q.text, .int .i64 (-1), .slice A2 q.names.length c2, .slice A2' q.kids.length c2'] 45)) = wr) (fun _ _ => 0)
    case atStart => exact ⟨rfl, rfl⟩
    case round =>
      obtain ⟨rfl, hwr⟩ := hrel
      obtain ⟨p0, p1, p2, p3, p4, p5⟩ := B2.out.cells6.1
      have pl := B2.out.lt
      rw [hwr] at E2 R2 B2 p0 p1 p2 p3 p4 p5 pl
      clear hwr
      obtain ⟨z7, z9, zl⟩ := H0.out.ext E2.out
      obtain ⟨_, _, e2, he2, hk⟩ := R2.out.parts
      clear he2
      obtain ⟨_, hkc, hkm, hkB, hkk⟩ := hk.at'
      have hlen := WZ.out.len
      by_cases hz : q.kids.length = 0
      · have hz1 : ¬ (0 : Int) < (q.kids.length : Int) := by omega
        have HR : Hid (o = true) := Lib.hid (by rw [HO2.out]; exact decide_eq_true (by omega))
        have hz2 : (q.kids.length : Int) = 0 := by omega
        clear hkk hz hlen hk
        go_wp2_with fail
        go_ret
        exact ⟨ret_bool HR.out.symm, E2.out⟩
      · have hz1 : (0 : Int) < (q.kids.length : Int) := by omega
        have HR : Hid (o = false) := Lib.hid (by rw [HO2.out]; exact decide_eq_false (by omega))
        obtain ⟨b, off, rfl, hSb, hbl, hcell⟩ := hkk (by omega)
        have hk0 : q.kids[0]? = some q.kids[0] := List.getElem?_eq_getElem (by omega)
        obtain ⟨v0, v1, v2, v3, v4, v5, d0, d1, d2, d3, d4, d5, hrk⟩ := hcell 0 _ hk0
        obtain ⟨Aj, cj', Aj', cj'', rfl, rfl, rfl, rfl, rfl, rfl⟩ := hrk.shape
        have hkw := well_kind (WZ.out.kids _ (List.getElem_mem (by omega : 0 < q.kids.length)))
        generalize q.kids[0] = kk at d0 d1 d2 d3 d4 d5 hrk hkw hk0
        have hkw2 : (kk.kind != 0) = true := by simpa using hkw
        simp only [Nat.zero_mul, Nat.add_zero] at d0 d1 d2 d3 d4 d5
        clear hkk hcell hk hrk hkw hk0 hz hlen HO2
        go_wp2_with fail
        refine (kindT_any (H0.out.ext E2.out)).mono ?_
        rintro e w3 ⟨rfl, x3⟩
        have E3 := Lib.hid (E2.out.trans' x3)
        clear z7 z9 zl d0 d1 d2 d3 d4 d5 p0 p1 p2 p3 p4 p5
        obtain ⟨z7, z9, zl⟩ := H0.out.ext E3.out
        clear x3
        go_wp2_with fail
        go_ret
        exact ⟨ret_bool HR.out.symm, E3.out⟩
  · have hk2 : (q.kind != 2) = true := by simpa using hk
    have HR : Hid (o = false) := Lib.hid (by rw [HO.out, decide_eq_false hk]; rfl)
    clear hk
    go_wp2_with fail
    go_ret
    exact ⟨ret_bool HR.out.symm, X1.out⟩
end Go.Proofs.YtocndkhgopjhhaaGreat
