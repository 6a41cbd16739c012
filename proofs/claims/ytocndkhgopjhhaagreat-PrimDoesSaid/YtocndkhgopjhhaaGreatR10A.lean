/- touchstoneref10 over a term that is made whole: MakeDir .. RemoveAll. -/
import Derived.Test.YtocndkhgopjhhaaGreatProg
import Derived.Test.YtocndkhgopjhhaaGreatFsF
import Derived.Test.YtocndkhgopjhhaaGreatMake
import Derived.Outline
namespace Go.Proofs.YtocndkhgopjhhaaGreat
open Go.RowKit

/-- 'The pointer to block g is the file system of the node t', whose terms lie beside the blocks of X. -/
def FIs (X : Nat → Prop) (B : Nat) (w : World) (g : Nat) (t : N) : Prop := FSIs B (fun b => (b ≠ g ∧ ¬ X b) ∧ b < w.heap.size) w g t ∧ ∀ b, X b → b < w.heap.size
theorem FIs.ext {X : Nat → Prop} {B : Nat} {w w' : World} {g : Nat} {t : N} (h : FIs X B w g t) (hx : Ext w w') : FIs X B w' g t := by
  obtain ⟨⟨d, hf⟩, hX⟩ := h
  have hl := hf.lt
  exact ⟨⟨d, hf.keep (Nat.le_refl _) (Nat.le_refl _) hx.size (hx.block g hl) (fun b hb hb' => hx.block b hb') (fun b hb _ => ⟨hb.1, Nat.lt_of_lt_of_le hb.2 hx.size⟩) (fun b hb => hb.1.1)⟩, fun b hb => Nat.lt_of_lt_of_le (hX b hb) hx.size⟩
theorem FIs.wide {X : Nat → Prop} {B B' : Nat} {w : World} {g : Nat} {t : N} (h : FIs X B w g t) (hB : B ≤ B') : FIs X B' w g t := by
  obtain ⟨⟨d, hf⟩, hX⟩ := h
  exact ⟨⟨d, hf.keep hB (Nat.le_refl _) (Nat.le_refl _) rfl (fun _ _ _ => rfl) (fun _ hb _ => hb) (fun b hb => hb.1.1)⟩, hX⟩
/-- beside a change of the blocks of X. -/
theorem FIs.turn {X F : Nat → Prop} {B : Nat} {w w' : World} {g : Nat} {t : N} (h : FIs X B w g t) (ht : Turns F w w') (hF : ∀ b, F b → X b ∧ b ≠ g) : FIs X B w' g t := by
  obtain ⟨⟨d, hf⟩, hX⟩ := h
  have hl := hf.lt
  exact ⟨⟨d, hf.keep (Nat.le_refl _) (Nat.le_refl _) ht.size (ht.block g hl fun h => (hF g h).2 rfl) (fun b hb hb' => ht.block b hb' fun h => hb.1.2 (hF b h).1) (fun b hb _ => ⟨hb.1, Nat.lt_of_lt_of_le hb.2 ht.size⟩) (fun b hb => hb.1.1)⟩, fun b hb => Nat.lt_of_lt_of_le (hX b hb) ht.size⟩
/-- What a call of touchstoneref10 comes to. -/
def RPostX (X : Nat → Prop) (B g : Nat) (r : Int × N) (w : World) (e : Ending) (w' : World) : Prop := e = .returned (.int .i64 r.1) ∧ Turns (fun b => b = g) w w' ∧ FIs X B w' g r.2
section
variable {X : Nat → Prop} {B Bp g : Nat} {Sp : Nat → Prop} {t : N} {w : World} {pv : Value} {p : List ByteArray}
theorem RPostX.no {c : Int} {w' : World} (h : FIs X B w g t) (hx : Ext w w') : RPostX X (B + 40) g (c, t) w (.returned (.int .i64 c)) w' := ⟨rfl, Turns.ofExt hx, (h.ext hx).wide (by omega)⟩
theorem RPostX.yes {B' : Nat} {w1 w2 : World} {e : Ending} (hX : ∀ b, X b → b < w.heap.size) (h : FDone B' (fun b => (b ≠ g ∧ ¬ X b) ∧ b < w1.heap.size) g t w1 e w2) (hx : Ext w w1) (hB : B' ≤ B + 40) : RPostX X (B + 40) g (0, t) w (.returned (.int .i64 0)) w2 := by
  obtain ⟨_, ht, d, hf⟩ := h
  have hz := hx.size
  have hz2 := ht.size
  refine ⟨rfl, Turns.trans (Turns.ofExt hx) ht (fun _ h _ => h), ⟨d, hf.keep hB (Nat.le_refl _) (Nat.le_refl _) rfl (fun _ _ _ => rfl) (fun b hb hl => ⟨⟨hf.ne hb, fun hxb => ?_⟩, hl⟩) (fun b hb => hb.1.1)⟩, fun b hb => by have := hX b hb; omega⟩
  rcases hb with hb | hb
  · exact hb.1.2 hxb
  · have := hX b hxb; omega
/-- what is asked of a place. -/
structure PF (w : World) (g : Nat) (t : N) (pv : Value) (p : List ByteArray) : Prop where
  kd : ∀ w1, Ext w w1 → Calls Tryz.prog 59 #[.pointer (some ⟨g, 0, none⟩), pv] w1 fun e w' => e = .returned (.int .u8 (t.kindAt p)) ∧ Ext w1 w'
  em : ∀ w1, Ext w w1 → Calls Tryz.prog 62 #[.pointer (some ⟨g, 0, none⟩), pv] w1 fun e w' => e = .returned (.bool (emptyB ((t.get p).getD N.zero))) ∧ Ext w1 w'
  tk : ∀ w1, Ext w w1 → Calls Tryz.prog 58 #[.pointer (some ⟨g, 0, none⟩), pv] w1 fun e w' => e = .returned (.bool (takenB t p)) ∧ Ext w1 w'

set_option maxRecDepth 100000 in
set_option maxHeartbeats 1000000 in
theorem taken10_any (h : FIs X B w g t) (hd : DirW t) (hp : Strs Bp Sp w pv p) : Calls Tryz.prog 58 #[.pointer (some ⟨g, 0, none⟩), pv] w fun e w' => e = .returned (.bool (takenB t p)) ∧ Ext w w' := by
  have HF := Lib.hid h.1
  have HP := Lib.hid hp
  have HW := Lib.hid (show Wz t from .inl hd.wf)
  obtain ⟨Ap, cp, rfl, hcp, hmp, hBp, hsp, hpc⟩ := hp
  have HPC := Lib.hid hpc
  have HSP := Lib.hid hsp
  unfold maxLen at hmp
  clear h hpc hsp hd hBp
  rcases snoc_or p with rfl | ⟨q, s, rfl⟩
  · clear HPC HSP
    go_enter Tryz.func58, Tryz.ntmps58
    go_wp2_with fail
    go_ret
    exact ⟨rfl, Below.refl _ _⟩
  · have hl : (q ++ [s]).length = q.length + 1 := by simp
    have HO := Lib.hid (show takenB t (q ++ [s]) = (nameB s && decide (t.kindAt q = 2)) from by unfold takenB; rw [openB_snoc]; simp)
    have HIN := Lib.hid HP.out.init'
    obtain ⟨bp, op, rfl, _, hbp, hpc⟩ := HPC.out (by rw [hl]; omega)
    have cj : w.cell? ⟨bp, op + q.length, none⟩ = some (.string s) := hpc q.length s (by simp)
    have HSZ := Lib.hid (HSP.out s (by simp))
    rw [hl] at hcp ⊢
    have hq1 : (q.length : Int) + 1 - 1 = q.length := by omega
    have hq0 : ((q.length : Int) + 1 == 0) = false := by rw [beq_eq_false_iff_ne]; omega
    have hbp' : bp < w.heap.size := hbp
    clear hpc HPC HSP hl
    obtain ⟨o, ho⟩ : ∃ o, o = takenB t (q ++ [s]) := ⟨_, rfl⟩
    rw [← ho]
    have HO := Lib.hid (ho.trans HO.out)
    clear ho
    cases hn : nameB s
    · have HN := Lib.hid hn
      have HR : Hid (o = false) := Lib.hid (by rw [HO.out, hn]; rfl)
      clear hn
      go_enter Tryz.func58, Tryz.ntmps58
      go_wp2_with (go_at_call 69; refine (name6_any s _ HSZ.out).mono ?_; rw [HN.out]; rintro e w3 ⟨rfl, hw3⟩; subst w3)
      go_ret
      exact ⟨ret_bool HR.out.symm, Below.refl _ _⟩
    · have HN := Lib.hid hn
      have HR : Hid (o = decide (t.kindAt q = 2)) := Lib.hid (by rw [HO.out, hn]; rfl)
      clear hn
      have HK := Lib.hid (fun w1 (_ : w = w1) => HF.out.kind (fun b hb => hb.2) HW.out HIN.out)
      obtain ⟨kq, hkq⟩ : ∃ k, k = t.kindAt q := ⟨_, rfl⟩
      rw [← hkq] at HR HK
      clear hkq
      go_enter Tryz.func58, Tryz.ntmps58
      by_cases hk : kq = 2
      · have hk2 : (kq == 2) = true := by simpa using hk
        have HRR : Hid (o = true) := Lib.hid (by rw [HR.out, decide_eq_true hk])
        clear hk
        go_wp2_with (first | (go_at_call 69; refine (name6_any s _ HSZ.out).mono ?_; rw [HN.out]; rintro e w3 ⟨rfl, hw3⟩; subst w3) | (go_at_call 59; refine (HK.out _ rfl).mono ?_; rintro e w4 ⟨rfl, x4⟩; have X4 := Lib.hid x4; clear x4))
        go_ret
        exact ⟨ret_bool HRR.out.symm, X4.out⟩
      · have hk2 : (kq == 2) = false := by simpa using hk
        have HRR : Hid (o = false) := Lib.hid (by rw [HR.out, decide_eq_false hk])
        clear hk
        go_wp2_with (first | (go_at_call 69; refine (name6_any s _ HSZ.out).mono ?_; rw [HN.out]; rintro e w3 ⟨rfl, hw3⟩; subst w3) | (go_at_call 59; refine (HK.out _ rfl).mono ?_; rintro e w4 ⟨rfl, x4⟩; have X4 := Lib.hid x4; clear x4))
        go_ret
        exact ⟨ret_bool HRR.out.symm, X4.out⟩

theorem PF.of (h : FIs X B w g t) (hd : DirW t) (hp : Strs Bp Sp w pv p) : PF w g t pv p where
  kd := fun _ x => (h.ext x).1.kind (fun _ hb => hb.2) (.inl hd.wf) (hp.ext x)
  em := fun _ x => (h.ext x).1.empty (fun _ hb => hb.2) (.inl hd.wf) (hp.ext x)
  tk := fun _ x => taken10_any (h.ext x) hd (hp.ext x)

set_option maxRecDepth 100000 in
set_option maxHeartbeats 4000000 in
theorem made10_any (hB : B + 40 ≤ 2199023255552) (hl : p.length ≤ 20) (h : FIs X B w g t) (hd : DirW t) (hp : Strs Bp Sp w pv p) {Sx : Nat → Prop} {dx : Nat} {x : N} {xv : Value} (hx : Rep 0 Sx w dx x xv) :
    Calls Tryz.prog 57 #[.pointer (some ⟨g, 0, none⟩), pv, xv] w (RPostX X (B + 40) g (pMake x t p) w) := by
  have HF := Lib.hid h
  have HP := Lib.hid hp
  have HD := Lib.hid hd
  have HXB := Lib.hid h.2
  have HZ := Lib.hid h.1.zero
  have TK := Lib.hid (PF.of h hd hp).tk
  have KD := Lib.hid (PF.of h hd hp).kd
  have EM := Lib.hid (PF.of h hd hp).em
  obtain ⟨Ap, cp, rfl, _⟩ := hp
  have HX := Lib.hid hx
  obtain ⟨Ax, cx, Ax', cx', rfl⟩ := hx.agg
  have X := Lib.hid (Ext.alloc' w (.cells #[.int .u8 x.kind, .string x.text, .slice Ax x.names.length cx, .slice Ax' x.kids.length cx'] 25))
  have BN := Lib.hid (Blk.new w 25 #[.int .u8 x.kind, .string x.text, .slice Ax x.names.length cx, .slice Ax' x.kids.length cx'])
  clear h hd hx
  by_cases h1 : takenB t p = false
  · have HR := Lib.hid (show pMake x t p = (5, t) from by unfold pMake; rw [if_pos h1])
    have HT := Lib.hid h1
    clear h1
    go_enter Tryz.func57, Tryz.ntmps57
    go_wp2_with (first
      | (go_at_call 58; (with_reducible refine (TK.out _ X.out).mono ?_); rw [HT.out]; rintro e w8 ⟨rfl, x8⟩; have X := Lib.hid (X.out.trans' x8); have BN := Lib.hid (BN.out.ext x8); obtain ⟨q0, q1, q2, q3, _⟩ := BN.out.cells4; have ql := BN.out.lt; clear x8)
      | (go_at_call 60; refine (stop_any (HZ.out.ext X.out)).mono ?_; rintro e w8 ⟨rfl, x8⟩; have X := Lib.hid (X.out.trans' x8); have BN := Lib.hid (BN.out.ext x8); obtain ⟨q0, q1, q2, q3, _⟩ := BN.out.cells4; have ql := BN.out.lt; clear x8)
      | (go_at_call 59; (with_reducible refine (KD.out _ X.out).mono ?_); rintro e w8 ⟨rfl, x8⟩; have X := Lib.hid (X.out.trans' x8); have BN := Lib.hid (BN.out.ext x8); obtain ⟨q0, q1, q2, q3, _⟩ := BN.out.cells4; have ql := BN.out.lt; clear x8)
      | (go_at_call 39; refine (well7_any _ _ _ x _ _ (HX.out.ext X.out)).mono ?_; rw [HW.out]; rintro e w8 ⟨rfl, x8⟩; have X := Lib.hid (X.out.trans' x8); have BN := Lib.hid (BN.out.ext x8); obtain ⟨q0, q1, q2, q3, _⟩ := BN.out.cells4; have ql := BN.out.lt; clear x8))
    go_ret
    rw [HR.out]
    exact RPostX.no HF.out X.out
  have HT := Lib.hid (show takenB t p = true by simpa using h1)
  by_cases h2 : x.well = false
  · have HR := Lib.hid (show pMake x t p = (4, t) from by unfold pMake; rw [if_neg h1]; rw [if_pos h2])
    have HW := Lib.hid h2
    clear h2
    go_enter Tryz.func57, Tryz.ntmps57
    go_wp2_with (first
      | (go_at_call 58; (with_reducible refine (TK.out _ X.out).mono ?_); rw [HT.out]; rintro e w8 ⟨rfl, x8⟩; have X := Lib.hid (X.out.trans' x8); have BN := Lib.hid (BN.out.ext x8); obtain ⟨q0, q1, q2, q3, _⟩ := BN.out.cells4; have ql := BN.out.lt; clear x8)
      | (go_at_call 60; refine (stop_any (HZ.out.ext X.out)).mono ?_; rintro e w8 ⟨rfl, x8⟩; have X := Lib.hid (X.out.trans' x8); have BN := Lib.hid (BN.out.ext x8); obtain ⟨q0, q1, q2, q3, _⟩ := BN.out.cells4; have ql := BN.out.lt; clear x8)
      | (go_at_call 59; (with_reducible refine (KD.out _ X.out).mono ?_); rintro e w8 ⟨rfl, x8⟩; have X := Lib.hid (X.out.trans' x8); have BN := Lib.hid (BN.out.ext x8); obtain ⟨q0, q1, q2, q3, _⟩ := BN.out.cells4; have ql := BN.out.lt; clear x8)
      | (go_at_call 39; refine (well7_any _ _ _ x _ _ (HX.out.ext X.out)).mono ?_; rw [HW.out]; rintro e w8 ⟨rfl, x8⟩; have X := Lib.hid (X.out.trans' x8); have BN := Lib.hid (BN.out.ext x8); obtain ⟨q0, q1, q2, q3, _⟩ := BN.out.cells4; have ql := BN.out.lt; clear x8))
    go_ret
    rw [HR.out]
    exact RPostX.no HF.out X.out
  have HW := Lib.hid (show x.well = true by simpa using h2)
  by_cases h3 : t.kindAt p ≠ 0
  · have HR := Lib.hid (show pMake x t p = (6, t) from by unfold pMake; rw [if_neg h1]; rw [if_neg h2]; rw [if_pos h3])
    have k3 : (t.kindAt p != 0) = true := by simpa using h3
    clear h3
    go_enter Tryz.func57, Tryz.ntmps57
    go_wp2_with (first
      | (go_at_call 58; (with_reducible refine (TK.out _ X.out).mono ?_); rw [HT.out]; rintro e w8 ⟨rfl, x8⟩; have X := Lib.hid (X.out.trans' x8); have BN := Lib.hid (BN.out.ext x8); obtain ⟨q0, q1, q2, q3, _⟩ := BN.out.cells4; have ql := BN.out.lt; clear x8)
      | (go_at_call 60; refine (stop_any (HZ.out.ext X.out)).mono ?_; rintro e w8 ⟨rfl, x8⟩; have X := Lib.hid (X.out.trans' x8); have BN := Lib.hid (BN.out.ext x8); obtain ⟨q0, q1, q2, q3, _⟩ := BN.out.cells4; have ql := BN.out.lt; clear x8)
      | (go_at_call 59; (with_reducible refine (KD.out _ X.out).mono ?_); rintro e w8 ⟨rfl, x8⟩; have X := Lib.hid (X.out.trans' x8); have BN := Lib.hid (BN.out.ext x8); obtain ⟨q0, q1, q2, q3, _⟩ := BN.out.cells4; have ql := BN.out.lt; clear x8)
      | (go_at_call 39; refine (well7_any _ _ _ x _ _ (HX.out.ext X.out)).mono ?_; rw [HW.out]; rintro e w8 ⟨rfl, x8⟩; have X := Lib.hid (X.out.trans' x8); have BN := Lib.hid (BN.out.ext x8); obtain ⟨q0, q1, q2, q3, _⟩ := BN.out.cells4; have ql := BN.out.lt; clear x8))
    go_ret
    rw [HR.out]
    exact RPostX.no HF.out X.out
  have k3 : (t.kindAt p != 0) = false := by simpa using h3
  have HR := Lib.hid (show pMake x t p = (0, t.tput p x) from by unfold pMake; rw [if_neg h1]; rw [if_neg h2]; rw [if_neg h3])
  clear h1 h2 h3
  go_enter Tryz.func57, Tryz.ntmps57
  go_wp2_with (first
    | (go_at_call 58; (with_reducible refine (TK.out _ X.out).mono ?_); rw [HT.out]; rintro e w8 ⟨rfl, x8⟩; have X := Lib.hid (X.out.trans' x8); have BN := Lib.hid (BN.out.ext x8); obtain ⟨q0, q1, q2, q3, _⟩ := BN.out.cells4; have ql := BN.out.lt; clear x8)
    | (go_at_call 60; refine (stop_any (HZ.out.ext X.out)).mono ?_; rintro e w8 ⟨rfl, x8⟩; have X := Lib.hid (X.out.trans' x8); have BN := Lib.hid (BN.out.ext x8); obtain ⟨q0, q1, q2, q3, _⟩ := BN.out.cells4; have ql := BN.out.lt; clear x8)
    | (go_at_call 59; (with_reducible refine (KD.out _ X.out).mono ?_); rintro e w8 ⟨rfl, x8⟩; have X := Lib.hid (X.out.trans' x8); have BN := Lib.hid (BN.out.ext x8); obtain ⟨q0, q1, q2, q3, _⟩ := BN.out.cells4; have ql := BN.out.lt; clear x8)
    | (go_at_call 39; refine (well7_any _ _ _ x _ _ (HX.out.ext X.out)).mono ?_; rw [HW.out]; rintro e w8 ⟨rfl, x8⟩; have X := Lib.hid (X.out.trans' x8); have BN := Lib.hid (BN.out.ext x8); obtain ⟨q0, q1, q2, q3, _⟩ := BN.out.cells4; have ql := BN.out.lt; clear x8)
    | (go_at_call 61; refine (fput_any (Bx := 0) (by omega) (Nat.zero_le _) (fun b hb => hb.2) (HF.out.ext X.out).1 HD.out (HP.out.ext X.out) (HX.out.ext X.out)).mono ?_; rintro e w9 hdn; obtain ⟨rfl, _⟩ := id hdn; have HDN := Lib.hid hdn; clear hdn))
  go_ret
  rw [HR.out]
  exact RPostX.yes HXB.out HDN.out X.out (by omega)

set_option maxRecDepth 100000 in
set_option maxHeartbeats 4000000 in
theorem touch10_any (hB : B + 40 ≤ 2199023255552) (hl : p.length ≤ 20) (h : FIs X B w g t) (hd : DirW t) (hp : Strs Bp Sp w pv p) :
    Calls Tryz.prog 33 #[.pointer (some ⟨g, 0, none⟩), pv] w (RPostX X (B + 40) g (pTouch t p) w) := by
  have HF := Lib.hid h
  have HP := Lib.hid hp
  have HD := Lib.hid hd
  have HXB := Lib.hid h.2
  have HZ := Lib.hid h.1.zero
  have TK := Lib.hid (PF.of h hd hp).tk
  have KD := Lib.hid (PF.of h hd hp).kd
  have EM := Lib.hid (PF.of h hd hp).em
  obtain ⟨Ap, cp, rfl, _⟩ := hp
  have X : Hid (Ext w w) := Lib.hid (Below.refl _ _)
  clear h hd
  by_cases h1 : takenB t p = false
  · have HR := Lib.hid (show pTouch t p = (5, t) from by unfold pTouch; rw [if_pos h1])
    have HT := Lib.hid h1
    clear h1
    go_enter Tryz.func33, Tryz.ntmps33
    go_wp2_with (first
      | (go_at_call 58; (with_reducible refine (TK.out _ X.out).mono ?_); rw [HT.out]; rintro e w8 ⟨rfl, x8⟩; have X := Lib.hid (X.out.trans' x8); clear x8)
      | (go_at_call 60; refine (stop_any (HZ.out.ext X.out)).mono ?_; rintro e w8 ⟨rfl, x8⟩; have X := Lib.hid (X.out.trans' x8); clear x8)
      | (go_at_call 59; (with_reducible refine (KD.out _ X.out).mono ?_); rintro e w8 ⟨rfl, x8⟩; have X := Lib.hid (X.out.trans' x8); clear x8))
    go_ret
    rw [HR.out]
    exact RPostX.no HF.out X.out
  have HT := Lib.hid (show takenB t p = true by simpa using h1)
  by_cases h2 : t.kindAt p = 3
  · have HR := Lib.hid (show pTouch t p = (5, t) from by unfold pTouch; rw [if_neg h1]; rw [if_pos h2])
    have k3 : (t.kindAt p == 3) = true := by simpa using h2
    clear h2
    go_enter Tryz.func33, Tryz.ntmps33
    go_wp2_with (first
      | (go_at_call 58; (with_reducible refine (TK.out _ X.out).mono ?_); rw [HT.out]; rintro e w8 ⟨rfl, x8⟩; have X := Lib.hid (X.out.trans' x8); clear x8)
      | (go_at_call 60; refine (stop_any (HZ.out.ext X.out)).mono ?_; rintro e w8 ⟨rfl, x8⟩; have X := Lib.hid (X.out.trans' x8); clear x8)
      | (go_at_call 59; (with_reducible refine (KD.out _ X.out).mono ?_); rintro e w8 ⟨rfl, x8⟩; have X := Lib.hid (X.out.trans' x8); clear x8))
    go_ret
    rw [HR.out]
    exact RPostX.no HF.out X.out
  have k3 : (t.kindAt p == 3) = false := by simpa using h2
  by_cases h3 : t.kindAt p = 0
  · have HR := Lib.hid (show pTouch t p = (0, t.tput p (nFile bN)) from by unfold pTouch; rw [if_neg h1]; rw [if_neg h2]; rw [if_pos h3])
    have k0 : (t.kindAt p == 0) = true := by simpa using h3
    clear h3
    go_enter Tryz.func33, Tryz.ntmps33
    go_wp2_with (first
      | (go_at_call 58; (with_reducible refine (TK.out _ X.out).mono ?_); rw [HT.out]; rintro e w8 ⟨rfl, x8⟩; have X := Lib.hid (X.out.trans' x8); clear x8)
      | (go_at_call 60; refine (stop_any (HZ.out.ext X.out)).mono ?_; rintro e w8 ⟨rfl, x8⟩; have X := Lib.hid (X.out.trans' x8); clear x8)
      | (go_at_call 59; (with_reducible refine (KD.out _ X.out).mono ?_); rintro e w8 ⟨rfl, x8⟩; have X := Lib.hid (X.out.trans' x8); clear x8)
      | (go_at_call 61; refine (fput_any (x := nFile bN) (Bx := 0) (by omega) (Nat.zero_le _) (fun b hb => hb.2) (HF.out.ext X.out).1 HD.out (HP.out.ext X.out) (show Rep 0 (fun _ => True) _ 1 (nFile bN) _ from Rep.leaf (by decide))).mono ?_; rintro e w9 hdn; obtain ⟨rfl, _⟩ := id hdn; have HDN := Lib.hid hdn; clear hdn))
    go_ret
    rw [HR.out]
    exact RPostX.yes HXB.out HDN.out X.out (by omega)
  have k0 : (t.kindAt p == 0) = false := by simpa using h3
  have HR := Lib.hid (show pTouch t p = (0, t) from by unfold pTouch; rw [if_neg h1]; rw [if_neg h2]; rw [if_neg h3])
  clear h1 h2 h3
  go_enter Tryz.func33, Tryz.ntmps33
  go_wp2_with (first
    | (go_at_call 58; (with_reducible refine (TK.out _ X.out).mono ?_); rw [HT.out]; rintro e w8 ⟨rfl, x8⟩; have X := Lib.hid (X.out.trans' x8); clear x8)
    | (go_at_call 60; refine (stop_any (HZ.out.ext X.out)).mono ?_; rintro e w8 ⟨rfl, x8⟩; have X := Lib.hid (X.out.trans' x8); clear x8)
    | (go_at_call 59; (with_reducible refine (KD.out _ X.out).mono ?_); rintro e w8 ⟨rfl, x8⟩; have X := Lib.hid (X.out.trans' x8); clear x8))
  go_ret
  rw [HR.out]
  exact RPostX.no HF.out X.out

set_option maxRecDepth 100000 in
set_option maxHeartbeats 4000000 in
theorem removeDir10_any (hB : B + 40 ≤ 2199023255552) (hl : p.length ≤ 20) (h : FIs X B w g t) (hd : DirW t) (hp : Strs Bp Sp w pv p) :
    Calls Tryz.prog 34 #[.pointer (some ⟨g, 0, none⟩), pv] w (RPostX X (B + 40) g (pRemove wDir t p) w) := by
  have HF := Lib.hid h
  have HP := Lib.hid hp
  have HD := Lib.hid hd
  have HXB := Lib.hid h.2
  have HZ := Lib.hid h.1.zero
  have TK := Lib.hid (PF.of h hd hp).tk
  have KD := Lib.hid (PF.of h hd hp).kd
  have EM := Lib.hid (PF.of h hd hp).em
  obtain ⟨Ap, cp, rfl, _⟩ := hp
  have X : Hid (Ext w w) := Lib.hid (Below.refl _ _)
  clear h hd
  by_cases h1 : takenB t p = false
  · have HR := Lib.hid (show pRemove wDir t p = (5, t) from by unfold pRemove; rw [if_pos h1])
    have HT := Lib.hid h1
    clear h1
    go_enter Tryz.func34, Tryz.ntmps34
    go_wp2_with (first
      | (go_at_call 58; (with_reducible refine (TK.out _ X.out).mono ?_); rw [HT.out]; rintro e w8 ⟨rfl, x8⟩; have X := Lib.hid (X.out.trans' x8); clear x8)
      | (go_at_call 60; refine (stop_any (HZ.out.ext X.out)).mono ?_; rintro e w8 ⟨rfl, x8⟩; have X := Lib.hid (X.out.trans' x8); clear x8)
      | (go_at_call 59; (with_reducible refine (KD.out _ X.out).mono ?_); rintro e w8 ⟨rfl, x8⟩; have X := Lib.hid (X.out.trans' x8); clear x8))
    go_ret
    rw [HR.out]
    exact RPostX.no HF.out X.out
  have HT := Lib.hid (show takenB t p = true by simpa using h1)
  by_cases h2 : t.kindAt p = 0
  · have HR := Lib.hid (show pRemove wDir t p = (5, t) from by unfold pRemove; rw [if_neg h1]; rw [if_pos h2])
    have k0 : (t.kindAt p == 0) = true := by simpa using h2
    clear h2
    go_enter Tryz.func34, Tryz.ntmps34
    go_wp2_with (first
      | (go_at_call 58; (with_reducible refine (TK.out _ X.out).mono ?_); rw [HT.out]; rintro e w8 ⟨rfl, x8⟩; have X := Lib.hid (X.out.trans' x8); clear x8)
      | (go_at_call 60; refine (stop_any (HZ.out.ext X.out)).mono ?_; rintro e w8 ⟨rfl, x8⟩; have X := Lib.hid (X.out.trans' x8); clear x8)
      | (go_at_call 59; (with_reducible refine (KD.out _ X.out).mono ?_); rintro e w8 ⟨rfl, x8⟩; have X := Lib.hid (X.out.trans' x8); clear x8))
    go_ret
    rw [HR.out]
    exact RPostX.no HF.out X.out
  have k0 : (t.kindAt p == 0) = false := by simpa using h2
  by_cases h3 : t.kindAt p ≠ 2
  · have hw : wDir t p = 55 := by
      unfold wDir
      rw [if_pos h3]
    have HR := Lib.hid (show pRemove wDir t p = (55, t) from by unfold pRemove; rw [if_neg h1, if_neg h2, hw]; rfl)
    clear hw
    have k2 : (t.kindAt p != 2) = true := by simpa using h3
    clear h3
    go_enter Tryz.func34, Tryz.ntmps34
    go_wp2_with (first
      | (go_at_call 58; (with_reducible refine (TK.out _ X.out).mono ?_); rw [HT.out]; rintro e w8 ⟨rfl, x8⟩; have X := Lib.hid (X.out.trans' x8); clear x8)
      | (go_at_call 60; refine (stop_any (HZ.out.ext X.out)).mono ?_; rintro e w8 ⟨rfl, x8⟩; have X := Lib.hid (X.out.trans' x8); clear x8)
      | (go_at_call 59; (with_reducible refine (KD.out _ X.out).mono ?_); rintro e w8 ⟨rfl, x8⟩; have X := Lib.hid (X.out.trans' x8); clear x8))
    go_ret
    rw [HR.out]
    exact RPostX.no HF.out X.out
  have k2 : (t.kindAt p != 2) = false := by simpa using h3
  by_cases h4 : p = []
  · have hw : wDir t p = 57 := by
      unfold wDir
      rw [if_neg h3, if_pos (.inl h4)]
    have HR := Lib.hid (show pRemove wDir t p = (57, t) from by unfold pRemove; rw [if_neg h1, if_neg h2, hw]; rfl)
    clear hw
    have hz : ((p.length : Int) == 0) = true := by rw [h4]; rfl
    clear h4
    go_enter Tryz.func34, Tryz.ntmps34
    go_wp2_with (first
      | (go_at_call 58; (with_reducible refine (TK.out _ X.out).mono ?_); rw [HT.out]; rintro e w8 ⟨rfl, x8⟩; have X := Lib.hid (X.out.trans' x8); clear x8)
      | (go_at_call 60; refine (stop_any (HZ.out.ext X.out)).mono ?_; rintro e w8 ⟨rfl, x8⟩; have X := Lib.hid (X.out.trans' x8); clear x8)
      | (go_at_call 59; (with_reducible refine (KD.out _ X.out).mono ?_); rintro e w8 ⟨rfl, x8⟩; have X := Lib.hid (X.out.trans' x8); clear x8))
    go_ret
    rw [HR.out]
    exact RPostX.no HF.out X.out
  have hz : ((p.length : Int) == 0) = false := by
    rw [beq_eq_false_iff_ne]
    intro e
    exact h4 (List.eq_nil_of_length_eq_zero (by omega))
  by_cases h5 : emptyB ((t.get p).getD N.zero) = false
  · have hw : wDir t p = 57 := by
      unfold wDir
      rw [if_neg h3, if_pos (.inr h5)]
    have HR := Lib.hid (show pRemove wDir t p = (57, t) from by unfold pRemove; rw [if_neg h1, if_neg h2, hw]; rfl)
    clear hw
    have HE := Lib.hid h5
    clear h5
    go_enter Tryz.func34, Tryz.ntmps34
    go_wp2_with (first
      | (go_at_call 58; (with_reducible refine (TK.out _ X.out).mono ?_); rw [HT.out]; rintro e w8 ⟨rfl, x8⟩; have X := Lib.hid (X.out.trans' x8); clear x8)
      | (go_at_call 60; refine (stop_any (HZ.out.ext X.out)).mono ?_; rintro e w8 ⟨rfl, x8⟩; have X := Lib.hid (X.out.trans' x8); clear x8)
      | (go_at_call 59; (with_reducible refine (KD.out _ X.out).mono ?_); rintro e w8 ⟨rfl, x8⟩; have X := Lib.hid (X.out.trans' x8); clear x8)
      | (go_at_call 62; (with_reducible refine (EM.out _ X.out).mono ?_); rw [HE.out]; rintro e w8 ⟨rfl, x8⟩; have X := Lib.hid (X.out.trans' x8); clear x8))
    go_ret
    rw [HR.out]
    exact RPostX.no HF.out X.out
  have HE := Lib.hid (show emptyB ((t.get p).getD N.zero) = true by simpa using h5)
  have hw : wDir t p = 0 := by
    unfold wDir
    rw [if_neg h3, if_neg]; rintro (h | h); exact h4 h; exact h5 h
  have HR := Lib.hid (show pRemove wDir t p = (0, t.tdel p) from by unfold pRemove; rw [if_neg h1, if_neg h2, hw]; rfl)
  clear hw h1 h2 h3 h4 h5
  go_enter Tryz.func34, Tryz.ntmps34
  go_wp2_with (first
    | (go_at_call 58; (with_reducible refine (TK.out _ X.out).mono ?_); rw [HT.out]; rintro e w8 ⟨rfl, x8⟩; have X := Lib.hid (X.out.trans' x8); clear x8)
    | (go_at_call 60; refine (stop_any (HZ.out.ext X.out)).mono ?_; rintro e w8 ⟨rfl, x8⟩; have X := Lib.hid (X.out.trans' x8); clear x8)
    | (go_at_call 59; (with_reducible refine (KD.out _ X.out).mono ?_); rintro e w8 ⟨rfl, x8⟩; have X := Lib.hid (X.out.trans' x8); clear x8)
    | (go_at_call 62; (with_reducible refine (EM.out _ X.out).mono ?_); rw [HE.out]; rintro e w8 ⟨rfl, x8⟩; have X := Lib.hid (X.out.trans' x8); clear x8)
    | (go_at_call 63; refine (fdel_any (by omega) (fun b hb => hb.2) (HF.out.ext X.out).1 HD.out (HP.out.ext X.out)).mono ?_; rintro e w9 hdn; obtain ⟨rfl, _⟩ := id hdn; have HDN := Lib.hid hdn; clear hdn))
  go_ret
  rw [HR.out]
  exact RPostX.yes HXB.out HDN.out X.out (by omega)

set_option maxRecDepth 100000 in
set_option maxHeartbeats 4000000 in
theorem unlink10_any (hB : B + 40 ≤ 2199023255552) (hl : p.length ≤ 20) (h : FIs X B w g t) (hd : DirW t) (hp : Strs Bp Sp w pv p) :
    Calls Tryz.prog 35 #[.pointer (some ⟨g, 0, none⟩), pv] w (RPostX X (B + 40) g (pRemove wLink t p) w) := by
  have HF := Lib.hid h
  have HP := Lib.hid hp
  have HD := Lib.hid hd
  have HXB := Lib.hid h.2
  have HZ := Lib.hid h.1.zero
  have TK := Lib.hid (PF.of h hd hp).tk
  have KD := Lib.hid (PF.of h hd hp).kd
  have EM := Lib.hid (PF.of h hd hp).em
  obtain ⟨Ap, cp, rfl, _⟩ := hp
  have X : Hid (Ext w w) := Lib.hid (Below.refl _ _)
  clear h hd
  by_cases h1 : takenB t p = false
  · have HR := Lib.hid (show pRemove wLink t p = (5, t) from by unfold pRemove; rw [if_pos h1])
    have HT := Lib.hid h1
    clear h1
    go_enter Tryz.func35, Tryz.ntmps35
    go_wp2_with (first
      | (go_at_call 58; (with_reducible refine (TK.out _ X.out).mono ?_); rw [HT.out]; rintro e w8 ⟨rfl, x8⟩; have X := Lib.hid (X.out.trans' x8); clear x8)
      | (go_at_call 60; refine (stop_any (HZ.out.ext X.out)).mono ?_; rintro e w8 ⟨rfl, x8⟩; have X := Lib.hid (X.out.trans' x8); clear x8)
      | (go_at_call 59; (with_reducible refine (KD.out _ X.out).mono ?_); rintro e w8 ⟨rfl, x8⟩; have X := Lib.hid (X.out.trans' x8); clear x8))
    go_ret
    rw [HR.out]
    exact RPostX.no HF.out X.out
  have HT := Lib.hid (show takenB t p = true by simpa using h1)
  by_cases h2 : t.kindAt p = 0
  · have HR := Lib.hid (show pRemove wLink t p = (5, t) from by unfold pRemove; rw [if_neg h1]; rw [if_pos h2])
    have k0 : (t.kindAt p == 0) = true := by simpa using h2
    clear h2
    go_enter Tryz.func35, Tryz.ntmps35
    go_wp2_with (first
      | (go_at_call 58; (with_reducible refine (TK.out _ X.out).mono ?_); rw [HT.out]; rintro e w8 ⟨rfl, x8⟩; have X := Lib.hid (X.out.trans' x8); clear x8)
      | (go_at_call 60; refine (stop_any (HZ.out.ext X.out)).mono ?_; rintro e w8 ⟨rfl, x8⟩; have X := Lib.hid (X.out.trans' x8); clear x8)
      | (go_at_call 59; (with_reducible refine (KD.out _ X.out).mono ?_); rintro e w8 ⟨rfl, x8⟩; have X := Lib.hid (X.out.trans' x8); clear x8))
    go_ret
    rw [HR.out]
    exact RPostX.no HF.out X.out
  have k0 : (t.kindAt p == 0) = false := by simpa using h2
  by_cases h3 : t.kindAt p = 2
  · have hw : wLink t p = 55 := by
      unfold wLink
      rw [if_pos h3]
    have HR := Lib.hid (show pRemove wLink t p = (55, t) from by unfold pRemove; rw [if_neg h1, if_neg h2, hw]; rfl)
    clear hw
    have k2 : (t.kindAt p == 2) = true := by simpa using h3
    clear h3
    go_enter Tryz.func35, Tryz.ntmps35
    go_wp2_with (first
      | (go_at_call 58; (with_reducible refine (TK.out _ X.out).mono ?_); rw [HT.out]; rintro e w8 ⟨rfl, x8⟩; have X := Lib.hid (X.out.trans' x8); clear x8)
      | (go_at_call 60; refine (stop_any (HZ.out.ext X.out)).mono ?_; rintro e w8 ⟨rfl, x8⟩; have X := Lib.hid (X.out.trans' x8); clear x8)
      | (go_at_call 59; (with_reducible refine (KD.out _ X.out).mono ?_); rintro e w8 ⟨rfl, x8⟩; have X := Lib.hid (X.out.trans' x8); clear x8))
    go_ret
    rw [HR.out]
    exact RPostX.no HF.out X.out
  have k2 : (t.kindAt p == 2) = false := by simpa using h3
  have hw : wLink t p = 0 := by
    unfold wLink
    rw [if_neg h3]
  have HR := Lib.hid (show pRemove wLink t p = (0, t.tdel p) from by unfold pRemove; rw [if_neg h1, if_neg h2, hw]; rfl)
  clear hw h1 h2 h3
  go_enter Tryz.func35, Tryz.ntmps35
  go_wp2_with (first
    | (go_at_call 58; (with_reducible refine (TK.out _ X.out).mono ?_); rw [HT.out]; rintro e w8 ⟨rfl, x8⟩; have X := Lib.hid (X.out.trans' x8); clear x8)
    | (go_at_call 60; refine (stop_any (HZ.out.ext X.out)).mono ?_; rintro e w8 ⟨rfl, x8⟩; have X := Lib.hid (X.out.trans' x8); clear x8)
    | (go_at_call 59; (with_reducible refine (KD.out _ X.out).mono ?_); rintro e w8 ⟨rfl, x8⟩; have X := Lib.hid (X.out.trans' x8); clear x8)
    | (go_at_call 63; refine (fdel_any (by omega) (fun b hb => hb.2) (HF.out.ext X.out).1 HD.out (HP.out.ext X.out)).mono ?_; rintro e w9 hdn; obtain ⟨rfl, _⟩ := id hdn; have HDN := Lib.hid hdn; clear hdn))
  go_ret
  rw [HR.out]
  exact RPostX.yes HXB.out HDN.out X.out (by omega)

set_option maxRecDepth 100000 in
set_option maxHeartbeats 4000000 in
theorem removeAll10_any (hB : B + 40 ≤ 2199023255552) (hl : p.length ≤ 20) (h : FIs X B w g t) (hd : DirW t) (hp : Strs Bp Sp w pv p) :
    Calls Tryz.prog 36 #[.pointer (some ⟨g, 0, none⟩), pv] w (RPostX X (B + 40) g (pRemove wAll t p) w) := by
  have HF := Lib.hid h
  have HP := Lib.hid hp
  have HD := Lib.hid hd
  have HXB := Lib.hid h.2
  have HZ := Lib.hid h.1.zero
  have TK := Lib.hid (PF.of h hd hp).tk
  have KD := Lib.hid (PF.of h hd hp).kd
  have EM := Lib.hid (PF.of h hd hp).em
  obtain ⟨Ap, cp, rfl, _⟩ := hp
  have X : Hid (Ext w w) := Lib.hid (Below.refl _ _)
  clear h hd
  by_cases h1 : takenB t p = false
  · have HR := Lib.hid (show pRemove wAll t p = (5, t) from by unfold pRemove; rw [if_pos h1])
    have HT := Lib.hid h1
    clear h1
    go_enter Tryz.func36, Tryz.ntmps36
    go_wp2_with (first
      | (go_at_call 58; (with_reducible refine (TK.out _ X.out).mono ?_); rw [HT.out]; rintro e w8 ⟨rfl, x8⟩; have X := Lib.hid (X.out.trans' x8); clear x8)
      | (go_at_call 60; refine (stop_any (HZ.out.ext X.out)).mono ?_; rintro e w8 ⟨rfl, x8⟩; have X := Lib.hid (X.out.trans' x8); clear x8)
      | (go_at_call 59; (with_reducible refine (KD.out _ X.out).mono ?_); rintro e w8 ⟨rfl, x8⟩; have X := Lib.hid (X.out.trans' x8); clear x8))
    go_ret
    rw [HR.out]
    exact RPostX.no HF.out X.out
  have HT := Lib.hid (show takenB t p = true by simpa using h1)
  by_cases h2 : t.kindAt p = 0
  · have HR := Lib.hid (show pRemove wAll t p = (5, t) from by unfold pRemove; rw [if_neg h1]; rw [if_pos h2])
    have k0 : (t.kindAt p == 0) = true := by simpa using h2
    clear h2
    go_enter Tryz.func36, Tryz.ntmps36
    go_wp2_with (first
      | (go_at_call 58; (with_reducible refine (TK.out _ X.out).mono ?_); rw [HT.out]; rintro e w8 ⟨rfl, x8⟩; have X := Lib.hid (X.out.trans' x8); clear x8)
      | (go_at_call 60; refine (stop_any (HZ.out.ext X.out)).mono ?_; rintro e w8 ⟨rfl, x8⟩; have X := Lib.hid (X.out.trans' x8); clear x8)
      | (go_at_call 59; (with_reducible refine (KD.out _ X.out).mono ?_); rintro e w8 ⟨rfl, x8⟩; have X := Lib.hid (X.out.trans' x8); clear x8))
    go_ret
    rw [HR.out]
    exact RPostX.no HF.out X.out
  have k0 : (t.kindAt p == 0) = false := by simpa using h2
  by_cases h3 : p = []
  · have hw : wAll t p = 57 := by
      unfold wAll
      rw [if_pos h3]
    have HR := Lib.hid (show pRemove wAll t p = (57, t) from by unfold pRemove; rw [if_neg h1, if_neg h2, hw]; rfl)
    clear hw
    have hz : ((p.length : Int) == 0) = true := by rw [h3]; rfl
    clear h3
    go_enter Tryz.func36, Tryz.ntmps36
    go_wp2_with (first
      | (go_at_call 58; (with_reducible refine (TK.out _ X.out).mono ?_); rw [HT.out]; rintro e w8 ⟨rfl, x8⟩; have X := Lib.hid (X.out.trans' x8); clear x8)
      | (go_at_call 60; refine (stop_any (HZ.out.ext X.out)).mono ?_; rintro e w8 ⟨rfl, x8⟩; have X := Lib.hid (X.out.trans' x8); clear x8)
      | (go_at_call 59; (with_reducible refine (KD.out _ X.out).mono ?_); rintro e w8 ⟨rfl, x8⟩; have X := Lib.hid (X.out.trans' x8); clear x8))
    go_ret
    rw [HR.out]
    exact RPostX.no HF.out X.out
  have hz : ((p.length : Int) == 0) = false := by
    rw [beq_eq_false_iff_ne]
    intro e
    exact h3 (List.eq_nil_of_length_eq_zero (by omega))
  have hw : wAll t p = 0 := by
    unfold wAll
    rw [if_neg h3]
  have HR := Lib.hid (show pRemove wAll t p = (0, t.tdel p) from by unfold pRemove; rw [if_neg h1, if_neg h2, hw]; rfl)
  clear hw h1 h2 h3
  go_enter Tryz.func36, Tryz.ntmps36
  go_wp2_with (first
    | (go_at_call 58; (with_reducible refine (TK.out _ X.out).mono ?_); rw [HT.out]; rintro e w8 ⟨rfl, x8⟩; have X := Lib.hid (X.out.trans' x8); clear x8)
    | (go_at_call 60; refine (stop_any (HZ.out.ext X.out)).mono ?_; rintro e w8 ⟨rfl, x8⟩; have X := Lib.hid (X.out.trans' x8); clear x8)
    | (go_at_call 59; (with_reducible refine (KD.out _ X.out).mono ?_); rintro e w8 ⟨rfl, x8⟩; have X := Lib.hid (X.out.trans' x8); clear x8)
    | (go_at_call 63; refine (fdel_any (by omega) (fun b hb => hb.2) (HF.out.ext X.out).1 HD.out (HP.out.ext X.out)).mono ?_; rintro e w9 hdn; obtain ⟨rfl, _⟩ := id hdn; have HDN := Lib.hid hdn; clear hdn))
  go_ret
  rw [HR.out]
  exact RPostX.yes HXB.out HDN.out X.out (by omega)

set_option maxRecDepth 100000 in
theorem makeDir10_any (hB : B + 40 ≤ 2199023255552) (hl : p.length ≤ 20) (h : FIs X B w g t) (hd : DirW t) (hp : Strs Bp Sp w pv p) :
    Calls Tryz.prog 30 #[.pointer (some ⟨g, 0, none⟩), pv] w (RPostX X (B + 40) g (pMake (nDir [] []) t p) w) := by
  have HC := Lib.hid (made10_any hB hl h hd hp (show Rep 0 (fun _ => True) w 1 (nDir [] []) _ from Rep.leaf (by decide)))
  obtain ⟨Ap, cp, rfl, _⟩ := hp
  clear h hd
  go_enter Tryz.func30, Tryz.ntmps30
  go_wp2_with fail
  refine HC.out.mono ?_
  rintro e w1 hr
  have he := hr.1
  subst he
  have HR := Lib.hid hr
  clear hr
  go_wp2_with fail
  go_ret
  exact HR.out

set_option maxRecDepth 100000 in
theorem makeFile10_any (hB : B + 40 ≤ 2199023255552) (hl : p.length ≤ 20) (h : FIs X B w g t) (hd : DirW t) (hp : Strs Bp Sp w pv p) {s : ByteArray} (hs : s.size ≤ maxLen) :
    Calls Tryz.prog 31 #[.pointer (some ⟨g, 0, none⟩), pv, .string s] w (RPostX X (B + 40) g (pMake (nFile s) t p) w) := by
  have HC := Lib.hid (made10_any hB hl h hd hp (show Rep 0 (fun _ => True) w 1 (nFile s) _ from Rep.leaf hs))
  obtain ⟨Ap, cp, rfl, _⟩ := hp
  clear h hd
  go_enter Tryz.func31, Tryz.ntmps31
  go_wp2_with fail
  refine HC.out.mono ?_
  rintro e w1 hr
  have he := hr.1
  subst he
  have HR := Lib.hid hr
  clear hr
  go_wp2_with fail
  go_ret
  exact HR.out

set_option maxRecDepth 100000 in
theorem makeLink10_any (hB : B + 40 ≤ 2199023255552) (hl : p.length ≤ 20) (h : FIs X B w g t) (hd : DirW t) (hp : Strs Bp Sp w pv p) {s : ByteArray} (hs : s.size ≤ maxLen) :
    Calls Tryz.prog 32 #[.pointer (some ⟨g, 0, none⟩), pv, .string s] w (RPostX X (B + 40) g (pMake (.mk 3 s [] []) t p) w) := by
  have HC := Lib.hid (made10_any hB hl h hd hp (show Rep 0 (fun _ => True) w 1 (.mk 3 s [] []) _ from Rep.leaf hs))
  obtain ⟨Ap, cp, rfl, _⟩ := hp
  clear h hd
  go_enter Tryz.func32, Tryz.ntmps32
  go_wp2_with fail
  refine HC.out.mono ?_
  rintro e w1 hr
  have he := hr.1
  subst he
  have HR := Lib.hid hr
  clear hr
  go_wp2_with fail
  go_ret
  exact HR.out
end
end Go.Proofs.YtocndkhgopjhhaaGreat
