/- touchstoneref07's file system over a term that is made whole: Put, Del, CopyTo, Move. -/
import Derived.Test.YtocndkhgopjhhaaGreatProg
import Derived.Test.YtocndkhgopjhhaaGreatFsE
import Derived.Deep.RegionWith
import Derived.Deep.DeepCutAuto
import Derived.Outline
namespace Go.Proofs.YtocndkhgopjhhaaGreat
open Go.RowKit

theorem FDone.after {B1 B2 : Nat} {S : Nat → Prop} {w w1 w2 : World} {g : Nat} {t1 t2 : N} {e1 e2 : Ending} (h1 : FDone B1 S g t1 w e1 w1) (h2 : FDone B2 (fun b => S b ∨ w.heap.size ≤ b) g t2 w1 e2 w2) : FDone B2 S g t2 w e2 w2 := by
  obtain ⟨_, ht1, hf1⟩ := h1
  obtain ⟨he, ht2, d, hf⟩ := h2
  have hz := ht1.size
  refine ⟨he, Turns.trans ht1 ht2 (fun _ h _ => h), d, hf.keep (Nat.le_refl _) (Nat.le_refl _) (Nat.le_refl _) rfl (fun _ _ _ => rfl) (fun b hb _ => ?_) (fun b hb => ?_)⟩
  · rcases hb with hb | hb
    · exact hb
    · exact .inr (by omega)
  · obtain ⟨_, h⟩ := hf1
    exact h.ne hb

section
variable {B Bp : Nat} {S Sp : Nat → Prop} {w : World} {g : Nat} {t : N} {pv : Value} {p : List ByteArray}
set_option maxRecDepth 100000 in
set_option maxHeartbeats 4000000 in
theorem fput_any {Bx dx : Nat} {Sx : Nat → Prop} {x : N} {xv : Value} (hB : B + p.length ≤ 2199023255552) (hBx : Bx ≤ B) (hS : ∀ b, S b → b < w.heap.size) (h : FSIs B S w g t) (hd : DirW t) (hp : Strs Bp Sp w pv p) (hx : Rep Bx Sx w dx x xv) :
    Calls Tryz.prog 61 #[.pointer (some ⟨g, 0, none⟩), pv, xv] w (FDone (B + p.length) S g (t.tput p x) w) := by
  have HF := Lib.hid h
  have HP := Lib.hid hp
  have HXR := Lib.hid hx
  have HD := Lib.hid hd
  have HS := Lib.hid hS
  have HB := Lib.hid hB
  obtain ⟨dt, A0, c0, A0', c0', hb, hr, hSg⟩ := h
  have HSG := Lib.hid hSg
  have HR := Lib.hid (TM.of hr)
  have BG := Lib.hid hb
  obtain ⟨Ax, cx, Ax', cx', rfl⟩ := hx.agg
  obtain ⟨Ap, cp, rfl, _⟩ := hp
  have E0 := Lib.hid (Ext.alloc' w (.cells #[.int .u8 x.kind, .string x.text, .slice Ax x.names.length cx, .slice Ax' x.kids.length cx'] 25))
  have B0 := Lib.hid (Blk.new w 25 #[.int .u8 x.kind, .string x.text, .slice Ax x.names.length cx, .slice Ax' x.kids.length cx'])
  obtain ⟨r, hre⟩ : ∃ r, r = t.tput p x := ⟨_, rfl⟩
  rw [← hre]
  have HRE : Hid (r = if (x.well && openB t p) = true then t.put p x else t) := Lib.hid hre
  clear hB hS hd hx hb hr hSg hre
  cases hxw : x.well
  · have HXW := Lib.hid hxw
    have HRR : Hid (r = t) := Lib.hid (by rw [HRE.out, hxw]; rfl)
    clear hxw
    go_enter Tryz.func61, Tryz.ntmps61
    go_wp2_with fail
    refine (well7_any _ _ _ x _ _ (HXR.out.ext E0.out)).mono ?_
    rw [HXW.out]
    rintro e w1 ⟨rfl, x1⟩
    have X1 := Lib.hid (E0.out.trans' x1)
    clear x1
    go_wp2_with fail
    go_end0
    rw [HRR.out]
    exact FDone.none HF.out (Nat.le_add_right _ _) X1.out
  have HXW := Lib.hid hxw
  clear hxw
  have KO := Lib.hid (fun w1 (x : Ext w w1) => (HF.out.ext x).open (fun b hb => Nat.lt_of_lt_of_le (HS.out b hb) x.size) (.inl HD.out.wf) (HP.out.ext x))
  cases hop : openB t p
  · have HOP := Lib.hid hop
    have HRR : Hid (r = t) := Lib.hid (by rw [HRE.out, hop, Bool.and_false]; rfl)
    clear hop
    go_enter Tryz.func61, Tryz.ntmps61
    go_wp2_with fail
    refine (well7_any _ _ _ x _ _ (HXR.out.ext E0.out)).mono ?_
    rw [HXW.out]
    rintro e w1 ⟨rfl, x1⟩
    have X1 := Lib.hid (E0.out.trans' x1)
    clear x1
    go_wp2_with fail
    refine (KO.out _ X1.out).mono ?_
    rw [HOP.out]
    rintro e w2 ⟨rfl, x2⟩
    have X2 := Lib.hid (X1.out.trans' x2)
    clear x2
    go_wp2_with fail
    go_end0
    rw [HRR.out]
    exact FDone.none HF.out (Nat.le_add_right _ _) X2.out
  have HOP := Lib.hid hop
  have hpn : p ≠ [] := fun e => by rw [e, openB_nil] at hop; cases hop
  have HPN := Lib.hid hpn
  have HRR : Hid (r = setT t p x) := Lib.hid (by rw [HRE.out, HXW.out, hop, setT_put HD.out.wf HXW.out hop]; rfl)
  clear hop hpn
  go_enter Tryz.func61, Tryz.ntmps61
  go_wp2_with fail
  refine (well7_any _ _ _ x _ _ (HXR.out.ext E0.out)).mono ?_
  rw [HXW.out]
  rintro e w1 ⟨rfl, x1⟩
  have X1 := Lib.hid (E0.out.trans' x1)
  have B1 := Lib.hid (B0.out.ext x1)
  clear x1
  go_wp2_with fail
  refine (KO.out _ X1.out).mono ?_
  rw [HOP.out]
  rintro e w2 ⟨rfl, x2⟩
  have X2 := Lib.hid (X1.out.trans' x2)
  have B2 := Lib.hid (B1.out.ext x2)
  clear x2
  go_upto_region 2 with fail
  obtain ⟨wc, hwc⟩ : ∃ wc, wc = w2 := ⟨_, rfl⟩
  subst hwc
  have XD := Lib.hid (X2.out.trans' (Below.drew (Below.refl _ wc)))
  have G2 := Lib.hid (BG.out.ext X2.out)
  obtain ⟨⟨a1, a2, a3, a4, a5, a6⟩, af1, af2, af3, af4, af5, af6⟩ := G2.out.cellsF
  have gl := G2.out.lt
  obtain ⟨b0, b1, b2, b3, _⟩ := B2.out.cells4
  have bl := B2.out.lt
  go_region_with (first
    | (go_at_call 24; refine (made_any Bx (by have := HB.out; omega) _ _ x _ _ HXW.out (HXR.out.ext XD.out)).mono ?_; rintro e w4 ⟨A4, c4, A4', c4', rfl, x4, r4⟩; have X4 := Lib.hid (XD.out.trans' x4); have R4 := Lib.hid (TM.of r4); have hz4 := x4.size; have G4 := Lib.hid (BG.out.ext X4.out); obtain ⟨⟨d1, d2, d3, d4, d5, d6⟩, df1, df2, df3, df4, df5, df6⟩ := G4.out.cellsF; have gl4 := G4.out.lt; clear x4 r4)
    | (go_at_call 79; refine (set_any p B (fun b => (S b ∨ w.heap.size ≤ b) ∧ b < w4.heap.size) _ t x _ _ _ HPN.out HB.out (fun b hb => hb.2) gl4 (.inl HD.out.wf) ((HR.out.ext X4.out).keep (Nat.le_refl _) (Nat.le_refl _) (fun _ _ _ => rfl) (fun b hb hl => ⟨.inl hb, hl⟩)) (R4.out.keep hBx (Nat.le_refl _) (fun _ _ _ => rfl) (fun b hb hl => ⟨.inr (Nat.le_trans XD.out.size hb), hl⟩)) (HP.out.ext X4.out)).mono ?_; rintro e w5 ⟨A5, c5, A5', c5', rfl, x5, r5⟩; have X5 := Lib.hid (X4.out.trans' x5); have R5 := Lib.hid r5; have G5 := Lib.hid (BG.out.ext X5.out); obtain ⟨⟨h1, h2, h3, h4, h5, h6⟩, hf1, hf2, hf3, hf4, hf5, hf6⟩ := G5.out.cellsF; have gl5 := G5.out.lt; clear x5 r5))
  all_goals
    go_wp2_with fail
    go_end0
    rw [HRR.out]
    refine FDone.store X5.out BG.out HSG.out (R5.out.keep (Nat.le_refl _) (Nat.le_refl _) (fun _ _ _ => rfl) (fun b hb _ => ?_))
    have h4 := X4.out.size
    rcases hb with hb | hb
    · exact hb.1
    · exact .inr (by omega)

set_option maxRecDepth 100000 in
set_option maxHeartbeats 4000000 in
theorem fdel_any (hB : B + p.length ≤ 2199023255552) (hS : ∀ b, S b → b < w.heap.size) (h : FSIs B S w g t) (hd : DirW t) (hp : Strs Bp Sp w pv p) :
    Calls Tryz.prog 63 #[.pointer (some ⟨g, 0, none⟩), pv] w (FDone (B + p.length) S g (t.tdel p) w) := by
  have HF := Lib.hid h
  have HP := Lib.hid hp
  have HD := Lib.hid hd
  have HS := Lib.hid hS
  have HB := Lib.hid hB
  have HZ := Lib.hid h.zero
  obtain ⟨dt, A0, c0, A0', c0', hb, hr, hSg⟩ := h
  have HSG := Lib.hid hSg
  have HR := Lib.hid (TM.of hr)
  have BG := Lib.hid hb
  obtain ⟨Ap, cp, rfl, _⟩ := hp
  obtain ⟨r, hre⟩ : ∃ r, r = t.tdel p := ⟨_, rfl⟩
  rw [← hre]
  have HRE : Hid (r = if p = [] ∨ t.kindAt p = 0 then t else t.del p) := Lib.hid hre
  clear hB hS hd hb hr hSg hre
  have X0 : Hid (Ext w w) := Lib.hid (Below.refl _ _)
  by_cases hpn : p = []
  · have HRR : Hid (r = t) := Lib.hid (by rw [HRE.out, if_pos (.inl hpn)])
    have hpl : p.length = 0 := by rw [hpn]; rfl
    rw [hpl]
    clear hpn hpl
    go_enter Tryz.func63, Tryz.ntmps63
    go_wp2_with fail
    go_end0
    rw [HRR.out]
    exact FDone.none HF.out (Nat.le_add_right _ _) X0.out
  have HPN := Lib.hid hpn
  have hpl : (0 : Int) < (p.length : Int) := by
    have : p.length ≠ 0 := fun e => hpn (List.eq_nil_of_length_eq_zero e)
    omega
  have KA := Lib.hid (fun w1 (x : Ext w w1) => (HF.out.ext x).kind (fun b hb => Nat.lt_of_lt_of_le (HS.out b hb) x.size) (.inl HD.out.wf) (HP.out.ext x))
  obtain ⟨ka, hka⟩ : ∃ k, k = t.kindAt p := ⟨_, rfl⟩
  rw [← hka] at KA HRE
  by_cases hk : ka = 0
  · have hk' : (ka != 0) = false := by simpa using hk
    have HRR : Hid (r = t) := Lib.hid (by rw [HRE.out, if_pos (.inr hk)])
    clear hk hka hpn
    go_enter Tryz.func63, Tryz.ntmps63
    go_wp2_with fail
    refine (KA.out _ X0.out).mono ?_
    rintro e w1 ⟨rfl, x1⟩
    have X1 := Lib.hid (X0.out.trans' x1)
    clear x1
    go_wp2_with fail
    go_end0
    rw [HRR.out]
    exact FDone.none HF.out (Nat.le_add_right _ _) X1.out
  have hk' : (ka != 0) = true := by simpa using hk
  have HRR : Hid (r = setT t p N.zero) := Lib.hid (by
    rw [HRE.out, if_neg (by rintro (h | h); exact hpn h; exact hk h)]
    cases hg : t.get p with
    | none => exact absurd (hka.trans ((kindAt_zero HD.out.wf).2 hg)) hk
    | some y => exact (setT_del HD.out.wf hpn hg).symm)
  clear hk hka hpn
  go_enter Tryz.func63, Tryz.ntmps63
  go_wp2_with fail
  refine (KA.out _ X0.out).mono ?_
  rintro e w1 ⟨rfl, x1⟩
  have X1 := Lib.hid (X0.out.trans' x1)
  obtain ⟨z7, z9, zl⟩ := HZ.out.ext X1.out
  clear x1
  go_upto_region 1 with fail
  obtain ⟨wc, hwc⟩ : ∃ wc, wc = w1 := ⟨_, rfl⟩
  subst hwc
  have XD := Lib.hid (X1.out.trans' (Below.drew (Below.refl _ wc)))
  have G2 := Lib.hid (BG.out.ext X1.out)
  obtain ⟨⟨a1, a2, a3, a4, a5, a6⟩, af1, af2, af3, af4, af5, af6⟩ := G2.out.cellsF
  have gl := G2.out.lt
  go_region_with (first
    | (go_at_call 82; refine (absent_any _).mono ?_; rintro e w4 ⟨rfl, x4⟩; have X4 := Lib.hid (XD.out.trans' x4); have hz4 := x4.size; have G4 := Lib.hid (BG.out.ext X4.out); obtain ⟨⟨d1, d2, d3, d4, d5, d6⟩, df1, df2, df3, df4, df5, df6⟩ := G4.out.cellsF; have gl4 := G4.out.lt; clear x4)
    | (go_at_call 79; refine (set_any p B (fun b => (S b ∨ w.heap.size ≤ b) ∧ b < w4.heap.size) _ t N.zero _ _ _ HPN.out HB.out (fun b hb => hb.2) gl4 (.inl HD.out.wf) ((HR.out.ext X4.out).keep (Nat.le_refl _) (Nat.le_refl _) (fun _ _ _ => rfl) (fun b hb hl => ⟨.inl hb, hl⟩)) ⟨0, TRep.zero⟩ (HP.out.ext X4.out)).mono ?_; rintro e w5 ⟨A5, c5, A5', c5', rfl, x5, r5⟩; have X5 := Lib.hid (X4.out.trans' x5); have R5 := Lib.hid r5; have G5 := Lib.hid (BG.out.ext X5.out); obtain ⟨⟨h1, h2, h3, h4, h5, h6⟩, hf1, hf2, hf3, hf4, hf5, hf6⟩ := G5.out.cellsF; have gl5 := G5.out.lt; clear x5 r5))
  all_goals
    go_wp2_with fail
    go_end0
    rw [HRR.out]
    refine FDone.store X5.out BG.out HSG.out (R5.out.keep (Nat.le_refl _) (Nat.le_refl _) (fun _ _ _ => rfl) (fun b hb _ => ?_))
    have h4 := X4.out.size
    rcases hb with hb | hb
    · exact hb.1
    · exact .inr (by omega)
end

section
variable {B B1 B2 : Nat} {S S1 S2 : Nat → Prop} {w : World} {g : Nat} {t : N} {v1 v2 : Value} {a b : List ByteArray}
set_option maxRecDepth 100000 in
set_option maxHeartbeats 4000000 in
theorem fcopy_any (hB : B + b.length ≤ 2199023255552) (hS : ∀ b, S b → b < w.heap.size) (h : FSIs B S w g t) (hd : DirW t) (h1 : Strs B1 S1 w v1 a) (h2 : Strs B2 S2 w v2 b) :
    Calls Tryz.prog 67 #[.pointer (some ⟨g, 0, none⟩), v1, v2] w (FDone (B + b.length) S g (t.tcopy a b) w) := by
  have HF := Lib.hid h
  have H1 := Lib.hid h1
  have H2 := Lib.hid h2
  have HD := Lib.hid hd
  have HS := Lib.hid hS
  have HB := Lib.hid hB
  have KP := Lib.hid (fapart_any hS h (.inl hd.wf) h1 h2)
  obtain ⟨dt, A0, c0, A0', c0', hb, hr, hSg⟩ := h
  have HSG := Lib.hid hSg
  have HR := Lib.hid (TM.of hr)
  have BG := Lib.hid hb
  obtain ⟨A1, c1, rfl, _⟩ := h1
  obtain ⟨A2, c2, rfl, _⟩ := h2
  obtain ⟨r, hre⟩ : ∃ r, r = t.tcopy a b := ⟨_, rfl⟩
  rw [← hre]
  have HRE : Hid (r = if apartB t a b = true then t.put b ((t.get a).getD N.zero) else t) := Lib.hid hre
  have HLAW := Lib.hid (fun h => apart_snoc (t := t) (a := a) (b := b) hd.wf h)
  clear hB hS hd hb hr hSg hre
  cases hap : apartB t a b
  · have HAP := Lib.hid hap
    have HRR : Hid (r = t) := Lib.hid (by rw [HRE.out, hap]; rfl)
    clear hap
    go_enter Tryz.func67, Tryz.ntmps67
    go_wp2_with fail
    refine KP.out.mono ?_
    rw [HAP.out]
    rintro e w1 ⟨rfl, x1⟩
    have X1 := Lib.hid x1
    clear x1
    go_wp2_with fail
    go_end0
    rw [HRR.out]
    exact FDone.none HF.out (Nat.le_add_right _ _) X1.out
  have HAP := Lib.hid hap
  obtain ⟨q, s, x, hbq, hop, hga, hxw, _⟩ := HLAW.out hap
  have hpn : b ≠ [] := by rw [hbq]; simp
  have HPN := Lib.hid hpn
  have hob : openB t b = true := (apartB_iff HD.out.wf hap).2.1
  have hgx : (t.get a).getD N.zero = x := by rw [hga]; rfl
  have HGX := Lib.hid hgx
  have HRR : Hid (r = setT t b x) := Lib.hid (by rw [HRE.out, hap, hgx, setT_put HD.out.wf hxw hob]; rfl)
  clear hap hpn hob hgx hbq hop hga hxw
  go_enter Tryz.func67, Tryz.ntmps67
  go_wp2_with fail
  refine KP.out.mono ?_
  rw [HAP.out]
  rintro e w1 ⟨rfl, x1⟩
  have X1 := Lib.hid x1
  clear x1
  go_upto_region 1 with fail
  obtain ⟨wc, hwc⟩ : ∃ wc, wc = w1 := ⟨_, rfl⟩
  subst hwc
  have XD := Lib.hid (X1.out.trans' (Below.drew (Below.refl _ wc)))
  have G2 := Lib.hid (BG.out.ext X1.out)
  obtain ⟨⟨a1, a2, a3, a4, a5, a6⟩, af1, af2, af3, af4, af5, af6⟩ := G2.out.cellsF
  have gl := G2.out.lt
  have KA := Lib.hid ((HF.out.ext XD.out).at_ (fun b hb => Nat.lt_of_lt_of_le (HS.out b hb) XD.out.size) (.inl HD.out.wf) (H1.out.ext XD.out))
  rw [HGX.out] at KA
  go_region_with (first
    | (go_at_call 76; refine KA.out.mono ?_; rintro e w4 ⟨A4, c4, A4', c4', rfl, x4, r4⟩; have X4 := Lib.hid (XD.out.trans' x4); have R4 := Lib.hid r4; have hz4 := x4.size; have G4 := Lib.hid (BG.out.ext X4.out); obtain ⟨⟨d1, d2, d3, d4, d5, d6⟩, df1, df2, df3, df4, df5, df6⟩ := G4.out.cellsF; have gl4 := G4.out.lt; clear x4 r4)
    | (go_at_call 79; refine (set_any b B (fun b => (S b ∨ w.heap.size ≤ b) ∧ b < w4.heap.size) _ t x _ _ _ HPN.out HB.out (fun b hb => hb.2) gl4 (.inl HD.out.wf) ((HR.out.ext X4.out).keep (Nat.le_refl _) (Nat.le_refl _) (fun _ _ _ => rfl) (fun b hb hl => ⟨.inl hb, hl⟩)) (R4.out.keep (Nat.le_refl _) (Nat.le_refl _) (fun _ _ _ => rfl) (fun b hb hl => ⟨.inl hb, hl⟩)) (H2.out.ext X4.out)).mono ?_; rintro e w5 ⟨A5, c5, A5', c5', rfl, x5, r5⟩; have X5 := Lib.hid (X4.out.trans' x5); have R5 := Lib.hid r5; have G5 := Lib.hid (BG.out.ext X5.out); obtain ⟨⟨h1, h2, h3, h4, h5, h6⟩, hf1, hf2, hf3, hf4, hf5, hf6⟩ := G5.out.cellsF; have gl5 := G5.out.lt; clear x5 r5))
  all_goals
    go_wp2_with fail
    go_end0
    rw [HRR.out]
    refine FDone.store X5.out BG.out HSG.out (R5.out.keep (Nat.le_refl _) (Nat.le_refl _) (fun _ _ _ => rfl) (fun b hb _ => ?_))
    have h4 := X4.out.size
    rcases hb with hb | hb
    · exact hb.1
    · exact .inr (by omega)

set_option maxRecDepth 100000 in
set_option maxHeartbeats 8000000 in
theorem fmove_any (hB : B + b.length + a.length ≤ 2199023255552) (hS : ∀ b, S b → b < w.heap.size) (h : FSIs B S w g t) (hd : DirW t) (h1 : Strs B1 S1 w v1 a) (h2 : Strs B2 S2 w v2 b) (hS1 : ∀ b, S1 b → b ≠ g) :
    Calls Tryz.prog 66 #[.pointer (some ⟨g, 0, none⟩), v1, v2] w (FDone (B + b.length + a.length) S g (t.tmove a b) w) := by
  have HF := Lib.hid h
  have H1 := Lib.hid h1
  have H2 := Lib.hid h2
  have HD := Lib.hid hd
  have HS := Lib.hid hS
  have HS1 := Lib.hid hS1
  have HB := Lib.hid hB
  have KP := Lib.hid (fapart_any hS h (.inl hd.wf) h1 h2)
  obtain ⟨dt, A0, c0, A0', c0', hb, hr, hSg⟩ := h
  have HSG := Lib.hid hSg
  have HR := Lib.hid (TM.of hr)
  have BG := Lib.hid hb
  obtain ⟨A1, c1, rfl, _⟩ := h1
  obtain ⟨A2, c2, rfl, _⟩ := h2
  obtain ⟨r, hre⟩ : ∃ r, r = t.tmove a b := ⟨_, rfl⟩
  rw [← hre]
  have HRE : Hid (r = if apartB t a b = true then N.tdel (t.put b ((t.get a).getD N.zero)) a else t) := Lib.hid hre
  have HLAW := Lib.hid (fun h => apart_snoc (t := t) (a := a) (b := b) hd.wf h)
  clear hB hS hd hb hr hSg hre hS1
  cases hap : apartB t a b
  · have HAP := Lib.hid hap
    have HRR : Hid (r = t) := Lib.hid (by rw [HRE.out, hap]; rfl)
    clear hap
    go_enter Tryz.func66, Tryz.ntmps66
    go_wp2_with fail
    refine KP.out.mono ?_
    rw [HAP.out]
    rintro e w1 ⟨rfl, x1⟩
    have X1 := Lib.hid x1
    clear x1
    go_wp2_with fail
    go_end0
    rw [HRR.out]
    exact FDone.none HF.out (by omega) X1.out
  have HAP := Lib.hid hap
  obtain ⟨q, s, x, hbq, hop, hga, hxw, hpw⟩ := HLAW.out hap
  have hpn : b ≠ [] := by rw [hbq]; simp
  have HPN := Lib.hid hpn
  obtain ⟨han, hob, hab, hba, _⟩ := apartB_iff HD.out.wf hap
  have HAN := Lib.hid han
  have hgx : (t.get a).getD N.zero = x := by rw [hga]; rfl
  have HGX := Lib.hid hgx
  have hset : setT t b x = t.put b x := setT_put HD.out.wf hxw hob
  have hfar : (t.put b x).get a = some x := ((put_done HD.out.wf hxw hob).far a hba hab).trans hga
  have HDP := Lib.hid (show Wz (setT t b x) from .inl (by rw [hset]; exact hpw))
  have HRR : Hid (r = setT (setT t b x) a N.zero) := Lib.hid (by
    rw [HRE.out, hap, hgx, hset, setT_del hpw han hfar]
    show N.tdel (t.put b x) a = _
    unfold N.tdel
    rw [if_neg]
    rintro (h | h)
    · exact han h
    · rw [kindAt_some hfar] at h
      exact well_kind hxw h)
  obtain ⟨t1, ht1⟩ : ∃ t1, t1 = setT t b x := ⟨_, rfl⟩
  rw [← ht1] at HDP HRR
  have HT1 : Hid (setT t b x = t1) := Lib.hid ht1.symm
  clear hap hpn hob hgx hbq hop hga hxw hpw han hab hba hset hfar ht1
  go_enter Tryz.func66, Tryz.ntmps66
  go_wp2_with fail
  refine KP.out.mono ?_
  rw [HAP.out]
  rintro e w1 ⟨rfl, x1⟩
  have X1 := Lib.hid x1
  have KA := Lib.hid ((HF.out.ext x1).at_ (fun b hb => Nat.lt_of_lt_of_le (HS.out b hb) x1.size) (.inl HD.out.wf) (H1.out.ext x1))
  rw [HGX.out] at KA
  clear x1
  go_wp2_with fail
  refine KA.out.mono ?_
  rintro e w2 ⟨A4, c4, A4', c4', rfl, x2, r2⟩
  have ea := Ext.alloc' w2 (.cells #[.int .i64 (-1), .int .u8 x.kind, .string x.text, .int .i64 (-1), .slice A4 x.names.length c4, .slice A4' x.kids.length c4'] 45)
  have E2 := Lib.hid ((X1.out.trans' x2).trans' ea)
  have R2 := Lib.hid (r2.ext ea)
  have BX := Lib.hid (Blk.new w2 45 #[.int .i64 (-1), .int .u8 x.kind, .string x.text, .int .i64 (-1), .slice A4 x.names.length c4, .slice A4' x.kids.length c4'])
  clear x2 r2 ea
  go_upto_region 2 with fail
  obtain ⟨W, hW⟩ : ∃ W, W = w2.alloc (.cells #[.int .i64 (-1), .int .u8 x.kind, .string x.text, .int .i64 (-1), .slice A4 x.names.length c4, .slice A4' x.kids.length c4'] 45) := ⟨_, rfl⟩
  rw [← hW] at E2 R2 BX ⊢
  clear hW
  have XD := Lib.hid (E2.out.trans' (Below.drew (Below.refl _ W)))
  have RD := Lib.hid (R2.out.ext (show Ext W W.drew from Below.drew (Below.refl _ W)))
  have G2 := Lib.hid (BG.out.ext E2.out)
  obtain ⟨⟨a1, a2, a3, a4, a5, a6⟩, af1, af2, af3, af4, af5, af6⟩ := G2.out.cellsF
  have gl := G2.out.lt
  obtain ⟨⟨b0, b1, b2, b3, b4, b5⟩, _⟩ := BX.out.cells6
  have bl := BX.out.lt
  go_cut [] (fun wx => Turns (fun b => b = g) w wx ∧ FSIs (B + b.length) (fun b => S b ∨ w.heap.size ≤ b) wx g t1)
  case first =>
    go_region_with (first
      | (go_at_call 79; refine (set_any b B (fun b => (S b ∨ w.heap.size ≤ b) ∧ b < W.drew.heap.size) _ t x _ _ _ HPN.out (by have := HB.out; omega) (fun b hb => hb.2) (show g < W.heap.size from gl) (.inl HD.out.wf) ((HR.out.ext XD.out).keep (Nat.le_refl _) (Nat.le_refl _) (fun _ _ _ => rfl) (fun b hb hl => ⟨.inl hb, hl⟩)) (RD.out.keep (Nat.le_refl _) (Nat.le_refl _) (fun _ _ _ => rfl) (fun b hb hl => ⟨.inl hb, hl⟩)) (H2.out.ext XD.out)).mono ?_; rw [HT1.out]; rintro e w5 ⟨A5, c5, A5', c5', rfl, x5, r5⟩; have X5 := Lib.hid (XD.out.trans' x5); have R5 := Lib.hid r5; have G5 := Lib.hid (BG.out.ext X5.out); obtain ⟨⟨h1, h2, h3, h4, h5, h6⟩, hf1, hf2, hf3, hf4, hf5, hf6⟩ := G5.out.cellsF; have gl5 := G5.out.lt; clear x5 r5))
    all_goals
      go_wp2_with fail
      go_meet
      case rel =>
        have hdn := FDone.store X5.out BG.out HSG.out (R5.out.keep (Nat.le_refl _) (Nat.le_refl _) (fun _ _ _ => rfl) (fun b hb _ => by
          have h4 := XD.out.size
          rcases hb with hb | hb
          · exact hb.1
          · exact .inr (by omega)))
        exact ⟨hdn.2.1, hdn.2.2⟩
  case rest =>
    obtain ⟨ht, hf3⟩ := hcut
    have HT := Lib.hid ht
    have HF3 := Lib.hid hf3
    obtain ⟨d3, A3, c3, A3', c3', hb3, hr3, hS3⟩ := hf3
    have HSG3 := Lib.hid hS3
    have HR3 := Lib.hid (TM.of hr3)
    have BG3 := Lib.hid hb3
    have H13 := Lib.hid (H1.out.keep ht.size (fun b hb hl => ht.block b hl (HS1.out b hb)) (fun _ h _ => h))
    obtain ⟨W3, hW3⟩ : ∃ W3, W3 = wc := ⟨_, rfl⟩
    subst hW3
    have hz3 := ht.size
    clear ht hb3 hr3 hS3 a1 a2 a3 a4 a5 a6 af1 af2 af3 af4 af5 af6 b0 b1 b2 b3 b4 b5
    have XD3 := Lib.hid (show Ext W3 W3.drew from Below.drew (Below.refl _ W3))
    obtain ⟨⟨a1, a2, a3, a4, a5, a6⟩, af1, af2, af3, af4, af5, af6⟩ := BG3.out.cellsF
    have gl3 := BG3.out.lt
    go_upto_region 3 with fail
    go_region_with (first
      | (go_at_call 82; refine (absent_any _).mono ?_; rintro e w4 ⟨rfl, x4⟩; have X4 := Lib.hid (XD3.out.trans' x4); have hz4 := x4.size; have G4 := Lib.hid (BG3.out.ext X4.out); obtain ⟨⟨d1, d2, d3, d4, d5, d6⟩, df1, df2, df3, df4, df5, df6⟩ := G4.out.cellsF; have gl4 := G4.out.lt; clear x4)
      | (go_at_call 79; refine (set_any a (B + b.length) (fun b => (S b ∨ w.heap.size ≤ b) ∧ b < w4.heap.size) _ t1 N.zero _ _ _ HAN.out HB.out (fun b hb => hb.2) gl4 HDP.out ((HR3.out.ext X4.out).keep (Nat.le_refl _) (Nat.le_refl _) (fun _ _ _ => rfl) (fun b hb hl => ⟨hb, hl⟩)) ⟨0, TRep.zero⟩ (H13.out.ext X4.out)).mono ?_; rintro e w5 ⟨A5, c5, A5', c5', rfl, x5, r5⟩; have X5 := Lib.hid (X4.out.trans' x5); have R5 := Lib.hid r5; have G5 := Lib.hid (BG3.out.ext X5.out); obtain ⟨⟨h1, h2, h3, h4, h5, h6⟩, hf1, hf2, hf3, hf4, hf5, hf6⟩ := G5.out.cellsF; have gl5 := G5.out.lt; clear x5 r5))
    all_goals
      go_wp2_with fail
      go_end0
      rw [HRR.out]
      have hdn := FDone.store X5.out BG3.out HSG3.out (R5.out.keep (Nat.le_refl _) (Nat.le_refl _) (fun _ _ _ => rfl) (fun b hb _ => by
        have h4 := X4.out.size
        rcases hb with hb | hb
        · exact .inl hb.1
        · exact .inr (by omega)))
      exact FDone.after ⟨rfl, HT.out, HF3.out⟩ hdn
end
end Go.Proofs.YtocndkhgopjhhaaGreat
