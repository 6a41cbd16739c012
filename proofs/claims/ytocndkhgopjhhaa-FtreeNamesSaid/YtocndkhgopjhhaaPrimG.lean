/- prim: MakeDir, MakeFile, MakeLink, Touch, remove, RemoveDir, Unlink, RemoveAll on a tree. -/
import Derived.Test.YtocndkhgopjhhaaProg
import Derived.Test.YtocndkhgopjhhaaPrimF
import Derived.Outline
namespace Go.Proofs.Ytocndkhgopjhhaa
open Go.RowKit

variable {X : Nat → Prop}

section
variable {B Bp : Nat} {Sp : Nat → Prop} {w : World} {g : Nat} {t : N} {pv : Value} {p : List ByteArray}
set_option maxRecDepth 100000 in
theorem makeDir_any (hB : B + 2 ≤ 2199023255552) (h : TIsX X B w g t) (hd : DirW t) (hp : Strs Bp Sp w pv p) :
    Calls Try.prog 61 #[ifT g, pv] w (PPostX X (B + 2) g (pMake (nDir [] []) t p) w) := by
  have HT := Lib.hid h
  have HD := Lib.hid hd
  have HP := Lib.hid hp
  obtain ⟨Ap, cp, rfl, _⟩ := hp
  clear h hd
  go_enter Try.func61, Try.ntmps61
  go_wp2_with fail
  refine (pput_any hB HT.out HD.out (show Rep B (fun _ => True) w 1 (nDir [] []) _ from Rep.leaf (by decide)) HP.out).mono ?_
  rintro e w1 hq
  have he := hq.1
  subst he
  have HQ := Lib.hid hq
  clear hq
  go_wp2_with fail
  go_ret
  exact HQ.out
set_option maxRecDepth 100000 in
theorem makeFile_any (hB : B + 2 ≤ 2199023255552) {s : ByteArray} (hs : s.size ≤ maxLen) (h : TIsX X B w g t) (hd : DirW t) (hp : Strs Bp Sp w pv p) :
    Calls Try.prog 63 #[ifT g, pv, .string s] w (PPostX X (B + 2) g (pMake (nFile s) t p) w) := by
  have HT := Lib.hid h
  have HD := Lib.hid hd
  have HP := Lib.hid hp
  have HS := Lib.hid hs
  obtain ⟨Ap, cp, rfl, _⟩ := hp
  clear h hd hs
  go_enter Try.func63, Try.ntmps63
  go_wp2_with fail
  refine (pput_any hB HT.out HD.out (show Rep B (fun _ => True) w 1 (nFile s) _ from Rep.leaf HS.out) HP.out).mono ?_
  rintro e w1 hq
  have he := hq.1
  subst he
  have HQ := Lib.hid hq
  clear hq
  go_wp2_with fail
  go_ret
  exact HQ.out
set_option maxRecDepth 100000 in
theorem makeLink_any (hB : B + 2 ≤ 2199023255552) {s : ByteArray} (hs : s.size ≤ maxLen) (h : TIsX X B w g t) (hd : DirW t) (hp : Strs Bp Sp w pv p) :
    Calls Try.prog 71 #[ifT g, pv, .string s] w (PPostX X (B + 2) g (pMake (.mk 3 s [] []) t p) w) := by
  have HT := Lib.hid h
  have HD := Lib.hid hd
  have HP := Lib.hid hp
  have HS := Lib.hid hs
  obtain ⟨Ap, cp, rfl, _⟩ := hp
  clear h hd hs
  go_enter Try.func71, Try.ntmps71
  go_wp2_with fail
  refine (pput_any hB HT.out HD.out (show Rep B (fun _ => True) w 1 (.mk 3 s [] []) _ from Rep.leaf HS.out) HP.out).mono ?_
  rintro e w1 hq
  have he := hq.1
  subst he
  have HQ := Lib.hid hq
  clear hq
  go_wp2_with fail
  go_ret
  exact HQ.out
end

set_option maxRecDepth 100000 in
set_option maxHeartbeats 2000000 in
theorem doTouch_any {B Bp : Nat} (hB : B + 2 ≤ 2199023255552) {Sp : Nat → Prop} {W : World} {g bf bp : Nat} {t : N} {pv : Value} {p : List ByteArray} (h : TIsX X B W g t) (hd : DirW t) (hp : Strs Bp Sp W pv p)
    (hf : Blk W bf 137 #[ifT g]) (hpl : Blk W bp 22 #[pv]) (htk : takenB t p = true) :
    Calls Try.prog 120 #[.pointer (some ⟨bf, 0, none⟩), .pointer (some ⟨bp, 0, none⟩)] W (PPostX X (B + 2) g (pTouch t p) W) := by
  obtain ⟨d, ht, hXb⟩ := h
  have HXB := Lib.hid hXb
  clear hXb
  have HT := Lib.hid ht
  have HW := Lib.hid hd.wf
  have HP := Lib.hid hp
  have HF := Lib.hid hf
  have HPL := Lib.hid hpl
  obtain ⟨Ap, cp, rfl, _⟩ := hp
  have f1 := hf.cell 0
  have l1 := hf.lt
  have f2 := hpl.cell 0
  have l2 := hpl.lt
  simp at f1 f2
  have mk := m_kind
  have mp := m_put
  clear ht hd hf hpl
  by_cases h3 : t.kindAt p = 3
  · have h31 : (t.kindAt p == 3) = true := by simpa using h3
    have Hr : Hid (pTouch t p = (5, t)) := Lib.hid (by unfold pTouch; rw [htk, if_neg (by simp), if_pos h3])
    clear h3 htk
    go_enter Try.func120, Try.ntmps120
    go_wp2_with (go_at_call 48; refine (tkind_any (by omega) HT.out HW.out HP.out).mono ?_; rintro e w1 ⟨rfl, hx1⟩; have HX1 := Lib.hid hx1; clear hx1)
    go_ret
    rw [Hr.out]
    exact PPostX.no ⟨_, HT.out, HXB.out⟩ HX1.out
  by_cases h0 : t.kindAt p = 0
  · have h31 : (t.kindAt p == 3) = false := by simpa using h3
    have h01 : (t.kindAt p == 0) = true := by simpa using h0
    have Hr : Hid (pTouch t p = (0, t.tput p (nFile bN))) := Lib.hid (by unfold pTouch; rw [htk, if_neg (by simp), if_neg h3, if_pos h0])
    clear h3 h0 htk
    go_enter Try.func120, Try.ntmps120
    go_wp2_with fail
    refine (tkind_any (by omega) HT.out HW.out HP.out).mono ?_
    rintro e w1 ⟨rfl, hx1⟩
    have HX1 := Lib.hid hx1
    have e1 := (HF.out.ext HX1.out).cell 0
    have k1 := (HF.out.ext HX1.out).lt
    have e2 := (HPL.out.ext HX1.out).cell 0
    have k2 := (HPL.out.ext HX1.out).lt
    simp at e1 e2
    clear hx1 f1 l1 f2 l2
    go_wp2_with fail
    refine (tput_any (by omega) (HT.out.ext HX1.out) HW.out (HP.out.ext HX1.out) (show Rep B (fun _ => True) w1 1 (nFile bN) _ from Rep.leaf (by decide))).mono ?_
    rintro e w3 hdone
    have he := hdone.1
    subst he
    have HD := Lib.hid hdone
    clear hdone
    go_wp2_with fail
    go_ret
    rw [Hr.out]
    exact PPostX.yes HXB.out HD.out HX1.out (by omega)
  · have h31 : (t.kindAt p == 3) = false := by simpa using h3
    have h01 : (t.kindAt p == 0) = false := by simpa using h0
    have Hr : Hid (pTouch t p = (0, t)) := Lib.hid (by unfold pTouch; rw [htk, if_neg (by simp), if_neg h3, if_neg h0])
    clear h3 h0 htk
    go_enter Try.func120, Try.ntmps120
    go_wp2_with (go_at_call 48; refine (tkind_any (by omega) HT.out HW.out HP.out).mono ?_; rintro e w1 ⟨rfl, hx1⟩; have HX1 := Lib.hid hx1; clear hx1)
    go_ret
    rw [Hr.out]
    exact PPostX.no ⟨_, HT.out, HXB.out⟩ HX1.out

set_option maxRecDepth 100000 in
set_option maxHeartbeats 2000000 in
theorem touch_any {B Bp : Nat} (hB : B + 2 ≤ 2199023255552) {Sp : Nat → Prop} {w : World} {g : Nat} {t : N} {pv : Value} {p : List ByteArray} (h : TIsX X B w g t) (hd : DirW t) (hp : Strs Bp Sp w pv p) :
    Calls Try.prog 72 #[ifT g, pv] w (PPostX X (B + 2) g (pTouch t p) w) := by
  have HT := Lib.hid h
  have HD := Lib.hid hd
  have HP := Lib.hid hp
  obtain ⟨Ap, cp, rfl, _⟩ := hp
  obtain ⟨d, ht, hXb⟩ := h
  have HXB := Lib.hid hXb
  clear hXb
  have HTA := Lib.hid ht
  clear ht hd
  have hx4 : Ext w (((w.alloc (.cells #[ifT g] 137)).alloc (.cells #[.slice Ap p.length cp] 22)).alloc (.cells #[.slice Ap p.length cp] 22)) := ((Ext.alloc' _ _).trans' (Ext.alloc' _ _)).trans' (Ext.alloc' _ _)
  have b0 := ((Blk.new w 137 #[ifT g]).alloc (.cells #[.slice Ap p.length cp] 22)).alloc (.cells #[.slice Ap p.length cp] 22)
  have b1 := (Blk.new' (w.alloc (.cells #[ifT g] 137)) 22 #[.slice Ap p.length cp] (n := w.heap.size + 1) (by simp)).alloc (.cells #[.slice Ap p.length cp] 22)
  have b3 := Blk.new' ((w.alloc (.cells #[ifT g] 137)).alloc (.cells #[.slice Ap p.length cp] 22)) 22 #[.slice Ap p.length cp] (n := w.heap.size + 1 + 1) (by simp)
  have HX4 := Lib.hid hx4
  have B0 := Lib.hid b0
  have B1 := Lib.hid b1
  have B3 := Lib.hid b3
  clear hx4 b0 b1 b3
  go_enter Try.func72, Try.ntmps72
  go_wp2_with fail
  cases htk : takenB t p
  · have Hr : Hid (pTouch t p = (5, t)) := Lib.hid (by unfold pTouch; rw [htk]; rfl)
    have HTK := Lib.hid htk
    clear htk
    refine (at_no (by omega) (HTA.out.ext HX4.out) HD.out.wf (Places.one B3.out (HP.out.ext HX4.out)) (by simp [HTK.out])).mono ?_
    rintro e w1 ⟨rfl, hx1⟩
    have HX1 := Lib.hid (HX4.out.trans' hx1)
    clear hx1
    go_wp2_with fail
    go_ret
    rw [Hr.out]
    exact PPostX.no HT.out HX1.out
  · have HTK := Lib.hid htk
    clear htk
    refine (at_yes (c := (pTouch t p).1) (R := fun w' => PPostX X (B + 2) g (pTouch t p) w (.returned (.int .i64 (pTouch t p).1)) w') (by omega) (HTA.out.ext HX4.out) HD.out.wf (Places.one B3.out (HP.out.ext HX4.out)) (by simp [HTK.out]) (fun w1 hx1 => ?_) (.inr (.inl ⟨_, _, rfl, rfl⟩))).mono ?_
    · have hxx := HX4.out.trans' hx1
      refine (doTouch_any hB (HT.out.ext hxx) HD.out (HP.out.ext hxx) (B0.out.ext hx1) (B1.out.ext hx1) HTK.out).mono ?_
      rintro e w2 hp
      have he := hp.1
      subst he
      exact ⟨rfl, hp.from hxx⟩
    · rintro e w1 ⟨rfl, hr⟩
      have HR := Lib.hid hr
      clear hr
      go_wp2_with fail
      go_ret
      exact HR.out

/-- the closures that are handed to remove -/
def IsWrong (fid : Nat) (caps : Array Value) : Prop :=
  (∃ a b, fid = 113 ∧ caps = #[.pointer a, .pointer b]) ∨ (fid = 114 ∧ caps = #[]) ∨ (∃ a, fid = 119 ∧ caps = #[.pointer a])
/-- What such a closure answers. -/
def WrongOk (fid : Nat) (caps : Array Value) (f : N → List ByteArray → Int) (t : N) (p : List ByteArray) (W : World) : Prop :=
  ∀ w1, Ext W w1 → Calls Try.prog fid (#[.int .u8 (t.kindAt p)] ++ caps) w1 fun e w2 => e = .returned (.int .i64 (f t p)) ∧ Ext w1 w2
theorem WrongOk.ext {fid : Nat} {caps : Array Value} {f : N → List ByteArray → Int} {t : N} {p : List ByteArray} {W w : World} (h : WrongOk fid caps f t p W) (hx : Ext W w) : WrongOk fid caps f t p w := fun w1 h1 => h w1 (hx.trans' h1)

set_option maxRecDepth 100000 in
set_option maxHeartbeats 4000000 in
theorem doRemove_any {B Bp : Nat} (hB : B + 2 ≤ 2199023255552) {Sp : Nat → Prop} {W : World} {g bf bp bw fid : Nat} {caps : Array Value} {f : N → List ByteArray → Int} {t : N} {pv : Value} {p : List ByteArray} (h : TIsX X B W g t) (hd : DirW t) (hp : Strs Bp Sp W pv p)
    (hf : Blk W bf 137 #[ifT g]) (hpl : Blk W bp 22 #[pv]) (hwl : Blk W bw 140 #[.func (.func fid) #[] caps]) (hw : WrongOk fid caps f t p W) (hi : IsWrong fid caps) (htk : takenB t p = true) :
    Calls Try.prog 144 #[.pointer (some ⟨bf, 0, none⟩), .pointer (some ⟨bp, 0, none⟩), .pointer (some ⟨bw, 0, none⟩)] W (PPostX X (B + 2) g (pRemove f t p) W) := by
  obtain ⟨d, ht, hXb⟩ := h
  have HXB := Lib.hid hXb
  clear hXb
  have HT := Lib.hid ht
  have HW := Lib.hid hd.wf
  have HP := Lib.hid hp
  have HF := Lib.hid hf
  have HPL := Lib.hid hpl
  have HWL := Lib.hid hwl
  have HWO := Lib.hid hw
  obtain ⟨Ap, cp, rfl, _⟩ := hp
  have f1 := hf.cell 0
  have l1 := hf.lt
  have f2 := hpl.cell 0
  have l2 := hpl.lt
  simp at f1 f2
  have mk := m_kind
  have md := m_del
  clear ht hd hf hpl hwl hw
  by_cases h0 : t.kindAt p = 0
  · have h01 : (t.kindAt p == 0) = true := by simpa using h0
    have Hr : Hid (pRemove f t p = (5, t)) := Lib.hid (by unfold pRemove; rw [htk, if_neg (by simp), if_pos h0])
    clear h0 htk
    go_enter Try.func144, Try.ntmps144
    go_wp2_with (go_at_call 48; refine (tkind_any (by omega) HT.out HW.out HP.out).mono ?_; rintro e w1 ⟨rfl, hx1⟩; have HX1 := Lib.hid hx1; clear hx1)
    go_ret
    rw [Hr.out]
    exact PPostX.no ⟨_, HT.out, HXB.out⟩ HX1.out
  have h01 : (t.kindAt p == 0) = false := by simpa using h0
  obtain ⟨k, hk⟩ : ∃ k, k = t.kindAt p := ⟨_, rfl⟩
  have HK := Lib.hid hk
  rw [← hk] at h01
  by_cases hc : f t p = 0
  · have hc1 : (f t p != 0) = false := by simpa using hc
    have Hr : Hid (pRemove f t p = (0, t.tdel p)) := Lib.hid (by unfold pRemove; rw [htk, if_neg (by simp), if_neg h0, if_neg (by simpa using hc)])
    clear h0 htk hc hk
    rcases hi with ⟨a1, a2, rfl, rfl⟩ | ⟨rfl, rfl⟩ | ⟨a1, rfl, rfl⟩
    all_goals
      go_enter Try.func144, Try.ntmps144
      go_wp2_with fail
      refine (tkind_any (by omega) HT.out HW.out HP.out).mono ?_
      rw [← HK.out]
      rintro e w1 ⟨rfl, hx1⟩
      have HX1 := Lib.hid hx1
      have e1 := (HWL.out.ext HX1.out).cell 0
      have k1 := (HWL.out.ext HX1.out).lt
      simp at e1
      clear hx1
      go_wp2_with fail
      refine (HK.out ▸ HWO.out w1 HX1.out).mono ?_
      rintro e w2 ⟨rfl, hx2⟩
      have HX2 := Lib.hid (HX1.out.trans' hx2)
      have g1 := (HF.out.ext HX2.out).cell 0
      have j1 := (HF.out.ext HX2.out).lt
      have g2 := (HPL.out.ext HX2.out).cell 0
      have j2 := (HPL.out.ext HX2.out).lt
      simp at g1 g2
      clear hx2 f1 l1 f2 l2 e1 k1
      go_wp2_with fail
      refine (tdel_any (by omega) (HT.out.ext HX2.out) HW.out (HP.out.ext HX2.out)).mono ?_
      rintro e w3 hdone
      have he := hdone.1
      subst he
      have HD := Lib.hid hdone
      clear hdone
      go_wp2_with fail
      go_ret
      rw [Hr.out]
      exact PPostX.yes HXB.out HD.out HX2.out (by omega)
  · have hc1 : (f t p != 0) = true := by simpa using hc
    have Hr : Hid (pRemove f t p = (f t p, t)) := Lib.hid (by unfold pRemove; rw [htk, if_neg (by simp), if_neg h0, if_pos (by simpa using hc)])
    clear h0 htk hc hk
    rcases hi with ⟨a1, a2, rfl, rfl⟩ | ⟨rfl, rfl⟩ | ⟨a1, rfl, rfl⟩
    all_goals
      go_enter Try.func144, Try.ntmps144
      go_wp2_with fail
      refine (tkind_any (by omega) HT.out HW.out HP.out).mono ?_
      rw [← HK.out]
      rintro e w1 ⟨rfl, hx1⟩
      have HX1 := Lib.hid hx1
      have e1 := (HWL.out.ext HX1.out).cell 0
      have k1 := (HWL.out.ext HX1.out).lt
      simp at e1
      clear hx1
      go_wp2_with fail
      refine (HK.out ▸ HWO.out w1 HX1.out).mono ?_
      rintro e w2 ⟨rfl, hx2⟩
      have HX2 := Lib.hid (HX1.out.trans' hx2)
      clear hx2 f1 l1 f2 l2 e1 k1
      go_wp2_with fail
      go_ret
      rw [Hr.out]
      exact PPostX.no ⟨_, HT.out, HXB.out⟩ HX2.out

set_option maxRecDepth 100000 in
set_option maxHeartbeats 2000000 in
theorem remove_any {B Bp : Nat} (hB : B + 2 ≤ 2199023255552) {Sp : Nat → Prop} {w : World} {g fid : Nat} {caps : Array Value} {f : N → List ByteArray → Int} {t : N} {pv : Value} {p : List ByteArray} (h : TIsX X B w g t) (hd : DirW t) (hp : Strs Bp Sp w pv p) (hw : WrongOk fid caps f t p w) (hi : IsWrong fid caps) :
    Calls Try.prog 112 #[ifT g, pv, .func (.func fid) #[] caps] w (PPostX X (B + 2) g (pRemove f t p) w) := by
  have HT := Lib.hid h
  have HD := Lib.hid hd
  have HP := Lib.hid hp
  have HWO := Lib.hid hw
  have HI := Lib.hid hi
  obtain ⟨Ap, cp, rfl, _⟩ := hp
  obtain ⟨d, ht, hXb⟩ := h
  have HXB := Lib.hid hXb
  clear hXb
  have HTA := Lib.hid ht
  obtain ⟨fv, hfv⟩ : ∃ fv : Value, fv = .func (.func fid) #[] caps := ⟨_, rfl⟩
  have hone : fv.oneCell' = true := by rw [hfv]; rfl
  have HFV := Lib.hid hfv
  rw [← hfv]
  clear ht hd hw hi hfv
  have hx4 : Ext w ((((w.alloc (.cells #[ifT g] 137)).alloc (.cells #[.slice Ap p.length cp] 22)).alloc (.cells #[fv] 140)).alloc (.cells #[.slice Ap p.length cp] 22)) := (((Ext.alloc' _ _).trans' (Ext.alloc' _ _)).trans' (Ext.alloc' _ _)).trans' (Ext.alloc' _ _)
  have b0 := (((Blk.new w 137 #[ifT g]).alloc (.cells #[.slice Ap p.length cp] 22)).alloc (.cells #[fv] 140)).alloc (.cells #[.slice Ap p.length cp] 22)
  have b1 := ((Blk.new' (w.alloc (.cells #[ifT g] 137)) 22 #[.slice Ap p.length cp] (n := w.heap.size + 1) (by simp)).alloc (.cells #[fv] 140)).alloc (.cells #[.slice Ap p.length cp] 22)
  have b2 := (Blk.new' ((w.alloc (.cells #[ifT g] 137)).alloc (.cells #[.slice Ap p.length cp] 22)) 140 #[fv] (n := w.heap.size + 1 + 1) (by simp)).alloc (.cells #[.slice Ap p.length cp] 22)
  have b3 := Blk.new' (((w.alloc (.cells #[ifT g] 137)).alloc (.cells #[.slice Ap p.length cp] 22)).alloc (.cells #[fv] 140)) 22 #[.slice Ap p.length cp] (n := w.heap.size + 1 + 1 + 1) (by simp)
  have HX4 := Lib.hid hx4
  have B0 := Lib.hid b0
  have B1 := Lib.hid b1
  have B2 := Lib.hid b2
  have B3 := Lib.hid b3
  clear hx4 b0 b1 b2 b3
  go_enter Try.func112, Try.ntmps112
  go_wp2_with fail
  cases htk : takenB t p
  · have Hr : Hid (pRemove f t p = (5, t)) := Lib.hid (by unfold pRemove; rw [htk]; rfl)
    have HTK := Lib.hid htk
    clear htk
    refine (at_no (by omega) (HTA.out.ext HX4.out) HD.out.wf (Places.one B3.out (HP.out.ext HX4.out)) (by simp [HTK.out])).mono ?_
    rintro e w1 ⟨rfl, hx1⟩
    have HX1 := Lib.hid (HX4.out.trans' hx1)
    clear hx1
    go_wp2_with fail
    go_ret
    rw [Hr.out]
    exact PPostX.no HT.out HX1.out
  · have HTK := Lib.hid htk
    clear htk
    refine (at_yes (c := (pRemove f t p).1) (R := fun w' => PPostX X (B + 2) g (pRemove f t p) w (.returned (.int .i64 (pRemove f t p).1)) w') (by omega) (HTA.out.ext HX4.out) HD.out.wf (Places.one B3.out (HP.out.ext HX4.out)) (by simp [HTK.out]) (fun w1 hx1 => ?_) (.inl ⟨_, _, _, .inr (.inl rfl), rfl⟩)).mono ?_
    · have hxx := HX4.out.trans' hx1
      refine (doRemove_any hB (HT.out.ext hxx) HD.out (HP.out.ext hxx) (B0.out.ext hx1) (B1.out.ext hx1) (HFV.out ▸ B2.out.ext hx1) (HWO.out.ext hxx) HI.out HTK.out).mono ?_
      rintro e w2 hp
      have he := hp.1
      subst he
      exact ⟨rfl, hp.from hxx⟩
    · rintro e w1 ⟨rfl, hr⟩
      have HR := Lib.hid hr
      clear hr
      go_wp2_with fail
      go_ret
      exact HR.out

theorem wrong_link {t : N} {p : List ByteArray} {W : World} : WrongOk 114 #[] wLink t p W := by
  intro w1 _
  show Calls Try.prog 114 #[.int .u8 (t.kindAt p)] w1 _
  by_cases h : t.kindAt p = 2
  · have h1 : (t.kindAt p == 2) = true := by simpa using h
    have Hr : Hid (wLink t p = 55) := Lib.hid (by unfold wLink; rw [if_pos h])
    clear h
    go_enter Try.func114, Try.ntmps114
    go_wp2_with fail
    go_ret
    exact ⟨ret_int Hr.out.symm, Below.refl _ _⟩
  · have h1 : (t.kindAt p == 2) = false := by simpa using h
    have Hr : Hid (wLink t p = 0) := Lib.hid (by unfold wLink; rw [if_neg h])
    clear h
    go_enter Try.func114, Try.ntmps114
    go_wp2_with fail
    go_ret
    exact ⟨ret_int Hr.out.symm, Below.refl _ _⟩
theorem wrong_all {t : N} {p : List ByteArray} {W : World} {bp : Nat} {A : Option Addr} {c : Nat} (hpl : Blk W bp 22 #[.slice A p.length c]) : WrongOk 119 #[.pointer (some ⟨bp, 0, none⟩)] wAll t p W := by
  intro w1 hx
  show Calls Try.prog 119 #[.int .u8 (t.kindAt p), .pointer (some ⟨bp, 0, none⟩)] w1 _
  have f2 := (hpl.ext hx).cell 0
  have l2 := (hpl.ext hx).lt
  simp at f2
  clear hpl hx
  by_cases h : p = []
  · have h1 : ((p.length : Int) == 0) = true := by rw [h]; rfl
    have Hr : Hid (wAll t p = 57) := Lib.hid (by unfold wAll; rw [if_pos h])
    clear h
    go_enter Try.func119, Try.ntmps119
    go_wp2_with fail
    go_ret
    exact ⟨ret_int Hr.out.symm, Below.refl _ _⟩
  · have h1 : ((p.length : Int) == 0) = false := by
      rw [beq_eq_false_iff_ne]
      intro e
      exact h (List.eq_nil_of_length_eq_zero (by omega))
    have Hr : Hid (wAll t p = 0) := Lib.hid (by unfold wAll; rw [if_neg h])
    clear h
    go_enter Try.func119, Try.ntmps119
    go_wp2_with fail
    go_ret
    exact ⟨ret_int Hr.out.symm, Below.refl _ _⟩
set_option maxRecDepth 100000 in
set_option maxHeartbeats 2000000 in
theorem wrong_dir {B Bp : Nat} (hB : B ≤ 2199023255552) {Sp : Nat → Prop} {t : N} {p : List ByteArray} {W : World} {g bp bf : Nat} {A : Option Addr} {c : Nat} (h : TIsX X B W g t) (hd : DirW t) (hp : Strs Bp Sp W (.slice A p.length c) p) (hpl : Blk W bp 22 #[.slice A p.length c]) (hf : Blk W bf 137 #[ifT g]) :
    WrongOk 113 #[.pointer (some ⟨bp, 0, none⟩), .pointer (some ⟨bf, 0, none⟩)] wDir t p W := by
  intro w1 hx
  show Calls Try.prog 113 #[.int .u8 (t.kindAt p), .pointer (some ⟨bp, 0, none⟩), .pointer (some ⟨bf, 0, none⟩)] w1 _
  obtain ⟨d, ht, hXb⟩ := h
  have HXB := Lib.hid hXb
  clear hXb
  have HT := Lib.hid (ht.ext hx)
  have HW := Lib.hid hd.wf
  have HP := Lib.hid (hp.ext hx)
  have f1 := (hf.ext hx).cell 0
  have l1 := (hf.ext hx).lt
  have f2 := (hpl.ext hx).cell 0
  have l2 := (hpl.ext hx).lt
  have me := m_empty
  simp at f1 f2
  clear hpl hx hf ht hd hp
  by_cases h : t.kindAt p = 2
  · have h1 : (t.kindAt p == 2) = true := by simpa using h
    have h1' : (t.kindAt p != 2) = false := by simpa using h
    by_cases h0 : p = []
    · have h2 : ((p.length : Int) == 0) = true := by rw [h0]; rfl
      have Hr : Hid (wDir t p = 57) := Lib.hid (by unfold wDir; rw [if_neg (by simpa using h), if_pos (.inl h0)])
      clear h h0
      go_enter Try.func113, Try.ntmps113
      go_wp2_with fail
      go_ret
      exact ⟨ret_int Hr.out.symm, Below.refl _ _⟩
    · have h2 : ((p.length : Int) == 0) = false := by
        rw [beq_eq_false_iff_ne]
        intro e
        exact h0 (List.eq_nil_of_length_eq_zero (by omega))
      cases hem : emptyB ((t.get p).getD N.zero)
      · have HE := Lib.hid hem
        have Hr : Hid (wDir t p = 57) := Lib.hid (by unfold wDir; rw [if_neg (by simpa using h), if_pos (.inr hem)])
        clear h h0 hem
        go_enter Try.func113, Try.ntmps113
        go_wp2_with (go_at_call 50; refine (tempty_any hB HT.out HW.out HP.out).mono ?_; rw [HE.out]; rintro e w2 ⟨rfl, hx2⟩; have HX2 := Lib.hid hx2; clear hx2)
        go_ret
        exact ⟨ret_int Hr.out.symm, HX2.out⟩
      · have HE := Lib.hid hem
        have Hr : Hid (wDir t p = 0) := Lib.hid (by unfold wDir; rw [if_neg (by simpa using h), if_neg (by rw [hem]; simp [h0])])
        clear h h0 hem
        go_enter Try.func113, Try.ntmps113
        go_wp2_with (go_at_call 50; refine (tempty_any hB HT.out HW.out HP.out).mono ?_; rw [HE.out]; rintro e w2 ⟨rfl, hx2⟩; have HX2 := Lib.hid hx2; clear hx2)
        go_ret
        exact ⟨ret_int Hr.out.symm, HX2.out⟩
  · have h1 : (t.kindAt p == 2) = false := by simpa using h
    have h1' : (t.kindAt p != 2) = true := by simpa using h
    have Hr : Hid (wDir t p = 55) := Lib.hid (by unfold wDir; rw [if_pos h])
    clear h
    go_enter Try.func113, Try.ntmps113
    go_wp2_with fail
    go_ret
    exact ⟨ret_int Hr.out.symm, Below.refl _ _⟩

section
variable {B Bp : Nat} {Sp : Nat → Prop} {w : World} {g : Nat} {t : N} {pv : Value} {p : List ByteArray}
set_option maxRecDepth 100000 in
theorem unlink_any (hB : B + 2 ≤ 2199023255552) (h : TIsX X B w g t) (hd : DirW t) (hp : Strs Bp Sp w pv p) :
    Calls Try.prog 64 #[ifT g, pv] w (PPostX X (B + 2) g (pRemove wLink t p) w) := by
  have HT := Lib.hid h
  have HD := Lib.hid hd
  have HP := Lib.hid hp
  obtain ⟨Ap, cp, rfl, _⟩ := hp
  clear h hd
  go_enter Try.func64, Try.ntmps64
  go_wp2_with fail
  refine (remove_any hB HT.out HD.out HP.out wrong_link (.inr (.inl ⟨rfl, rfl⟩))).mono ?_
  rintro e w1 hq
  have he := hq.1
  subst he
  have HQ := Lib.hid hq
  clear hq
  go_wp2_with fail
  go_ret
  exact HQ.out
set_option maxRecDepth 100000 in
theorem removeAll_any (hB : B + 2 ≤ 2199023255552) (h : TIsX X B w g t) (hd : DirW t) (hp : Strs Bp Sp w pv p) :
    Calls Try.prog 70 #[ifT g, pv] w (PPostX X (B + 2) g (pRemove wAll t p) w) := by
  have HT := Lib.hid h
  have HD := Lib.hid hd
  have HP := Lib.hid hp
  obtain ⟨Ap, cp, rfl, _⟩ := hp
  clear h hd
  go_enter Try.func70, Try.ntmps70
  go_wp2_with fail
  have hx := Ext.alloc' w (.cells #[.slice Ap p.length cp] 22)
  refine (remove_any hB (HT.out.ext hx) HD.out (HP.out.ext hx) (wrong_all (Blk.new _ _ _)) (.inr (.inr ⟨_, rfl, rfl⟩))).mono ?_
  rintro e w1 hq
  have he := hq.1
  subst he
  have HQ := Lib.hid (hq.from hx)
  clear hq hx
  go_wp2_with fail
  go_ret
  exact HQ.out
set_option maxRecDepth 100000 in
theorem removeDir_any (hB : B + 2 ≤ 2199023255552) (h : TIsX X B w g t) (hd : DirW t) (hp : Strs Bp Sp w pv p) :
    Calls Try.prog 62 #[ifT g, pv] w (PPostX X (B + 2) g (pRemove wDir t p) w) := by
  have HT := Lib.hid h
  have HD := Lib.hid hd
  have HP := Lib.hid hp
  obtain ⟨Ap, cp, rfl, _⟩ := hp
  clear h hd
  go_enter Try.func62, Try.ntmps62
  go_wp2_with fail
  have hx := (Ext.alloc' w (.cells #[ifT g] 137)).trans' (Ext.alloc' (w.alloc (.cells #[ifT g] 137)) (.cells #[.slice Ap p.length cp] 22))
  refine (remove_any hB (HT.out.ext hx) HD.out (HP.out.ext hx) (wrong_dir (by omega) (HT.out.ext hx) HD.out (HP.out.ext hx) (Blk.new' _ _ _ (by simp)) ((Blk.new w 137 #[ifT g]).alloc _)) (.inl ⟨_, _, rfl, rfl⟩)).mono ?_
  rintro e w1 hq
  have he := hq.1
  subst he
  have HQ := Lib.hid (hq.from hx)
  clear hq hx
  go_wp2_with fail
  go_ret
  exact HQ.out
end
end Go.Proofs.Ytocndkhgopjhhaa
