/- prim: MakeDir, MakeFile, MakeLink, Touch, RemoveDir, Unlink, RemoveAll on a tree. -/
import Derived.Test.YtocndkhgopjhhaaProg
import Derived.Test.YtocndkhgopjhhaaPrim
import Derived.Outline
namespace Go.Proofs.Ytocndkhgopjhhaa
open Go.RowKit

/-- 'The pointer to block g is a tree of the root t', whose nodes lie beside the blocks of X. -/
def TIsX (X : Nat → Prop) (B : Nat) (w : World) (g : Nat) (t : N) : Prop := ∃ d, TreeAt B (fun b => b ≠ g ∧ ¬ X b) w g d t ∧ ∀ b, X b → b < w.heap.size
abbrev TIs (B : Nat) (w : World) (g : Nat) (t : N) : Prop := TIsX (fun _ => False) B w g t
theorem TIsX.of {X : Nat → Prop} {B B' : Nat} {S : Nat → Prop} {w : World} {g d : Nat} {t : N} (h : TreeAt B S w g d t) (hB : B ≤ B') (hS : ∀ b, S b → b < w.heap.size → ¬ X b) (hX : ∀ b, X b → b < w.heap.size) : TIsX X B' w g t :=
  ⟨d, h.keep hB (Nat.le_refl _) (Nat.le_refl _) rfl (fun _ _ _ => rfl) (fun _ hb hl => ⟨h.ne hb, hS _ hb hl⟩) (fun _ h => h.1), hX⟩
theorem TIsX.ext {X : Nat → Prop} {B : Nat} {w w' : World} {g : Nat} {t : N} (h : TIsX X B w g t) (hx : Ext w w') : TIsX X B w' g t := by
  obtain ⟨d, h, hX⟩ := h; exact ⟨d, h.ext hx, fun b hb => Nat.lt_of_lt_of_le (hX b hb) hx.size⟩
theorem TIsX.lt {X : Nat → Prop} {B : Nat} {w : World} {g : Nat} {t : N} (h : TIsX X B w g t) : g < w.heap.size := by
  obtain ⟨d, h, _⟩ := h; exact h.lt
theorem TIsX.wide {X : Nat → Prop} {B B' : Nat} {w : World} {g : Nat} {t : N} (h : TIsX X B w g t) (hB : B ≤ B') : TIsX X B' w g t := by
  obtain ⟨d, h, hX⟩ := h; exact TIsX.of h hB (fun _ hb _ => hb.2) hX
theorem TIs.of {B B' : Nat} {S : Nat → Prop} {w : World} {g d : Nat} {t : N} (h : TreeAt B S w g d t) (hB : B ≤ B') : TIs B' w g t := TIsX.of h hB (fun _ _ _ h => h) (fun _ h => h.elim)
theorem TIs.ext {B : Nat} {w w' : World} {g : Nat} {t : N} (h : TIs B w g t) (hx : Ext w w') : TIs B w' g t := TIsX.ext h hx
theorem TIs.lt {B : Nat} {w : World} {g : Nat} {t : N} (h : TIs B w g t) : g < w.heap.size := TIsX.lt h
theorem TIs.wide {B B' : Nat} {w : World} {g : Nat} {t : N} (h : TIs B w g t) (hB : B ≤ B') : TIs B' w g t := TIsX.wide h hB

/-- What a call of prim comes to. -/
def PPostX (X : Nat → Prop) (B g : Nat) (r : Int × N) (w : World) (e : Ending) (w' : World) : Prop :=
  e = .returned (.int .i64 r.1) ∧ Turns (fun b => b = g) w w' ∧ TIsX X B w' g r.2
section
variable {X : Nat → Prop}
theorem PPostX.from {B g : Nat} {r : Int × N} {w w1 : World} {e : Ending} {w2 : World} (h : PPostX X B g r w1 e w2) (hx : Ext w w1) : PPostX X B g r w e w2 :=
  ⟨h.1, (Turns.ofExt hx).trans h.2.1 (fun _ h _ => h), h.2.2⟩
theorem PPostX.to {B g : Nat} {r : Int × N} {w w2 w3 : World} {e : Ending} (h : PPostX X B g r w e w2) (hx : Ext w2 w3) : PPostX X B g r w e w3 :=
  ⟨h.1, h.2.1.trans (Turns.ofExt hx (F := fun b => b = g)) (fun _ h _ => h), h.2.2.ext hx⟩
theorem PPostX.no {B g : Nat} {c : Int} {t : N} {w w' : World} (h : TIsX X B w g t) (hx : Ext w w') : PPostX X (B + 2) g (c, t) w (.returned (.int .i64 c)) w' :=
  ⟨rfl, Turns.ofExt hx, (h.ext hx).wide (by omega)⟩
theorem PPostX.yes {B B' g d : Nat} {t : N} {w w1 : World} {e : Ending} {w2 : World} (hX : ∀ b, X b → b < w.heap.size) (h : DonePost B' (fun b => b ≠ g ∧ ¬ X b) g d t w1 e w2) (hx : Ext w w1) (hB : B' ≤ B + 2) : PPostX X (B + 2) g (0, t) w (.returned (.int .i64 0)) w2 :=
  ⟨rfl, (Turns.ofExt hx).trans h.2.1 (fun _ h _ => h), TIsX.of h.2.2 hB (fun b hb _ hx' => by
    rcases hb with hb | hb
    · exact hb.2 hx'
    · have := hX b hx'
      have := hx.size
      omega) (fun b hb => Nat.lt_of_lt_of_le (hX b hb) (Nat.le_trans hx.size h.2.1.size))⟩
end
variable {X : Nat → Prop}

/-- places in a slice that was just built -/
theorem Places.one {B : Nat} {S : Nat → Prop} {w : World} {b : Nat} {v : Value} {p : List ByteArray} (hb : Blk w b 22 #[v]) (hp : Strs B S w v p) : Places B S w b 1 [p] :=
  ⟨rfl, by simp, hb.lt, fun i q hi => by
    have h0 : i = 0 := by have := (List.getElem?_eq_some_iff.1 hi).1; simp at this; omega
    subst h0
    simp at hi
    subst hi
    exact ⟨v, hb.cell 0, hp⟩⟩
theorem Places.two {B : Nat} {S : Nat → Prop} {w : World} {b : Nat} {v1 v2 : Value} {p1 p2 : List ByteArray} (hb : Blk w b 22 #[v1, v2]) (h1 : Strs B S w v1 p1) (h2 : Strs B S w v2 p2) : Places B S w b 2 [p1, p2] :=
  ⟨rfl, by simp, hb.lt, fun i q hi => by
    have h0 : i = 0 ∨ i = 1 := by have := (List.getElem?_eq_some_iff.1 hi).1; simp at this; omega
    rcases h0 with rfl | rfl
    · simp at hi
      subst hi
      exact ⟨v1, hb.cell 0, h1⟩
    · simp at hi
      subst hi
      exact ⟨v2, hb.cell 1, h2⟩⟩

set_option maxRecDepth 100000 in
set_option maxHeartbeats 2000000 in
theorem doPut_any {B Bp : Nat} (hB : B + 2 ≤ 2199023255552) {Sp Sx : Nat → Prop} {W : World} {g dx bn bf bp : Nat} {t x : N} {v0 v1 v2 v3 pv : Value} {p : List ByteArray} (h : TIsX X B W g t) (hd : DirW t) (hx : Rep B Sx W dx x (.agg #[v0, v1, v2, v3])) (hp : Strs Bp Sp W pv p)
    (hn : Blk W bn 25 #[v0, v1, v2, v3]) (hf : Blk W bf 137 #[ifT g]) (hpl : Blk W bp 22 #[pv]) (htk : takenB t p = true) :
    Calls Try.prog 143 #[.pointer (some ⟨bn, 0, none⟩), .pointer (some ⟨bf, 0, none⟩), .pointer (some ⟨bp, 0, none⟩)] W (PPostX X (B + 2) g (pMake x t p) W) := by
  obtain ⟨d, ht, hXb⟩ := h
  have HXB := Lib.hid hXb
  clear hXb
  have HT := Lib.hid ht
  have HW := Lib.hid hd.wf
  have HX := Lib.hid hx
  have HP := Lib.hid hp
  have HN := Lib.hid hn
  have HF := Lib.hid hf
  have HPL := Lib.hid hpl
  obtain ⟨A, c, A', c', rfl, rfl, rfl, rfl⟩ := hx.shape
  obtain ⟨Ap, cp, rfl, _⟩ := hp
  obtain ⟨n0, n1, n2, n3, _, _, _, _⟩ := hn.cells4
  have hnl := hn.lt
  have mk := m_kind
  have mp := m_put
  clear ht hd hn hf hpl
  cases hxw : x.well
  · have HXW := Lib.hid hxw
    have Hr : Hid (pMake x t p = (4, t)) := Lib.hid (by unfold pMake; rw [htk, hxw]; rfl)
    clear hxw htk
    go_enter Try.func143, Try.ntmps143
    go_wp2_with (go_at_call 15; refine (well_any _ (by omega) _ _ _ _ _ HX.out).mono ?_; rw [HXW.out]; rintro e w1 ⟨rfl, hx1⟩; have HX1 := Lib.hid hx1; clear hx1)
    go_ret
    rw [Hr.out]
    exact PPostX.no ⟨_, HT.out, HXB.out⟩ HX1.out
  have HXW := Lib.hid hxw
  by_cases hk : t.kindAt p = 0
  · have hk1 : (t.kindAt p != 0) = false := by simpa using hk
    have Hr : Hid (pMake x t p = (0, t.tput p x)) := Lib.hid (by unfold pMake; rw [htk, hxw]; simp [hk])
    have HK1 := Lib.hid hk1
    clear hxw htk hk hk1
    go_enter Try.func143, Try.ntmps143
    go_wp2_with fail
    refine (well_any _ (by omega) _ _ _ _ _ HX.out).mono ?_
    rw [HXW.out]
    rintro e w1 ⟨rfl, hx1⟩
    have f1 := (HF.out.ext hx1).cell 0
    have l1 := (HF.out.ext hx1).lt
    have f2 := (HPL.out.ext hx1).cell 0
    have l2 := (HPL.out.ext hx1).lt
    have HX1 := Lib.hid hx1
    have hk1 := HK1.out
    simp at f1 f2
    clear hx1
    go_wp2_with fail
    refine (tkind_any (by omega) (HT.out.ext HX1.out) HW.out (HP.out.ext HX1.out)).mono ?_
    rintro e w2 ⟨rfl, hx2⟩
    have HX2 := Lib.hid (HX1.out.trans' hx2)
    have e1 := (HF.out.ext HX2.out).cell 0
    have k1 := (HF.out.ext HX2.out).lt
    have e2 := (HPL.out.ext HX2.out).cell 0
    have k2 := (HPL.out.ext HX2.out).lt
    obtain ⟨y0, y1, y2, y3, _, _, _, _⟩ := (HN.out.ext HX2.out).cells4
    have k3 := (HN.out.ext HX2.out).lt
    simp at e1 e2
    clear hx2 f1 l1 f2 l2
    go_wp2_with fail
    refine (tput_any (by omega) (HT.out.ext HX2.out) HW.out (HP.out.ext HX2.out) (HX.out.ext HX2.out)).mono ?_
    rintro e w3 hdone
    have he := hdone.1
    subst he
    have HD := Lib.hid hdone
    clear hdone
    go_wp2_with fail
    go_ret
    rw [Hr.out]
    exact PPostX.yes HXB.out HD.out HX2.out (by omega)
  · have hk1 : (t.kindAt p != 0) = true := by simpa using hk
    have Hr : Hid (pMake x t p = (6, t)) := Lib.hid (by unfold pMake; rw [htk, hxw]; simp [hk])
    have HK1 := Lib.hid hk1
    clear hxw htk hk hk1
    go_enter Try.func143, Try.ntmps143
    go_wp2_with fail
    refine (well_any _ (by omega) _ _ _ _ _ HX.out).mono ?_
    rw [HXW.out]
    rintro e w1 ⟨rfl, hx1⟩
    have f1 := (HF.out.ext hx1).cell 0
    have l1 := (HF.out.ext hx1).lt
    have f2 := (HPL.out.ext hx1).cell 0
    have l2 := (HPL.out.ext hx1).lt
    have HX1 := Lib.hid hx1
    have hk1 := HK1.out
    simp at f1 f2
    clear hx1
    go_wp2_with fail
    refine (tkind_any (by omega) (HT.out.ext HX1.out) HW.out (HP.out.ext HX1.out)).mono ?_
    rintro e w2 ⟨rfl, hx2⟩
    have HX2 := Lib.hid (HX1.out.trans' hx2)
    clear hx2 f1 l1 f2 l2
    go_wp2_with fail
    go_ret
    rw [Hr.out]
    exact PPostX.no ⟨_, HT.out, HXB.out⟩ HX2.out

set_option maxRecDepth 100000 in
set_option maxHeartbeats 2000000 in
theorem pput_any {B Bp : Nat} (hB : B + 2 ≤ 2199023255552) {Sp Sx : Nat → Prop} {w : World} {g dx : Nat} {t x : N} {xv pv : Value} {p : List ByteArray} (h : TIsX X B w g t) (hd : DirW t) (hx : Rep B Sx w dx x xv) (hp : Strs Bp Sp w pv p) :
    Calls Try.prog 111 #[ifT g, pv, xv] w (PPostX X (B + 2) g (pMake x t p) w) := by
  have HT := Lib.hid h
  have HD := Lib.hid hd
  obtain ⟨A, c, A', c', rfl⟩ := hx.agg
  have HX := Lib.hid hx
  have HP := Lib.hid hp
  obtain ⟨Ap, cp, rfl, _⟩ := hp
  obtain ⟨d, ht, hXb⟩ := h
  have HXB := Lib.hid hXb
  clear hXb
  have HTA := Lib.hid ht
  clear ht hd hx
  have hx4 : Ext w ((((w.alloc (.cells #[ifT g] 137)).alloc (.cells #[.slice Ap p.length cp] 22)).alloc (.cells #[.int .u8 x.kind, .string x.text, .slice A x.names.length c, .slice A' x.kids.length c'] 25)).alloc (.cells #[.slice Ap p.length cp] 22)) := (((Ext.alloc' _ _).trans' (Ext.alloc' _ _)).trans' (Ext.alloc' _ _)).trans' (Ext.alloc' _ _)
  have b0 := (((Blk.new w 137 #[ifT g]).alloc (.cells #[.slice Ap p.length cp] 22)).alloc (.cells #[.int .u8 x.kind, .string x.text, .slice A x.names.length c, .slice A' x.kids.length c'] 25)).alloc (.cells #[.slice Ap p.length cp] 22)
  have b1 := ((Blk.new' (w.alloc (.cells #[ifT g] 137)) 22 #[.slice Ap p.length cp] (n := w.heap.size + 1) (by simp)).alloc (.cells #[.int .u8 x.kind, .string x.text, .slice A x.names.length c, .slice A' x.kids.length c'] 25)).alloc (.cells #[.slice Ap p.length cp] 22)
  have b2 := (Blk.new' ((w.alloc (.cells #[ifT g] 137)).alloc (.cells #[.slice Ap p.length cp] 22)) 25 #[.int .u8 x.kind, .string x.text, .slice A x.names.length c, .slice A' x.kids.length c'] (n := w.heap.size + 1 + 1) (by simp)).alloc (.cells #[.slice Ap p.length cp] 22)
  have b3 := Blk.new' (((w.alloc (.cells #[ifT g] 137)).alloc (.cells #[.slice Ap p.length cp] 22)).alloc (.cells #[.int .u8 x.kind, .string x.text, .slice A x.names.length c, .slice A' x.kids.length c'] 25)) 22 #[.slice Ap p.length cp] (n := w.heap.size + 1 + 1 + 1) (by simp)
  have HX4 := Lib.hid hx4
  have B0 := Lib.hid b0
  have B1 := Lib.hid b1
  have B2 := Lib.hid b2
  have B3 := Lib.hid b3
  clear hx4 b0 b1 b2 b3
  go_enter Try.func111, Try.ntmps111
  go_wp2_with fail
  cases htk : takenB t p
  · have Hr : Hid (pMake x t p = (5, t)) := Lib.hid (by unfold pMake; rw [htk]; rfl)
    have HTK := Lib.hid htk
    clear htk
    refine (at_no (by omega) (HTA.out.ext HX4.out) HD.out.wf (Places.one B3.out (HP.out.ext HX4.out)) (by simp [HTK.out])).mono ?_
    rintro e w1 ⟨rfl, hx1⟩
    have HX1 := Lib.hid (HX4.out.trans' hx1)
    clear hx1
    go_wp2_with fail
    go_ret
    rw [Hr.out]
    exact PPostX.no HT.out HX1.out
  · have HTK := Lib.hid htk
    clear htk
    refine (at_yes (c := (pMake x t p).1) (R := fun w' => PPostX X (B + 2) g (pMake x t p) w (.returned (.int .i64 (pMake x t p).1)) w') (by omega) (HTA.out.ext HX4.out) HD.out.wf (Places.one B3.out (HP.out.ext HX4.out)) (by simp [HTK.out]) (fun w1 hx1 => ?_) (.inl ⟨_, _, _, .inl rfl, rfl⟩)).mono ?_
    · have hxx := HX4.out.trans' hx1
      refine (doPut_any hB (HT.out.ext hxx) HD.out (HX.out.ext hxx) (HP.out.ext hxx) (B2.out.ext hx1) (B0.out.ext hx1) (B1.out.ext hx1) HTK.out).mono ?_
      rintro e w2 hp
      have he := hp.1
      subst he
      exact ⟨rfl, hp.from hxx⟩
    · rintro e w1 ⟨rfl, hr⟩
      have HR := Lib.hid hr
      clear hr
      go_wp2_with fail
      go_ret
      exact HR.out
end Go.Proofs.Ytocndkhgopjhhaa
