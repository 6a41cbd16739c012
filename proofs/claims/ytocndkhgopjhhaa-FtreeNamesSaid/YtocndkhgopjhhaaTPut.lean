/- (*ftree.Tree): set, Put, Del, Move, Copy, New, Clone. -/
import Derived.Test.YtocndkhgopjhhaaProg
import Derived.Test.YtocndkhgopjhhaaTSet
import Derived.Test.YtocndkhgopjhhaaMay
import Derived.Test.YtocndkhgopjhhaaWithP
import Derived.Outline
namespace Go.Proofs.Ytocndkhgopjhhaa
open Go.RowKit

/-- What is done to a tree: block g alone is written over; new blocks. -/
def DonePost (B : Nat) (S : Nat → Prop) (g d : Nat) (t : N) (w : World) (e : Ending) (w' : World) : Prop :=
  e = .returned (.tuple #[]) ∧ Turns (fun b => b = g) w w' ∧ TreeAt B (fun b => S b ∨ w.heap.size ≤ b) w' g d t

theorem DonePost.wide {B B' : Nat} {S S' : Nat → Prop} {g d d' : Nat} {t : N} {w : World} {e : Ending} {w' : World} (h : DonePost B S g d t w e w') (hg : g < w.heap.size) (hB : B ≤ B') (hS : ∀ b, S b → S' b) (hS' : ∀ b, S' b → b ≠ g) (hd : d ≤ d') : DonePost B' S' g d' t w e w' := by
  obtain ⟨he, ht, hr⟩ := h
  refine ⟨he, ht, hr.keep hB hd (Nat.le_refl _) rfl (fun _ _ _ => rfl) (fun b h _ => h.imp (hS b) id) (fun b h => ?_)⟩
  rcases h with h | h
  · exact hS' b h
  · omega
/-- nothing is done. -/
theorem DonePost.none {B : Nat} {S : Nat → Prop} {g d : Nat} {t : N} {w w' : World} (h : TreeAt B S w g d t) (hx : Ext w w') : DonePost B S g d t w (.returned (.tuple #[])) w' :=
  ⟨rfl, Turns.ofExt hx, by
    have hg := h.lt
    obtain ⟨_, _, _, _, _, _, hS⟩ := id h
    exact (h.ext hx).keep (Nat.le_refl _) (Nat.le_refl _) (Nat.le_refl _) rfl (fun _ _ _ => rfl) (fun b h _ => .inl h) (fun b h => by
      rcases h with h | h
      · exact hS b h
      · omega)⟩

theorem N.put_eq (t x : N) (p : List ByteArray) : t.put p x = N.chg (N.put1 x) p t := rfl

set_option maxRecDepth 100000 in
set_option maxHeartbeats 2000000 in
theorem tset_any {B Bp : Nat} (hB : B + 1 ≤ 2199023255552) {S Sp Sx : Nat → Prop} {w : World} {g d dx : Nat} {t x : N} {pv xv : Value} {q : List ByteArray} {s : ByteArray} (h : TreeAt B S w g d t) (hw : t.well = true) (ho : OpenP t (q ++ [s])) (hp : Strs Bp Sp w pv (q ++ [s])) (hx : Rep B Sx w dx x xv) (hSx : ∀ b, Sx b → b ≠ g) :
    Calls Try.prog 100 #[.pointer (some ⟨g, 0, none⟩), pv, xv] w (DonePost (B + 1) (fun b => S b ∨ Sx b) g (d + dx) (t.put (q ++ [s]) x) w) := by
  obtain ⟨A, c, A', c', hb, hr, hS⟩ := h
  obtain ⟨p0, p1, p2, p3, f0, f1, f2, f3⟩ := hb.cells4
  obtain ⟨Ax, cx, Ax', cx', rfl⟩ := hx.agg
  have HP := Lib.hid hp
  obtain ⟨Ap, cp, rfl, _⟩ := id hp
  obtain ⟨bp, op, rfl, hn, hcp, hcm, _, hbp, hc, hs⟩ := hp.last
  have hgl := hb.lt
  have HB := Lib.hid hb
  have HS := Lib.hid hS
  have HSX := Lib.hid hSx
  have Hs := Lib.hid hs
  have HR := Lib.hid (Rep.keep (S' := fun b => (S b ∨ Sx b) ∧ b < w.heap.size) (Nat.le_refl _) (fun _ _ _ => rfl) (fun b h hl => ⟨.inl h, hl⟩) _ _ _ hr)
  have HX := Lib.hid (Rep.keep (S' := fun b => (S b ∨ Sx b) ∧ b < w.heap.size) (Nat.le_refl _) (fun _ _ _ => rfl) (fun b h hl => ⟨.inr h, hl⟩) _ _ _ hx)
  have HW := Lib.hid hw
  have HO := Lib.hid ho
  rw [hn] at HP ⊢
  unfold maxLen at hcm
  clear hb hr hx hp hw ho hS hSx hs hn
  go_enter Try.func100, Try.ntmps100
  go_wp2_with fail
  have hX0 : Ext w ((w.alloc (.cells #[.int .u8 x.kind, .string x.text, .slice Ax x.names.length cx, .slice Ax' x.kids.length cx'] 25)).alloc (.cells #[.string s] 9)) := (Ext.alloc' _ _).trans' (Ext.alloc' _ _)
  have hbx := (Blk.new w 25 #[.int .u8 x.kind, .string x.text, .slice Ax x.names.length cx, .slice Ax' x.kids.length cx']).alloc (.cells #[.string s] 9)
  have hbs := Blk.new' (w.alloc (.cells #[.int .u8 x.kind, .string x.text, .slice Ax x.names.length cx, .slice Ax' x.kids.length cx'] 25)) 9 #[.string s] (n := w.heap.size + 1) (by simp)
  refine (change_any (d0 := dx) hB (S := fun b => (S b ∨ Sx b) ∧ b < w.heap.size) (fun b h => by have := h.2; simp; omega) (atOk_set hB hbx (HX.out.ext hX0) hbs Hs.out) (.inl ⟨rfl, _, _, rfl⟩) q (Below.refl _ _) HW.out HO.out (HR.out.ext hX0) (HP.out.ext hX0)).mono ?_
  rintro e w1 ⟨A1, c1, A1', c1', rfl, hx1, hr1⟩
  have HX1 := Lib.hid (hX0.trans' hx1)
  have HR1 := Lib.hid hr1
  have hb1 := (HB.out.ext hX0).ext hx1
  have HB1 := Lib.hid hb1
  obtain ⟨r0, r1, r2, r3, g0, g1, g2, g3⟩ := hb1.cells4
  clear hX0 hbx hbs hx1 hr1 hb1
  go_wp2_with fail
  go_end0
  have hT : Turns (fun b => b = g) w (set4 w1 g (.int .u8 (N.chg (N.put1 x) (q ++ [s]) t).kind) (.string (N.chg (N.put1 x) (q ++ [s]) t).text) (.slice A1 (N.chg (N.put1 x) (q ++ [s]) t).names.length c1) (.slice A1' (N.chg (N.put1 x) (q ++ [s]) t).kids.length c1')) :=
    ⟨HX1.out.os, HX1.out.tape, HX1.out.output, by rw [size_set4]; exact HX1.out.size, fun b hb hn => (heap_set4 _ _ _ _ _ _ hn).trans (HX1.out.block b hb)⟩
  refine ⟨rfl, hT, A1, c1, A1', c1', HB1.out.set4 _ _ _ _, ?_, fun b h => ?_⟩
  · refine Rep.keep (S := fun b => (S b ∨ Sx b) ∧ b < w.heap.size ∨ ((w.alloc (.cells #[.int .u8 x.kind, .string x.text, .slice Ax x.names.length cx, .slice Ax' x.kids.length cx'] 25)).alloc (.cells #[.string s] 9)).heap.size ≤ b) ?_ (fun b h _ => heap_set4 w1 g _ _ _ _ ?_) (fun b h _ => ?_) _ _ _ HR1.out
    · show w1.heap.size ≤ (set4 w1 g _ _ _ _).heap.size
      rw [size_set4]; exact Nat.le_refl _
    · rcases h with h | h
      · rcases h.1 with h | h
        · exact HS.out b h
        · exact HSX.out b h
      · simp at h; omega
    · rcases h with h | h
      · exact .inl h.1
      · exact .inr (by simp at h; omega)
  · rcases h with (h | h) | h
    · exact HS.out b h
    · exact HSX.out b h
    · omega

set_option maxRecDepth 100000 in
set_option maxHeartbeats 2000000 in
theorem tput_any' {B Bp Bx : Nat} (hB : B + 1 ≤ 2199023255552) (hBx : Bx ≤ 2199023255552) {S Sp Sx : Nat → Prop} {w : World} {g d dx : Nat} {t x : N} {pv xv : Value} {p : List ByteArray} (h : TreeAt B S w g d t) (hw : t.well = true) (hp : Strs Bp Sp w pv p) (hx : Rep Bx Sx w dx x xv) (hxn : x.well = true → Rep B Sx w dx x xv) :
    Calls Try.prog 44 #[.pointer (some ⟨g, 0, none⟩), pv, xv] w (DonePost (B + 1) S g (d + dx) (t.tput p x) w) := by
  obtain ⟨Ax, cx, Ax', cx', rfl⟩ := hx.agg
  have HT := Lib.hid h
  have HP := Lib.hid hp
  have HX := Lib.hid hx
  have HXN := Lib.hid hxn
  have HW := Lib.hid hw
  obtain ⟨Ap, cp, rfl, _⟩ := id hp
  have hSg : ∀ b, S b → b ≠ g := by obtain ⟨_, _, _, _, _, _, h⟩ := h; exact h
  have HSG := Lib.hid hSg
  have hgl := h.lt
  have Hgl := Lib.hid hgl
  clear h hx hw hp hSg hxn
  have HBN := Lib.hid (Blk.new w 25 #[.int .u8 x.kind, .string x.text, .slice Ax x.names.length cx, .slice Ax' x.kids.length cx'])
  cases hxw : x.well
  · have Hxw := Lib.hid hxw
    have Ht := Lib.hid (show t.tput p x = t by unfold N.tput; rw [hxw]; rfl)
    clear hxw
    go_enter Try.func44, Try.ntmps44
    go_wp2_with (go_at_call 15; refine (well_any Bx hBx Sx dx x _ _ (HX.out.alloc _)).mono ?_; rw [Hxw.out]; rintro e w1 ⟨rfl, hx1⟩; have HX1 := Lib.hid ((Ext.alloc' w _).trans' hx1); clear hx1)
    go_end0
    rw [Ht.out]
    exact (DonePost.none HT.out HX1.out).wide Hgl.out (by omega) (fun _ h => h) HSG.out (by omega)
  · cases ho : openB t p
    · have Hxw := Lib.hid hxw
      have Ho := Lib.hid ho
      have Ht := Lib.hid (show t.tput p x = t by unfold N.tput; rw [hxw, ho]; rfl)
      clear hxw ho
      go_enter Try.func44, Try.ntmps44
      go_wp2_with fail
      refine (well_any Bx hBx Sx dx x _ _ (HX.out.alloc _)).mono ?_
      rw [Hxw.out]
      rintro e w1 ⟨rfl, hx1⟩
      have HX1 := Lib.hid ((Ext.alloc' w _).trans' hx1)
      clear hx1
      go_wp2_with fail
      refine (topen_any (by omega) (HT.out.ext HX1.out) HW.out (HP.out.ext HX1.out)).mono ?_
      rw [Ho.out]
      rintro e w2 ⟨rfl, hx2⟩
      have HX2 := Lib.hid (HX1.out.trans' hx2)
      clear hx2
      go_wp2_with fail
      go_end0
      rw [Ht.out]
      exact (DonePost.none HT.out HX2.out).wide Hgl.out (by omega) (fun _ h => h) HSG.out (by omega)
    · have Hxw := Lib.hid hxw
      have Ho := Lib.hid ho
      have Ht := Lib.hid (show t.tput p x = t.put p x by unfold N.tput; rw [hxw, ho]; rfl)
      clear hxw ho
      go_enter Try.func44, Try.ntmps44
      go_wp2_with fail
      refine (well_any Bx hBx Sx dx x _ _ (HX.out.alloc _)).mono ?_
      rw [Hxw.out]
      rintro e w1 ⟨rfl, hx1⟩
      have HB1 := Lib.hid (HBN.out.ext hx1)
      have HX1 := Lib.hid ((Ext.alloc' w _).trans' hx1)
      clear hx1
      go_wp2_with fail
      refine (topen_any (by omega) (HT.out.ext HX1.out) HW.out (HP.out.ext HX1.out)).mono ?_
      rw [Ho.out]
      rintro e w2 ⟨rfl, hx2⟩
      have hb2 := HB1.out.ext hx2
      have HB2 := Lib.hid hb2
      have HX2 := Lib.hid (HX1.out.trans' hx2)
      obtain ⟨r0, r1, r2, r3, _, _, _, _⟩ := hb2.cells4
      clear hx2 hb2
      go_wp2_with fail
      refine (own_any B (by omega) Sx dx x _ _ ((HXN.out Hxw.out).ext HX2.out)).mono ?_
      rintro e w3 ⟨A3, c3, A3', c3', rfl, hx3, hr3⟩
      have HX3 := Lib.hid (HX2.out.trans' hx3)
      have HR3 := Lib.hid hr3
      have hw2 := HX2.out.size
      have Hw2 := Lib.hid hw2
      clear hx3 hr3
      go_wp2_with fail
      rcases snoc_or p with rfl | ⟨q, s, rfl⟩
      · have := Ho.out
        rw [openB_nil] at this; cases this
      refine (tset_any hB (HT.out.ext HX3.out) HW.out (open_of HW.out Ho.out) (HP.out.ext HX3.out) HR3.out (fun b h => by have := h.1; have := Hgl.out; have := Hw2.out; omega)).mono ?_
      rintro e w4 ⟨rfl, ht4, htr⟩
      have HT4 := Lib.hid ht4
      have HTR := Lib.hid htr
      clear ht4 htr
      go_wp2_with fail
      go_end0
      rw [Ht.out]
      refine ⟨rfl, (Turns.ofExt HX3.out).trans HT4.out (fun _ h _ => h), HTR.out.keep (Nat.le_refl _) (Nat.le_refl _) (Nat.le_refl _) rfl (fun _ _ _ => rfl) (fun b h _ => ?_) (fun b h => ?_)⟩
      · have h3 := HX3.out.size
        have h2 := HX2.out.size
        rcases h with (h | h) | h
        · exact .inl h
        · exact .inr (by have := h.1; omega)
        · exact .inr (by omega)
      · rcases h with h | h
        · exact HSG.out b h
        · have := Hgl.out; omega

theorem tput_any {B Bp : Nat} (hB : B + 1 ≤ 2199023255552) {S Sp Sx : Nat → Prop} {w : World} {g d dx : Nat} {t x : N} {pv xv : Value} {p : List ByteArray} (h : TreeAt B S w g d t) (hw : t.well = true) (hp : Strs Bp Sp w pv p) (hx : Rep B Sx w dx x xv) :
    Calls Try.prog 44 #[.pointer (some ⟨g, 0, none⟩), pv, xv] w (DonePost (B + 1) S g (d + dx) (t.tput p x) w) := tput_any' hB (by omega) h hw hp hx (fun _ => hx)

set_option maxRecDepth 100000 in
set_option maxHeartbeats 2000000 in
theorem tdel_any {B Bp : Nat} (hB : B + 1 ≤ 2199023255552) {S Sp : Nat → Prop} {w : World} {g d : Nat} {t : N} {pv : Value} {p : List ByteArray} (h : TreeAt B S w g d t) (hw : t.well = true) (hp : Strs Bp Sp w pv p) :
    Calls Try.prog 45 #[.pointer (some ⟨g, 0, none⟩), pv] w (DonePost (B + 1) S g d (t.tdel p) w) := by
  have HT := Lib.hid h
  have HP := Lib.hid hp
  have HW := Lib.hid hw
  obtain ⟨Ap, cp, rfl, _⟩ := id hp
  have hSg : ∀ b, S b → b ≠ g := by obtain ⟨_, _, _, _, _, _, h⟩ := h; exact h
  have HSG := Lib.hid hSg
  have Hgl := Lib.hid h.lt
  by_cases hp0 : p = []
  · subst hp0
    have Ht := Lib.hid (show t.tdel [] = t by unfold N.tdel; rw [if_pos (.inl rfl)])
    clear h hw hp hSg
    go_enter Try.func45, Try.ntmps45
    go_wp2_with fail
    go_end0
    rw [Ht.out]
    exact (DonePost.none HT.out (Below.refl _ _)).wide Hgl.out (by omega) (fun _ h => h) HSG.out (by omega)
  · have hpl : ((p.length : Int) == 0) = false := by
      rw [beq_eq_false_iff_ne]
      intro e
      exact hp0 (List.eq_nil_of_length_eq_zero (by omega))
    by_cases hk : t.kindAt p = 0
    · have hkk : (t.kindAt p == 0) = true := by simpa using hk
      have Ht := Lib.hid (show t.tdel p = t by unfold N.tdel; rw [if_pos (.inr hk)])
      clear h hw hp hSg hk hp0
      go_enter Try.func45, Try.ntmps45
      go_wp2_with (go_at_call 48; refine (tkind_any (by omega) HT.out HW.out HP.out).mono ?_; rintro e w1 ⟨rfl, hx1⟩; have HX1 := Lib.hid hx1; clear hx1)
      go_end0
      rw [Ht.out]
      exact (DonePost.none HT.out HX1.out).wide Hgl.out (by omega) (fun _ h => h) HSG.out (by omega)
    · have hkk : (t.kindAt p == 0) = false := by simpa using hk
      have Ht := Lib.hid (show t.tdel p = N.chg N.del1 p t by unfold N.tdel; rw [if_neg (by simp [hp0, hk])]; rfl)
      have HO := Lib.hid (show OpenP t p by
        rcases snoc_or p with rfl | ⟨q, s, rfl⟩
        · exact absurd rfl hp0
        · cases hg : t.get (q ++ [s]) with
          | none => exact absurd ((kindAt_zero hw).2 hg) hk
          | some x => exact open_of_get hw hg)
      rcases snoc_or p with rfl | ⟨q, s, rfl⟩
      · exact absurd rfl hp0
      rw [show (q ++ [s]).length = q.length + 1 by simp] at HP hpl ⊢
      clear h hw hp hSg hk hp0
      go_enter Try.func45, Try.ntmps45
      go_wp2_with fail
      refine (tkind_any (by omega) HT.out HW.out HP.out).mono ?_
      rintro e w1 ⟨rfl, hx1⟩
      have HX1 := Lib.hid hx1
      obtain ⟨A, c, A', c', hb, hr, hS⟩ := HT.out.ext hx1
      obtain ⟨p0, p1, p2, p3, f0, f1, f2, f3⟩ := hb.cells4
      have HB := Lib.hid hb
      have HR := Lib.hid (Rep.keep (S' := fun b => S b ∧ b < w1.heap.size) (Nat.le_refl _) (fun _ _ _ => rfl) (fun b h hl => ⟨h, hl⟩) _ _ _ hr)
      clear hx1 hb hr hS
      go_wp2_with fail
      refine (change_any (d0 := 0) hB (S := fun b => S b ∧ b < w1.heap.size) (W := w1) (fun b h => h.2) (atOk_del (by omega)) (.inr ⟨rfl, rfl⟩) q (Below.refl _ _) HW.out HO.out HR.out (HP.out.ext HX1.out)).mono ?_
      rintro e w2 ⟨A1, c1, A1', c1', rfl, hx2, hr2⟩
      have HX2 := Lib.hid hx2
      have HR2 := Lib.hid hr2
      have hb2 := HB.out.ext hx2
      have HB2 := Lib.hid hb2
      obtain ⟨r0, r1, r2, r3, g0, g1, g2, g3⟩ := hb2.cells4
      clear hx2 hr2 hb2
      go_wp2_with fail
      go_end0
      rw [Ht.out]
      have hX2 := HX1.out.trans' HX2.out
      have hgl := Hgl.out
      have hz1 := HX1.out.size
      have hT : Turns (fun b => b = g) w (set4 w2 g (.int .u8 (N.chg N.del1 (q ++ [s]) t).kind) (.string (N.chg N.del1 (q ++ [s]) t).text) (.slice A1 (N.chg N.del1 (q ++ [s]) t).names.length c1) (.slice A1' (N.chg N.del1 (q ++ [s]) t).kids.length c1')) :=
        ⟨hX2.os, hX2.tape, hX2.output, by rw [size_set4]; exact hX2.size, fun b hb hn => (heap_set4 _ _ _ _ _ _ hn).trans (hX2.block b hb)⟩
      refine ⟨rfl, hT, A1, c1, A1', c1', HB2.out.set4 _ _ _ _, ?_, fun b h => ?_⟩
      · refine Rep.keep (S := fun b => (S b ∧ b < w1.heap.size) ∨ w1.heap.size ≤ b) ?_ (fun b h _ => heap_set4 w2 g _ _ _ _ ?_) (fun b h _ => ?_) _ _ _ HR2.out
        · show w2.heap.size ≤ (set4 w2 g _ _ _ _).heap.size
          rw [size_set4]; exact Nat.le_refl _
        · rcases h with h | h
          · exact HSG.out b h.1
          · omega
        · rcases h with h | h
          · exact .inl h.1
          · exact .inr (by omega)
      · rcases h with h | h
        · exact HSG.out b h
        · omega
end Go.Proofs.Ytocndkhgopjhhaa
