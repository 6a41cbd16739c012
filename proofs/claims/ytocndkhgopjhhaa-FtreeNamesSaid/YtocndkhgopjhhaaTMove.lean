/- (*ftree.Tree): Move, Copy, Clone; ftree.New. -/
import Derived.Test.YtocndkhgopjhhaaProg
import Derived.Test.YtocndkhgopjhhaaTPut
import Derived.Outline
namespace Go.Proofs.Ytocndkhgopjhhaa
open Go.RowKit

theorem apart_snoc {t : N} {a b : List ByteArray} (hw : t.well = true) (h : apartB t a b = true) : ∃ q s x, b = q ++ [s] ∧ OpenP t b ∧ t.get a = some x ∧ x.well = true ∧ (t.put b x).well = true := by
  obtain ⟨h1, h2, h3, h4, x, hx⟩ := apartB_iff hw h
  rcases snoc_or b with rfl | ⟨q, s, rfl⟩
  · rw [openB_nil] at h2; cases h2
  · exact ⟨q, s, x, rfl, open_of hw h2, hx, get_well hw hx, (put_done hw (get_well hw hx) h2).dir.wf⟩

set_option maxRecDepth 100000 in
set_option maxHeartbeats 2000000 in
theorem tcopy_any {B B1 B2 : Nat} (hB : B + 1 ≤ 2199023255552) {S S1 S2 : Nat → Prop} {w : World} {g d : Nat} {t : N} {v1 v2 : Value} {a b : List ByteArray} (h : TreeAt B S w g d t) (hw : t.well = true) (h1 : Strs B1 S1 w v1 a) (h2 : Strs B2 S2 w v2 b) :
    Calls Try.prog 47 #[.pointer (some ⟨g, 0, none⟩), v1, v2] w (DonePost (B + 1) S g (d + d) (t.tcopy a b) w) := by
  have H1 := Lib.hid h1
  have H2 := Lib.hid h2
  have HT := Lib.hid h
  have HW := Lib.hid hw
  obtain ⟨A1, c1, rfl, _⟩ := h1
  obtain ⟨A2, c2, rfl, _⟩ := h2
  have hSg : ∀ b, S b → b ≠ g := by obtain ⟨_, _, _, _, _, _, h⟩ := h; exact h
  have HSG := Lib.hid hSg
  have Hgl := Lib.hid h.lt
  cases ha : apartB t a b
  · have Ha := Lib.hid ha
    have Ht := Lib.hid (show t.tcopy a b = t by unfold N.tcopy; rw [ha]; rfl)
    clear h hw hSg ha
    go_enter Try.func47, Try.ntmps47
    go_wp2_with (go_at_call 107; refine (apart_any (by omega) HT.out HW.out H1.out H2.out).mono ?_; rw [Ha.out]; rintro e w1 ⟨rfl, hx1⟩; have HX1 := Lib.hid hx1; clear hx1)
    go_end0
    rw [Ht.out]
    exact (DonePost.none HT.out HX1.out).wide Hgl.out (by omega) (fun _ h => h) HSG.out (by omega)
  · have Ha := Lib.hid ha
    obtain ⟨q, s, x, rfl, ho, hg, hxw, _⟩ := apart_snoc hw ha
    have Ht := Lib.hid (show t.tcopy a (q ++ [s]) = t.put (q ++ [s]) x by unfold N.tcopy; rw [ha, hg]; rfl)
    have HO := Lib.hid ho
    have HG := Lib.hid (show (t.get a).getD N.zero = x by rw [hg]; rfl)
    clear h hw hSg ha ho hg
    go_enter Try.func47, Try.ntmps47
    rw [show (q ++ [s]).length = q.length + 1 by simp] at H2 ⊢
    go_wp2_with fail
    refine (apart_any (by omega) HT.out HW.out H1.out H2.out).mono ?_
    rw [Ha.out]
    rintro e w1 ⟨rfl, hx1⟩
    have HX1 := Lib.hid hx1
    clear hx1
    go_wp2_with fail
    refine (tat_any (by omega) (HT.out.ext HX1.out) HW.out (H1.out.ext HX1.out)).mono ?_
    rw [HG.out]
    rintro e w2 ⟨A3, c3, A3', c3', rfl, hx2, hr2⟩
    have HX2 := Lib.hid (HX1.out.trans' hx2)
    have HR2 := Lib.hid hr2
    clear hx2 hr2
    go_wp2_with fail
    refine (tset_any hB (HT.out.ext HX2.out) HW.out HO.out (H2.out.ext HX2.out) HR2.out HSG.out).mono ?_
    rintro e w4 ⟨rfl, ht4, htr⟩
    have HT4 := Lib.hid ht4
    have HTR := Lib.hid htr
    clear ht4 htr
    go_wp2_with fail
    go_end0
    rw [Ht.out]
    have h2 := HX2.out.size
    refine ⟨rfl, (Turns.ofExt HX2.out).trans HT4.out (fun _ h _ => h), HTR.out.keep (Nat.le_refl _) (Nat.le_refl _) (Nat.le_refl _) rfl (fun _ _ _ => rfl) (fun b h _ => ?_) (fun b h => ?_)⟩
    · rcases h with (h | h) | h
      · exact .inl h
      · exact .inl h
      · exact .inr (by omega)
    · rcases h with h | h
      · exact HSG.out b h
      · have := Hgl.out; omega

set_option maxRecDepth 100000 in
set_option maxHeartbeats 2000000 in
theorem tmove_any {B B1 B2 : Nat} (hB : B + 2 ≤ 2199023255552) {S S1 S2 : Nat → Prop} {w : World} {g d : Nat} {t : N} {v1 v2 : Value} {a b : List ByteArray} (h : TreeAt B S w g d t) (hw : t.well = true) (h1 : Strs B1 S1 w v1 a) (h2 : Strs B2 S2 w v2 b) (hS1 : ∀ b, S1 b → b ≠ g) :
    Calls Try.prog 46 #[.pointer (some ⟨g, 0, none⟩), v1, v2] w (DonePost (B + 2) S g (d + d) (t.tmove a b) w) := by
  have H1 := Lib.hid h1
  have H2 := Lib.hid h2
  have HT := Lib.hid h
  have HW := Lib.hid hw
  have HS1 := Lib.hid hS1
  obtain ⟨A1, c1, rfl, _⟩ := h1
  obtain ⟨A2, c2, rfl, _⟩ := h2
  have hSg : ∀ b, S b → b ≠ g := by obtain ⟨_, _, _, _, _, _, h⟩ := h; exact h
  have HSG := Lib.hid hSg
  have Hgl := Lib.hid h.lt
  cases ha : apartB t a b
  · have Ha := Lib.hid ha
    have Ht := Lib.hid (show t.tmove a b = t by unfold N.tmove; rw [ha]; rfl)
    clear h hw hSg ha hS1
    go_enter Try.func46, Try.ntmps46
    go_wp2_with (go_at_call 107; refine (apart_any (by omega) HT.out HW.out H1.out H2.out).mono ?_; rw [Ha.out]; rintro e w1 ⟨rfl, hx1⟩; have HX1 := Lib.hid hx1; clear hx1)
    go_end0
    rw [Ht.out]
    exact (DonePost.none HT.out HX1.out).wide Hgl.out (by omega) (fun _ h => h) HSG.out (by omega)
  · have Ha := Lib.hid ha
    obtain ⟨q, s, x, rfl, ho, hg, hxw, hpw⟩ := apart_snoc hw ha
    have Ht := Lib.hid (show t.tmove a (q ++ [s]) = N.tdel (t.put (q ++ [s]) x) a by unfold N.tmove; rw [ha, hg]; rfl)
    have HO := Lib.hid ho
    have HPW := Lib.hid hpw
    have HG := Lib.hid (show (t.get a).getD N.zero = x by rw [hg]; rfl)
    clear h hw hSg ha ho hg hS1 hpw
    go_enter Try.func46, Try.ntmps46
    rw [show (q ++ [s]).length = q.length + 1 by simp] at H2 ⊢
    go_wp2_with fail
    refine (apart_any (by omega) HT.out HW.out H1.out H2.out).mono ?_
    rw [Ha.out]
    rintro e w1 ⟨rfl, hx1⟩
    have HX1 := Lib.hid hx1
    clear hx1
    go_wp2_with fail
    refine (tat_any (by omega) (HT.out.ext HX1.out) HW.out (H1.out.ext HX1.out)).mono ?_
    rw [HG.out]
    rintro e w2 ⟨A3, c3, A3', c3', rfl, hx2, hr2⟩
    have HX2 := Lib.hid (HX1.out.trans' hx2)
    have HR2 := Lib.hid hr2
    clear hx2 hr2
    go_wp2_with fail
    have HX3 := Lib.hid (HX2.out.trans' (Ext.alloc' w2 (.cells #[.int .u8 x.kind, .string x.text, .slice A3 x.names.length c3, .slice A3' x.kids.length c3'] 25)))
    refine (tset_any (by omega) (HT.out.ext HX3.out) HW.out HO.out (H2.out.ext HX3.out) (HR2.out.alloc _) HSG.out).mono ?_
    rintro e w4 ⟨rfl, ht4, htr⟩
    have HT4 := Lib.hid ht4
    have HTR := Lib.hid htr
    have hz4 := ht4.size
    have H14 := Lib.hid ((H1.out.ext HX3.out).keep (w' := w4) (S' := fun _ => True) ht4.size (fun b hb hl => ht4.block b hl (HS1.out b hb)) (fun _ _ _ => trivial))
    clear ht4 htr hz4
    go_wp2_with fail
    refine (tdel_any (by omega) HTR.out HPW.out H14.out).mono ?_
    rintro e w5 ⟨rfl, ht5, htr⟩
    have HT5 := Lib.hid ht5
    have HTR5 := Lib.hid htr
    clear ht5 htr
    go_wp2_with fail
    go_end0
    rw [Ht.out]
    have h2 := HX3.out.size
    have h4 := HT4.out.size
    refine ⟨rfl, ((Turns.ofExt HX3.out).trans HT4.out (fun _ h _ => h)).trans HT5.out (fun _ h _ => h), HTR5.out.keep (Nat.le_refl _) (Nat.le_refl _) (Nat.le_refl _) rfl (fun _ _ _ => rfl) (fun b h _ => ?_) (fun b h => ?_)⟩
    · rcases h with ((h | h) | h) | h
      · exact .inl h
      · exact .inl h
      · exact .inr (by omega)
      · exact .inr (by omega)
    · rcases h with h | h
      · exact HSG.out b h
      · have := Hgl.out; omega

/-- A tree that was made. -/
def NewTree (B d : Nat) (t : N) (w w' : World) (g : Nat) : Prop := w.heap.size ≤ g ∧ Ext w w' ∧ TreeAt B (fun b => w.heap.size ≤ b ∧ b ≠ g) w' g d t

set_option maxRecDepth 100000 in
set_option maxHeartbeats 1000000 in
theorem tclone_any {B : Nat} (hB : B ≤ 2199023255552) {S : Nat → Prop} {w : World} {g d : Nat} {t : N} (h : TreeAt B S w g d t) :
    Calls Try.prog 51 #[.pointer (some ⟨g, 0, none⟩)] w fun e w' => ∃ g', e = .returned (.pointer (some ⟨g', 0, none⟩)) ∧ NewTree B d t w w' g' := by
  obtain ⟨A, c, A', c', hb, hr, _⟩ := h
  obtain ⟨p0, p1, p2, p3, _, _, _, _⟩ := hb.cells4
  have HR := Lib.hid hr
  clear hb hr
  go_enter Try.func51, Try.ntmps51
  go_wp2_with fail
  refine (own_any B hB S d t _ _ HR.out).mono ?_
  rintro e w1 ⟨A1, c1, A1', c1', rfl, hx1, hr1⟩
  have HX1 := Lib.hid hx1
  have HR1 := Lib.hid hr1
  clear hx1 hr1
  go_wp2_with fail
  go_ret
  have hX := HX1.out.trans' (Ext.alloc' w1 (.cells #[.int .u8 t.kind, .string t.text, .slice A1 t.names.length c1, .slice A1' t.kids.length c1'] 127))
  exact ⟨_, rfl, HX1.out.size, hX, A1, c1, A1', c1', Blk.new _ _ _, Rep.keep (by simp) (fun b h hl => Below.heap_alloc _ _ _ hl) (fun b h hl => ⟨h.1, by omega⟩) _ _ _ HR1.out, fun b h => h.2⟩

set_option maxRecDepth 100000 in
set_option maxHeartbeats 1000000 in
theorem tnew_no {B : Nat} (hB : B ≤ 2199023255552) {S : Nat → Prop} {w : World} {d : Nat} {t : N} {v : Value} (h : Rep B S w d t v) (hm : t.may = false) :
    Calls Try.prog 42 #[v] w fun e w' => e = .returned (.tuple #[.pointer none, .int .i64 4]) ∧ Ext w w' := by
  obtain ⟨A, c, A', c', rfl⟩ := h.agg
  have HR := Lib.hid h
  have HM := Lib.hid hm
  clear h hm
  go_enter Try.func42, Try.ntmps42
  go_wp2_with (go_at_call 17; refine (may_any B hB S d t _ _ (HR.out.alloc _)).mono ?_; rw [HM.out]; rintro e w1 ⟨rfl, hx1⟩; have HX1 := Lib.hid ((Ext.alloc' w _).trans' hx1); clear hx1)
  go_ret2
  exact ⟨rfl, HX1.out⟩
set_option maxRecDepth 100000 in
set_option maxHeartbeats 1000000 in
theorem tnew_any {B : Nat} (hB : B ≤ 2199023255552) {S : Nat → Prop} {w : World} {d : Nat} {t : N} {v : Value} (h : Rep B S w d t v) (hm : t.may = true) :
    Calls Try.prog 42 #[v] w fun e w' => ∃ g, e = .returned (.tuple #[.pointer (some ⟨g, 0, none⟩), .int .i64 0]) ∧ NewTree B d t w w' g := by
  obtain ⟨A, c, A', c', rfl⟩ := h.agg
  have HR := Lib.hid h
  have HM := Lib.hid hm
  have HB := Lib.hid (Blk.new w 25 #[.int .u8 t.kind, .string t.text, .slice A t.names.length c, .slice A' t.kids.length c'])
  clear h hm
  go_enter Try.func42, Try.ntmps42
  go_wp2_with fail
  refine (may_any B hB S d t _ _ (HR.out.alloc _)).mono ?_
  rw [HM.out]
  rintro e w1 ⟨rfl, hx1⟩
  have HX1 := Lib.hid ((Ext.alloc' w _).trans' hx1)
  have hb1 := HB.out.ext hx1
  obtain ⟨p0, p1, p2, p3, _, _, _, _⟩ := hb1.cells4
  clear hx1 hb1
  go_wp2_with fail
  refine (own_any B hB S d t _ _ (HR.out.ext HX1.out)).mono ?_
  rintro e w2 ⟨A1, c1, A1', c1', rfl, hx2, hr2⟩
  have HX2 := Lib.hid hx2
  have HR2 := Lib.hid hr2
  clear hx2 hr2
  go_wp2_with fail
  go_ret2
  have h1 := HX1.out.size
  have h2 := HX2.out.size
  have hX := (HX1.out.trans' HX2.out).trans' (Ext.alloc' w2 (.cells #[.int .u8 t.kind, .string t.text, .slice A1 t.names.length c1, .slice A1' t.kids.length c1'] 127))
  exact ⟨_, rfl, by omega, hX, A1, c1, A1', c1', Blk.new _ _ _, Rep.keep (by simp) (fun b h hl => Below.heap_alloc _ _ _ hl) (fun b h hl => ⟨by have := h.1; omega, by omega⟩) _ _ _ HR2.out, fun b h => h.2⟩
end Go.Proofs.Ytocndkhgopjhhaa
