import Derived.Test.YtocndkhgopjhhaaProg
import Derived.Test.YtocndkhgopjhhaaOwn
import Derived.Test.YtocndkhgopjhhaaFindP
import Derived.Test.YtocndkhgopjhhaaWell
namespace Go.Proofs.Ytocndkhgopjhhaa
open Go.RowKit

theorem Rep.form {B : Nat} {S : Nat → Prop} {w : World} {d : Nat} {t : N} {v : Value} (h : Rep B S w d t v) :
    ∃ A c A' c', v = .agg #[.int .u8 t.kind, .string t.text, .slice A t.names.length c, .slice A' t.kids.length c'] := by
  cases d with
  | zero => exact h.elim
  | succ d =>
    obtain ⟨k, tx, ns, ks⟩ := t
    obtain ⟨nv, A, c, e, _, ⟨A', c', rfl, _⟩, _⟩ := h
    exact ⟨_, _, _, _, e⟩

/-- ftree.At -/
def N.find (t : N) (place : List ByteArray) : Option N := if t.well then t.get place else none

set_option maxRecDepth 100000 in
set_option maxHeartbeats 2000000 in
theorem at_any (B Bp : Nat) (hB : B ≤ 2199023255552) (S Sp : Nat → Prop) (d : Nat) (t : N) (v pv : Value) (place : List ByteArray) (w : World) (h : Rep B S w d t v) (hp : Strs Bp Sp w pv place) :
    Calls Try.prog 24 #[v, pv] w (GetPost B (fun b => w.heap.size ≤ b) d (t.find place) w) := by
  have hd : 0 < d := by
    cases d with
    | zero => exact h.elim
    | succ d => omega
  have HR := Lib.hid h
  have HP := Lib.hid hp
  obtain ⟨A, c, A', c', rfl⟩ := h.form
  obtain ⟨Ap, cp, rfl, _⟩ := hp
  clear h
  have hba := (Blk.new w 25 #[.int .u8 t.kind, .string t.text, .slice A t.names.length c, .slice A' t.kids.length c']).alloc (.cells #[.int .u8 0, .string { data := #[] }, .slice none 0 0, .slice none 0 0] 25)
  have hbb := Blk.new' (w.alloc (.cells #[.int .u8 t.kind, .string t.text, .slice A t.names.length c, .slice A' t.kids.length c'] 25)) 25 #[.int .u8 0, .string { data := #[] }, .slice none 0 0, .slice none 0 0] (n := w.heap.size + 1) (by simp)
  have Hba := Lib.hid hba
  have Hbb := Lib.hid hbb
  have hX0 : Ext w ((w.alloc (.cells #[.int .u8 t.kind, .string t.text, .slice A t.names.length c, .slice A' t.kids.length c'] 25)).alloc (.cells #[.int .u8 0, .string { data := #[] }, .slice none 0 0, .slice none 0 0] 25)) := (Ext.alloc' _ _).trans' (Ext.alloc' _ _)
  have HX0 := Lib.hid hX0
  clear hba hbb hX0
  cases hw : t.well
  · have Hw := Lib.hid hw
    go_enter Try.func24, Try.ntmps24
    go_wp2_with fail
    refine (well_any B (by omega) S d t _ _ (HR.out.ext HX0.out)).mono ?_
    rw [Hw.out]
    rintro e w1 ⟨rfl, hx1⟩
    have Hx1 := Lib.hid hx1
    obtain ⟨r0, r1, r2, r3, g0, g1, g2, g3⟩ := (Hbb.out.ext hx1).cells4
    clear hx1
    go_wp2_with fail
    refine bodyPost_ret (results_cell_tmp rfl _ _ _ _ _ _ _ rfl ((Hbb.out.ext Hx1.out).set4 _ _ _ _)) rfl ?_
    have hX := (HX0.out.trans' Hx1.out).set4 (g := w.heap.size + 1) (by omega) (.int .u8 0) (.string { data := #[] }) (.slice none 0 0) (.slice none 0 0)
    have hf : t.find place = none := by rw [N.find, Hw.out]; rfl
    rw [hf]
    exact ⟨_, rfl, hX, Rep.zero hd⟩
  · have Hw := Lib.hid hw
    have hf : t.find place = t.get place := by rw [N.find, hw]; rfl
    have Hf := Lib.hid hf
    clear hf
    go_enter Try.func24, Try.ntmps24
    go_wp2_with fail
    refine (well_any B (by omega) S d t _ _ (HR.out.ext HX0.out)).mono ?_
    rw [Hw.out]
    rintro e w1 ⟨rfl, hx1⟩
    have Hx1 := Lib.hid hx1
    obtain ⟨p0, p1, p2, p3, f0, f1, f2, f3⟩ := (Hba.out.ext hx1).cells4
    clear hx1
    go_wp2_with fail
    refine (find_any B Bp (by omega) S Sp d t _ _ place _ (HR.out.ext (HX0.out.trans' Hx1.out)) (HP.out.ext (HX0.out.trans' Hx1.out)) Hw.out).mono ?_
    rintro e w2 ⟨v2, rfl, hx2, hr2⟩
    obtain ⟨A2, c2, A2', c2', rfl⟩ := hr2.form
    have Hx2 := Lib.hid hx2
    have Hr2 := Lib.hid hr2
    clear hx2 hr2
    go_wp2_with fail
    refine (own_any B hB S d _ _ _ (Hr2.out.alloc _)).mono ?_
    rintro e w3 ⟨A3, c3, A3', c3', rfl, hx3, hr3⟩
    have Hx3 := Lib.hid hx3
    have Hr3 := Lib.hid hr3
    have hbz := (((Hbb.out.ext Hx1.out).ext Hx2.out).alloc (.cells #[.int .u8 ((t.get place).getD N.zero).kind, .string ((t.get place).getD N.zero).text, .slice A2 ((t.get place).getD N.zero).names.length c2, .slice A2' ((t.get place).getD N.zero).kids.length c2'] 25)).ext hx3
    have Hbz := Lib.hid hbz
    obtain ⟨r0, r1, r2, r3, g0, g1, g2, g3⟩ := hbz.cells4
    clear hx3 hr3 hbz p0 p1 p2 p3 f0 f1 f2 f3
    go_wp2_with fail
    refine bodyPost_ret (results_cell_tmp rfl _ _ _ _ _ _ _ rfl (Hbz.out.set4 _ _ _ _)) rfl ?_
    have hX3 := ((HX0.out.trans' Hx1.out).trans' Hx2.out).trans' ((Ext.alloc' _ _).trans' Hx3.out)
    have hX := hX3.set4 (g := w.heap.size + 1) (by omega) (.int .u8 ((t.get place).getD N.zero).kind) (.string ((t.get place).getD N.zero).text) (.slice A3 ((t.get place).getD N.zero).names.length c3) (.slice A3' ((t.get place).getD N.zero).kids.length c3')
    rw [Hf.out]
    refine ⟨_, rfl, hX, ?_⟩
    have hs0 := HX0.out.size
    have hs1 := Hx1.out.size
    have hs2 := Hx2.out.size
    simp at hs0 hs1
    refine Rep.keep ?_ (fun b hb hl => ?_) (fun b hb hl => ?_) _ _ _ Hr3.out
    · change _ ≤ (set4 _ _ _ _ _ _).heap.size
      rw [size_set4]; exact Nat.le_refl _
    · refine heap_set4 w3 (w.heap.size + 1) _ _ _ _ ?_
      have := hb.1; simp at this; omega
    · have := hb.1; simp at this; omega
end Go.Proofs.Ytocndkhgopjhhaa
