/- A *ftree.Tree in memory; what it tells: at, Kind, Text, Empty, open, Root, Clone. -/
import Derived.Test.YtocndkhgopjhhaaProg
import Derived.Test.YtocndkhgopjhhaaFindP
import Derived.Test.YtocndkhgopjhhaaFlat
import Derived.Test.YtocndkhgopjhhaaTreeB
import Derived.Test.YtocndkhgopjhhaaBase
import Derived.Test.YtocndkhgopjhhaaLibs
import Derived.Outline
namespace Go.Proofs.Ytocndkhgopjhhaa
open Go.RowKit

/-- 'The pointer to block g is a tree of the root t', its nodes in blocks of S, none of which is g. -/
def TreeAt (B : Nat) (S : Nat → Prop) (w : World) (g d : Nat) (t : N) : Prop :=
  ∃ A c A' c', Blk w g 127 #[.int .u8 t.kind, .string t.text, .slice A t.names.length c, .slice A' t.kids.length c'] ∧ Rep B S w d t (.agg #[.int .u8 t.kind, .string t.text, .slice A t.names.length c, .slice A' t.kids.length c']) ∧ ∀ b, S b → b ≠ g

theorem TreeAt.lt {B : Nat} {S : Nat → Prop} {w : World} {g d : Nat} {t : N} (h : TreeAt B S w g d t) : g < w.heap.size := by
  obtain ⟨_, _, _, _, h, _⟩ := h; exact h.lt
theorem TreeAt.ne {B : Nat} {S : Nat → Prop} {w : World} {g d : Nat} {t : N} (h : TreeAt B S w g d t) {b : Nat} (hb : S b) : b ≠ g := by
  obtain ⟨_, _, _, _, _, _, h⟩ := h; exact h b hb
theorem TreeAt.ext {B : Nat} {S : Nat → Prop} {w w' : World} {g d : Nat} {t : N} (h : TreeAt B S w g d t) (hx : Ext w w') : TreeAt B S w' g d t := by
  obtain ⟨A, c, A', c', hb, hr, hS⟩ := h
  exact ⟨A, c, A', c', hb.ext hx, hr.ext hx, hS⟩
theorem TreeAt.keep {B B' : Nat} {S S' : Nat → Prop} {w w' : World} {g d d' : Nat} {t : N} (h : TreeAt B S w g d t) (hB : B ≤ B') (hd : d ≤ d') (hz : w.heap.size ≤ w'.heap.size) (hg : w'.heap[g]? = w.heap[g]?) (hS : ∀ b, S b → b < w.heap.size → w'.heap[b]? = w.heap[b]?) (hSS : ∀ b, S b → b < w.heap.size → S' b) (hS' : ∀ b, S' b → b ≠ g) : TreeAt B' S' w' g d' t := by
  obtain ⟨A, c, A', c', hb, hr, _⟩ := h
  exact ⟨A, c, A', c', hg.trans hb, Rep.mono hd (Rep.wideB hB (Rep.keep hz hS hSS _ _ _ hr)), hS'⟩
theorem Rep.dpos {B : Nat} {S : Nat → Prop} {w : World} {d : Nat} {t : N} {v : Value} (h : Rep B S w d t v) : 0 < d := by
  cases d with
  | zero => exact h.elim
  | succ d => omega
theorem Rep.agg {B : Nat} {S : Nat → Prop} {w : World} {d : Nat} {t : N} {v : Value} (h : Rep B S w d t v) : ∃ A c A' c', v = .agg #[.int .u8 t.kind, .string t.text, .slice A t.names.length c, .slice A' t.kids.length c'] := by
  cases d with
  | zero => exact h.elim
  | succ d =>
    obtain ⟨k, tx, ns, ks⟩ := t
    obtain ⟨nv, A, c, rfl, _, ⟨A', c', rfl, _⟩, _⟩ := h
    exact ⟨_, _, _, _, rfl⟩

/-- What a look at a place of a tree comes to. -/
def LookPost (B : Nat) (S : Nat → Prop) (d : Nat) (t : N) (w : World) (e : Ending) (w' : World) : Prop :=
  ∃ A c A' c', e = .returned (.agg #[.int .u8 t.kind, .string t.text, .slice A t.names.length c, .slice A' t.kids.length c']) ∧ Ext w w' ∧
    Rep B S w' d t (.agg #[.int .u8 t.kind, .string t.text, .slice A t.names.length c, .slice A' t.kids.length c'])

set_option maxRecDepth 100000 in
set_option maxHeartbeats 1000000 in
theorem tat_any {B Bp : Nat} (hB : B ≤ 2199023255552) {S Sp : Nat → Prop} {w : World} {g d : Nat} {t : N} {pv : Value} {p : List ByteArray} (h : TreeAt B S w g d t) (hw : t.well = true) (hp : Strs Bp Sp w pv p) :
    Calls Try.prog 108 #[.pointer (some ⟨g, 0, none⟩), pv] w (LookPost B S d ((t.get p).getD N.zero) w) := by
  have HP := Lib.hid hp
  obtain ⟨Ap, cp, rfl, _⟩ := hp
  obtain ⟨A, c, A', c', hb, hr, _⟩ := h
  obtain ⟨p0, p1, p2, p3, _, _, _, _⟩ := hb.cells4
  have hgl := hb.lt
  have HR := Lib.hid (Rep.keep (S' := fun b => S b ∧ b < w.heap.size) (Nat.le_refl _) (fun _ _ _ => rfl) (fun b h hl => ⟨h, hl⟩) _ _ _ hr)
  have HW := Lib.hid hw
  have hz0 := Blk.new w 25 #[.int .u8 0, .string { data := #[] }, .slice none 0 0, .slice none 0 0]
  have HZ0 := Lib.hid hz0
  clear hb hr hz0 hw
  go_enter Try.func108, Try.ntmps108
  go_wp2_with fail
  refine (find_any B Bp hB _ Sp d t _ _ p _ (HR.out.alloc _) (HP.out.alloc _) HW.out).mono ?_
  rintro e w1 ⟨v1, rfl, hx1, hr1⟩
  obtain ⟨A1, c1, A1', c1', rfl⟩ := hr1.agg
  have HX1 := Lib.hid hx1
  have HR1 := Lib.hid hr1
  have hz1 := HZ0.out.ext hx1
  have HZ1 := Lib.hid hz1
  obtain ⟨r0, r1, r2, r3, g0, g1, g2, g3⟩ := hz1.cells4
  have hwl := hz1.lt
  clear hx1 hr1 hz1
  go_wp2_with fail
  have hX : Ext w ((set4 w1 w.heap.size (.int .u8 ((t.get p).getD N.zero).kind) (.string ((t.get p).getD N.zero).text) (.slice A1 ((t.get p).getD N.zero).names.length c1) (.slice A1' ((t.get p).getD N.zero).kids.length c1')).alloc (.cells #[.int .u8 ((t.get p).getD N.zero).kind, .string ((t.get p).getD N.zero).text, .slice A1 ((t.get p).getD N.zero).names.length c1, .slice A1' ((t.get p).getD N.zero).kids.length c1'] 25)) :=
    (((Ext.alloc' _ _).trans' HX1.out).set4 (Nat.le_refl _) _ _ _ _).trans' (Ext.alloc' _ _)
  have hbr := (HZ1.out.set4 (.int .u8 ((t.get p).getD N.zero).kind) (.string ((t.get p).getD N.zero).text) (.slice A1 ((t.get p).getD N.zero).names.length c1) (.slice A1' ((t.get p).getD N.zero).kids.length c1')).alloc (.cells #[.int .u8 ((t.get p).getD N.zero).kind, .string ((t.get p).getD N.zero).text, .slice A1 ((t.get p).getD N.zero).names.length c1, .slice A1' ((t.get p).getD N.zero).kids.length c1'] 25)
  refine bodyPost_ret (results_cell rfl _ _ _ _ _ _ _ rfl hbr) rfl ⟨A1, c1, A1', c1', rfl, hX, ?_⟩
  refine Rep.keep ?_ (fun b h _ => ?_) (fun b h _ => h.1) _ _ _ HR1.out
  · have := size_set4 w1 w.heap.size (.int .u8 ((t.get p).getD N.zero).kind) (.string ((t.get p).getD N.zero).text) (.slice A1 ((t.get p).getD N.zero).names.length c1) (.slice A1' ((t.get p).getD N.zero).kids.length c1')
    show w1.heap.size ≤ ((set4 w1 w.heap.size _ _ _ _).alloc _).heap.size
    rw [World.size_alloc]; omega
  · have hz := size_set4 w1 w.heap.size (.int .u8 ((t.get p).getD N.zero).kind) (.string ((t.get p).getD N.zero).text) (.slice A1 ((t.get p).getD N.zero).names.length c1) (.slice A1' ((t.get p).getD N.zero).kids.length c1')
    exact (Below.heap_alloc (set4 w1 w.heap.size (.int .u8 ((t.get p).getD N.zero).kind) (.string ((t.get p).getD N.zero).text) (.slice A1 ((t.get p).getD N.zero).names.length c1) (.slice A1' ((t.get p).getD N.zero).kids.length c1')) _ _ (by have := h.2; omega)).trans (heap_set4 w1 w.heap.size _ _ _ _ (by have := h.2; omega))

/-- a field of a node that is a value -/
theorem field0 (k : Int) (tx : ByteArray) (A : Option Addr) (n c : Nat) (A' : Option Addr) (n' c' : Nat) (w : World) : (Instr.field 25 (.agg #[.int .u8 k, .string tx, .slice A n c, .slice A' n' c']) 0).run Try.prog w = .ok (.int .u8 k) w := by kernel_rfl
theorem field1 (k : Int) (tx : ByteArray) (A : Option Addr) (n c : Nat) (A' : Option Addr) (n' c' : Nat) (w : World) : (Instr.field 25 (.agg #[.int .u8 k, .string tx, .slice A n c, .slice A' n' c']) 1).run Try.prog w = .ok (.string tx) w := by kernel_rfl

set_option maxRecDepth 100000 in
theorem tkind_any {B Bp : Nat} (hB : B ≤ 2199023255552) {S Sp : Nat → Prop} {w : World} {g d : Nat} {t : N} {pv : Value} {p : List ByteArray} (h : TreeAt B S w g d t) (hw : t.well = true) (hp : Strs Bp Sp w pv p) :
    Calls Try.prog 48 #[.pointer (some ⟨g, 0, none⟩), pv] w fun e w' => e = .returned (.int .u8 (t.kindAt p)) ∧ Ext w w' := by
  have HP := Lib.hid hp
  have HT := Lib.hid h
  have HW := Lib.hid hw
  obtain ⟨Ap, cp, rfl, _⟩ := hp
  have hf := field0
  clear h hw
  go_enter Try.func48, Try.ntmps48
  go_wp2_with (go_at_call 108; refine (tat_any hB HT.out HW.out HP.out).mono ?_; rintro e w1 ⟨A1, c1, A1', c1', rfl, hx1, _⟩; have HX1 := Lib.hid hx1; clear hx1)
  go_ret
  exact ⟨rfl, HX1.out⟩

set_option maxRecDepth 100000 in
theorem ttext_any {B Bp : Nat} (hB : B ≤ 2199023255552) {S Sp : Nat → Prop} {w : World} {g d : Nat} {t : N} {pv : Value} {p : List ByteArray} (h : TreeAt B S w g d t) (hw : t.well = true) (hp : Strs Bp Sp w pv p) :
    Calls Try.prog 49 #[.pointer (some ⟨g, 0, none⟩), pv] w fun e w' => e = .returned (.string ((t.get p).getD N.zero).text) ∧ Ext w w' := by
  have HP := Lib.hid hp
  have HT := Lib.hid h
  have HW := Lib.hid hw
  obtain ⟨Ap, cp, rfl, _⟩ := hp
  have hf := field1
  clear h hw
  go_enter Try.func49, Try.ntmps49
  go_wp2_with (go_at_call 108; refine (tat_any hB HT.out HW.out HP.out).mono ?_; rintro e w1 ⟨A1, c1, A1', c1', rfl, hx1, _⟩; have HX1 := Lib.hid hx1; clear hx1)
  go_ret
  exact ⟨rfl, HX1.out⟩


set_option maxRecDepth 100000 in
set_option maxHeartbeats 1000000 in
theorem tempty_any {B Bp : Nat} (hB : B ≤ 2199023255552) {S Sp : Nat → Prop} {w : World} {g d : Nat} {t : N} {pv : Value} {p : List ByteArray} (h : TreeAt B S w g d t) (hw : t.well = true) (hp : Strs Bp Sp w pv p) :
    Calls Try.prog 50 #[.pointer (some ⟨g, 0, none⟩), pv] w fun e w' => e = .returned (.bool (emptyB ((t.get p).getD N.zero))) ∧ Ext w w' := by
  have HP := Lib.hid hp
  have HT := Lib.hid h
  have HW := Lib.hid hw
  obtain ⟨Ap, cp, rfl, _⟩ := hp
  clear h hw
  obtain ⟨x, hx⟩ : ∃ x, x = (t.get p).getD N.zero := ⟨_, rfl⟩
  have HX := Lib.hid hx
  rw [← hx]
  clear hx
  by_cases h2 : x.kind = 2
  · have hk2 : (x.kind == 2) = true := by simpa using h2
    have hd : decide (x.kind = 2) = true := decide_eq_true h2
    have Hd := Lib.hid hd
    clear hd h2
    go_enter Try.func50, Try.ntmps50
    go_wp2_with (go_at_call 108; refine (tat_any hB HT.out HW.out HP.out).mono ?_; rw [← HX.out]; rintro e w1 ⟨A1, c1, A1', c1', rfl, hx1, _⟩; have HX1 := Lib.hid hx1; clear hx1)
    go_ret
    refine ⟨ret_bool ?_, HX1.out.trans' (Ext.alloc' _ _)⟩
    unfold emptyB
    rw [Hd.out, Bool.true_and]
    rw [Bool.eq_iff_iff]; simp
  · have hk2 : (x.kind == 2) = false := by simpa using h2
    have hd : decide (x.kind = 2) = false := decide_eq_false h2
    have Hd := Lib.hid hd
    clear hd h2
    go_enter Try.func50, Try.ntmps50
    go_wp2_with (go_at_call 108; refine (tat_any hB HT.out HW.out HP.out).mono ?_; rw [← HX.out]; rintro e w1 ⟨A1, c1, A1', c1', rfl, hx1, _⟩; have HX1 := Lib.hid hx1; clear hx1)
    go_ret
    refine ⟨ret_bool ?_, HX1.out.trans' (Ext.alloc' _ _)⟩
    unfold emptyB
    rw [Hd.out]; rfl

set_option maxRecDepth 100000 in
theorem troot_any {B : Nat} (hB : B ≤ 2199023255552) {S : Nat → Prop} {w : World} {g d : Nat} {t : N} (h : TreeAt B S w g d t) :
    Calls Try.prog 43 #[.pointer (some ⟨g, 0, none⟩)] w (OwnPost B d t w) := by
  obtain ⟨A, c, A', c', hb, hr, _⟩ := h
  obtain ⟨p0, p1, p2, p3, _, _, _, _⟩ := hb.cells4
  have hgl := hb.lt
  have HR := Lib.hid hr
  have hz0 := Blk.new w 25 #[.int .u8 0, .string { data := #[] }, .slice none 0 0, .slice none 0 0]
  have HZ0 := Lib.hid hz0
  clear hb hr hz0
  go_enter Try.func43, Try.ntmps43
  go_wp2_with fail
  refine (own_any B hB S d t _ _ (HR.out.alloc _)).mono ?_
  rintro e w1 ⟨A1, c1, A1', c1', rfl, hx1, hr1⟩
  have HX1 := Lib.hid hx1
  have HR1 := Lib.hid hr1
  have hz1 := HZ0.out.ext hx1
  have HZ1 := Lib.hid hz1
  obtain ⟨r0, r1, r2, r3, g0, g1, g2, g3⟩ := hz1.cells4
  have hwl := hz1.lt
  clear hx1 hr1 hz1
  go_wp2_with fail
  have hX : Ext w (set4 w1 w.heap.size (.int .u8 t.kind) (.string t.text) (.slice A1 t.names.length c1) (.slice A1' t.kids.length c1')) := ((Ext.alloc' _ _).trans' HX1.out).set4 (Nat.le_refl _) _ _ _ _
  have hbr := HZ1.out.set4 (.int .u8 t.kind) (.string t.text) (.slice A1 t.names.length c1) (.slice A1' t.kids.length c1')
  refine bodyPost_ret (results_cell rfl _ _ _ _ _ _ _ rfl hbr) rfl ⟨A1, c1, A1', c1', rfl, hX, ?_⟩
  have hb : ∀ b, (w.alloc (.cells #[.int .u8 0, .string { data := #[] }, .slice none 0 0, .slice none 0 0] 25)).heap.size ≤ b → (set4 w1 w.heap.size (.int .u8 t.kind) (.string t.text) (.slice A1 t.names.length c1) (.slice A1' t.kids.length c1')).heap[b]? = w1.heap[b]? := fun b h => heap_set4 _ _ _ _ _ _ (by simp at h; omega)
  refine Rep.keep (by rw [size_set4]; exact Nat.le_refl _) (fun b h _ => hb b h.1) (fun b h _ => ⟨by have := h.1; simp at this; omega, h.2.same (hb b h.1)⟩) _ _ _ HR1.out
end Go.Proofs.Ytocndkhgopjhhaa
