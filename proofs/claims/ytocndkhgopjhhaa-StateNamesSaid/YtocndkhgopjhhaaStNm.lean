/- touchstonelaw28.StateNames answers true; nobody's queue, an empty one, numbers out of range. -/
import Derived.Test.YtocndkhgopjhhaaProg
import Derived.Test.YtocndkhgopjhhaaAwakeW
import Derived.Outline
namespace Go.Proofs.Ytocndkhgopjhhaa
open Go.RowKit

theorem qnew_no (most : Int) (w : World) (h : most < 1 ∨ 256 < most) :
    Calls Try.prog 28 #[.int .i64 most] w fun e w' => e = .returned (.tuple #[.pointer none, .int .i64 1]) ∧ w' = w := by
  by_cases h1 : most < 1
  · clear h
    go_enter Try.func28, Try.ntmps28
    go_wp2_with fail
    go_ret2
    exact ⟨rfl, rfl⟩
  · have h2 : 256 < most := by omega
    clear h
    go_enter Try.func28, Try.ntmps28
    go_wp2_with fail
    go_ret2
    exact ⟨rfl, rfl⟩
theorem qlen_nil (w : World) : Calls Try.prog 34 #[.pointer none] w fun e w' => e = .returned (.int .i64 0) ∧ w' = w := by
  go_enter Try.func34, Try.ntmps34
  go_wp2_with fail
  go_ret
  exact ⟨rfl, rfl⟩
theorem qrows_nil (w : World) : Calls Try.prog 78 #[.pointer none] w fun e w' => e = .returned (.slice none 0 0) ∧ w' = w := by
  go_enter Try.func78, Try.ntmps78
  go_wp2_with fail
  go_ret
  exact ⟨rfl, rfl⟩
theorem qcopy_nil (w : World) : Calls Try.prog 74 #[.pointer none] w fun e w' => e = .returned (.pointer none) ∧ w' = w := by
  go_enter Try.func74, Try.ntmps74
  go_wp2_with fail
  go_ret
  exact ⟨rfl, rfl⟩
theorem qpush_nil (A : Option Addr) (n c : Nat) (A' : Option Addr) (n' c' : Nat) (w : World) : Calls Try.prog 29 #[.pointer none, .agg #[.slice A n c, .slice A' n' c']] w fun e w' => e = .returned (.int .i64 2) ∧ Ext w w' := by
  go_enter Try.func29, Try.ntmps29
  go_wp2_with fail
  go_ret
  exact ⟨rfl, Ext.alloc' _ _⟩
theorem qpop_nil (w : World) : Calls Try.prog 31 #[.pointer none] w fun e w' => e = .returned (.tuple #[.agg #[.slice none 0 0, .slice none 0 0], .int .i64 2]) ∧ Ext w w' := by
  have HB := Lib.hid (Blk.new w 48 #[.slice none 0 0, .slice none 0 0])
  go_enter Try.func31, Try.ntmps31
  go_wp2_with fail
  refine bodyPost_ret (results_td_tmp rfl _ _ _ _ _ rfl HB.out) rfl ?_
  exact ⟨rfl, Ext.alloc' w _⟩
theorem qpop_zero {T M : Nat → Prop} {w0 w : World} {q : Nat} {most : Int} (h : QSt T M w0 w q most []) : Calls Try.prog 31 #[.pointer (some ⟨q, 0, none⟩)] w fun e w' => e = .returned (.tuple #[.agg #[.slice none 0 0, .slice none 0 0], .int .i64 5]) ∧ Ext w w' := by
  obtain ⟨v, ys, hq, _, hp, _⟩ := h
  have hl := hp.length_eq
  rw [List.length_map] at hl
  have hy : ys = [] := List.eq_nil_of_length_eq_zero hl
  subst hy
  have hc : w.cell? ⟨q, 0, none⟩ = some v := hq.blk.cell 0
  have hql := hq.blk.lt
  obtain ⟨Av, cv, rfl⟩ := hq.row.form
  have HB := Lib.hid (Blk.new w 48 #[.slice none 0 0, .slice none 0 0])
  simp only [List.length_nil] at hc
  clear hq hp hl
  go_enter Try.func31, Try.ntmps31
  go_wp2_with fail
  refine bodyPost_ret (results_td_tmp rfl _ _ _ _ _ rfl HB.out) rfl ?_
  exact ⟨rfl, Ext.alloc' w _⟩

/-- The queue, its things, and that what was there stands. -/
def NmQ (w0 w : World) (q : Nat) (ts : List Td) : Prop := (∃ T M : Nat → Prop, QSt T M w0 w q 1 ts) ∧ Ext w0 w
theorem NmQ.ext {w0 w w' : World} {q : Nat} {ts : List Td} (h : NmQ w0 w q ts) (hx : Ext w w') : NmQ w0 w' q ts := by
  obtain ⟨⟨T, M, h1⟩, h2⟩ := h
  exact ⟨⟨T, M, h1.ext hx⟩, h2.trans' hx⟩
theorem NmQ.push {w0 w : World} {q : Nat} {ts : List Td} (h : NmQ w0 w q ts) (hn : ts.length ≤ 1000) {S : Nat → Prop} {t : Td} {tv : Value} (ht : Tdv 128 S w t tv) {c : Int} (hc : pushC t 1 ts = c) {ts' : List Td} (hts : (if c = 0 then t :: ts else ts) = ts') :
    Calls Try.prog 29 #[.pointer (some ⟨q, 0, none⟩), tv] w fun e w' => e = .returned (.int .i64 c) ∧ NmQ w0 w' q ts' := by
  obtain ⟨⟨T, M, h1⟩, h2⟩ := h
  refine (h1.push hn h2.size ht).mono ?_
  rw [hc, hts]
  rintro e w' ⟨rfl, T', M', hq, _, _, _, htn⟩
  exact ⟨rfl, ⟨T', M', hq⟩, Ext.turn h2 htn fun b hb => (h1.apart.2 b hb).2⟩
theorem NmQ.pop {w0 w : World} {q : Nat} {t : Td} (h : NmQ w0 w q [t]) :
    Calls Try.prog 31 #[.pointer (some ⟨q, 0, none⟩)] w fun e w' => ∃ A c A' c', e = .returned (.tuple #[.agg #[.slice A t.row.length c, .slice A' t.facts.length c'], .int .i64 0]) ∧ NmQ w0 w' q [] := by
  obtain ⟨⟨T, M, h1⟩, h2⟩ := h
  refine (h1.pop (by simp) (by simp)).mono ?_
  rintro e w' ⟨A, c, A', c', r, rest, rfl, hp, _, hq, htn, _⟩
  have hr : r = t := by simpa using hp.mem_iff.1 (List.mem_cons_self ..)
  subst hr
  have hrest : rest = [] := by simpa using (List.perm_cons _).1 hp
  subst hrest
  exact ⟨A, c, A', c', rfl, ⟨T, M, hq⟩, Ext.turn h2 htn fun b hb => (h1.apart.2 b hb).2⟩

theorem nm_p1 : pushC ⟨[], []⟩ 1 [] = 4 := by decide
theorem nm_p2 : pushC (tA []) 1 [] = 0 := by decide
theorem nm_p3 : pushC (tA []) 1 [tA []] = 6 := by decide
theorem nm_p4 : pushC (tA [0]) 1 [tA []] = 67 := by decide

set_option maxRecDepth 100000 in
set_option maxHeartbeats 8000000 in
theorem stNames_any (w : World) : Calls Try.prog 13 #[] w fun e w' => e = .returned (.bool true) ∧ Ext w w' := by
  have HB0 := Lib.hid (Blk.new w 106 rootC)
  go_enter Try.func13, Try.ntmps13
  go_wp2_with fail
  refine (qpop_nil _).mono ?_
  rintro e w1 ⟨rfl, x1⟩
  have HB := Lib.hid (HB0.out.ext x1)
  have X := Lib.hid ((Ext.alloc' w _).trans' x1)
  clear x1
  go_wp2_with fail
  refine (qnew_no 0 _ (by decide)).mono ?_
  rintro e w2 ⟨rfl, rfl⟩
  go_wp2_with fail
  refine (qnew_no 257 _ (by decide)).mono ?_
  rintro e w2 ⟨rfl, rfl⟩
  go_wp2_with fail
  refine (qnew_any 256 _ (by decide) (by decide)).mono ?_
  rintro e w2 ⟨rfl, rfl⟩
  go_wp2_with fail
  refine (qnew_any 1 _ (by decide) (by decide)).mono ?_
  rintro e w3 ⟨rfl, h3⟩
  obtain ⟨w2, hw2⟩ : ∃ w2, w2 = (w1.alloc (.cells #[.slice none 0 0, .slice none 0 0] 48)).alloc (.cells #[.slice none 0 0, .int .i64 256] 116) := ⟨_, rfl⟩
  have hx2 : Ext w1 w2 := by rw [hw2]; exact (Ext.alloc' _ _).trans' (Ext.alloc' _ _)
  rw [← hw2] at h3
  have hq3 : NmQ w2 w3 w2.heap.size [] := by
    rw [h3]
    exact ⟨⟨_, _, QSt.new w2 1⟩, Ext.alloc' _ _⟩
  have hs2 : w1.heap.size + 1 + 1 = w2.heap.size := by rw [hw2]; simp
  have HQ := Lib.hid hq3
  have HB := Lib.hid (HB.out.ext hx2)
  have X2 := Lib.hid (X.out.trans' hx2)
  have HF := Lib.hid (Facts.root (HB.out.ext hq3.2))
  have hsz : ((w1.alloc (.cells #[.slice none 0 0, .slice none 0 0] 48)).alloc (.cells #[.slice none 0 0, .int .i64 256] 116)).heap.size = w2.heap.size := by rw [hw2]
  rw [hsz]
  have hbt := Blk.new w1 48 #[.slice none 0 0, .slice none 0 0]
  clear hw2 h3 hx2 hq3 hsz hbt
  go_wp2_with fail
  refine (HQ.out.push (t := ⟨[], []⟩) (by simp) ⟨_, _, rfl, Ints.nil (S := fun _ => True), Facts.nil⟩ nm_p1 (ts' := []) rfl).mono ?_
  rintro e w4 ⟨rfl, hq⟩
  have HQ4 := Lib.hid hq
  clear hq
  go_wp2_with fail
  refine (HQ4.out.push (t := tA []) (by simp) ⟨_, _, rfl, Ints.nil, Facts.root (HB.out.ext HQ4.out.2)⟩ nm_p2 (ts' := [tA []]) rfl).mono ?_
  rintro e w5 ⟨rfl, hq⟩
  have HQ5 := Lib.hid hq
  clear hq
  go_wp2_with fail
  refine (HQ5.out.push (t := tA []) (by simp) ⟨_, _, rfl, Ints.nil, Facts.root (HB.out.ext HQ5.out.2)⟩ nm_p3 (ts' := [tA []]) rfl).mono ?_
  rintro e w6 ⟨rfl, hq⟩
  have HQ6 := Lib.hid hq
  clear hq
  go_wp2_with fail
  have hq6 := HQ6.out.ext (Ext.alloc' w6 (.cells #[.int .i64 0] 3))
  have hI : Ints 128 (fun b => b = w6.heap.size) (w6.alloc (.cells #[.int .i64 0] 3)) (.slice (some ⟨w6.heap.size, 0, none⟩) 1 1) [0] := Ints.lit (zs := [0]) (Blk.new _ _ _) (by simp) (by simp) (by intro z hz; simp at hz; subst hz; decide)
  refine (hq6.push (t := tA [0]) (S := fun _ => True) (by simp) ⟨_, _, rfl, hI.keep (Nat.le_refl _) (fun _ _ _ => rfl) (fun _ _ _ => trivial), (Facts.root (HB.out.ext hq6.2)).keep (Nat.le_refl _) (fun _ _ _ => rfl) (fun _ _ _ => trivial)⟩ nm_p4 (ts' := [tA []]) rfl).mono ?_
  rintro e w7 ⟨rfl, hq⟩
  have HQ7 := Lib.hid hq
  clear hq hq6 hI
  go_wp2_with fail
  refine HQ7.out.pop.mono ?_
  rintro e w8 ⟨A8, c8, A8', c8', rfl, hq⟩
  have HQ8 := Lib.hid (hq.ext (Ext.alloc' w8 (.cells #[.slice A8 0 c8, .slice A8' 1 c8'] 48)))
  have HT8 := Lib.hid (Blk.new w8 48 #[.slice A8 0 c8, .slice A8' 1 c8'])
  clear hq
  have hl1 : (tA []).row.length = 0 := rfl
  have hl2 : (tA []).facts.length = 1 := rfl
  rw [hl1, hl2]
  clear hl1 hl2
  go_wp2_with fail
  obtain ⟨T8, M8, hq8⟩ := HQ8.out.1
  refine (qpop_zero hq8).mono ?_
  rintro e w9 ⟨rfl, x9⟩
  have X9 := Lib.hid ((X2.out.trans' HQ8.out.2).trans' x9)
  have hb9 := HT8.out.ext x9
  have HT9 := Lib.hid (hb9.alloc (.cells #[.slice none 0 0, .slice none 0 0] 48))
  clear x9 hq8 hb9
  go_wp2_with fail
  refine (qpush_nil _ _ _ _ _ _ _).mono ?_
  rintro e w10 ⟨rfl, x10⟩
  have hb10 := HT9.out.ext x10
  have X10 := Lib.hid ((X9.out.trans' (Ext.alloc' _ _)).trans' x10)
  have c0 := hb10.cell 0
  have c1 := hb10.cell 1
  have cl := hb10.lt
  simp at c0 c1
  clear x10 hb10
  go_wp2_with (first
    | (go_at_call 34; refine (qlen_nil _).mono ?_; rintro e wx ⟨rfl, rfl⟩)
    | (go_at_call 78; refine (qrows_nil _).mono ?_; rintro e wx ⟨rfl, rfl⟩)
    | (go_at_call 74; refine (qcopy_nil _).mono ?_; rintro e wx ⟨rfl, rfl⟩))
  refine (awake28_any _).mono ?_
  rintro e w11 ⟨rfl, x11⟩
  have X11 := Lib.hid (X10.out.trans' x11)
  clear x11
  go_wp2_with fail
  go_ret
  exact ⟨rfl, X11.out⟩
end Go.Proofs.Ytocndkhgopjhhaa
