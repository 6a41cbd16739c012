/- Does the queue hold such a row? slices.ContainsFunc at the queue's own test. -/
import Derived.Test.YtocndkhgopjhhaaProg
import Derived.Test.YtocndkhgopjhhaaQue
import Derived.Test.YtocndkhgopjhhaaClone
import Derived.Test.YtocndkhgopjhhaaPatM
namespace Go.Proofs.Ytocndkhgopjhhaa
open Go.RowKit

set_option maxHeartbeats 1000000 in
theorem push1_any {B1 B2 : Nat} {S1 S2 : Nat → Prop} {w : World} {bt : Nat} {rv fv xv yv : Value} {row xrow : List Int} (hb : Blk w bt 48 #[rv, fv]) (hr : Ints B1 S1 w rv row) (hx : Ints B2 S2 w xv xrow) (hy : ∃ A n c, yv = .slice A n c) :
    Calls Try.prog 92 #[.agg #[xv, yv], .pointer (some ⟨bt, 0, none⟩)] w fun e w' => e = .returned (.bool (decide (xrow = row))) ∧ Ext w w' := by
  have HR := Lib.hid hr
  have HX := Lib.hid hx
  have HB := Lib.hid hb
  obtain ⟨A, c, rfl, _⟩ := hr
  obtain ⟨A', c', rfl, _⟩ := hx
  obtain ⟨A2, n2, c2, rfl⟩ := hy
  have k0 : w.cell? ⟨bt, 0, none⟩ = some (.slice A row.length c) := hb.cell 0
  have hl := hb.lt
  clear hb
  go_enter Try.func92, Try.ntmps92
  go_wp2_with (go_at_call 93; refine (equalI_any (HX.out.alloc _) (HR.out.alloc _)).mono ?_; rintro e w1 ⟨rfl, hx1⟩; have Hx1 := Lib.hid hx1; clear hx1)
  go_ret
  exact ⟨rfl, (Ext.alloc' _ _).trans' Hx1.out⟩

def rowIs (row : List Int) (x : It) : Bool := decide (x.td.row = row)

set_option maxRecDepth 100000 in
set_option maxHeartbeats 4000000 in
theorem indexQ_any {T : Nat → Prop} {w : World} {q base : Nat} {most : Int} {v : Value} {xs : List It} (h : Qu T w q base most v xs) {B : Nat} {S : Nat → Prop} {bt : Nat} {rv fv : Value} {row : List Int} (hb : Blk w bt 48 #[rv, fv]) (hr : Ints B S w rv row) :
    Calls Try.prog 134 #[v, .func (.func 92) #[] #[.pointer (some ⟨bt, 0, none⟩)]] w fun e w' => e = .returned (.int .i64 (firstI (rowIs row) 0 xs)) ∧ Ext w w' := by
  have H := Lib.hid h
  have HB := Lib.hid hb
  have HR := Lib.hid hr
  obtain ⟨Av, cv, rfl⟩ := h.row.form
  have hbd : xs.length ≤ 9223372036854775807 := by
    rcases h.row.2 with ⟨_, h0⟩ | ⟨g, c, cur, _, _, _, hnc, hcm, _⟩
    · omega
    · unfold maxLen at hcm; omega
  clear h hb hr
  go_enter Try.func134, Try.ntmps134
  go_wp2_with fail
  go_loopw [8] (fun i wr => ∃ (j : Nat), j ≤ xs.length ∧ i = .int .i64 j ∧ Ext w wr ∧ firstI (rowIs row) j (xs.drop j) = firstI (rowIs row) 0 xs) (fun i _ => xs.length - (intOf i).toNat)
  case atStart => exact ⟨0, Nat.zero_le _, rfl, Below.refl _ _, rfl⟩
  case round =>
    obtain ⟨j, hj, rfl, hx, hy⟩ := hrel
    have Hx := Lib.hid hx
    obtain ⟨hcx, hfx⟩ := hx.rules
    clear hx
    by_cases hlt : j < xs.length
    · rw [firstI_at hlt] at hy
      obtain ⟨x, hxj⟩ : ∃ x, xs[j]? = some x := ⟨_, List.getElem?_eq_getElem hlt⟩
      have hxe : xs[j] = x := by rw [List.getElem?_eq_getElem hlt] at hxj; injection hxj
      rw [hxe] at hy
      obtain ⟨g, c, e, hnc, hcm, hbg, hgl, p0, p1, _, _⟩ := row_cells H.out.row hxj
      injection e with e1 _ e2
      subst e1 e2
      obtain ⟨hi1, hi2⟩ := H.out.item x (List.mem_of_getElem? hxj)
      have HI1 := Lib.hid hi1
      obtain ⟨A1, c1, e1, _⟩ := hi1
      obtain ⟨A2, c2, e2, _⟩ := hi2
      rw [e1] at p0 HI1
      rw [e2] at p1
      clear hxe hxj e1 e2
      cases ht : rowIs row x
      · have Hy : Hid (firstI (rowIs row) (j + 1) (xs.drop (j + 1)) = firstI (rowIs row) 0 xs) := by unfold Hid; rw [← hy, ht]; rfl
        have Ht : Hid (decide (x.td.row = row) = false) := ht
        clear hy ht
        go_wp2_with (go_at_call 92; refine (push1_any (HB.out.ext Hx.out) (HR.out.ext Hx.out) (HI1.out.ext Hx.out) ⟨_, _, _, rfl⟩).mono ?_; rw [Ht.out]; rintro e w1 ⟨rfl, hx1⟩; have Hx1 := Lib.hid hx1; clear hx1)
        go_roundw
        case rel => exact ⟨j + 1, by omega, by go_num, Hx.out.trans' Hx1.out, Hy.out⟩
        case measure => simp [intOf]; omega
      · have Hy : Hid (firstI (rowIs row) 0 xs = (j : Int)) := by unfold Hid; rw [← hy, ht]; rfl
        have Ht : Hid (decide (x.td.row = row) = true) := ht
        clear hy ht
        go_wp2_with (go_at_call 92; refine (push1_any (HB.out.ext Hx.out) (HR.out.ext Hx.out) (HI1.out.ext Hx.out) ⟨_, _, _, rfl⟩).mono ?_; rw [Ht.out]; rintro e w1 ⟨rfl, hx1⟩; have Hx1 := Lib.hid hx1; clear hx1)
        go_ret
        exact ⟨ret_int Hy.out.symm, Hx.out.trans' Hx1.out⟩
    · rw [firstI_end hlt] at hy
      have Hy := Lib.hid hy
      clear hy
      go_wp2_with fail
      go_ret
      exact ⟨ret_int Hy.out, Hx.out⟩

theorem containsQ_any {T : Nat → Prop} {w : World} {q base : Nat} {most : Int} {v : Value} {xs : List It} (h : Qu T w q base most v xs) {B : Nat} {S : Nat → Prop} {bt : Nat} {rv fv : Value} {row : List Int} (hb : Blk w bt 48 #[rv, fv]) (hr : Ints B S w rv row) :
    Calls Try.prog 91 #[v, .func (.func 92) #[] #[.pointer (some ⟨bt, 0, none⟩)]] w fun e w' => e = .returned (.bool (xs.any (rowIs row))) ∧ Ext w w' := by
  have H := Lib.hid h
  have HB := Lib.hid hb
  have HR := Lib.hid hr
  obtain ⟨Av, cv, rfl⟩ := h.row.form
  have Hf := Lib.hid (firstI_any (rowIs row) 0 xs)
  clear h hb hr
  go_enter Try.func91, Try.ntmps91
  go_wp2_with (go_at_call 134; refine (indexQ_any H.out HB.out HR.out).mono ?_; rintro e w1 ⟨rfl, hx1⟩; have Hx1 := Lib.hid hx1; clear hx1)
  go_ret
  exact ⟨ret_bool Hf.out, Hx1.out⟩
end Go.Proofs.Ytocndkhgopjhhaa
