/- touchstoneref28.Same. -/
import Derived.Test.YtocndkhgopjhhaaProg
import Derived.Test.YtocndkhgopjhhaaSame20
namespace Go.Proofs.Ytocndkhgopjhhaa
open Go.RowKit

theorem Td.eq_iff {a b : Td} : a = b ↔ a.row = b.row ∧ a.facts = b.facts := ⟨fun e => by subst e; simp, fun ⟨h1, h2⟩ => by cases a; cases b; simp_all⟩
instance : DecidableEq Td := fun a b => if h : a.row = b.row ∧ a.facts = b.facts then isTrue (Td.eq_iff.2 h) else isFalse (fun e => h (Td.eq_iff.1 e))

set_option maxRecDepth 100000 in
set_option maxHeartbeats 2000000 in
theorem same28_any {B1 B2 : Nat} {S1 S2 : Nat → Prop} {w : World} {v1 v2 : Value} {a b : Td} (h1 : Tdv B1 S1 w a v1) (h2 : Tdv B2 S2 w b v2) :
    Calls Try.prog 32 #[v1, v2] w fun e w' => e = .returned (.bool (decide (a = b))) ∧ Ext w w' := by
  obtain ⟨rv1, fv1, rfl, hr1, hf1⟩ := h1
  obtain ⟨rv2, fv2, rfl, hr2, hf2⟩ := h2
  have R1 := Lib.hid hr1
  have R2 := Lib.hid hr2
  have F1 := Lib.hid hf1
  have F2 := Lib.hid hf2
  obtain ⟨A1, c1, rfl, _⟩ := hr1
  obtain ⟨A2, c2, rfl, _⟩ := hr2
  obtain ⟨A3, c3, rfl, _⟩ := hf1
  obtain ⟨A4, c4, rfl, _⟩ := hf2
  have hX : Ext w ((w.alloc (.cells #[.slice A1 a.row.length c1, .slice A3 a.facts.length c3] 38)).alloc (.cells #[.slice A2 b.row.length c2, .slice A4 b.facts.length c4] 38)) := (Ext.alloc' _ _).trans' (Ext.alloc' _ _)
  have HX := Lib.hid hX
  clear hX
  by_cases hr : a.row = b.row
  · have HR := Lib.hid (decide_eq_true hr)
    have HE : Hid (decide (a = b) = decide (a.facts = b.facts)) := Lib.hid (by rw [Bool.eq_iff_iff, decide_eq_true_eq, decide_eq_true_eq, Td.eq_iff]; simp [hr])
    clear hr
    go_enter Try.func32, Try.ntmps32
    go_wp2_with (first
      | (go_at_call 97; refine (ints28_any (R1.out.ext HX.out) (R2.out.ext HX.out)).mono ?_; rw [HR.out]; rintro e w3 ⟨rfl, hx3⟩; have hu3 := hx3.rules.1; have Hx3 := Lib.hid hx3; clear hx3)
      | (go_at_call 98; refine (same20_any ((F1.out.ext HX.out).ext Hx3.out) ((F2.out.ext HX.out).ext Hx3.out)).mono ?_; rintro e w4 ⟨rfl, hx4⟩; have Hx4 := Lib.hid hx4; clear hx4))
    go_ret
    exact ⟨ret_bool HE.out.symm, (HX.out.trans' Hx3.out).trans' Hx4.out⟩
  · have HR := Lib.hid (decide_eq_false hr)
    have HE : Hid (decide (a = b) = false) := Lib.hid (decide_eq_false (fun e => hr (by rw [e])))
    clear hr
    go_enter Try.func32, Try.ntmps32
    go_wp2_with (first
      | (go_at_call 97; refine (ints28_any (R1.out.ext HX.out) (R2.out.ext HX.out)).mono ?_; rw [HR.out]; rintro e w3 ⟨rfl, hx3⟩; have hu3 := hx3.rules.1; have Hx3 := Lib.hid hx3; clear hx3))
    go_ret
    exact ⟨ret_bool HE.out.symm, HX.out.trans' Hx3.out⟩
end Go.Proofs.Ytocndkhgopjhhaa
