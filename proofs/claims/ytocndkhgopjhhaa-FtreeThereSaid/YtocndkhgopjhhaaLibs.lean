/- The library's contracts at this program, in the words of XBase. -/
import Derived.Test.YtocndkhgopjhhaaProg
import Derived.Test.YtocndkhgopjhhaaBase
import Derived.Test.YtocndkhgopjhhaaShelf
import Derived.Test.YtocndkhgopjhhaaAny
namespace Go.Proofs.Ytocndkhgopjhhaa
open Go.RowKit

theorem indexByte_any (s : ByteArray) (w : World) :
    Calls Try.prog 79 #[.string s, .int .u8 0] w fun e w' => e = .returned (.int .i64 (Lib.indexByte s.data.toList 0)) ∧ w' = w := by
  have h := Try.strings_IndexByte s 0 w
  simpa using h

theorem indexByte_neg : ∀ l : List UInt8, decide (Lib.indexByte l 0 < 0) = !(l.any (· == 0)) := by
  intro l
  induction l with
  | nil => decide
  | cons c l ih =>
    have hg := Lib.indexByte_ge l 0
    rw [List.any_cons, Lib.indexByte]
    cases hc : (c == 0)
    · simp only [Bool.false_eq_true, if_false, Bool.false_or]
      rw [← ih]
      by_cases h : Lib.indexByte l 0 = -1
      · simp [h]
      · have h1 : (Lib.indexByte l 0 == -1) = false := by simpa using h
        rw [h1]
        simp only [Bool.false_eq_true, if_false]
        rw [decide_eq_false (by omega), decide_eq_false (by omega)]
    · simp

theorem take_all {α : Type} (l : List α) : l.take l.length = l := List.take_length

theorem equalS_any {B1 B2 : Nat} {S1 S2 : Nat → Prop} {w : World} {v1 v2 : Value} {xs ys : List ByteArray} (h1 : Strs B1 S1 w v1 xs) (h2 : Strs B2 S2 w v2 ys) :
    Calls Try.prog 85 #[v1, v2] w fun e w' => e = .returned (.bool (decide (xs = ys))) ∧ Ext w w' := by
  obtain ⟨A1, c1, rfl, hc1, hm1, _, _, g1⟩ := h1
  obtain ⟨A2, c2, rfl, hc2, hm2, _, _, g2⟩ := h2
  have hm1' : xs.length ≤ 9223372036854775807 := by unfold maxLen at hm1; omega
  have hm2' : ys.length ≤ 9223372036854775807 := by unfold maxLen at hm2; omega
  by_cases hl : xs.length = ys.length
  · by_cases hz : xs.length = 0
    · have e1 : xs = [] := List.eq_nil_of_length_eq_zero hz
      have e2 : ys = [] := List.eq_nil_of_length_eq_zero (by omega)
      subst e1 e2
      refine (Try.slices_Equal_string_empty A1 A2 c1 0 c2 w (by omega)).mono ?_
      rintro e w' ⟨rfl, rfl⟩
      exact ⟨ret_bool rfl, Below.refl _ _⟩
    · obtain ⟨b1, o1, rfl, _, _, k1⟩ := g1 (by omega)
      obtain ⟨b2, o2, rfl, _, _, k2⟩ := g2 (by omega)
      refine (Try.slices_Equal_string b1 o1 xs.length c1 b2 o2 ys.length c2 xs ys w (Nat.le_refl _) (Nat.le_refl _) hm1' hm2'
        (fun j hj => k1 j _ (by simp [List.getD, List.getElem?_eq_getElem hj])) (fun j hj => k2 j _ (by simp [List.getD, List.getElem?_eq_getElem hj]))).mono ?_
      rintro e w' ⟨rfl, q, rfl⟩
      exact ⟨ret_bool (by rw [List.take_length, List.take_length]), Ext.drewN' _ _⟩
  · refine (Try.slices_Equal_string_lens A1 A2 xs.length c1 ys.length c2 w hl).mono ?_
    rintro e w' ⟨rfl, rfl⟩
    exact ⟨ret_bool (by symm; simp only [decide_eq_false_iff_not]; exact fun h => hl (by rw [h])), Below.refl _ _⟩

end Go.Proofs.Ytocndkhgopjhhaa
