/- path.Name, whatever the text. -/
import Derived.Test.YtocndkhgopjhhaaProg
import Derived.Test.YtocndkhgopjhhaaRune
namespace Go.Proofs.Ytocndkhgopjhhaa
open Go.RowKit

theorem iter_set_ext {w u : World} {s : ByteArray} {p : Nat} (h : Ext w u) : Ext w { u with heap := u.heap.setIfInBounds w.heap.size (.stringIter s p) } :=
  ⟨h.os, h.tape, h.output, by simpa using h.size, fun b hb => by
    show (u.heap.setIfInBounds w.heap.size (.stringIter s p))[b]? = _
    rw [Array.getElem?_setIfInBounds]
    split
    · rename_i e; omega
    · exact h.block b hb⟩

set_option maxRecDepth 100000 in
set_option maxHeartbeats 4000000 in
theorem indexAny_short (s : ByteArray) (w : World) (h8 : s.size ≤ 8) :
    Calls Try.prog 151 #[.string s, .string { data := #[47, 0, 10] }] w fun e w' => ∃ p : Int, e = .returned (.int .i64 p) ∧ decide (0 ≤ p) = hasBad s ∧ Ext w w' := by
  have h8z : decide ((8 : Int) < (s.size : Int)) = false := decide_eq_false (by omega)
  go_enter Try.func151, Try.ntmps151
  go_wp2_with (go_at_call 174; refine (Try.strings_shouldUseASCIISet _ _).mono ?_; rintro e w' ⟨rfl, hw⟩; rw [hw, h8z])
  go_loopg [9, 10] s.size (fun g _ _ wx => ∃ i : Nat, i ≤ s.size ∧ s.size - i = g ∧ wx.heap[w.heap.size]? = some (.stringIter s i) ∧ Ext w wx ∧ (s.data.toList.drop i).any badB = hasBad s)
  case atStart => exact ⟨0, Nat.zero_le _, rfl, World.iter_heap _ _ _, Ext.iter _ _ _, rfl⟩
  case round =>
    obtain ⟨i, hi, hig, hit, hx, hy⟩ := hrel
    have Hx := Lib.hid hx
    have Hy := Lib.hid hy
    have hzz := hx.size
    clear hx hy
    rcases Nat.lt_or_ge i s.size with hlt | hge
    · have hnx := fun ty => run_next_at (P := Try.prog) wr w.heap.size s i ty hit hlt
      have Hit := Lib.hid hit
      clear hit
      have hbb : w.heap.size < wr.heap.size := by
        rcases Nat.lt_or_ge w.heap.size wr.heap.size with h | h
        · exact h
        · have := Hit.out; rw [Array.getElem?_eq_none h] at this; cases this
      by_cases ha : (s.get! i).toNat < 128
      · have hge : s.get! i = s[i]'hlt := by
          show s.data[i]! = _
          rw [getElem!_pos s.data i hlt]; rfl
        have hd := decode_ascii s i hlt (by rw [← hge]; exact ha)
        rw [← hge] at hd
        rw [hd] at hnx
        simp only at hnx
        have hst := drop_bad s i hlt
        have Hst := Lib.hid hst
        have hcon := chars_bad (s.get! i)
        have hback : (((s.get! i).toNat : Int)).toNat.toUInt8 = s.get! i := by simp
        clear hst hd hge
        cases hb : badB (s.get! i)
        · rw [hb] at hcon
          have Hb := Lib.hid hb
          have hlt0 : ¬ ((0 : Int) ≤ Lib.indexByte [47, 0, 10] (s.get! i)) := of_decide_eq_false hcon
          clear hcon hb
          go_wp2_with (go_at_call 173; refine (Try.strings_IndexRune_ascii _ _ _ (by omega) (by omega)).mono ?_; rintro e w' ⟨rfl, hw⟩; rw [hw, hback])
          go_roundg (s.size - (i + 1))
          case measure => omega
          case rel =>
            refine ⟨i + 1, by omega, rfl, ?_, iter_set_ext Hx.out, ?_⟩
            · show (wr.heap.setIfInBounds w.heap.size _)[w.heap.size]? = _
              rw [Array.getElem?_setIfInBounds_self_of_lt hbb]
            · rw [← Hy.out, Hst.out, Hb.out, Bool.false_or]
        · rw [hb] at hcon
          have Hb := Lib.hid hb
          have hge0 : (0 : Int) ≤ Lib.indexByte [47, 0, 10] (s.get! i) := of_decide_eq_true hcon
          clear hcon hb
          go_wp2_with (go_at_call 173; refine (Try.strings_IndexRune_ascii _ _ _ (by omega) (by omega)).mono ?_; rintro e w' ⟨rfl, hw⟩; rw [hw, hback])
          go_ret
          refine ⟨_, rfl, ?_, iter_set_ext Hx.out⟩
          rw [← Hy.out, Hst.out, Hb.out]
          exact decide_eq_true (by omega)
      · obtain ⟨hw1, hw2, hw3⟩ := high_width s i hlt (by omega)
        have hr0 := decode_high s i hlt (by
          have hge : s.get! i = s[i]'hlt := by
            show s.data[i]! = _
            rw [getElem!_pos s.data i hlt]; rfl
          rw [← hge]; omega)
        have hr1 := decode_le s i
        obtain ⟨⟨r, n⟩, hrn⟩ : ∃ x, Utf8.decode s i = x := ⟨_, rfl⟩
        rw [hrn] at hnx hw1 hw2 hw3 hr0 hr1
        simp only at hnx hw1 hw2 hw3 hr0 hr1
        have hsk := skip_bad s n i hw2 hw3
        have Hsk := Lib.hid hsk
        clear hsk hw3 hrn
        go_wp2_with (go_at_call 173; refine (indexRune_high (r : Int) (by omega) (by omega) _).mono ?_; rintro e w' ⟨rfl, hxr⟩; have Hxr := Lib.hid hxr; clear hxr)
        go_roundg (s.size - (i + n))
        case measure => omega
        case rel =>
          refine ⟨i + n, hw2, rfl, ?_, (iter_set_ext Hx.out).trans' Hxr.out, ?_⟩
          · refine (Hxr.out.block _ (by simpa using hbb)).trans ?_
            show (wr.heap.setIfInBounds w.heap.size _)[w.heap.size]? = _
            rw [Array.getElem?_setIfInBounds_self_of_lt hbb]
          · rw [← Hy.out, Hsk.out]
    · have hnx := fun ty => run_next_done (P := Try.prog) wr w.heap.size s i ty hit (by omega)
      have hii : i = s.size := by omega
      clear hit
      go_wp2
      go_ret
      refine ⟨_, rfl, ?_, Hx.out⟩
      rw [← Hy.out, List.drop_eq_nil_of_le (by simp; omega)]
      rfl

theorem chars_has (x : UInt8) : [47, 0, 10].contains x = badB x := by rw [Lib.contains_iff_indexByte]; exact chars_bad x
theorem anyCharsL : ∀ l : List UInt8, decide (0 ≤ Lib.indexAny l [47, 0, 10]) = l.any badB
  | [] => rfl
  | a :: l => by
    rw [List.any_cons, ← anyCharsL l, ← chars_has, Lib.indexAny]
    have hg := Lib.indexAny_ge [47, 0, 10] l
    cases [47, 0, 10].contains a
    · by_cases h : Lib.indexAny l [47, 0, 10] = -1
      · simp [h]
      · have h1 : (Lib.indexAny l [47, 0, 10] == -1) = false := by simpa using h
        simp only [h1, Bool.false_eq_true, if_false, Bool.false_or]
        rw [decide_eq_true (by omega), decide_eq_true (by omega)]
    · simp
theorem anyChars (s : ByteArray) : decide (0 ≤ Lib.indexAny s.data.toList [47, 0, 10]) = hasBad s := anyCharsL _

theorem containsAny_any (s : ByteArray) (w : World) (hs : s.size ≤ 64) :
    Calls Try.prog 128 #[.string s, .string { data := #[47, 0, 10] }] w fun e w' => e = .returned (.bool (hasBad s)) ∧ Ext w w' := by
  go_enter Try.func128, Try.ntmps128
  go_wp2_with fail
  by_cases h8 : s.size ≤ 8
  · refine (indexAny_short s _ h8).mono ?_
    rintro e w1 ⟨p, rfl, hp, hx⟩
    have Hx := Lib.hid hx
    have Hp := Lib.hid hp
    clear hx hp
    go_wp2
    go_ret
    exact ⟨ret_bool Hp.out, Hx.out⟩
  · refine (Try.strings_IndexAny_long (fun w => by kernel_rfl) s { data := #[47, 0, 10] } _ (by decide) (by omega) (by omega) (by decide) (by
      intro j b hb
      match j, hb with
      | 0, h => simp at h; subst h; decide
      | 1, h => simp at h; subst h; decide
      | 2, h => simp at h; subst h; decide)).mono ?_
    rintro e w1 ⟨rfl, rfl⟩
    go_wp2
    go_ret
    exact ⟨ret_bool (anyChars s), (Ext.alloc' _ _).trans' (Ext.alloc' _ _)⟩

set_option maxRecDepth 100000 in
set_option maxHeartbeats 2000000 in
/-- path.Name -/
theorem pathName_any (s : ByteArray) (w : World) (hs : s.size ≤ maxLen) :
    Calls Try.prog 80 #[.string s] w fun e w' => e = .returned (.bool (nameB s)) ∧ Ext w w' := by
  unfold maxLen at hs
  cases e1 : s.toList.isEmpty
  · cases e2 : decide (64 < (s.size : Int))
    · cases e3 : s.toList == [46]
      · cases e4 : s.toList == [46, 46]
        · have hN : nameB s = !hasBad s := by simp [nameB, e1, e2, e3, e4]
          rw [hN]
          have h64 : ¬ 64 < (s.size : Int) := of_decide_eq_false e2
          go_enter Try.func80, Try.ntmps80
          go_wp2_with (go_at_call 128; refine (containsAny_any s _ (by omega)).mono ?_; rintro e w1 ⟨rfl, hx⟩; have Hx := Lib.hid hx; clear hx)
          go_ret
          exact ⟨rfl, Hx.out⟩
        · have hN : nameB s = false := by simp [nameB, e4]
          rw [hN]
          have h64 : ¬ 64 < (s.size : Int) := of_decide_eq_false e2
          go_enter Try.func80, Try.ntmps80
          go_wp2_with fail
          go_ret
          exact ⟨rfl, Below.refl _ _⟩
      · have hN : nameB s = false := by simp [nameB, e3]
        rw [hN]
        have h64 : ¬ 64 < (s.size : Int) := of_decide_eq_false e2
        go_enter Try.func80, Try.ntmps80
        go_wp2_with fail
        go_ret
        exact ⟨rfl, Below.refl _ _⟩
    · have hN : nameB s = false := by simp [nameB, e2]
      rw [hN]
      have h64 : 64 < (s.size : Int) := of_decide_eq_true e2
      go_enter Try.func80, Try.ntmps80
      go_wp2_with fail
      go_ret
      exact ⟨rfl, Below.refl _ _⟩
  · have hN : nameB s = false := by simp [nameB, e1]
    rw [hN]
    go_enter Try.func80, Try.ntmps80
    go_wp2_with fail
    go_ret
    exact ⟨rfl, Below.refl _ _⟩
end Go.Proofs.Ytocndkhgopjhhaa
