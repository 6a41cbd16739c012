/- Rows compared: touchstoneref28.Less, slices.Compare. -/
import Derived.Test.YtocndkhgopjhhaaProg
import Derived.Test.YtocndkhgopjhhaaSt
import Derived.Test.YtocndkhgopjhhaaShelf
namespace Go.Proofs.Ytocndkhgopjhhaa
open Go.RowKit

theorem lessR_nil_left : ∀ b : List Int, lessR [] b = decide (0 < b.length)
  | [] => rfl
  | _ :: b => by simp [lessR]
theorem lessR_nil_right : ∀ a : List Int, lessR a [] = false
  | [] => rfl
  | _ :: _ => rfl
theorem lessR_drop {a b : List Int} {j : Nat} {x y : Int} (hx : a[j]? = some x) (hy : b[j]? = some y) : lessR (a.drop j) (b.drop j) = if x = y then lessR (a.drop (j + 1)) (b.drop (j + 1)) else decide (x < y) := by
  obtain ⟨ha, rfl⟩ := List.getElem?_eq_some_iff.1 hx
  obtain ⟨hb, rfl⟩ := List.getElem?_eq_some_iff.1 hy
  rw [List.drop_eq_getElem_cons ha, List.drop_eq_getElem_cons hb, lessR]
theorem lessR_out {a b : List Int} {j : Nat} (h : a.length ≤ j ∨ b.length ≤ j) (hj : j ≤ a.length) (hk : j ≤ b.length) : lessR (a.drop j) (b.drop j) = decide (a.length < b.length) := by
  rcases h with h | h
  · rw [List.drop_eq_nil_of_le h, lessR_nil_left, List.length_drop]
    have : j = a.length := by omega
    subst this
    congr 1
    exact propext ⟨fun h => by omega, fun h => by omega⟩
  · rw [List.drop_eq_nil_of_le h, lessR_nil_right]
    exact (decide_eq_false (by omega)).symm

set_option maxRecDepth 100000 in
set_option maxHeartbeats 2000000 in
theorem less_any {B1 B2 : Nat} {S1 S2 : Nat → Prop} {w : World} {v1 v2 : Value} {a b : List Int} (h1 : Ints B1 S1 w v1 a) (h2 : Ints B2 S2 w v2 b) :
    Calls Try.prog 33 #[v1, v2] w fun e w' => e = .returned (.bool (lessR a b)) ∧ Ext w w' := by
  obtain ⟨A1, c1, rfl, hc1, hm1, _, hw1, g1⟩ := h1
  obtain ⟨A2, c2, rfl, hc2, hm2, _, hw2, g2⟩ := h2
  unfold maxLen at hm1 hm2
  have G1 := Lib.hid g1
  have G2 := Lib.hid g2
  have W1 := Lib.hid hw1
  have W2 := Lib.hid hw2
  have hu := (up_rules w).1
  clear g1 g2 hw1 hw2
  go_enter Try.func33, Try.ntmps33
  go_wp2_with fail
  go_loopw [5] (fun i wr => ∃ (j : Nat) (u : Up w), i = .int .i64 j ∧ wr = u.val ∧ j ≤ a.length ∧ j ≤ b.length ∧ lessR (a.drop j) (b.drop j) = lessR a b) (fun i _ => a.length - (intOf i).toNat)
  case atStart =>
    obtain ⟨u, hu⟩ := Up.self w
    exact ⟨0, u, rfl, hu, Nat.zero_le _, Nat.zero_le _, rfl⟩
  case round =>
    obtain ⟨j, u, rfl, rfl, hj1, hj2, hy⟩ := hrel
    have Hy := Lib.hid hy
    clear hy
    by_cases hja : j < a.length
    · by_cases hjb : j < b.length
      · obtain ⟨b1, o1, rfl, hS1, hb1, k1⟩ := G1.out (by omega)
        obtain ⟨b2, o2, rfl, hS2, hb2, k2⟩ := G2.out (by omega)
        obtain ⟨x, hx⟩ : ∃ x, a[j]? = some x := ⟨_, List.getElem?_eq_getElem hja⟩
        obtain ⟨y, hy⟩ : ∃ y, b[j]? = some y := ⟨_, List.getElem?_eq_getElem hjb⟩
        have q1 := k1 j x hx
        have q2 := k2 j y hy
        have hd := lessR_drop hx hy
        have Hd := Lib.hid hd
        clear k1 k2 hx hy hd
        by_cases hxy : x = y
        · subst hxy
          have t1 : (x != x) = false := by simp
          go_wp2_with fail
          refine wp_region_up (by kernel_rfl) (by kernel_rfl) ?_
          repeat (go_big_quiet_step (fail))
          refine wpQuiet_nil ?_
          rintro _ ⟨u3, rfl⟩
          go_wp2_with fail
          go_roundw
          case rel => exact ⟨j + 1, u3, by go_num, rfl, by omega, by omega, by rw [← Hy.out, Hd.out]; simp⟩
          case measure => simp [intOf]; omega
        · have t1 : (x != y) = true := by simpa using hxy
          go_wp2_with fail
          refine wp_region_up (by kernel_rfl) (by kernel_rfl) ?_
          repeat (go_big_quiet_step (fail))
          refine wpQuiet_nil ?_
          rintro _ ⟨u3, rfl⟩
          go_wp2_with fail
          refine wp_region_up (by kernel_rfl) (by kernel_rfl) ?_
          repeat (go_big_quiet_step (fail))
          refine wpQuiet_nil ?_
          rintro _ ⟨u4, rfl⟩
          go_wp2_with fail
          go_ret
          exact ⟨ret_bool (by rw [← Hy.out, Hd.out, if_neg hxy]), u4.ext⟩
      · go_wp2_with fail
        go_ret
        exact ⟨ret_bool (by rw [← Hy.out, lessR_out (.inr (by omega)) hj1 hj2]), u.ext⟩
    · go_wp2_with fail
      go_ret
      exact ⟨ret_bool (by rw [← Hy.out, lessR_out (.inl (by omega)) hj1 hj2]), u.ext⟩

def cmpR : List Int → List Int → Int
  | [], [] => 0
  | [], _ :: _ => -1
  | _ :: _, [] => 1
  | a :: xs, b :: ys => if a = b then cmpR xs ys else if a < b then -1 else 1
theorem cmpR_neg : ∀ a b : List Int, decide (cmpR a b < 0) = lessR a b
  | [], [] => rfl
  | [], _ :: _ => rfl
  | _ :: _, [] => rfl
  | a :: xs, b :: ys => by
    rw [cmpR, lessR]
    by_cases e : a = b
    · rw [if_pos e, if_pos e]; exact cmpR_neg xs ys
    · rw [if_neg e, if_neg e]
      by_cases h : a < b
      · rw [if_pos h]; simp [h]
      · rw [if_neg h]; simp [h]
theorem cmpR_drop {a b : List Int} {j : Nat} {x y : Int} (hx : a[j]? = some x) (hy : b[j]? = some y) : cmpR (a.drop j) (b.drop j) = if x = y then cmpR (a.drop (j + 1)) (b.drop (j + 1)) else if x < y then -1 else 1 := by
  obtain ⟨ha, rfl⟩ := List.getElem?_eq_some_iff.1 hx
  obtain ⟨hb, rfl⟩ := List.getElem?_eq_some_iff.1 hy
  rw [List.drop_eq_getElem_cons ha, List.drop_eq_getElem_cons hb, cmpR]
theorem cmpR_right {a : List Int} (h : a ≠ []) : cmpR a [] = 1 := by
  cases a with
  | nil => exact (h rfl).elim
  | cons x a => rfl
theorem cmpR_left (b : List Int) : cmpR [] b = if 0 < b.length then -1 else 0 := by cases b <;> simp [cmpR]

set_option maxRecDepth 100000 in
set_option maxHeartbeats 2000000 in
theorem compare_eq {B1 B2 : Nat} {S1 S2 : Nat → Prop} {w : World} {v1 v2 : Value} {a b : List Int} (h1 : Ints B1 S1 w v1 a) (h2 : Ints B2 S2 w v2 b) :
    Calls Try.prog 126 #[v1, v2] w fun e w' => e = .returned (.int .i64 (cmpR a b)) ∧ w' = w := by
  obtain ⟨A1, c1, rfl, hc1, hm1, _, hw1, g1⟩ := h1
  obtain ⟨A2, c2, rfl, hc2, hm2, _, hw2, g2⟩ := h2
  unfold maxLen at hm1 hm2
  have G1 := Lib.hid g1
  have G2 := Lib.hid g2
  clear g1 g2 hw1 hw2
  go_enter Try.func126, Try.ntmps126
  go_wp2_with fail
  go_loopw [11] (fun i wr => ∃ (j : Nat), i = .int .i64 j ∧ wr = w ∧ j ≤ a.length ∧ j ≤ b.length ∧ cmpR (a.drop j) (b.drop j) = cmpR a b) (fun i _ => a.length - (intOf i).toNat)
  case atStart => exact ⟨0, rfl, rfl, Nat.zero_le _, Nat.zero_le _, rfl⟩
  case round =>
    obtain ⟨j, rfl, rfl, hj1, hj2, hy⟩ := hrel
    have Hy := Lib.hid hy
    clear hy
    by_cases hja : j < a.length
    · obtain ⟨b1, o1, rfl, hS1, hb1, k1⟩ := G1.out (by omega)
      obtain ⟨x, hx⟩ : ∃ x, a[j]? = some x := ⟨_, List.getElem?_eq_getElem hja⟩
      have q1 := k1 j x hx
      have Hx := Lib.hid hx
      clear k1 hx
      by_cases hjb : j < b.length
      · obtain ⟨b2, o2, rfl, hS2, hb2, k2⟩ := G2.out (by omega)
        obtain ⟨y, hy⟩ : ∃ y, b[j]? = some y := ⟨_, List.getElem?_eq_getElem hjb⟩
        have q2 := k2 j y hy
        have hd := cmpR_drop Hx.out hy
        have Hd := Lib.hid hd
        clear k2 hy hd
        obtain ⟨z, hz⟩ : ∃ z, Lib.compareInt x y = z := ⟨_, rfl⟩
        have Hz := Lib.hid hz
        clear hz
        by_cases hxy : x = y
        · have hz0 : z = 0 := by rw [← Hz.out, hxy, Lib.compareInt]; simp
          have Hd2 : Hid (cmpR (a.drop j) (b.drop j) = cmpR (a.drop (j + 1)) (b.drop (j + 1))) := Lib.hid (by rw [Hd.out, if_pos hxy])
          subst hz0
          clear hxy
          go_wp2_with (go_at_call 149; refine (Try.cmp_Compare_int x y _).mono ?_; rintro e w1 ⟨rfl, rfl⟩; rw [Hz.out])
          go_roundw
          case rel => exact ⟨j + 1, by go_num, (by first | rfl | trivial), by omega, by omega, by rw [← Hy.out, Hd2.out]⟩
          case measure => simp [intOf]; omega
        · have hz0 : z = if x < y then -1 else 1 := by
            rw [← Hz.out, Lib.compareInt]
            by_cases h : x < y
            · simp [h]
            · rw [if_neg h, if_neg h, if_pos (by omega)]
          have Hd2 : Hid (cmpR (a.drop j) (b.drop j) = z) := Lib.hid (by rw [Hd.out, if_neg hxy, hz0])
          have t1 : (z != 0) = true := by rw [hz0]; split <;> decide
          clear hxy hz0
          go_wp2_with (go_at_call 149; refine (Try.cmp_Compare_int x y _).mono ?_; rintro e w1 ⟨rfl, rfl⟩; rw [Hz.out])
          go_ret
          exact ⟨ret_int (by rw [← Hy.out, Hd2.out]), rfl⟩
      · go_wp2_with fail
        go_ret
        exact ⟨ret_int (by rw [← Hy.out, show b.drop j = [] from List.drop_eq_nil_of_le (by omega), cmpR_right (by intro h; have := congrArg List.length h; simp at this; omega)]), rfl⟩
    · have hd : cmpR a b = if a.length < b.length then -1 else 0 := by
        rw [← Hy.out, show a.drop j = [] from List.drop_eq_nil_of_le (by omega), cmpR_left, List.length_drop]
        have : j = a.length := by omega
        subst this
        by_cases h : a.length < b.length
        · rw [if_pos h, if_pos (by omega)]
        · rw [if_neg h, if_neg (by omega)]
      by_cases h : a.length < b.length
      · have Hd : Hid (cmpR a b = -1) := Lib.hid (by rw [hd, if_pos h])
        clear hd
        go_wp2_with fail
        go_ret
        exact ⟨ret_int Hd.out.symm, rfl⟩
      · have Hd : Hid (cmpR a b = 0) := Lib.hid (by rw [hd, if_neg h])
        clear hd
        go_wp2_with fail
        go_ret
        exact ⟨ret_int Hd.out.symm, rfl⟩
theorem compare_any {B1 B2 : Nat} {S1 S2 : Nat → Prop} {w : World} {v1 v2 : Value} {a b : List Int} (h1 : Ints B1 S1 w v1 a) (h2 : Ints B2 S2 w v2 b) :
    Calls Try.prog 126 #[v1, v2] w fun e w' => e = .returned (.int .i64 (cmpR a b)) ∧ Ext w w' :=
  (compare_eq h1 h2).mono fun _ _ ⟨he, hw⟩ => ⟨he, by rw [hw]; exact Below.refl _ _⟩
end Go.Proofs.Ytocndkhgopjhhaa
