import Derived.Test.YtocndkhgopjhhaaProg
import Derived.Test.YtocndkhgopjhhaaBase
namespace Go.Proofs.Ytocndkhgopjhhaa
open Go.RowKit

set_option maxHeartbeats 400000 in
theorem text7_any (s : ByteArray) (w : World) (hs : s.size ≤ maxLen) :
    Calls Try.prog 81 #[.string s] w fun e w' => e = .returned (.bool (textB s)) ∧ w' = w := by
  unfold maxLen at hs
  go_enter Try.func81, Try.ntmps81
  go_wp2_with fail
  go_loop [3] (fun i => ∃ j : Nat, j ≤ s.size ∧ i = .int .i64 j ∧ (s.data.toList.drop j).any (· == 0) = hasNul s) (fun i => s.size - (intOf i).toNat)
  case atStart => exact ⟨0, Nat.zero_le _, rfl, rfl⟩
  case round =>
    obtain ⟨j, hj, rfl, hy⟩ := hrel
    by_cases hlt : j < s.size
    · rw [any_drop s j hlt] at hy
      by_cases h0 : s[j] = 0
      · have Hy : Hid (hasNul s = true) := by unfold Hid; rw [← hy, h0]; rfl
        clear hy
        have h0' : ((s[j].toNat : Int) == 0) = true := by rw [h0]; rfl
        clear h0
        go_wp2_with fail
        go_ret
        exact ⟨ret_bool (by rw [textB, Hy.out]; rfl), rfl⟩
      · have Hy : Hid ((s.data.toList.drop (j + 1)).any (· == 0) = hasNul s) := by unfold Hid; rw [← hy]; simp [h0]
        clear hy
        have h0' : ((s[j].toNat : Int) == 0) = false := by
          rw [beq_eq_false_iff_ne]; intro h; exact h0 (UInt8.toNat_inj.1 (by simpa using h))
        clear h0
        go_wp2_with fail
        go_round
        case rel => exact ⟨j + 1, by omega, by go_num, Hy.out⟩
        case measure => simp [intOf]; omega
    · rw [any_drop_end s j hlt] at hy
      have Hy := Lib.hid hy
      clear hy
      go_wp2_with fail
      go_ret
      exact ⟨ret_bool (by rw [textB, ← Hy.out]; simp), rfl⟩

set_option maxHeartbeats 1000000 in
theorem name6_any (s : ByteArray) (w : World) (hs : s.size ≤ maxLen) :
    Calls Try.prog 82 #[.string s] w fun e w' => e = .returned (.bool (nameB s)) ∧ w' = w := by
  unfold maxLen at hs
  by_cases e1 : s.toList = []
  · go_enter Try.func82, Try.ntmps82
    go_wp2_with fail
    go_ret
    exact ⟨ret_bool (by simp [nameB, e1]), rfl⟩
  by_cases e2 : 64 < (s.size : Int)
  · go_enter Try.func82, Try.ntmps82
    go_wp2_with fail
    go_ret
    exact ⟨ret_bool (by simp [nameB, e2]), rfl⟩
  by_cases e3 : s.toList = [46]
  · go_enter Try.func82, Try.ntmps82
    go_wp2_with fail
    go_ret
    exact ⟨ret_bool (by simp [nameB, e3]), rfl⟩
  by_cases e4 : s.toList = [46, 46]
  · go_enter Try.func82, Try.ntmps82
    go_wp2_with fail
    go_ret
    exact ⟨ret_bool (by simp [nameB, e4]), rfl⟩
  have hN : nameB s = !hasBad s := by simp [nameB, e1, e2, e3, e4]
  have HN := Lib.hid hN
  clear hN
  have f1 : s.toList.isEmpty = false := by simpa using e1
  have f3 : (s.toList == [46]) = false := by simpa using e3
  have f4 : (s.toList == [46, 46]) = false := by simpa using e4
  go_enter Try.func82, Try.ntmps82
  go_wp2_with fail
  go_loop [3] (fun i => ∃ j : Nat, j ≤ s.size ∧ i = .int .i64 j ∧ (s.data.toList.drop j).any badB = hasBad s) (fun i => s.size - (intOf i).toNat)
  case atStart => exact ⟨0, Nat.zero_le _, rfl, rfl⟩
  case round =>
    obtain ⟨j, hj, rfl, hy⟩ := hrel
    by_cases hlt : j < s.size
    · rw [any_drop s j hlt] at hy
      rw [badB_int] at hy
      cases b0 : ((s[j].toNat : Int) == 0)
      · cases b1 : ((s[j].toNat : Int) == 47)
        · cases b2 : ((s[j].toNat : Int) == 10)
          · have Hy : Hid ((s.data.toList.drop (j + 1)).any badB = hasBad s) := by unfold Hid; rw [← hy, b0, b1, b2]; rfl
            clear hy
            go_wp2_with fail
            go_round
            case rel => exact ⟨j + 1, by omega, by go_num, Hy.out⟩
            case measure => simp [intOf]; omega
          · have Hy : Hid (hasBad s = true) := by unfold Hid; rw [← hy, b0, b1, b2]; rfl
            clear hy
            go_wp2_with fail
            go_ret
            exact ⟨ret_bool (by rw [HN.out, Hy.out]; rfl), rfl⟩
        · have Hy : Hid (hasBad s = true) := by unfold Hid; rw [← hy, b0, b1]; rfl
          clear hy
          go_wp2_with fail
          go_ret
          exact ⟨ret_bool (by rw [HN.out, Hy.out]; rfl), rfl⟩
      · have Hy : Hid (hasBad s = true) := by unfold Hid; rw [← hy, b0]; rfl
        clear hy
        go_wp2_with fail
        go_ret
        exact ⟨ret_bool (by rw [HN.out, Hy.out]; rfl), rfl⟩
    · rw [any_drop_end s j hlt] at hy
      have Hy := Lib.hid hy
      clear hy
      go_wp2_with fail
      go_ret
      exact ⟨ret_bool (by rw [HN.out, ← Hy.out]; rfl), rfl⟩
end Go.Proofs.Ytocndkhgopjhhaa
