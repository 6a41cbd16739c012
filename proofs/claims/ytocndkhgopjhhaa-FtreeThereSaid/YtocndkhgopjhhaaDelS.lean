/- slices.Delete at texts: one of them, off a row of the call's own. -/
import Derived.Test.YtocndkhgopjhhaaProg
import Derived.Test.YtocndkhgopjhhaaDelN
namespace Go.Proofs.Ytocndkhgopjhhaa
open Go.RowKit

theorem zeroS_any (w : World) : (zeroValue 9).run Try.prog w = .ok (.string { data := #[] }) w := by kernel_rfl
theorem zeroS_one : (Builtin.zeroCells (Value.string { data := #[] }).cells 1).toList = [.string { data := #[] }] := by kernel_rfl

set_option maxRecDepth 100000 in
set_option maxHeartbeats 2000000 in
theorem deleteS_any {w : World} {base : Nat} {v : Value} {n i : Nat} {xs : List Value} (hown : w.ownsRow base 9 1 v n xs) (hi : i < n) (h1 : ∀ u ∈ xs, u.oneCell' = true) :
    Calls Try.prog 103 #[v, .int .i64 i, .int .i64 ((i : Int) + 1)] w (DelPost base 9 1 n v (xs.take (i) ++ xs.drop ((i + 1))) w) := by
  obtain ⟨g, cap, cur, rfl, hbg, hgl, hg, hnc, hc63, hcs, hcx, hxl⟩ := own_parts hown (by omega)
  rw [Nat.mul_one] at hcs hcx hxl
  obtain ⟨i0, hi0, hz0, hz1, hz2⟩ := info_parts string_info
  have hwd : w.drew.heap[g]? = some (.cells cur 9 (0, 0)) := hg
  have hct : cur.toList.length = cap := by rw [Array.length_toList, hcs]
  have hdl : (xs.drop ((i + 1))).length = (n - (i + 1)) := by rw [List.length_drop, hxl]
  obtain ⟨a1, ha1⟩ : ∃ a1, a1 = (cur.toList.take (i) ++ xs.drop ((i + 1)) ++ cur.toList.drop (i + (xs.drop ((i + 1))).length)).toArray := ⟨_, rfl⟩
  have hcell : ∀ j v, (xs.drop ((i + 1)))[j]? = some v → w.cell? ⟨g, (i + 1) + j, none⟩ = some v := fun j v hj => by
    rw [List.getElem?_drop, ← hcx, List.getElem?_take] at hj
    split at hj
    · simp only [World.cell?, hg]; simpa using hj
    · cases hj
  have hsum : i + (n - (i + 1)) = n - 1 := by omega
  have hap : ∀ ty a dc, (a = (⟨g, (i + 1), none⟩ : Addr) ∨ n = i + 1) → (Builtin.append_ #[22, 22] ty #[.slice (some ⟨g, 0, none⟩) i cap, .slice (some a) (n - (i + 1)) dc]).run Try.prog w.drew = .ok (.slice (some ⟨g, 0, none⟩) (n - 1) cap) (w.drew.setRow g a1) := fun ty a dc ha => by
    have h := run_append_room (P := Try.prog) w.drew 22 ty 9 i0 Try.underlying22 hi0 g i cap cur hwd a (n - (i + 1)) dc (xs.drop ((i + 1))) (by rw [hdl, hz1, Nat.mul_one]) (fun j v hj => by
      rcases ha with rfl | ha
      · have h := hcell j v hj
        have e : (⟨g, (i + 1), none⟩ : Addr).add j = ⟨g, (i + 1) + j, none⟩ := by unfold Addr.add; split <;> simp_all
        rw [e]; exact h
      · have := (List.getElem?_eq_some_iff.1 hj).1
        rw [hdl, ha] at this; simp at this) (fun v hv => h1 v (List.mem_of_mem_drop hv)) (by omega) (by rw [hdl, hz1, hcs]; omega)
    rw [hsum, hz1, Nat.mul_one] at h
    rw [h, ha1]
  have ha1z : a1.size = cap := by
    rw [ha1]; simp only [List.size_toArray, List.length_append, List.length_take, List.length_drop, hct, hxl]; omega
  obtain ⟨a2, ha2⟩ : ∃ a2, a2 = (a1.toList.take ((n - 1)) ++ [Value.string { data := #[] }] ++ a1.toList.drop ((n - 1) + 1)).toArray := ⟨_, rfl⟩
  have hcl : ∀ (W : World), W.heap = (w.drew.setRow g a1).heap → ∀ ty c, (Builtin.clear_ #[22] ty #[.slice (some ⟨g, (n - 1), none⟩) 1 c]).run Try.prog W = .ok (.tuple #[]) (W.setRow g a2) := fun W hW ty c => by
    rw [ha2]
    exact run_clear_one W 22 9 ty _ _ Try.underlying22 zeroS_any zeroS_one (by simp [Value.oneCell']) g ((n - 1)) c a1 9 (by rw [hW]; exact setRow_heap _ _ _ _ _ _ hwd) (by rw [ha1z]; simp; omega)
  have HO2 : Hid (∀ (W : World), W.heap = ((w.drew.setRow g a1).setRow g a2).heap → W.os = w.os → W.tape = w.tape → W.output = w.output →
      W.ownsRow base 9 1 (.slice (some ⟨g, 0, none⟩) (n - 1) cap) (n - 1) (xs.take (i) ++ xs.drop ((i + 1))) ∧ w.grownBy W (some g)) := by
    refine Lib.hid fun W hW ho ht hp => ⟨⟨?_, .inr ⟨g, cap, a2, rfl, hbg, ?_, by omega, by unfold maxLen; omega, ?_, ?_⟩⟩, ⟨ho, ht, hp, ?_, fun k hk hne2 => ?_⟩⟩
    · simp only [List.length_append, List.length_take, List.length_drop, hxl]; omega
    · rw [hW]; exact setRow_heap _ _ _ _ _ _ (setRow_heap _ _ _ _ _ _ hwd)
    · rw [ha2]; simp only [List.size_toArray, List.length_append, List.length_take, List.length_drop, Array.length_toList, ha1z, List.length_cons, List.length_nil]; omega
    · have := del_list (cur := cur.toList) (xs := xs) (zs := [Value.string { data := #[] }]) (o := i) (k := 1) (n := n) rfl hcx hxl (by omega) (by rw [hct]; omega)
      rw [ha2, ha1]
      simp only [List.length_cons, List.length_nil] at this
      have e1 : (i + 1) = i + 1 := by omega
      have e2 : (n - 1) = n - 1 := by omega
      rw [Nat.mul_one]
      exact this
    · rw [hW]; simp
    · have : k ≠ g := fun e => hne2 (by rw [e])
      rw [hW, setRow_other _ _ _ _ this, setRow_other _ _ _ _ this]; rfl
  have HAP := Lib.hid hap
  have HCL := Lib.hid hcl
  have hw1 : IntKind.i64.wrap ((i : Int) + 1) = (i : Int) + 1 := by rw [IntKind.wrap_i64]; omega
  have g1 : (0 : Int) ≤ (i : Int) := by omega
  have g2 : (0 : Int) ≤ (i : Int) + 1 := by omega
  have g3 : ((i : Int) + 1).toNat = i + 1 := by omega
  have g5 : ¬ (cap = i) := by omega
  have g6 : (i : Int) ≤ (n : Int) := by omega
  have g7 : (i : Int) + 1 ≤ (n : Int) := by omega
  have g8 : ¬ ((i : Int) = (i : Int) + 1) := by omega
  have g9 : n - (n - 1) = 1 := by omega
  have g10 : ¬ (cap = n - 1) := by omega
  have g11 : n - 1 ≤ n := by omega
  have g12 : (i : Int) ≤ (cap : Int) := by omega
  have g13 : (i : Int) + 1 ≤ (cap : Int) := by omega
  clear hct hdl hcell hap hcl ha1 ha2 ha1z hwd hown hg hcx hxl hcs hi0 hz0 hz1 hz2 hsum
  by_cases hci : cap = i + 1
  · obtain rfl : n = i + 1 := by omega
    subst hci
    have hz : ∀ ty, (Builtin.append_ #[22, 22] ty #[.slice (some ⟨g, 0, none⟩) i (i + 1), .slice (some ⟨g, 0, none⟩) 0 0]).run Try.prog w.drew = .ok (.slice (some ⟨g, 0, none⟩) i (i + 1)) (w.drew.setRow g a1) := fun ty => by
      have := HAP.out ty ⟨g, 0, none⟩ 0 (.inr rfl)
      simpa using this
    have hc : ∀ (W : World), W.heap = (w.drew.setRow g a1).heap → ∀ ty c, (Builtin.clear_ #[22] ty #[.slice (some ⟨g, i, none⟩) 1 c]).run Try.prog W = .ok (.tuple #[]) (W.setRow g a2) := HCL.out
    have HZ := Lib.hid hz
    have HC := Lib.hid hc
    clear HAP HCL hz hc g5 g8 g9 g10 g11
    have g14 : ¬ ((i : Int) = (i : Int) + 1) := by omega
    have g15 : ¬ (i + 1 = i) := by omega
    have g16 : (i : Int) ≤ (i : Int) + 1 := by omega
    go_enter Try.func103, Try.ntmps103
    go_wp2_with fail
    go_region_law (refine step_append_run rfl (.tmp 22) (.tmp 25) 22 22 rfl (.slice (some ⟨g, 0, none⟩) i (i + 1)) (.slice (some ⟨g, 0, none⟩) 0 0) (by simp [Act.eval, Act.put]) (by simp [Act.eval, Act.put]) (HZ.out 22) ?_)
    go_wp2_with (refine wpList_clear_run _ rfl (.tmp 31) 22 rfl (.slice (some ⟨g, i, none⟩) 1 1) rfl (HC.out _ (by exact rfl) _ _) ?_)
    go_ret
    obtain ⟨q1, q2⟩ := HO2.out ((w.drew.setRow g a1).setRow g a2) rfl rfl rfl rfl
    exact ⟨_, _, rfl, q1, q2, rfl⟩
  · have g14 : ¬ ((i : Int) = (i : Int) + 1) := by omega
    go_enter Try.func103, Try.ntmps103
    go_wp2_with fail
    go_region_law (refine step_append_run rfl (.tmp 22) (.tmp 25) 22 22 rfl (.slice (some ⟨g, 0, none⟩) i cap) (.slice (some ⟨g, (i + 1), none⟩) (n - (i + 1)) (cap - (i + 1))) (by simp [Act.eval, Act.put]) (by simp [Act.eval, Act.put]) (HAP.out 22 _ (cap - (i + 1)) (.inl rfl)) ?_)
    have k1 : ((n - 1 : Nat) : Int) = (n : Int) - 1 := by omega
    have k2 : (0 : Int) ≤ (n : Int) - 1 := by omega
    go_wp2_with (refine wpList_clear_run _ rfl (.tmp 31) 22 rfl (.slice (some ⟨g, (n - 1), none⟩) 1 (cap - (n - 1))) rfl (HCL.out _ (by exact rfl) _ _) ?_)
    go_ret
    obtain ⟨q1, q2⟩ := HO2.out ((w.drew.setRow g a1).setRow g a2) rfl rfl rfl rfl
    exact ⟨_, _, rfl, q1, q2, rfl⟩
end Go.Proofs.Ytocndkhgopjhhaa
