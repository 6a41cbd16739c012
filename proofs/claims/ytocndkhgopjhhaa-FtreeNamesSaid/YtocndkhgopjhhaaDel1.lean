/- slices.Delete at nodes: one of them, off a row of the call's own. -/
import Derived.Test.YtocndkhgopjhhaaProg
import Derived.Test.YtocndkhgopjhhaaInsN
import Derived.Test.YtocndkhgopjhhaaSet1
import Derived.Outline
namespace Go.Proofs.Ytocndkhgopjhhaa
open Go.RowKit

/-- What a deletion off a row comes to: n elements less one, the cells res; in its place. -/
def DelPost (base : Nat) (t : TypeId) (size n : Nat) (v : Value) (res : List Value) (w : World) (e : Ending) (w' : World) : Prop :=
  ∃ A c, e = .returned (.slice A (n - 1) c) ∧ w'.ownsRow base t size (.slice A (n - 1) c) (n - 1) res ∧ w.grownBy w' v.ownBlock ∧ (Value.slice A (n - 1) c).ownBlock = v.ownBlock

theorem zeroN_any (w : World) : (zeroValue 25).run Try.prog w = .ok (.agg #[.int .u8 0, .string { data := #[] }, .slice none 0 0, .slice none 0 0]) w := by kernel_rfl
theorem zeroN_one : (Builtin.zeroCells (Value.agg #[.int .u8 0, .string { data := #[] }, .slice none 0 0, .slice none 0 0]).cells 1).toList = [.int .u8 0, .string { data := #[] }, .slice none 0 0, .slice none 0 0] := by kernel_rfl

set_option maxRecDepth 100000 in
set_option maxHeartbeats 2000000 in
theorem deleteN_any {w : World} {base : Nat} {v : Value} {n i : Nat} {xs : List Value} (hown : w.ownsRow base 25 4 v n xs) (hi : i < n) (h1 : ∀ u ∈ xs, u.oneCell' = true) :
    Calls Try.prog 105 #[v, .int .i64 i, .int .i64 ((i : Int) + 1)] w (DelPost base 25 4 n v (xs.take (i * 4) ++ xs.drop ((i + 1) * 4)) w) := by
  obtain ⟨g, cap, cur, rfl, hbg, hgl, hg, hnc, hc63, hcs, hcx, hxl⟩ := own_parts hown (by omega)
  obtain ⟨i0, hi0, hz0, hz1, hz2⟩ := info_parts node_info
  have hwd : w.drew.heap[g]? = some (.cells cur 25 (0, 0)) := hg
  have hct : cur.toList.length = cap * 4 := by rw [Array.length_toList, hcs]
  have hdl : (xs.drop ((i + 1) * 4)).length = (n - (i + 1)) * 4 := by rw [List.length_drop, hxl, Nat.sub_mul]
  obtain ⟨a1, ha1⟩ : ∃ a1, a1 = (cur.toList.take (i * 4) ++ xs.drop ((i + 1) * 4) ++ cur.toList.drop (i * 4 + (xs.drop ((i + 1) * 4)).length)).toArray := ⟨_, rfl⟩
  have hcell : ∀ j v, (xs.drop ((i + 1) * 4))[j]? = some v → w.cell? ⟨g, (i + 1) * 4 + j, none⟩ = some v := fun j v hj => by
    rw [List.getElem?_drop, ← hcx, List.getElem?_take] at hj
    split at hj
    · simp only [World.cell?, hg]; simpa using hj
    · cases hj
  have hsum : i + (n - (i + 1)) = n - 1 := by omega
  have hap : ∀ ty a dc, (a = (⟨g, (i + 1) * 4, none⟩ : Addr) ∨ n = i + 1) → (Builtin.append_ #[23, 23] ty #[.slice (some ⟨g, 0, none⟩) i cap, .slice (some a) (n - (i + 1)) dc]).run Try.prog w.drew = .ok (.slice (some ⟨g, 0, none⟩) (n - 1) cap) (w.drew.setRow g a1) := fun ty a dc ha => by
    have h := run_append_room (P := Try.prog) w.drew 23 ty 25 i0 Try.underlying23 hi0 g i cap cur hwd a (n - (i + 1)) dc (xs.drop ((i + 1) * 4)) (by rw [hdl, hz1]) (fun j v hj => by
      rcases ha with rfl | ha
      · have h := hcell j v hj
        have e : (⟨g, (i + 1) * 4, none⟩ : Addr).add j = ⟨g, (i + 1) * 4 + j, none⟩ := by unfold Addr.add; split <;> simp_all
        rw [e]; exact h
      · have := (List.getElem?_eq_some_iff.1 hj).1
        rw [hdl, ha] at this; simp at this) (fun v hv => h1 v (List.mem_of_mem_drop hv)) (by omega) (by rw [hdl, hz1, hcs]; omega)
    rw [hsum, hz1] at h
    rw [h, ha1]
  have ha1z : a1.size = cap * 4 := by
    rw [ha1]; simp only [List.size_toArray, List.length_append, List.length_take, List.length_drop, hct, hxl]; omega
  obtain ⟨a2, ha2⟩ : ∃ a2, a2 = (a1.toList.take ((n - 1) * 4) ++ [Value.int .u8 0, .string { data := #[] }, .slice none 0 0, .slice none 0 0] ++ a1.toList.drop ((n - 1) * 4 + 4)).toArray := ⟨_, rfl⟩
  have hcl : ∀ (W : World), W.heap = (w.drew.setRow g a1).heap → ∀ ty c, (Builtin.clear_ #[23] ty #[.slice (some ⟨g, (n - 1) * 4, none⟩) 1 c]).run Try.prog W = .ok (.tuple #[]) (W.setRow g a2) := fun W hW ty c => by
    rw [ha2]
    exact run_clear_one W 23 25 ty _ _ Try.underlying23 zeroN_any zeroN_one (by simp [Value.oneCell']) g ((n - 1) * 4) c a1 25 (by rw [hW]; exact setRow_heap _ _ _ _ _ _ hwd) (by rw [ha1z]; simp; omega)
  have HO2 : Hid (∀ (W : World), W.heap = ((w.drew.setRow g a1).setRow g a2).heap → W.os = w.os → W.tape = w.tape → W.output = w.output →
      W.ownsRow base 25 4 (.slice (some ⟨g, 0, none⟩) (n - 1) cap) (n - 1) (xs.take (i * 4) ++ xs.drop ((i + 1) * 4)) ∧ w.grownBy W (some g)) := by
    refine Lib.hid fun W hW ho ht hp => ⟨⟨?_, .inr ⟨g, cap, a2, rfl, hbg, ?_, by omega, by unfold maxLen; omega, ?_, ?_⟩⟩, ⟨ho, ht, hp, ?_, fun k hk hne2 => ?_⟩⟩
    · simp only [List.length_append, List.length_take, List.length_drop, hxl]; omega
    · rw [hW]; exact setRow_heap _ _ _ _ _ _ (setRow_heap _ _ _ _ _ _ hwd)
    · rw [ha2]; simp only [List.size_toArray, List.length_append, List.length_take, List.length_drop, Array.length_toList, ha1z, List.length_cons, List.length_nil]; omega
    · have := del_list (cur := cur.toList) (xs := xs) (zs := [Value.int .u8 0, .string { data := #[] }, .slice none 0 0, .slice none 0 0]) (o := i * 4) (k := 4) (n := n * 4) rfl hcx hxl (by omega) (by rw [hct]; omega)
      rw [ha2, ha1]
      simp only [List.length_cons, List.length_nil] at this
      have e1 : (i + 1) * 4 = i * 4 + 4 := by omega
      have e2 : (n - 1) * 4 = n * 4 - 4 := by omega
      rw [e1, e2]
      exact this
    · rw [hW]; simp
    · have : k ≠ g := fun e => hne2 (by rw [e])
      rw [hW, setRow_other _ _ _ _ this, setRow_other _ _ _ _ this]; rfl
  have HAP := Lib.hid hap
  have HCL := Lib.hid hcl
  have hw1 : IntKind.i64.wrap ((i : Int) + 1) = (i : Int) + 1 := by rw [IntKind.wrap_i64]; omega
  have g1 : (0 : Int) ≤ (i : Int) := by omega
  have g2 : (0 : Int) ≤ (i : Int) + 1 := by omega
  have g3 : ((i : Int) + 1).toNat = i + 1 := by omega
  have g5 : ¬ (cap = i) := by omega
  have g6 : (i : Int) ≤ (n : Int) := by omega
  have g7 : (i : Int) + 1 ≤ (n : Int) := by omega
  have g8 : ¬ ((i : Int) = (i : Int) + 1) := by omega
  have g9 : n - (n - 1) = 1 := by omega
  have g10 : ¬ (cap = n - 1) := by omega
  have g11 : n - 1 ≤ n := by omega
  have g12 : (i : Int) ≤ (cap : Int) := by omega
  have g13 : (i : Int) + 1 ≤ (cap : Int) := by omega
  clear hct hdl hcell hap hcl ha1 ha2 ha1z hwd hown hg hcx hxl hcs hi0 hz0 hz1 hz2 hsum
  by_cases hci : cap = i + 1
  · obtain rfl : n = i + 1 := by omega
    subst hci
    have hz : ∀ ty, (Builtin.append_ #[23, 23] ty #[.slice (some ⟨g, 0, none⟩) i (i + 1), .slice (some ⟨g, 0, none⟩) 0 0]).run Try.prog w.drew = .ok (.slice (some ⟨g, 0, none⟩) i (i + 1)) (w.drew.setRow g a1) := fun ty => by
      have := HAP.out ty ⟨g, 0, none⟩ 0 (.inr rfl)
      simpa using this
    have hc : ∀ (W : World), W.heap = (w.drew.setRow g a1).heap → ∀ ty c, (Builtin.clear_ #[23] ty #[.slice (some ⟨g, i * 4, none⟩) 1 c]).run Try.prog W = .ok (.tuple #[]) (W.setRow g a2) := HCL.out
    have HZ := Lib.hid hz
    have HC := Lib.hid hc
    clear HAP HCL hz hc g5 g8 g9 g10 g11
    have g14 : ¬ ((i : Int) = (i : Int) + 1) := by omega
    have g15 : ¬ (i + 1 = i) := by omega
    have g16 : (i : Int) ≤ (i : Int) + 1 := by omega
    go_enter Try.func105, Try.ntmps105
    go_wp2_with fail
    go_region_law (refine step_append_run rfl (.tmp 22) (.tmp 25) 23 23 rfl (.slice (some ⟨g, 0, none⟩) i (i + 1)) (.slice (some ⟨g, 0, none⟩) 0 0) (by simp [Act.eval, Act.put]) (by simp [Act.eval, Act.put]) (HZ.out 23) ?_)
    go_wp2_with (refine wpList_clear_run _ rfl (.tmp 31) 23 rfl (.slice (some ⟨g, i * 4, none⟩) 1 1) rfl (HC.out _ (by exact rfl) _ _) ?_)
    go_ret
    obtain ⟨q1, q2⟩ := HO2.out ((w.drew.setRow g a1).setRow g a2) rfl rfl rfl rfl
    exact ⟨_, _, rfl, q1, q2, rfl⟩
  · have g14 : ¬ ((i : Int) = (i : Int) + 1) := by omega
    go_enter Try.func105, Try.ntmps105
    go_wp2_with fail
    go_region_law (refine step_append_run rfl (.tmp 22) (.tmp 25) 23 23 rfl (.slice (some ⟨g, 0, none⟩) i cap) (.slice (some ⟨g, (i + 1) * 4, none⟩) (n - (i + 1)) (cap - (i + 1))) (by simp [Act.eval, Act.put]) (by simp [Act.eval, Act.put]) (HAP.out 23 _ (cap - (i + 1)) (.inl rfl)) ?_)
    have k1 : ((n - 1 : Nat) : Int) = (n : Int) - 1 := by omega
    have k2 : (0 : Int) ≤ (n : Int) - 1 := by omega
    go_wp2_with (refine wpList_clear_run _ rfl (.tmp 31) 23 rfl (.slice (some ⟨g, (n - 1) * 4, none⟩) 1 (cap - (n - 1))) rfl (HCL.out _ (by exact rfl) _ _) ?_)
    go_ret
    obtain ⟨q1, q2⟩ := HO2.out ((w.drew.setRow g a1).setRow g a2) rfl rfl rfl rfl
    exact ⟨_, _, rfl, q1, q2, rfl⟩
end Go.Proofs.Ytocndkhgopjhhaa
/- slices.Delete at texts: one of them, off a row of the call's own. -/
namespace Go.Proofs.Ytocndkhgopjhhaa
open Go.RowKit

theorem zeroS_any (w : World) : (zeroValue 9).run Try.prog w = .ok (.string { data := #[] }) w := by kernel_rfl
theorem zeroS_one : (Builtin.zeroCells (Value.string { data := #[] }).cells 1).toList = [.string { data := #[] }] := by kernel_rfl

set_option maxRecDepth 100000 in
set_option maxHeartbeats 2000000 in
theorem deleteS_any {w : World} {base : Nat} {v : Value} {n i : Nat} {xs : List Value} (hown : w.ownsRow base 9 1 v n xs) (hi : i < n) (h1 : ∀ u ∈ xs, u.oneCell' = true) :
    Calls Try.prog 103 #[v, .int .i64 i, .int .i64 ((i : Int) + 1)] w (DelPost base 9 1 n v (xs.take (i) ++ xs.drop ((i + 1))) w) := by
  obtain ⟨g, cap, cur, rfl, hbg, hgl, hg, hnc, hc63, hcs, hcx, hxl⟩ := own_parts hown (by omega)
  rw [Nat.mul_one] at hcs hcx hxl
  obtain ⟨i0, hi0, hz0, hz1, hz2⟩ := info_parts string_info
  have hwd : w.drew.heap[g]? = some (.cells cur 9 (0, 0)) := hg
  have hct : cur.toList.length = cap := by rw [Array.length_toList, hcs]
  have hdl : (xs.drop ((i + 1))).length = (n - (i + 1)) := by rw [List.length_drop, hxl]
  obtain ⟨a1, ha1⟩ : ∃ a1, a1 = (cur.toList.take (i) ++ xs.drop ((i + 1)) ++ cur.toList.drop (i + (xs.drop ((i + 1))).length)).toArray := ⟨_, rfl⟩
  have hcell : ∀ j v, (xs.drop ((i + 1)))[j]? = some v → w.cell? ⟨g, (i + 1) + j, none⟩ = some v := fun j v hj => by
    rw [List.getElem?_drop, ← hcx, List.getElem?_take] at hj
    split at hj
    · simp only [World.cell?, hg]; simpa using hj
    · cases hj
  have hsum : i + (n - (i + 1)) = n - 1 := by omega
  have hap : ∀ ty a dc, (a = (⟨g, (i + 1), none⟩ : Addr) ∨ n = i + 1) → (Builtin.append_ #[22, 22] ty #[.slice (some ⟨g, 0, none⟩) i cap, .slice (some a) (n - (i + 1)) dc]).run Try.prog w.drew = .ok (.slice (some ⟨g, 0, none⟩) (n - 1) cap) (w.drew.setRow g a1) := fun ty a dc ha => by
    have h := run_append_room (P := Try.prog) w.drew 22 ty 9 i0 Try.underlying22 hi0 g i cap cur hwd a (n - (i + 1)) dc (xs.drop ((i + 1))) (by rw [hdl, hz1, Nat.mul_one]) (fun j v hj => by
      rcases ha with rfl | ha
      · have h := hcell j v hj
        have e : (⟨g, (i + 1), none⟩ : Addr).add j = ⟨g, (i + 1) + j, none⟩ := by unfold Addr.add; split <;> simp_all
        rw [e]; exact h
      · have := (List.getElem?_eq_some_iff.1 hj).1
        rw [hdl, ha] at this; simp at this) (fun v hv => h1 v (List.mem_of_mem_drop hv)) (by omega) (by rw [hdl, hz1, hcs]; omega)
    rw [hsum, hz1, Nat.mul_one] at h
    rw [h, ha1]
  have ha1z : a1.size = cap := by
    rw [ha1]; simp only [List.size_toArray, List.length_append, List.length_take, List.length_drop, hct, hxl]; omega
  obtain ⟨a2, ha2⟩ : ∃ a2, a2 = (a1.toList.take ((n - 1)) ++ [Value.string { data := #[] }] ++ a1.toList.drop ((n - 1) + 1)).toArray := ⟨_, rfl⟩
  have hcl : ∀ (W : World), W.heap = (w.drew.setRow g a1).heap → ∀ ty c, (Builtin.clear_ #[22] ty #[.slice (some ⟨g, (n - 1), none⟩) 1 c]).run Try.prog W = .ok (.tuple #[]) (W.setRow g a2) := fun W hW ty c => by
    rw [ha2]
    exact run_clear_one W 22 9 ty _ _ Try.underlying22 zeroS_any zeroS_one (by simp [Value.oneCell']) g ((n - 1)) c a1 9 (by rw [hW]; exact setRow_heap _ _ _ _ _ _ hwd) (by rw [ha1z]; simp; omega)
  have HO2 : Hid (∀ (W : World), W.heap = ((w.drew.setRow g a1).setRow g a2).heap → W.os = w.os → W.tape = w.tape → W.output = w.output →
      W.ownsRow base 9 1 (.slice (some ⟨g, 0, none⟩) (n - 1) cap) (n - 1) (xs.take (i) ++ xs.drop ((i + 1))) ∧ w.grownBy W (some g)) := by
    refine Lib.hid fun W hW ho ht hp => ⟨⟨?_, .inr ⟨g, cap, a2, rfl, hbg, ?_, by omega, by unfold maxLen; omega, ?_, ?_⟩⟩, ⟨ho, ht, hp, ?_, fun k hk hne2 => ?_⟩⟩
    · simp only [List.length_append, List.length_take, List.length_drop, hxl]; omega
    · rw [hW]; exact setRow_heap _ _ _ _ _ _ (setRow_heap _ _ _ _ _ _ hwd)
    · rw [ha2]; simp only [List.size_toArray, List.length_append, List.length_take, List.length_drop, Array.length_toList, ha1z, List.length_cons, List.length_nil]; omega
    · have := del_list (cur := cur.toList) (xs := xs) (zs := [Value.string { data := #[] }]) (o := i) (k := 1) (n := n) rfl hcx hxl (by omega) (by rw [hct]; omega)
      rw [ha2, ha1]
      simp only [List.length_cons, List.length_nil] at this
      have e1 : (i + 1) = i + 1 := by omega
      have e2 : (n - 1) = n - 1 := by omega
      rw [Nat.mul_one]
      exact this
    · rw [hW]; simp
    · have : k ≠ g := fun e => hne2 (by rw [e])
      rw [hW, setRow_other _ _ _ _ this, setRow_other _ _ _ _ this]; rfl
  have HAP := Lib.hid hap
  have HCL := Lib.hid hcl
  have hw1 : IntKind.i64.wrap ((i : Int) + 1) = (i : Int) + 1 := by rw [IntKind.wrap_i64]; omega
  have g1 : (0 : Int) ≤ (i : Int) := by omega
  have g2 : (0 : Int) ≤ (i : Int) + 1 := by omega
  have g3 : ((i : Int) + 1).toNat = i + 1 := by omega
  have g5 : ¬ (cap = i) := by omega
  have g6 : (i : Int) ≤ (n : Int) := by omega
  have g7 : (i : Int) + 1 ≤ (n : Int) := by omega
  have g8 : ¬ ((i : Int) = (i : Int) + 1) := by omega
  have g9 : n - (n - 1) = 1 := by omega
  have g10 : ¬ (cap = n - 1) := by omega
  have g11 : n - 1 ≤ n := by omega
  have g12 : (i : Int) ≤ (cap : Int) := by omega
  have g13 : (i : Int) + 1 ≤ (cap : Int) := by omega
  clear hct hdl hcell hap hcl ha1 ha2 ha1z hwd hown hg hcx hxl hcs hi0 hz0 hz1 hz2 hsum
  by_cases hci : cap = i + 1
  · obtain rfl : n = i + 1 := by omega
    subst hci
    have hz : ∀ ty, (Builtin.append_ #[22, 22] ty #[.slice (some ⟨g, 0, none⟩) i (i + 1), .slice (some ⟨g, 0, none⟩) 0 0]).run Try.prog w.drew = .ok (.slice (some ⟨g, 0, none⟩) i (i + 1)) (w.drew.setRow g a1) := fun ty => by
      have := HAP.out ty ⟨g, 0, none⟩ 0 (.inr rfl)
      simpa using this
    have hc : ∀ (W : World), W.heap = (w.drew.setRow g a1).heap → ∀ ty c, (Builtin.clear_ #[22] ty #[.slice (some ⟨g, i, none⟩) 1 c]).run Try.prog W = .ok (.tuple #[]) (W.setRow g a2) := HCL.out
    have HZ := Lib.hid hz
    have HC := Lib.hid hc
    clear HAP HCL hz hc g5 g8 g9 g10 g11
    have g14 : ¬ ((i : Int) = (i : Int) + 1) := by omega
    have g15 : ¬ (i + 1 = i) := by omega
    have g16 : (i : Int) ≤ (i : Int) + 1 := by omega
    go_enter Try.func103, Try.ntmps103
    go_wp2_with fail
    go_region_law (refine step_append_run rfl (.tmp 22) (.tmp 25) 22 22 rfl (.slice (some ⟨g, 0, none⟩) i (i + 1)) (.slice (some ⟨g, 0, none⟩) 0 0) (by simp [Act.eval, Act.put]) (by simp [Act.eval, Act.put]) (HZ.out 22) ?_)
    go_wp2_with (refine wpList_clear_run _ rfl (.tmp 31) 22 rfl (.slice (some ⟨g, i, none⟩) 1 1) rfl (HC.out _ (by exact rfl) _ _) ?_)
    go_ret
    obtain ⟨q1, q2⟩ := HO2.out ((w.drew.setRow g a1).setRow g a2) rfl rfl rfl rfl
    exact ⟨_, _, rfl, q1, q2, rfl⟩
  · have g14 : ¬ ((i : Int) = (i : Int) + 1) := by omega
    go_enter Try.func103, Try.ntmps103
    go_wp2_with fail
    go_region_law (refine step_append_run rfl (.tmp 22) (.tmp 25) 22 22 rfl (.slice (some ⟨g, 0, none⟩) i cap) (.slice (some ⟨g, (i + 1), none⟩) (n - (i + 1)) (cap - (i + 1))) (by simp [Act.eval, Act.put]) (by simp [Act.eval, Act.put]) (HAP.out 22 _ (cap - (i + 1)) (.inl rfl)) ?_)
    have k1 : ((n - 1 : Nat) : Int) = (n : Int) - 1 := by omega
    have k2 : (0 : Int) ≤ (n : Int) - 1 := by omega
    go_wp2_with (refine wpList_clear_run _ rfl (.tmp 31) 22 rfl (.slice (some ⟨g, (n - 1), none⟩) 1 (cap - (n - 1))) rfl (HCL.out _ (by exact rfl) _ _) ?_)
    go_ret
    obtain ⟨q1, q2⟩ := HO2.out ((w.drew.setRow g a1).setRow g a2) rfl rfl rfl rfl
    exact ⟨_, _, rfl, q1, q2, rfl⟩
end Go.Proofs.Ytocndkhgopjhhaa
/- '(*Tree).Del': what it does at the parent, where the name stands. -/
namespace Go.Proofs.Ytocndkhgopjhhaa
open Go.RowKit

set_option maxRecDepth 100000 in
set_option maxHeartbeats 2000000 in
theorem del1_found {B : Nat} (hB : B ≤ 2199023255552) {S : Nat → Prop} {w : World} {d : Nat} {k : Int} {tx : ByteArray} {ns : List ByteArray} {ks : List N} {v : Value} (h : Rep B S w d (.mk k tx ns ks) v) {i : Nat} (hi : i < ks.length) (hnk : ns.length = ks.length) :
    Calls Try.prog 102 #[v, .int .i64 i, .bool true] w (ChgPost B S d (.mk k tx (ns.eraseIdx i) (ks.eraseIdx i)) w) := by
  cases d with
  | zero => exact h.elim
  | succ d =>
    obtain ⟨nv, kv, rfl, htx, hn, hk⟩ := h.split
    have HN := Lib.hid hn
    have HKD := Lib.hid (hk.keep (S' := fun b => S b ∧ b < w.heap.size) (Nat.le_refl _) (fun _ _ _ => rfl) (fun b h hl => ⟨h, hl⟩))
    have Htx := Lib.hid htx
    have hnB : ns.length ≤ 4 * B := by obtain ⟨_, _, _, _, _, h, _⟩ := hn; exact h
    have hin : i < ns.length := by omega
    have Hnk := Lib.hid hnk
    obtain ⟨A', c', rfl, hc, hm, hl, _⟩ := hk
    obtain ⟨A, c, rfl, _⟩ := hn
    unfold maxLen at hm
    clear htx h hnk
    go_enter Try.func102, Try.ntmps102
    go_wp2_with fail
    refine (cloneS_any (B := 4 * B) (by omega) ((HN.out.alloc _).alloc _)).mono ?_
    rintro e w1 ⟨A1, c1, rfl, hon, hx1⟩
    have hb0 := ((Blk.new w 25 #[.int .u8 k, .string tx, .slice A ns.length c, .slice A' ks.length c']).alloc (.cells #[.int .u8 0, .string { data := #[] }, .slice none 0 0, .slice none 0 0] 25)).ext hx1
    have hb1 := (Blk.new' (w.alloc (.cells #[.int .u8 k, .string tx, .slice A ns.length c, .slice A' ks.length c'] 25)) 25 #[.int .u8 0, .string { data := #[] }, .slice none 0 0, .slice none 0 0] (n := w.heap.size + 1) (by simp)).ext hx1
    have HX1 := Lib.hid (((Ext.alloc' w _).trans' (Ext.alloc' _ _)).trans' hx1)
    have HO1 := Lib.hid (show w1.ownsRow (w.heap.size + 2) 9 1 (.slice A1 ns.length c1) ns.length (ns.map Value.string) by simpa using hon)
    have HB0 := Lib.hid hb0
    have HB1 := Lib.hid hb1
    clear hon hx1 hb0 hb1
    go_wp2_with fail
    refine (deleteS_any HO1.out hin (by simp [Value.oneCell'])).mono ?_
    rintro e w2 ⟨A2, c2, rfl, ho2, hg2, _⟩
    have hrow : ∀ g, (Value.slice A1 ns.length c1).ownBlock = some g → w.heap.size + 2 ≤ g := fun g h => (ownsRow_lt HO1.out h).1
    have hb0 := HB0.out.grown hg2 (fun e => by have := hrow _ e.symm; omega)
    have hb1 := HB1.out.grown hg2 (fun e => by have := hrow _ e.symm; omega)
    have HX2 := Lib.hid (HX1.out.grown hg2 (fun g h => by have := hrow g h; omega))
    obtain ⟨q0, q1, q2, q3, e0, e1, e2, e3⟩ := hb0.cells4
    have HB02 := Lib.hid (hb0.set2 (.slice A2 (ns.length - 1) c2))
    have HB12 := Lib.hid (hb1.far (p := ⟨w.heap.size, 2, none⟩) (by simp) (.slice A2 (ns.length - 1) c2))
    have hX2' : Ext w (w2.setCell ⟨w.heap.size, 2, none⟩ (.slice A2 (ns.length - 1) c2)) := HX2.out.set1 (Nat.le_refl _) _
    obtain ⟨W2, hW2⟩ : ∃ W2, W2 = w2.setCell ⟨w.heap.size, 2, none⟩ (.slice A2 (ns.length - 1) c2) := ⟨_, rfl⟩
    have ho2' : W2.ownsRow (w.heap.size + 2) 9 1 (.slice A2 (ns.length - 1) c2) (ns.length - 1) ((ns.map Value.string).take i ++ (ns.map Value.string).drop (i + 1)) := by
      rw [hW2]
      exact ownsRow_ext ho2 fun g hg => Below.heap_setCell _ _ _ _ (by have := (ownsRow_lt ho2 hg).1; simp; omega)
    rw [← hW2] at HB02 HB12 hX2'
    have HXW2 := Lib.hid hX2'
    have HO2 := Lib.hid ho2'
    have HW2 := Lib.hid hW2
    have hWz : w.heap.size + 2 ≤ W2.heap.size := by have := HB12.out.lt; have := HX1.out.size; have := HO1.out; have h1 := hg2.size; rw [hW2]; simp [World.setCell]; have := HB1.out.lt; omega
    have HWz := Lib.hid hWz
    clear hrow hb0 hb1 hX2' ho2' ho2 hg2 hWz
    obtain ⟨Ak, ck, xs, ekv, _, hfl, hxa, hxs⟩ := HKD.out.flat
    have HFL := Lib.hid hfl
    have HXS := Lib.hid (show KSrc w (.slice A' ks.length c') xs from ⟨Ak, _, ck, ekv, hfl.len, hxa, hxs⟩)
    clear hfl hxa hxs ekv
    obtain ⟨p0, p1, p2, p3, f0, f1, f2, f3⟩ := HB02.out.cells4
    go_wp2_with fail
    rw [← HW2.out]
    go_wp2_with fail
    refine (cloneKX hB HKD.out HXS.out HXW2.out HFL.out.one).mono ?_
    rintro e w3 ⟨A3, c3, rfl, ho3, hx3⟩
    have HB03 := Lib.hid (HB02.out.ext hx3)
    have HB13 := Lib.hid (HB12.out.ext hx3)
    have HX3 := Lib.hid (HXW2.out.trans' hx3)
    have HOS3 := Lib.hid (ownsRow_ext HO2.out fun g hg => hx3.block g (ownsRow_lt HO2.out hg).2)
    have HO3 := Lib.hid ho3
    have HW23 := Lib.hid hx3.size
    clear ho3 hx3 p0 p1 p2 p3 f0 f1 f2 f3 q0 q1 q2 q3 e0 e1 e2 e3
    go_wp2_with fail
    refine (deleteN_any HO3.out hi HFL.out.one).mono ?_
    rintro e w4 ⟨A4, c4, rfl, ho4, hg4, _⟩
    have hrow : ∀ g, (Value.slice A3 ks.length c3).ownBlock = some g → W2.heap.size ≤ g := fun g h => (ownsRow_lt HO3.out h).1
    have hWz := HWz.out
    have hb0 := HB03.out.grown hg4 (fun e => by have := hrow _ e.symm; omega)
    have hb1 := HB13.out.grown hg4 (fun e => by have := hrow _ e.symm; omega)
    have HX4 := Lib.hid (HX3.out.grown hg4 (fun g h => by have := hrow g h; omega))
    obtain ⟨q0, q1, q2, q3, e0, e1, e2, e3⟩ := hb0.cells4
    obtain ⟨r0, r1, r2, r3, g0, g1, g2, g3⟩ := hb1.cells4
    have HB04 := Lib.hid (hb0.set3 (.slice A4 (ks.length - 1) c4))
    have HB14 := Lib.hid (hb1.far (p := ⟨w.heap.size, 3, none⟩) (by simp) (.slice A4 (ks.length - 1) c4))
    obtain ⟨W4, hW4⟩ : ∃ W4, W4 = w4.setCell ⟨w.heap.size, 3, none⟩ (.slice A4 (ks.length - 1) c4) := ⟨_, rfl⟩
    have hnl : ∀ g, (Value.slice A2 (ns.length - 1) c2).ownBlock = some g → w.heap.size + 2 ≤ g ∧ g < W2.heap.size := fun g h => ownsRow_lt HO2.out h
    have ho4' : W4.ownsRow W2.heap.size 25 4 (.slice A4 (ks.length - 1) c4) (ks.length - 1) (xs.take (i * 4) ++ xs.drop ((i + 1) * 4)) := by
      rw [hW4]
      exact ownsRow_ext ho4 fun g hg => Below.heap_setCell _ _ _ _ (by have := (ownsRow_lt ho4 hg).1; simp; omega)
    have hos4 : W4.ownsRow (w.heap.size + 2) 9 1 (.slice A2 (ns.length - 1) c2) (ns.length - 1) ((ns.map Value.string).take i ++ (ns.map Value.string).drop (i + 1)) := by
      rw [hW4]
      refine ownsRow_ext HOS3.out fun g hg => ?_
      have h1 := hnl g hg
      have h2 := HW23.out
      rw [Below.heap_setCell _ _ _ _ (by simp; omega)]
      exact hg4.block g (by omega) fun e => by have := hrow _ e.symm; omega
    have hX4' : Ext w W4 := by rw [hW4]; exact HX4.out.set1 (Nat.le_refl _) _
    rw [← hW4] at HB04 HB14
    have HO4 := Lib.hid ho4'
    have HOS4 := Lib.hid hos4
    have HXW4 := Lib.hid hX4'
    have HW4 := Lib.hid hW4
    clear hrow hb0 hb1 ho4 hg4 ho4' hos4 hnl hX4'
    go_wp2_with fail
    rw [← HW4.out]
    have hns : (ns.eraseIdx i).length = ns.length - 1 := List.length_eraseIdx_of_lt hin
    have hks : (ks.eraseIdx i).length = ks.length - 1 := List.length_eraseIdx_of_lt hi
    have hX5 : Ext w (set4 W4 (w.heap.size + 1) (.int .u8 k) (.string tx) (.slice A2 (ns.length - 1) c2) (.slice A4 (ks.length - 1) c4)) := HXW4.out.set4 (by omega) _ _ _ _
    have hbr := HB14.out.set4 (.int .u8 k) (.string tx) (.slice A2 (ns.length - 1) c2) (.slice A4 (ks.length - 1) c4)
    refine bodyPost_ret (results_cell rfl _ _ _ _ _ _ _ rfl hbr) rfl ⟨A2, c2, A4, c4, by rw [N.kids_mk, N.names_mk, hns, hks]; rfl, hX5, ?_⟩
    rw [N.kids_mk, N.names_mk, hns, hks]
    have hos : OwnStrs (set4 W4 (w.heap.size + 1) (.int .u8 k) (.string tx) (.slice A2 (ns.length - 1) c2) (.slice A4 (ks.length - 1) c4)) (w.heap.size + 2) (.slice A2 (ns.length - 1) c2) (ns.eraseIdx i) := by
      unfold OwnStrs
      have e : (ns.eraseIdx i).map Value.string = (ns.map Value.string).take i ++ (ns.map Value.string).drop (i + 1) := by
        rw [List.eraseIdx_eq_take_drop_succ]; simp
      rw [hns, e]
      exact ownsRow_ext HOS4.out fun g hg => heap_set4 _ _ _ _ _ _ (by have := (ownsRow_lt HOS4.out hg).1; omega)
    have hst := (hos.strs (B := 4 * B) (by rw [hns]; omega) (fun y hy => by
      have h := HN.out
      obtain ⟨_, _, _, _, _, _, h, _⟩ := h
      exact h y (List.mem_of_mem_eraseIdx hy))).wide (S' := fun b => S b ∨ w.heap.size ≤ b) (Nat.le_refl _) (Below.refl _ _) (fun b h _ => .inr (by
        have := (ownsRow_lt hos h).1
        omega))
    refine Rep.join Htx.out hst ?_
    have hWz2 := HWz.out
    have rk : RowKids B (fun b => S b ∧ b < w.heap.size) (set4 W4 (w.heap.size + 1) (.int .u8 k) (.string tx) (.slice A2 (ns.length - 1) c2) (.slice A4 (ks.length - 1) c4)) d W2.heap.size (.slice A4 (ks.length - 1) c4) (ks.eraseIdx i) := by
      refine ⟨_, ?_, Flat.erase (HFL.out.mono fun t v hr => hr.wide (Nat.le_refl _) hX5 (fun b h _ => h) (Nat.le_refl _)) hi⟩
      rw [hks]
      exact ownsRow_ext HO4.out fun g hg => heap_set4 _ _ _ _ _ _ (by have := (ownsRow_lt HO4.out hg).1; omega)
    exact rk.kids (B' := B) (T' := fun b => S b ∨ w.heap.size ≤ b) (by rw [hks]; omega) (Nat.le_refl _) (fun b h => .inl h.1) (fun b h => .inr (by omega))
end Go.Proofs.Ytocndkhgopjhhaa
