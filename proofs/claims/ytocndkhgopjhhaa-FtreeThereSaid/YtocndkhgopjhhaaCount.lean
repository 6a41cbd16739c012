import Derived.Test.YtocndkhgopjhhaaProg
import Derived.Test.YtocndkhgopjhhaaBase
namespace Go.Proofs.Ytocndkhgopjhhaa
open Go.RowKit

set_option maxHeartbeats 1000000 in
theorem nodes_any (B : Nat) (S : Nat → Prop) (d : Nat) : ∀ (t : N) (v : Value) (w : World), Rep B S w d t v →
    Calls Try.prog 21 #[v] w fun e w' => e = .returned (.int .i64 t.nodes) ∧ Ext w w' := by
  induction d with
  | zero => intro t v w h; exact h.elim
  | succ d ih =>
    rintro ⟨k, tx, ns, ks⟩ v w ⟨nv, A, c, rfl, htx, hn, hc, hm, hB, hk⟩
    obtain ⟨An, cn, rfl, hcn, hmn, hBn, hsn, hns⟩ := hn
    clear hB hBn hsn htx hns hcn hmn
    unfold maxLen at hm
    have hW : N.nodes (.mk k tx ns ks) = nodesL 1 ks := by rw [N.nodes]
    have HW := Lib.hid hW
    clear hW
    go_enter Try.func21, Try.ntmps21
    have hu := (up_rules (w.alloc (.cells #[.int .u8 k, .string tx, .slice An ns.length cn, .slice A ks.length c] 25))).1
    simp only [World.size_alloc] at hu
    go_wp2_with fail
    go_loopw [3, 9] (fun x i wr => ∃ (j : Nat) (y : Int) (u : Up (w.alloc (.cells #[.int .u8 k, .string tx, .slice An ns.length cn, .slice A ks.length c] 25))), j ≤ ks.length ∧ i = .int .i64 j ∧ x = .int .i64 y ∧ wr = u.val ∧ nodesL y (ks.drop j) = nodesL 1 ks) (fun _ i _ => ks.length - (intOf i).toNat)
    case atStart => obtain ⟨u, hu⟩ := Up.self (w.alloc (.cells #[.int .u8 k, .string tx, .slice An ns.length cn, .slice A ks.length c] 25)); exact ⟨0, _, u, Nat.zero_le _, rfl, rfl, hu, rfl⟩
    case round =>
      obtain ⟨j, y, u, hj, rfl, rfl, rfl, hy⟩ := hrel
      by_cases hlt : j < ks.length
      · obtain ⟨b, o, rfl, hS, hbs, hcell⟩ := hk (by omega)
        obtain ⟨v0, v1, v2, v3, c0, c1, c2, c3, hr⟩ := hcell j _ (List.getElem?_eq_getElem hlt)
        have hbs' : b < w.heap.size + 1 := by omega
        obtain ⟨A1, e1, A2, e2, rfl, rfl, rfl, rfl⟩ := hr.shape
        have Hr := Lib.hid hr
        have Hy : Hid (nodesL (wrap64 (y + ks[j].nodes)) (ks.drop (j + 1)) = nodesL 1 ks) := by
          unfold Hid; rw [← hy, List.drop_eq_getElem_cons hlt, nodesL]
        clear hy hcell hr
        go_wp2_with fail
        refine (ih _ _ _ (((Hr.out.alloc _).up u).alloc _)).mono ?_
        rintro e w1 ⟨rfl, hx1⟩
        obtain ⟨u1, rfl⟩ := Up.to u ((Ext.alloc' _ _).trans' hx1)
        clear hx1
        go_wp2_with fail
        go_roundw
        case rel => exact ⟨j + 1, _, u1, by omega, by go_num, rfl, rfl, Hy.out⟩
        case measure => simp [intOf]; omega
      · have Hy : Hid (y = nodesL 1 ks) := by
          unfold Hid; rw [← hy, List.drop_eq_nil_of_le (by omega), nodesL]
        clear hy
        go_wp2_with fail
        go_ret
        exact ⟨ret_int (by rw [HW.out]; exact Hy.out), (Ext.alloc' _ _).trans' u.ext⟩

set_option maxHeartbeats 1000000 in
theorem nodes7_any (B : Nat) (S : Nat → Prop) (d : Nat) : ∀ (t : N) (v : Value) (w : World), Rep B S w d t v →
    Calls Try.prog 22 #[v] w fun e w' => e = .returned (.int .i64 t.nodes) ∧ Ext w w' := by
  induction d with
  | zero => intro t v w h; exact h.elim
  | succ d ih =>
    rintro ⟨k, tx, ns, ks⟩ v w ⟨nv, A, c, rfl, htx, hn, hc, hm, hB, hk⟩
    obtain ⟨An, cn, rfl, hcn, hmn, hBn, hsn, hns⟩ := hn
    clear hB hBn hsn htx hns hcn hmn
    unfold maxLen at hm
    have hW : N.nodes (.mk k tx ns ks) = nodesL 1 ks := by rw [N.nodes]
    have HW := Lib.hid hW
    clear hW
    go_enter Try.func22, Try.ntmps22
    have hu := (up_rules (w.alloc (.cells #[.int .u8 k, .string tx, .slice An ns.length cn, .slice A ks.length c] 25))).1
    simp only [World.size_alloc] at hu
    go_wp2_with fail
    go_loopw [3, 4] (fun x i wr => ∃ (j : Nat) (y : Int) (u : Up (w.alloc (.cells #[.int .u8 k, .string tx, .slice An ns.length cn, .slice A ks.length c] 25))), j ≤ ks.length ∧ i = .int .i64 j ∧ x = .int .i64 y ∧ wr = u.val ∧ nodesL y (ks.drop j) = nodesL 1 ks) (fun _ i _ => ks.length - (intOf i).toNat)
    case atStart => obtain ⟨u, hu⟩ := Up.self (w.alloc (.cells #[.int .u8 k, .string tx, .slice An ns.length cn, .slice A ks.length c] 25)); exact ⟨0, _, u, Nat.zero_le _, rfl, rfl, hu, rfl⟩
    case round =>
      obtain ⟨j, y, u, hj, rfl, rfl, rfl, hy⟩ := hrel
      by_cases hlt : j < ks.length
      · obtain ⟨b, o, rfl, hS, hbs, hcell⟩ := hk (by omega)
        obtain ⟨v0, v1, v2, v3, c0, c1, c2, c3, hr⟩ := hcell j _ (List.getElem?_eq_getElem hlt)
        have hbs' : b < w.heap.size + 1 := by omega
        obtain ⟨A1, e1, A2, e2, rfl, rfl, rfl, rfl⟩ := hr.shape
        have Hr := Lib.hid hr
        have Hy : Hid (nodesL (wrap64 (y + ks[j].nodes)) (ks.drop (j + 1)) = nodesL 1 ks) := by
          unfold Hid; rw [← hy, List.drop_eq_getElem_cons hlt, nodesL]
        clear hy hcell hr
        go_wp2_with fail
        refine (ih _ _ _ ((Hr.out.alloc _).up u)).mono ?_
        rintro e w1 ⟨rfl, hx1⟩
        obtain ⟨u1, rfl⟩ := Up.to u (hx1)
        clear hx1
        go_wp2_with fail
        go_roundw
        case rel => exact ⟨j + 1, _, u1, by omega, by go_num, rfl, rfl, Hy.out⟩
        case measure => simp [intOf]; omega
      · have Hy : Hid (y = nodesL 1 ks) := by
          unfold Hid; rw [← hy, List.drop_eq_nil_of_le (by omega), nodesL]
        clear hy
        go_wp2_with fail
        go_ret
        exact ⟨ret_int (by rw [HW.out]; exact Hy.out), (Ext.alloc' _ _).trans' u.ext⟩

set_option maxHeartbeats 1000000 in
theorem depth_any (B : Nat) (S : Nat → Prop) (d : Nat) : ∀ (t : N) (v : Value) (w : World), Rep B S w d t v →
    Calls Try.prog 83 #[v] w fun e w' => e = .returned (.int .i64 t.deep) ∧ Ext w w' := by
  induction d with
  | zero => intro t v w h; exact h.elim
  | succ d ih =>
    rintro ⟨k, tx, ns, ks⟩ v w ⟨nv, A, c, rfl, htx, hn, hc, hm, hB, hk⟩
    obtain ⟨An, cn, rfl, hcn, hmn, hBn, hsn, hns⟩ := hn
    clear hB hBn hsn htx hns hcn hmn
    unfold maxLen at hm
    have hW : N.deep (.mk k tx ns ks) = deepL 0 ks := by rw [N.deep]
    have HW := Lib.hid hW
    clear hW
    go_enter Try.func83, Try.ntmps83
    have hu := (up_rules (w.alloc (.cells #[.int .u8 k, .string tx, .slice An ns.length cn, .slice A ks.length c] 25))).1
    simp only [World.size_alloc] at hu
    go_wp2_with fail
    go_loopw [3, 9] (fun x i wr => ∃ (j : Nat) (y : Int) (u : Up (w.alloc (.cells #[.int .u8 k, .string tx, .slice An ns.length cn, .slice A ks.length c] 25))), j ≤ ks.length ∧ i = .int .i64 j ∧ x = .int .i64 y ∧ wr = u.val ∧ deepL y (ks.drop j) = deepL 0 ks) (fun _ i _ => ks.length - (intOf i).toNat)
    case atStart => obtain ⟨u, hu⟩ := Up.self (w.alloc (.cells #[.int .u8 k, .string tx, .slice An ns.length cn, .slice A ks.length c] 25)); exact ⟨0, _, u, Nat.zero_le _, rfl, rfl, hu, rfl⟩
    case round =>
      obtain ⟨j, y, u, hj, rfl, rfl, rfl, hy⟩ := hrel
      by_cases hlt : j < ks.length
      · obtain ⟨b, o, rfl, hS, hbs, hcell⟩ := hk (by omega)
        obtain ⟨v0, v1, v2, v3, c0, c1, c2, c3, hr⟩ := hcell j _ (List.getElem?_eq_getElem hlt)
        have hbs' : b < w.heap.size + 1 := by omega
        obtain ⟨A1, e1, A2, e2, rfl, rfl, rfl, rfl⟩ := hr.shape
        have Hr := Lib.hid hr
        have Hy : Hid (deepL (if y < wrap64 (1 + ks[j].deep) then wrap64 (1 + ks[j].deep) else y) (ks.drop (j + 1)) = deepL 0 ks) := by
          unfold Hid; rw [← hy, List.drop_eq_getElem_cons hlt, deepL]; rw [Int.add_comm 1]
        clear hy hcell hr
        go_wp2_with fail
        refine (ih _ _ _ (((Hr.out.alloc _).up u).alloc _)).mono ?_
        rintro e w1 ⟨rfl, hx1⟩
        obtain ⟨u1, rfl⟩ := Up.to u ((Ext.alloc' _ _).trans' hx1)
        clear hx1
        go_wp2_with fail
        go_roundw
        case rel => exact ⟨j + 1, _, u1, by omega, by go_num, rfl, rfl, Hy.out⟩
        case measure => simp [intOf]; omega
      · have Hy : Hid (y = deepL 0 ks) := by
          unfold Hid; rw [← hy, List.drop_eq_nil_of_le (by omega), deepL]
        clear hy
        go_wp2_with fail
        go_ret
        exact ⟨ret_int (by rw [HW.out]; exact Hy.out), (Ext.alloc' _ _).trans' u.ext⟩

set_option maxHeartbeats 1000000 in
theorem deep7_any (B : Nat) (S : Nat → Prop) (d : Nat) : ∀ (t : N) (v : Value) (w : World), Rep B S w d t v →
    Calls Try.prog 84 #[v] w fun e w' => e = .returned (.int .i64 t.deep) ∧ Ext w w' := by
  induction d with
  | zero => intro t v w h; exact h.elim
  | succ d ih =>
    rintro ⟨k, tx, ns, ks⟩ v w ⟨nv, A, c, rfl, htx, hn, hc, hm, hB, hk⟩
    obtain ⟨An, cn, rfl, hcn, hmn, hBn, hsn, hns⟩ := hn
    clear hB hBn hsn htx hns hcn hmn
    unfold maxLen at hm
    have hW : N.deep (.mk k tx ns ks) = deepL 0 ks := by rw [N.deep]
    have HW := Lib.hid hW
    clear hW
    go_enter Try.func84, Try.ntmps84
    have hu := (up_rules (w.alloc (.cells #[.int .u8 k, .string tx, .slice An ns.length cn, .slice A ks.length c] 25))).1
    simp only [World.size_alloc] at hu
    go_wp2_with fail
    go_loopw [3, 4] (fun x i wr => ∃ (j : Nat) (y : Int) (u : Up (w.alloc (.cells #[.int .u8 k, .string tx, .slice An ns.length cn, .slice A ks.length c] 25))), j ≤ ks.length ∧ i = .int .i64 j ∧ x = .int .i64 y ∧ wr = u.val ∧ deepL y (ks.drop j) = deepL 0 ks) (fun _ i _ => ks.length - (intOf i).toNat)
    case atStart => obtain ⟨u, hu⟩ := Up.self (w.alloc (.cells #[.int .u8 k, .string tx, .slice An ns.length cn, .slice A ks.length c] 25)); exact ⟨0, _, u, Nat.zero_le _, rfl, rfl, hu, rfl⟩
    case round =>
      obtain ⟨j, y, u, hj, rfl, rfl, rfl, hy⟩ := hrel
      by_cases hlt : j < ks.length
      · obtain ⟨b, o, rfl, hS, hbs, hcell⟩ := hk (by omega)
        obtain ⟨v0, v1, v2, v3, c0, c1, c2, c3, hr⟩ := hcell j _ (List.getElem?_eq_getElem hlt)
        have hbs' : b < w.heap.size + 1 := by omega
        obtain ⟨A1, e1, A2, e2, rfl, rfl, rfl, rfl⟩ := hr.shape
        have Hr := Lib.hid hr
        have Hy : Hid (deepL (if y < wrap64 (ks[j].deep + 1) then wrap64 (ks[j].deep + 1) else y) (ks.drop (j + 1)) = deepL 0 ks) := by
          unfold Hid; rw [← hy, List.drop_eq_getElem_cons hlt, deepL]
        clear hy hcell hr
        go_wp2_with fail
        refine (ih _ _ _ ((Hr.out.alloc _).up u)).mono ?_
        rintro e w1 ⟨rfl, hx1⟩
        obtain ⟨u1, rfl⟩ := Up.to u (hx1)
        clear hx1
        go_wp2_with fail
        go_roundw
        case rel => exact ⟨j + 1, _, u1, by omega, by go_num, rfl, rfl, Hy.out⟩
        case measure => simp [intOf]; omega
      · have Hy : Hid (y = deepL 0 ks) := by
          unfold Hid; rw [← hy, List.drop_eq_nil_of_le (by omega), deepL]
        clear hy
        go_wp2_with fail
        go_ret
        exact ⟨ret_int (by rw [HW.out]; exact Hy.out), (Ext.alloc' _ _).trans' u.ext⟩

end Go.Proofs.Ytocndkhgopjhhaa
