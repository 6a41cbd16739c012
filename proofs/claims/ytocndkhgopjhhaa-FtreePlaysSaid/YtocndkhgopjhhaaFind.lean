import Derived.Test.YtocndkhgopjhhaaProg
import Derived.Test.YtocndkhgopjhhaaBase
import Derived.Test.YtocndkhgopjhhaaLibs
import Derived.Test.YtocndkhgopjhhaaSame
namespace Go.Proofs.Ytocndkhgopjhhaa
open Go.RowKit

set_option maxHeartbeats 1000000 in
theorem find7_any (B : Nat) (S : Nat → Prop) (d : Nat) (t : N) (v : Value) (s : ByteArray) (w : World) (h : Rep B S w d t v) :
    Calls Try.prog 87 #[v, .string s] w fun e w' => e = .returned (.int .i64 (ixI (ixFrom s 0 t.names))) ∧ Ext w w' := by
  cases d with
  | zero => exact h.elim
  | succ d =>
    obtain ⟨k, tx, ns, ks⟩ := t
    obtain ⟨nv, A, c, rfl, htx, hn, hc, hm, hB, hk⟩ := h
    obtain ⟨An, cn, rfl, hcn, hmn, hBn, hsn, hns⟩ := hn
    clear hBn hsn htx hB hk hc hm
    unfold maxLen at hmn
    go_enter Try.func87, Try.ntmps87
    have hu := (up_rules (w.alloc (.cells #[.int .u8 k, .string tx, .slice An ns.length cn, .slice A ks.length c] 25))).1
    simp only [World.size_alloc] at hu
    go_wp2_with fail
    go_loopw [5] (fun i wr => ∃ (j : Nat) (u : Up (w.alloc (.cells #[.int .u8 k, .string tx, .slice An ns.length cn, .slice A ks.length c] 25))), j ≤ ns.length ∧ i = .int .i64 j ∧ wr = u.val ∧ ixFrom s j (ns.drop j) = ixFrom s 0 ns) (fun i _ => ns.length - (intOf i).toNat)
    case atStart => obtain ⟨u, hu⟩ := Up.self (w.alloc (.cells #[.int .u8 k, .string tx, .slice An ns.length cn, .slice A ks.length c] 25)); exact ⟨0, u, Nat.zero_le _, rfl, hu, rfl⟩
    case round =>
      obtain ⟨j, u, hj, rfl, rfl, hy⟩ := hrel
      by_cases hlt : j < ns.length
      · obtain ⟨b, o, rfl, hS, hbs, hcell⟩ := hns (by omega)
        have cj := hcell j _ (List.getElem?_eq_getElem hlt)
        have hbs' : b < w.heap.size + 1 := by omega
        clear hcell
        rw [List.drop_eq_getElem_cons hlt, ixFrom] at hy
        by_cases e : ns[j] = s
        · rw [if_pos e] at hy
          have Hy : Hid ((j : Int) = ixI (ixFrom s 0 ns)) := by unfold Hid; rw [← hy]; rfl
          have q : (ns[j].toList == s.toList) = true := by rw [e]; simp
          clear hy e
          go_wp2_with fail
          go_ret
          exact ⟨ret_int Hy.out, (Ext.alloc' _ _).trans' u.ext⟩
        · rw [if_neg e] at hy
          have Hy := Lib.hid hy
          have q : (ns[j].toList == s.toList) = false := by rw [beq_eq_false_iff_ne]; intro h; exact e (toList_inj h)
          clear hy e
          go_wp2_with fail
          go_roundw
          case rel => exact ⟨j + 1, u, by omega, by go_num, rfl, Hy.out⟩
          case measure => simp [intOf]; omega
      · rw [List.drop_eq_nil_of_le (by omega), ixFrom] at hy
        have Hy : Hid ((-1 : Int) = ixI (ixFrom s 0 ns)) := by unfold Hid; rw [← hy]; rfl
        clear hy
        go_wp2_with fail
        go_ret
        exact ⟨ret_int Hy.out, (Ext.alloc' _ _).trans' u.ext⟩
end Go.Proofs.Ytocndkhgopjhhaa
