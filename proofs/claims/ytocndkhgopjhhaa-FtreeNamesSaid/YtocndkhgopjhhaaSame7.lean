import Derived.Test.YtocndkhgopjhhaaProg
import Derived.Test.YtocndkhgopjhhaaBase
import Derived.Test.YtocndkhgopjhhaaSame
namespace Go.Proofs.Ytocndkhgopjhhaa
open Go.RowKit

theorem eqL_at {l m : List ByteArray} {j : Nat} (h1 : j < l.length) (h2 : j < m.length) : decide (l.drop j = m.drop j) = (decide (l[j] = m[j]) && decide (l.drop (j + 1) = m.drop (j + 1))) := by
  rw [List.drop_eq_getElem_cons h1, List.drop_eq_getElem_cons h2, Bool.eq_iff_iff]
  simp only [decide_eq_true_eq, Bool.and_eq_true, List.cons.injEq]

set_option maxHeartbeats 2000000 in
theorem same7_any (B1 B2 : Nat) (S1 S2 : Nat → Prop) (d : Nat) : ∀ (d2 : Nat) (t1 t2 : N) (v1 v2 : Value) (w : World), Rep B1 S1 w d t1 v1 → Rep B2 S2 w d2 t2 v2 →
    Calls Try.prog 20 #[v1, v2] w fun e w' => e = .returned (.bool (t1.same t2)) ∧ Ext w w' := by
  induction d with
  | zero => intro d2 t1 t2 v1 v2 w h; exact h.elim
  | succ d ih =>
    rintro d2 ⟨k, tx, ns, ks⟩ ⟨k', tx', ns', ks'⟩ v1 v2 w h1 h2
    cases d2 with
    | zero => exact h2.elim
    | succ d2 =>
    obtain ⟨nv, kv, rfl, htx, hn, hk⟩ := h1.split
    obtain ⟨nv', kv', rfl, htx', hn', hk'⟩ := h2.split
    have HN := Lib.hid hn
    have HN' := Lib.hid hn'
    have HK := Lib.hid hk
    have HK' := Lib.hid hk'
    clear h1 h2
    obtain ⟨An, cn, rfl, hcn, hmn, hBn, hsn, hns⟩ := hn
    obtain ⟨An', cn', rfl, hcn', hmn', hBn', hsn', hns'⟩ := hn'
    obtain ⟨A, c, rfl, hc, hm, hB, hg⟩ := hk
    obtain ⟨A', c', rfl, hc', hm', hB', hg'⟩ := hk'
    clear hBn hBn' hsn hsn' hB hB' htx htx'
    unfold maxLen at hm hm' hmn hmn'
    by_cases e1 : k = k'
    case neg =>
      have q1 : (k == k') = false := by rw [beq_eq_false_iff_ne]; exact e1
      have q1' : (k != k') = true := by rw [bne_iff_ne]; exact e1
      have HW : Hid (N.same (.mk k tx ns ks) (.mk k' tx' ns' ks') = false) := by unfold Hid; rw [N.same]; simp [e1]
      clear e1 hns hns' hg hg'
      go_enter Try.func20, Try.ntmps20
      go_wp2_with fail
      go_ret
      exact ⟨ret_bool (by rw [HW.out]), (Ext.alloc' _ _).trans' (Ext.alloc' _ _)⟩
    by_cases e2 : tx = tx'
    case neg =>
      have q0 : (k == k') = true := by simp [e1]
      have q0' : (k != k') = false := by simp [e1]
      have q1 : (tx.toList == tx'.toList) = false := by rw [beq_eq_false_iff_ne]; intro h; exact e2 (toList_inj h)
      have q1' : (tx.toList != tx'.toList) = true := by rw [bne_iff_ne]; intro h; exact e2 (toList_inj h)
      have HW : Hid (N.same (.mk k tx ns ks) (.mk k' tx' ns' ks') = false) := by unfold Hid; rw [N.same]; simp [e2]
      clear e1 e2 hns hns' hg hg'
      go_enter Try.func20, Try.ntmps20
      go_wp2_with fail
      go_ret
      exact ⟨ret_bool (by rw [HW.out]), (Ext.alloc' _ _).trans' (Ext.alloc' _ _)⟩
    subst e1 e2
    have q0 : (k != k) = false := by simp
    have q1 : (tx.toList != tx.toList) = false := by simp
    have hu := (up_rules ((w.alloc (.cells #[.int .u8 k, .string tx, .slice An ns.length cn, .slice A ks.length c] 25)).alloc (.cells #[.int .u8 k, .string tx, .slice An' ns'.length cn', .slice A' ks'.length c'] 25))).1
    simp only [World.size_alloc] at hu
    by_cases e3 : ns.length = ns'.length
    case neg =>
      have HW : Hid (N.same (.mk k tx ns ks) (.mk k tx ns' ks') = false) := by unfold Hid; rw [N.same]; simp; intro h; exact absurd (congrArg List.length h) e3
      have q2 : ((ns.length : Int) != (ns'.length : Int)) = true := by rw [bne_iff_ne]; omega
      clear e3 hns hns' hg hg'
      go_enter Try.func20, Try.ntmps20
      go_wp2_with fail
      go_ret
      exact ⟨ret_bool (by rw [HW.out]), (Ext.alloc' _ _).trans' (Ext.alloc' _ _)⟩
    have q2 : ((ns.length : Int) != (ns'.length : Int)) = false := by simp [e3]
    by_cases e4 : ks.length = ks'.length
    case neg =>
      have HW : Hid (N.same (.mk k tx ns ks) (.mk k tx ns' ks') = false) := by unfold Hid; rw [N.same, sameL_len _ _ e4]; simp
      have q3 : ((ks.length : Int) != (ks'.length : Int)) = true := by rw [bne_iff_ne]; omega
      clear e3 e4 hns hns' hg hg'
      go_enter Try.func20, Try.ntmps20
      go_wp2_with fail
      go_ret
      exact ⟨ret_bool (by rw [HW.out]), (Ext.alloc' _ _).trans' (Ext.alloc' _ _)⟩
    have q3 : ((ks.length : Int) != (ks'.length : Int)) = false := by simp [e4]
    have Hl := Lib.hid e3
    have Hm := Lib.hid e4
    have l1 : (ns.length : Int) ≤ (ns'.length : Int) := by omega
    have l2 : (ns'.length : Int) ≤ (ns.length : Int) := by omega
    have m1 : (ks.length : Int) ≤ (ks'.length : Int) := by omega
    have m2 : (ks'.length : Int) ≤ (ks.length : Int) := by omega
    clear e3 e4
    go_enter Try.func20, Try.ntmps20
    go_wp2_with fail
    go_loopw [5] (fun i wr => ∃ (j : Nat) (u : Up ((w.alloc (.cells #[.int .u8 k, .string tx, .slice An ns.length cn, .slice A ks.length c] 25)).alloc (.cells #[.int .u8 k, .string tx, .slice An' ns'.length cn', .slice A' ks'.length c'] 25))), j ≤ ns.length ∧ i = .int .i64 j ∧ wr = u.val ∧ decide (ns.drop j = ns'.drop j) = decide (ns = ns')) (fun i _ => ns.length - (intOf i).toNat)
    case atStart => obtain ⟨u, hu⟩ := Up.self ((w.alloc (.cells #[.int .u8 k, .string tx, .slice An ns.length cn, .slice A ks.length c] 25)).alloc (.cells #[.int .u8 k, .string tx, .slice An' ns'.length cn', .slice A' ks'.length c'] 25)); exact ⟨0, u, Nat.zero_le _, rfl, hu, rfl⟩
    case round =>
      obtain ⟨j, u, hj, rfl, rfl, hy⟩ := hrel
      by_cases hlt : j < ns.length
      · have hlt2 : j < ns'.length := by omega
        obtain ⟨b1, o1, rfl, _, hb1, hcell1⟩ := hns (by omega)
        obtain ⟨b2, o2, rfl, _, hb2, hcell2⟩ := hns' (by omega)
        have cj1 := hcell1 j _ (List.getElem?_eq_getElem hlt)
        have cj2 := hcell2 j _ (List.getElem?_eq_getElem hlt2)
        have hb1' : b1 < w.heap.size + 1 + 1 := by omega
        have hb2' : b2 < w.heap.size + 1 + 1 := by omega
        have hb1'' : b1 < w.heap.size + 1 := by omega
        have hb2'' : b2 < w.heap.size + 1 := by omega
        clear hcell1 hcell2 hg hg'
        by_cases e5 : ns[j] = ns'[j]
        · have Hy : Hid (decide (ns.drop (j + 1) = ns'.drop (j + 1)) = decide (ns = ns')) := by
            unfold Hid; rw [← hy, eqL_at hlt hlt2, decide_eq_true e5]; rfl
          have q5 : (ns[j].toList == ns'[j].toList) = true := by rw [e5]; simp
          clear hy e5
          go_wp2_with fail
          refine wp_region_up (by kernel_rfl) (by kernel_rfl) ?_
          repeat (go_big_quiet_step (fail))
          refine wpQuiet_nil ?_
          rintro _ ⟨u1, rfl⟩
          go_wp2_with fail
          go_roundw
          case rel => exact ⟨j + 1, u1, by omega, by go_num, rfl, Hy.out⟩
          case measure => simp [intOf]; omega
        · have HW : Hid (N.same (.mk k tx ns ks) (.mk k tx ns' ks') = false) := by
            unfold Hid
            rw [N.same, ← hy, eqL_at hlt hlt2, decide_eq_false e5]; simp
          have q5 : (ns[j].toList == ns'[j].toList) = false := by rw [beq_eq_false_iff_ne]; intro h; exact e5 (toList_inj h)
          clear hy e5
          go_wp2_with fail
          refine wp_region_up (by kernel_rfl) (by kernel_rfl) ?_
          repeat (go_big_quiet_step (fail))
          refine wpQuiet_nil ?_
          rintro _ ⟨u1, rfl⟩
          go_wp2_with fail
          go_ret
          exact ⟨ret_bool (by rw [HW.out]), ((Ext.alloc' _ _).trans' (Ext.alloc' _ _)).trans' u1.ext⟩
      · have HW : Hid (N.same (.mk k tx ns ks) (.mk k tx ns' ks') = sameL ks ks') := by
          unfold Hid
          have h2 : ¬ j < ns'.length := by omega
          rw [List.drop_eq_nil_of_le (by omega), List.drop_eq_nil_of_le (by omega)] at hy
          rw [N.same, ← hy]; simp
        clear hy
        go_wp2_with fail
        go_loopw [6] (fun i wr => ∃ (j : Nat) (u : Up ((w.alloc (.cells #[.int .u8 k, .string tx, .slice An ns.length cn, .slice A ks.length c] 25)).alloc (.cells #[.int .u8 k, .string tx, .slice An' ns'.length cn', .slice A' ks'.length c'] 25))), j ≤ ks.length ∧ i = .int .i64 j ∧ wr = u.val ∧ sameL (ks.drop j) (ks'.drop j) = sameL ks ks') (fun i _ => ks.length - (intOf i).toNat)
        case atStart => exact ⟨0, u, Nat.zero_le _, rfl, rfl, rfl⟩
        case round =>
          clear hlt hj
          obtain ⟨j, u, hj, rfl, rfl, hy⟩ := hrel
          by_cases hlt : j < ks.length
          · have hlt2 : j < ks'.length := by omega
            rw [sameL_at hlt hlt2] at hy
            obtain ⟨b1, o1, rfl, _, hb1, hcell1⟩ := hg (by omega)
            obtain ⟨b2, o2, rfl, _, hb2, hcell2⟩ := hg' (by omega)
            obtain ⟨v10, v11, v12, v13, c10, c11, c12, c13, hr1⟩ := hcell1 j _ (List.getElem?_eq_getElem hlt)
            obtain ⟨v20, v21, v22, v23, c20, c21, c22, c23, hr2⟩ := hcell2 j _ (List.getElem?_eq_getElem hlt2)
            have Hr1 := Lib.hid hr1
            have Hr2 := Lib.hid hr2
            have hb1' : b1 < w.heap.size + 1 + 1 := by omega
            have hb2' : b2 < w.heap.size + 1 + 1 := by omega
            have hb1'' : b1 < w.heap.size + 1 := by omega
            have hb2'' : b2 < w.heap.size + 1 := by omega
            clear hcell1 hcell2 hr1 hr2
            cases hs : ks[j].same ks'[j]
            · rw [hs] at hy
              have Hy : Hid (sameL ks ks' = false) := by unfold Hid; rw [← hy]; rfl
              clear hy
              go_wp2_with fail
              refine wp_region_up (by kernel_rfl) (by kernel_rfl) ?_
              repeat (go_big_quiet_step ((go_at_call 20; exact Calls.up (ih _ _ _ _ _ _ (((Hr1.out.alloc _).alloc _).up _) (((Hr2.out.alloc _).alloc _).up _)))))
              refine wpQuiet_nil ?_
              rintro _ ⟨u1, rfl⟩
              go_wp2_with fail
              go_ret
              exact ⟨ret_bool (by rw [HW.out, Hy.out]), ((Ext.alloc' _ _).trans' (Ext.alloc' _ _)).trans' u1.ext⟩
            · rw [hs] at hy
              have Hy : Hid (sameL (ks.drop (j + 1)) (ks'.drop (j + 1)) = sameL ks ks') := by unfold Hid; rw [← hy]; rfl
              clear hy
              go_wp2_with fail
              refine wp_region_up (by kernel_rfl) (by kernel_rfl) ?_
              repeat (go_big_quiet_step ((go_at_call 20; exact Calls.up (ih _ _ _ _ _ _ (((Hr1.out.alloc _).alloc _).up _) (((Hr2.out.alloc _).alloc _).up _)))))
              refine wpQuiet_nil ?_
              rintro _ ⟨u1, rfl⟩
              go_wp2_with fail
              go_roundw
              case rel => exact ⟨j + 1, u1, by omega, by go_num, rfl, Hy.out⟩
              case measure => simp [intOf]; omega
          · rw [sameL_end hlt Hm.out] at hy
            have Hy := Lib.hid hy
            clear hy
            go_wp2_with fail
            go_ret
            exact ⟨ret_bool (by rw [HW.out, ← Hy.out]), ((Ext.alloc' _ _).trans' (Ext.alloc' _ _)).trans' u.ext⟩

end Go.Proofs.Ytocndkhgopjhhaa
