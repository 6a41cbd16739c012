import Derived.Test.YtocndkhgopjhhaaProg
import Derived.Test.YtocndkhgopjhhaaBase
import Derived.Test.YtocndkhgopjhhaaLibs
namespace Go.Proofs.Ytocndkhgopjhhaa
open Go.RowKit

set_option maxHeartbeats 1000000 in
theorem equalFunc_any (B1 B2 : Nat) (S1 S2 : Nat → Prop) (d1 d2 : Nat)
    (H : ∀ (t1 t2 : N) (v1 v2 : Value) (w : World), Rep B1 S1 w d1 t1 v1 → Rep B2 S2 w d2 t2 v2 → Calls Try.prog 19 #[v1, v2] w fun e w' => e = .returned (.bool (t1.same t2)) ∧ Ext w w')
    (k1 k2 : List N) (v1 v2 : Value) (w : World) (h1 : Kids B1 S1 w d1 v1 k1) (h2 : Kids B2 S2 w d2 v2 k2) :
    Calls Try.prog 86 #[v1, v2, .func (.func 19) #[] #[]] w fun e w' => e = .returned (.bool (sameL k1 k2)) ∧ Ext w w' := by
  have HH := Lib.hid H
  clear H
  obtain ⟨A1, c1, rfl, hc1, hm1, hB1, g1⟩ := h1
  obtain ⟨A2, c2, rfl, hc2, hm2, hB2, g2⟩ := h2
  clear hB1 hB2
  unfold maxLen at hm1 hm2
  by_cases hl : k1.length = k2.length
  · have Hl := Lib.hid hl
    have q : ((k1.length : Int) != (k2.length : Int)) = false := by simp [hl]
    have l1 : (k1.length : Int) ≤ (k2.length : Int) := by omega
    have l2 : (k2.length : Int) ≤ (k1.length : Int) := by omega
    clear hl
    go_enter Try.func86, Try.ntmps86
    have hu := (up_rules w).1
    go_wp2_with fail
    go_loopw [17] (fun i wr => ∃ (j : Nat) (u : Up w), j ≤ k1.length ∧ i = .int .i64 j ∧ wr = u.val ∧ sameL (k1.drop j) (k2.drop j) = sameL k1 k2) (fun i _ => k1.length - (intOf i).toNat)
    case atStart => obtain ⟨u, hu⟩ := Up.self w; exact ⟨0, u, Nat.zero_le _, rfl, hu, rfl⟩
    case round =>
      obtain ⟨j, u, hj, rfl, rfl, hy⟩ := hrel
      by_cases hlt : j < k1.length
      · have hlt2 : j < k2.length := by omega
        rw [sameL_at hlt hlt2] at hy
        obtain ⟨b1, o1, rfl, _, hb1, hcell1⟩ := g1 (by omega)
        obtain ⟨b2, o2, rfl, _, hb2, hcell2⟩ := g2 (by omega)
        obtain ⟨v10, v11, v12, v13, c10, c11, c12, c13, hr1⟩ := hcell1 j _ (List.getElem?_eq_getElem hlt)
        obtain ⟨v20, v21, v22, v23, c20, c21, c22, c23, hr2⟩ := hcell2 j _ (List.getElem?_eq_getElem hlt2)
        obtain ⟨_, _, _, _, rfl, rfl, rfl, rfl⟩ := hr1.shape
        obtain ⟨_, _, _, _, rfl, rfl, rfl, rfl⟩ := hr2.shape
        have Hr1 := Lib.hid hr1
        have Hr2 := Lib.hid hr2
        have hz := u.ext.size
        have hb1' : b1 < u.val.heap.size := by omega
        have hb2' : b2 < u.val.heap.size := by omega
        have hb2'' : b2 < u.val.heap.size + 1 := by omega
        clear hcell1 hcell2 hr1 hr2
        cases hs : k1[j].same k2[j]
        · rw [hs] at hy
          have Hy : Hid (sameL k1 k2 = false) := by unfold Hid; rw [← hy]; rfl
          have Hs := Lib.hid hs
          clear hy hs
          go_wp2_with (go_at_call 19; refine (HH.out _ _ _ _ _ (((Hr1.out.up u).alloc _).alloc _) (((Hr2.out.up u).alloc _).alloc _)).mono ?_; rw [Hs.out]; rintro e w1 ⟨rfl, hx1⟩; obtain ⟨u1, rfl⟩ := Up.to u (((Ext.alloc' _ _).trans' (Ext.alloc' _ _)).trans' hx1); clear hx1)
          go_ret
          exact ⟨ret_bool (by rw [Hy.out]), u1.ext⟩
        · rw [hs] at hy
          have Hy : Hid (sameL (k1.drop (j + 1)) (k2.drop (j + 1)) = sameL k1 k2) := by unfold Hid; rw [← hy]; rfl
          have Hs := Lib.hid hs
          clear hy hs
          go_wp2_with (go_at_call 19; refine (HH.out _ _ _ _ _ (((Hr1.out.up u).alloc _).alloc _) (((Hr2.out.up u).alloc _).alloc _)).mono ?_; rw [Hs.out]; rintro e w1 ⟨rfl, hx1⟩; obtain ⟨u1, rfl⟩ := Up.to u (((Ext.alloc' _ _).trans' (Ext.alloc' _ _)).trans' hx1); clear hx1)
          go_roundw
          case rel => exact ⟨j + 1, u1, by omega, by go_num, rfl, Hy.out⟩
          case measure => simp [intOf]; omega
      · rw [sameL_end hlt Hl.out] at hy
        have Hy := Lib.hid hy
        clear hy
        go_wp2_with fail
        go_ret
        exact ⟨ret_bool Hy.out, u.ext⟩
  · have q : ((k1.length : Int) != (k2.length : Int)) = true := by rw [bne_iff_ne]; omega
    have Hl : Hid (sameL k1 k2 = false) := sameL_len _ _ hl
    clear hl
    go_enter Try.func86, Try.ntmps86
    go_wp2_with fail
    go_ret
    exact ⟨ret_bool Hl.out.symm, Below.refl _ _⟩

theorem toList_inj {a b : ByteArray} (h : a.toList = b.toList) : a = b := by
  rw [Lib.toList_data, Lib.toList_data] at h
  exact ByteArray.ext (Array.toList_inj.1 h)

set_option maxHeartbeats 2000000 in
theorem same_any (B1 B2 : Nat) (S1 S2 : Nat → Prop) (d : Nat) : ∀ (d2 : Nat) (t1 t2 : N) (v1 v2 : Value) (w : World), Rep B1 S1 w d t1 v1 → Rep B2 S2 w d2 t2 v2 →
    Calls Try.prog 19 #[v1, v2] w fun e w' => e = .returned (.bool (t1.same t2)) ∧ Ext w w' := by
  induction d with
  | zero => intro d2 t1 t2 v1 v2 w h; exact h.elim
  | succ d ih =>
    rintro d2 ⟨k, tx, ns, ks⟩ ⟨k', tx', ns', ks'⟩ v1 v2 w h1 h2
    cases d2 with
    | zero => exact h2.elim
    | succ d2 =>
    obtain ⟨nv, kv, rfl, htx, hn, hk⟩ := h1.split
    obtain ⟨nv', kv', rfl, htx', hn', hk'⟩ := h2.split
    have HN := Lib.hid hn
    have HN' := Lib.hid hn'
    have HK := Lib.hid hk
    have HK' := Lib.hid hk'
    clear h1 h2
    obtain ⟨An, cn, rfl, hcn, hmn, hBn, hsn, hns⟩ := hn
    obtain ⟨An', cn', rfl, hcn', hmn', hBn', hsn', hns'⟩ := hn'
    obtain ⟨A, c, rfl, hc, hm, hB, hg⟩ := hk
    obtain ⟨A', c', rfl, hc', hm', hB', hg'⟩ := hk'
    clear hBn hBn' hsn hsn' hB hB' htx htx'
    unfold maxLen at hm hm' hmn hmn'
    by_cases e1 : k = k'
    case neg =>
      have q1 : (k == k') = false := by rw [beq_eq_false_iff_ne]; exact e1
      have q1' : (k != k') = true := by rw [bne_iff_ne]; exact e1
      have HW : Hid (N.same (.mk k tx ns ks) (.mk k' tx' ns' ks') = false) := by unfold Hid; rw [N.same]; simp [e1]
      clear e1 hns hns' hg hg'
      go_enter Try.func19, Try.ntmps19
      go_wp2_with fail
      go_ret
      exact ⟨ret_bool (by rw [HW.out]), (Ext.alloc' _ _).trans' (Ext.alloc' _ _)⟩
    by_cases e2 : tx = tx'
    case neg =>
      have q0 : (k == k') = true := by simp [e1]
      have q0' : (k != k') = false := by simp [e1]
      have q1 : (tx.toList == tx'.toList) = false := by rw [beq_eq_false_iff_ne]; intro h; exact e2 (toList_inj h)
      have q1' : (tx.toList != tx'.toList) = true := by rw [bne_iff_ne]; intro h; exact e2 (toList_inj h)
      have HW : Hid (N.same (.mk k tx ns ks) (.mk k' tx' ns' ks') = false) := by unfold Hid; rw [N.same]; simp [e2]
      clear e1 e2 hns hns' hg hg'
      go_enter Try.func19, Try.ntmps19
      go_wp2_with fail
      go_ret
      exact ⟨ret_bool (by rw [HW.out]), (Ext.alloc' _ _).trans' (Ext.alloc' _ _)⟩
    subst e1 e2
    have q0 : (k == k) = true := by simp
    have q1 : (tx.toList == tx.toList) = true := by simp
    have hu := (up_rules ((w.alloc (.cells #[.int .u8 k, .string tx, .slice An ns.length cn, .slice A ks.length c] 25)).alloc (.cells #[.int .u8 k, .string tx, .slice An' ns'.length cn', .slice A' ks'.length c'] 25))).1
    simp only [World.size_alloc] at hu
    clear hns hns' hg hg'
    by_cases e3 : ns = ns'
    case neg =>
      have HW : Hid (N.same (.mk k tx ns ks) (.mk k tx ns' ks') = false) := by unfold Hid; rw [N.same]; simp [e3]
      have He : Hid (decide (ns = ns') = false) := decide_eq_false e3
      clear e3
      go_enter Try.func19, Try.ntmps19
      go_wp2_with (go_at_call 85; refine (equalS_any ((HN.out.alloc _).alloc _) ((HN'.out.alloc _).alloc _)).mono ?_; rw [He.out]; rintro e w1 ⟨rfl, hx1⟩; obtain ⟨u1, rfl⟩ := Up.of hx1; clear hx1)
      go_ret
      exact ⟨ret_bool (by rw [HW.out]), ((Ext.alloc' _ _).trans' (Ext.alloc' _ _)).trans' u1.ext⟩
    have He : Hid (decide (ns = ns') = true) := decide_eq_true e3
    have HW : Hid (N.same (.mk k tx ns ks) (.mk k tx ns' ks') = sameL ks ks') := by unfold Hid; rw [N.same]; simp [e3]
    clear e3
    go_enter Try.func19, Try.ntmps19
    go_wp2_with (first | (go_at_call 85; refine (equalS_any ((HN.out.alloc _).alloc _) ((HN'.out.alloc _).alloc _)).mono ?_; rw [He.out]; rintro e w1 ⟨rfl, hx1⟩; obtain ⟨u1, rfl⟩ := Up.of hx1; clear hx1) | (go_at_call 86; refine (equalFunc_any B1 B2 S1 S2 d d2 (ih d2) ks ks' _ _ _ (((HK.out.alloc _).alloc _).up _) (((HK'.out.alloc _).alloc _).up _)).mono ?_; rintro e w2 ⟨rfl, hx2⟩; obtain ⟨u2, rfl⟩ := Up.to _ hx2; clear hx2))
    go_ret
    exact ⟨ret_bool (by rw [HW.out]), ((Ext.alloc' _ _).trans' (Ext.alloc' _ _)).trans' (Up.ext _)⟩

end Go.Proofs.Ytocndkhgopjhhaa
