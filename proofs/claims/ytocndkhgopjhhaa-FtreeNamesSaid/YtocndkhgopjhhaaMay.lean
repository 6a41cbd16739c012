import Derived.Test.YtocndkhgopjhhaaProg
import Derived.Test.YtocndkhgopjhhaaBase
import Derived.Test.YtocndkhgopjhhaaWell
import Derived.Test.YtocndkhgopjhhaaWell7
namespace Go.Proofs.Ytocndkhgopjhhaa
open Go.RowKit

set_option maxHeartbeats 1000000 in
theorem may_any (B : Nat) (hB45 : B ≤ 2199023255552) (S : Nat → Prop) (d : Nat) (t : N) (v : Value) (w : World) (h : Rep B S w d t v) :
    Calls Try.prog 17 #[v] w fun e w' => e = .returned (.bool t.may) ∧ Ext w w' := by
  cases d with
  | zero => exact h.elim
  | succ d =>
    obtain ⟨k, tx, ns, ks⟩ := t
    have HR0 := Lib.hid h
    obtain ⟨nv, A, c, rfl, htx, hn, hc, hm, hBk, hk⟩ := h
    obtain ⟨An, cn, rfl, hcn, hmn, hBn, hsn, hns⟩ := hn
    clear hBk hBn hsn htx hns hcn hmn hc hm hk
    by_cases h2 : k = 2
    · subst h2
      have HR : Hid (Rep B S (w.alloc (.cells #[.int .u8 2, .string tx, .slice An ns.length cn, .slice A ks.length c] 25)) (d + 1) (.mk 2 tx ns ks) _) := HR0.out.alloc _
      clear HR0
      have hu := (up_rules (w.alloc (.cells #[.int .u8 2, .string tx, .slice An ns.length cn, .slice A ks.length c] 25))).1
      simp only [World.size_alloc] at hu
      cases hw : (N.mk 2 tx ns ks).well
      · have Hw := Lib.hid hw
        go_enter Try.func17, Try.ntmps17
        go_wp2_with (first | (go_at_call 15; refine (well_any B hB45 S _ _ _ _ HR.out).mono ?_; rintro e w1 ⟨rfl, hx1⟩; obtain ⟨u1, rfl⟩ := Up.of hx1; clear hx1) | (go_at_call 21; refine (nodes_any B S _ _ _ _ (HR.out.up _)).mono ?_; rintro e w2 ⟨rfl, hx2⟩; obtain ⟨u2, rfl⟩ := Up.to _ hx2; clear hx2) | (go_at_call 83; refine (depth_any B S _ _ _ _ (HR.out.up _)).mono ?_; rintro e w3 ⟨rfl, hx3⟩; obtain ⟨u3, rfl⟩ := Up.to _ hx3; clear hx3))
        go_ret
        exact ⟨ret_bool (by rw [N.may, Hw.out]; simp), (Ext.alloc' _ _).trans' (Up.ext _)⟩
      · have Hw := Lib.hid hw
        by_cases h3 : (N.mk 2 tx ns ks).nodes ≤ 1024
        · have H3 : Hid (decide ((N.mk 2 tx ns ks).nodes ≤ 1024) = true) := decide_eq_true h3
          go_enter Try.func17, Try.ntmps17
          go_wp2_with (first | (go_at_call 15; refine (well_any B hB45 S _ _ _ _ HR.out).mono ?_; rintro e w1 ⟨rfl, hx1⟩; obtain ⟨u1, rfl⟩ := Up.of hx1; clear hx1) | (go_at_call 21; refine (nodes_any B S _ _ _ _ (HR.out.up _)).mono ?_; rintro e w2 ⟨rfl, hx2⟩; obtain ⟨u2, rfl⟩ := Up.to _ hx2; clear hx2) | (go_at_call 83; refine (depth_any B S _ _ _ _ (HR.out.up _)).mono ?_; rintro e w3 ⟨rfl, hx3⟩; obtain ⟨u3, rfl⟩ := Up.to _ hx3; clear hx3))
          go_ret
          exact ⟨ret_bool (by rw [N.may, Hw.out, H3.out]; simp [N.kind]), (Ext.alloc' _ _).trans' (Up.ext _)⟩
        · have H3 : Hid (decide ((N.mk 2 tx ns ks).nodes ≤ 1024) = false) := decide_eq_false h3
          go_enter Try.func17, Try.ntmps17
          go_wp2_with (first | (go_at_call 15; refine (well_any B hB45 S _ _ _ _ HR.out).mono ?_; rintro e w1 ⟨rfl, hx1⟩; obtain ⟨u1, rfl⟩ := Up.of hx1; clear hx1) | (go_at_call 21; refine (nodes_any B S _ _ _ _ (HR.out.up _)).mono ?_; rintro e w2 ⟨rfl, hx2⟩; obtain ⟨u2, rfl⟩ := Up.to _ hx2; clear hx2) | (go_at_call 83; refine (depth_any B S _ _ _ _ (HR.out.up _)).mono ?_; rintro e w3 ⟨rfl, hx3⟩; obtain ⟨u3, rfl⟩ := Up.to _ hx3; clear hx3))
          go_ret
          exact ⟨ret_bool (by rw [N.may, Hw.out, H3.out]; simp [N.kind]), (Ext.alloc' _ _).trans' (Up.ext _)⟩
    · have k2 : (k == 2) = false := by rw [beq_eq_false_iff_ne]; exact h2
      have H2 := Lib.hid h2
      clear h2
      go_enter Try.func17, Try.ntmps17
      go_wp2_with fail
      go_ret
      exact ⟨ret_bool (by simp [N.may, N.kind, H2.out]), Ext.alloc' _ _⟩

set_option maxHeartbeats 1000000 in
theorem may7_any (B : Nat) (S : Nat → Prop) (d : Nat) (t : N) (v : Value) (w : World) (h : Rep B S w d t v) :
    Calls Try.prog 18 #[v] w fun e w' => e = .returned (.bool t.may) ∧ Ext w w' := by
  cases d with
  | zero => exact h.elim
  | succ d =>
    obtain ⟨k, tx, ns, ks⟩ := t
    have HR0 := Lib.hid h
    obtain ⟨nv, A, c, rfl, htx, hn, hc, hm, hBk, hk⟩ := h
    obtain ⟨An, cn, rfl, hcn, hmn, hBn, hsn, hns⟩ := hn
    clear hBk hBn hsn htx hns hcn hmn hc hm hk
    by_cases h2 : k = 2
    · subst h2
      have HR : Hid (Rep B S (w.alloc (.cells #[.int .u8 2, .string tx, .slice An ns.length cn, .slice A ks.length c] 25)) (d + 1) (.mk 2 tx ns ks) _) := HR0.out.alloc _
      clear HR0
      have hu := (up_rules (w.alloc (.cells #[.int .u8 2, .string tx, .slice An ns.length cn, .slice A ks.length c] 25))).1
      simp only [World.size_alloc] at hu
      cases hw : (N.mk 2 tx ns ks).well
      · have Hw := Lib.hid hw
        go_enter Try.func18, Try.ntmps18
        go_wp2_with (first | (go_at_call 16; refine (well7_any B S _ _ _ _ HR.out).mono ?_; rintro e w1 ⟨rfl, hx1⟩; obtain ⟨u1, rfl⟩ := Up.of hx1; clear hx1) | (go_at_call 22; refine (nodes7_any B S _ _ _ _ (HR.out.up _)).mono ?_; rintro e w2 ⟨rfl, hx2⟩; obtain ⟨u2, rfl⟩ := Up.to _ hx2; clear hx2) | (go_at_call 84; refine (deep7_any B S _ _ _ _ (HR.out.up _)).mono ?_; rintro e w3 ⟨rfl, hx3⟩; obtain ⟨u3, rfl⟩ := Up.to _ hx3; clear hx3))
        go_ret
        exact ⟨ret_bool (by rw [N.may, Hw.out]; simp), (Ext.alloc' _ _).trans' (Up.ext _)⟩
      · have Hw := Lib.hid hw
        by_cases h3 : (N.mk 2 tx ns ks).nodes ≤ 1024
        · have H3 : Hid (decide ((N.mk 2 tx ns ks).nodes ≤ 1024) = true) := decide_eq_true h3
          go_enter Try.func18, Try.ntmps18
          go_wp2_with (first | (go_at_call 16; refine (well7_any B S _ _ _ _ HR.out).mono ?_; rintro e w1 ⟨rfl, hx1⟩; obtain ⟨u1, rfl⟩ := Up.of hx1; clear hx1) | (go_at_call 22; refine (nodes7_any B S _ _ _ _ (HR.out.up _)).mono ?_; rintro e w2 ⟨rfl, hx2⟩; obtain ⟨u2, rfl⟩ := Up.to _ hx2; clear hx2) | (go_at_call 84; refine (deep7_any B S _ _ _ _ (HR.out.up _)).mono ?_; rintro e w3 ⟨rfl, hx3⟩; obtain ⟨u3, rfl⟩ := Up.to _ hx3; clear hx3))
          go_ret
          exact ⟨ret_bool (by rw [N.may, Hw.out, H3.out]; simp [N.kind]), (Ext.alloc' _ _).trans' (Up.ext _)⟩
        · have H3 : Hid (decide ((N.mk 2 tx ns ks).nodes ≤ 1024) = false) := decide_eq_false h3
          go_enter Try.func18, Try.ntmps18
          go_wp2_with (first | (go_at_call 16; refine (well7_any B S _ _ _ _ HR.out).mono ?_; rintro e w1 ⟨rfl, hx1⟩; obtain ⟨u1, rfl⟩ := Up.of hx1; clear hx1) | (go_at_call 22; refine (nodes7_any B S _ _ _ _ (HR.out.up _)).mono ?_; rintro e w2 ⟨rfl, hx2⟩; obtain ⟨u2, rfl⟩ := Up.to _ hx2; clear hx2) | (go_at_call 84; refine (deep7_any B S _ _ _ _ (HR.out.up _)).mono ?_; rintro e w3 ⟨rfl, hx3⟩; obtain ⟨u3, rfl⟩ := Up.to _ hx3; clear hx3))
          go_ret
          exact ⟨ret_bool (by rw [N.may, Hw.out, H3.out]; simp [N.kind]), (Ext.alloc' _ _).trans' (Up.ext _)⟩
    · have k2 : (k == 2) = false := by rw [beq_eq_false_iff_ne]; exact h2
      have H2 := Lib.hid h2
      clear h2
      go_enter Try.func18, Try.ntmps18
      go_wp2_with fail
      go_ret
      exact ⟨ret_bool (by simp [N.may, N.kind, H2.out]), Ext.alloc' _ _⟩

end Go.Proofs.Ytocndkhgopjhhaa
