import Derived.Test.YtocndkhgopjhhaaProg
import Derived.Test.YtocndkhgopjhhaaBase
import Derived.Test.YtocndkhgopjhhaaNames
namespace Go.Proofs.Ytocndkhgopjhhaa
open Go.RowKit

set_option maxHeartbeats 1000000 in
theorem well7_any (B : Nat) (S : Nat → Prop) (d : Nat) : ∀ (t : N) (v : Value) (w : World), Rep B S w d t v →
    Calls Try.prog 16 #[v] w fun e w' => e = .returned (.bool t.well) ∧ Ext w w' := by
  induction d with
  | zero => intro t v w h; exact h.elim
  | succ d ih =>
    rintro ⟨k, tx, ns, ks⟩ v w ⟨nv, A, c, rfl, htx, hn, hc, hm, hB, hk⟩
    obtain ⟨An, cn, rfl, hcn, hmn, hBn, hsn, hns⟩ := hn
    clear hB hBn
    by_cases h1 : k = 1 ∨ k = 3
    · rcases h1 with rfl | rfl
      · by_cases hn0 : ns = []
        · by_cases hk0 : ks.length = 0
          · have q1 : ((ns.length : Int) == 0) = true := by simp [hn0]
            have q2 : ((ks.length : Int) == 0) = true := by simp [hk0]
            have hW : N.well (.mk 1 tx ns ks) = textB tx := by simp [N.well, hn0, hk0]
            have HW := Lib.hid hW
            have Htx := Lib.hid htx
            clear hW hn0 hk0 hsn hns hk htx
            cases htb : textB tx
            · have Htb := Lib.hid htb
              go_enter Try.func16, Try.ntmps16
              go_wp2_with (go_at_call 81; refine (text7_any _ _ Htx.out).mono ?_; rintro e w' ⟨rfl, rfl⟩)
              go_ret
              exact ⟨ret_bool (by rw [HW.out, Htb.out]), Ext.alloc' _ _⟩
            · have Htb := Lib.hid htb
              go_enter Try.func16, Try.ntmps16
              go_wp2_with (go_at_call 81; refine (text7_any _ _ Htx.out).mono ?_; rintro e w' ⟨rfl, rfl⟩)
              go_ret
              exact ⟨ret_bool (by rw [HW.out, Htb.out]), Ext.alloc' _ _⟩
          · have q1 : ((ns.length : Int) == 0) = true := by simp [hn0]
            have q2 : ((ks.length : Int) == 0) = false := by rw [beq_eq_false_iff_ne]; omega
            have hW : N.well (.mk 1 tx ns ks) = false := by simp [N.well, hk0]
            have HW := Lib.hid hW
            clear hW hn0 hk0 hsn hns hk htx
            go_enter Try.func16, Try.ntmps16
            go_wp2_with fail
            go_ret
            exact ⟨ret_bool (by rw [HW.out]), Ext.alloc' _ _⟩
        · have q1 : ((ns.length : Int) == 0) = false := by simpa using hn0
          have hW : N.well (.mk 1 tx ns ks) = false := by simp [N.well, hn0]
          have HW := Lib.hid hW
          clear hW hn0 hsn hns hk htx
          go_enter Try.func16, Try.ntmps16
          go_wp2_with fail
          go_ret
          exact ⟨ret_bool (by rw [HW.out]), Ext.alloc' _ _⟩
      · by_cases hn0 : ns = []
        · by_cases hk0 : ks.length = 0
          · have q1 : ((ns.length : Int) == 0) = true := by simp [hn0]
            have q2 : ((ks.length : Int) == 0) = true := by simp [hk0]
            have hW : N.well (.mk 3 tx ns ks) = (textB tx && decide (0 < tx.size)) := by simp [N.well, hn0, hk0]
            have HW := Lib.hid hW
            have Htx := Lib.hid htx
            clear hW hn0 hk0 hsn hns hk htx
            by_cases hz : 0 < tx.size
            · have Hz : Hid (decide (0 < tx.size) = true) := decide_eq_true (by omega)
              have hz' : decide ((0 : Int) < (tx.size : Int)) = true := decide_eq_true (by omega)
              cases htb : textB tx
              · have Htb := Lib.hid htb
                go_enter Try.func16, Try.ntmps16
                go_wp2_with (go_at_call 81; refine (text7_any _ _ Htx.out).mono ?_; rintro e w' ⟨rfl, rfl⟩)
                go_ret
                exact ⟨ret_bool (by rw [HW.out, Hz.out, Htb.out]; rfl), Ext.alloc' _ _⟩
              · have Htb := Lib.hid htb
                go_enter Try.func16, Try.ntmps16
                go_wp2_with (go_at_call 81; refine (text7_any _ _ Htx.out).mono ?_; rintro e w' ⟨rfl, rfl⟩)
                go_ret
                exact ⟨ret_bool (by rw [HW.out, Hz.out, Htb.out]; rfl), Ext.alloc' _ _⟩
            · have Hz : Hid (decide (0 < tx.size) = false) := decide_eq_false (by omega)
              have hz' : decide ((0 : Int) < (tx.size : Int)) = false := decide_eq_false (by omega)
              cases htb : textB tx
              · have Htb := Lib.hid htb
                go_enter Try.func16, Try.ntmps16
                go_wp2_with (go_at_call 81; refine (text7_any _ _ Htx.out).mono ?_; rintro e w' ⟨rfl, rfl⟩)
                go_ret
                exact ⟨ret_bool (by rw [HW.out, Hz.out, Htb.out]; rfl), Ext.alloc' _ _⟩
              · have Htb := Lib.hid htb
                go_enter Try.func16, Try.ntmps16
                go_wp2_with (go_at_call 81; refine (text7_any _ _ Htx.out).mono ?_; rintro e w' ⟨rfl, rfl⟩)
                go_ret
                exact ⟨ret_bool (by rw [HW.out, Hz.out, Htb.out]; rfl), Ext.alloc' _ _⟩
          · have q1 : ((ns.length : Int) == 0) = true := by simp [hn0]
            have q2 : ((ks.length : Int) == 0) = false := by rw [beq_eq_false_iff_ne]; omega
            have hW : N.well (.mk 3 tx ns ks) = false := by simp [N.well, hk0]
            have HW := Lib.hid hW
            clear hW hn0 hk0 hsn hns hk htx
            go_enter Try.func16, Try.ntmps16
            go_wp2_with fail
            go_ret
            exact ⟨ret_bool (by rw [HW.out]), Ext.alloc' _ _⟩
        · have q1 : ((ns.length : Int) == 0) = false := by simpa using hn0
          have hW : N.well (.mk 3 tx ns ks) = false := by simp [N.well, hn0]
          have HW := Lib.hid hW
          clear hW hn0 hsn hns hk htx
          go_enter Try.func16, Try.ntmps16
          go_wp2_with fail
          go_ret
          exact ⟨ret_bool (by rw [HW.out]), Ext.alloc' _ _⟩
    · by_cases h2 : k = 2
      · subst h2
        clear h1
        by_cases h3 : tx.toList = [] ∧ ns.length = ks.length
        · obtain ⟨h3, h4⟩ := h3
          have hW : N.well (.mk 2 tx ns ks) = wellL none ns ks := by simp [N.well, h3, h4]
          have HW := Lib.hid hW
          have Hlen := Lib.hid h4
          clear hW
          have e1 : tx.toList.isEmpty = true := by simpa using h3
          have e2 : ((ns.length : Int) == (ks.length : Int)) = true := by simp [h4]
          have hsz : (ns.length : Int) ≤ (ks.length : Int) := by omega
          have hsz2 : (ks.length : Int) ≤ (ns.length : Int) := by omega
          clear h3 h4
          have Hsn := Lib.hid hsn
          clear hsn htx
          unfold maxLen at hm hmn
          go_enter Try.func16, Try.ntmps16
          have hu := (up_rules (w.alloc (.cells #[.int .u8 2, .string tx, .slice An ns.length cn, .slice A ks.length c] 25))).1
          simp only [World.size_alloc] at hu
          go_wp2_with fail
          go_loopw [3] (fun i wr => ∃ (j : Nat) (u : Up (w.alloc (.cells #[.int .u8 2, .string tx, .slice An ns.length cn, .slice A ks.length c] 25))), j ≤ ns.length ∧ i = .int .i64 j ∧ wr = u.val ∧ wellL (prevOf ns j) (ns.drop j) (ks.drop j) = wellL none ns ks) (fun i _ => ns.length - (intOf i).toNat)
          case atStart => obtain ⟨u, hu⟩ := Up.self (w.alloc (.cells #[.int .u8 2, .string tx, .slice An ns.length cn, .slice A ks.length c] 25)); exact ⟨0, u, Nat.zero_le _, rfl, hu, rfl⟩
          case round =>
            obtain ⟨j, u, hj, rfl, rfl, hy⟩ := hrel
            by_cases hlt : j < ns.length
            · have hltk : j < ks.length := by omega
              rw [wellL_at hlt hltk] at hy
              obtain ⟨b, o, rfl, hS, hbs, hcell⟩ := hns (by omega)
              obtain ⟨bk, ok, rfl, hSk, hbk, hck⟩ := hk (by omega)
              have hbs' : b < w.heap.size + 1 := by omega
              have hbk' : bk < w.heap.size + 1 := by omega
              have cj := hcell j _ (List.getElem?_eq_getElem hlt)
              obtain ⟨v0, v1, v2, v3, c0, c1, c2, c3, hr⟩ := hck j _ (List.getElem?_eq_getElem hltk)
              have Hr := Lib.hid hr
              have Hsz := Lib.hid (Hsn.out _ (List.getElem_mem hlt))
              clear hck hr
              cases hnm : nameB ns[j]
              · rw [hnm] at hy
                have Hy : Hid (wellL none ns ks = false) := by unfold Hid; rw [← hy]; rfl
                clear hy
                go_wp2_with fail
                refine wp_region_up (by kernel_rfl) (by kernel_rfl) ?_
                repeat (go_big_quiet_step ((first | (go_at_call 82; exact Calls.up ((name6_any _ _ Hsz.out).mono fun e w' ⟨he, hw⟩ => ⟨he, hw ▸ Below.refl _ _⟩)) | (go_at_call 16; exact Calls.up (ih _ _ _ ((Hr.out.alloc _).up _))))))
                refine wpQuiet_nil ?_
                rintro _ ⟨u1, rfl⟩
                go_wp2_with fail
                go_ret
                exact ⟨ret_bool (by rw [HW.out, Hy.out]), (Ext.alloc' _ _).trans' u1.ext⟩
              · rw [hnm] at hy
                cases j with
                | zero =>
                  simp only [Nat.zero_mul, Nat.add_zero] at c0 c1 c2 c3 cj
                  cases hkw : ks[0].well
                  · rw [hkw] at hy
                    have Hy : Hid (wellL none ns ks = false) := by unfold Hid; rw [← hy]; rfl
                    clear hy
                    go_wp2_with fail
                    refine wp_region_up (by kernel_rfl) (by kernel_rfl) ?_
                    repeat (go_big_quiet_step ((first | (go_at_call 82; exact Calls.up ((name6_any _ _ Hsz.out).mono fun e w' ⟨he, hw⟩ => ⟨he, hw ▸ Below.refl _ _⟩)) | (go_at_call 16; exact Calls.up (ih _ _ _ ((Hr.out.alloc _).up _))))))
                    refine wpQuiet_nil ?_
                    rintro _ ⟨u1, rfl⟩
                    go_wp2_with fail
                    go_ret
                    exact ⟨ret_bool (by rw [HW.out, Hy.out]), (Ext.alloc' _ _).trans' u1.ext⟩
                  · rw [hkw] at hy
                    have Hy : Hid (wellL (prevOf ns (0 + 1)) (ns.drop (0 + 1)) (ks.drop (0 + 1)) = wellL none ns ks) := by unfold Hid; rw [← hy]; rfl
                    clear hy
                    go_wp2_with fail
                    refine wp_region_up (by kernel_rfl) (by kernel_rfl) ?_
                    repeat (go_big_quiet_step ((first | (go_at_call 82; exact Calls.up ((name6_any _ _ Hsz.out).mono fun e w' ⟨he, hw⟩ => ⟨he, hw ▸ Below.refl _ _⟩)) | (go_at_call 16; exact Calls.up (ih _ _ _ ((Hr.out.alloc _).up _))))))
                    refine wpQuiet_nil ?_
                    rintro _ ⟨u1, rfl⟩
                    go_wp2_with fail
                    go_roundw
                    case rel => exact ⟨0 + 1, u1, by omega, by go_num, rfl, Hy.out⟩
                    case measure => simp [intOf]; omega
                | succ j =>
                  have hlj : j < ns.length := by omega
                  have cp := hcell j _ (List.getElem?_eq_getElem hlj)
                  have hp : prevOf ns (j + 1) = some ns[j] := by simp [prevOf, List.getElem?_eq_getElem hlj]
                  have hjp : (0 : Int) < ((j + 1 : Nat) : Int) := by omega
                  rw [hp] at hy
                  clear hp hcell
                  cases hle : (Op.bytesLess ns[j + 1].toList ns[j].toList || ns[j + 1].toList == ns[j].toList)
                  · have hle' : leS ns[j + 1] ns[j] = false := hle
                    cases hkw : ks[j + 1].well
                    · rw [hkw] at hy
                      have Hy : Hid (wellL none ns ks = false) := by unfold Hid; rw [← hy]; simp
                      clear hy
                      go_wp2_with fail
                      refine wp_region_up (by kernel_rfl) (by kernel_rfl) ?_
                      repeat (go_big_quiet_step ((first | (go_at_call 82; exact Calls.up ((name6_any _ _ Hsz.out).mono fun e w' ⟨he, hw⟩ => ⟨he, hw ▸ Below.refl _ _⟩)) | (go_at_call 16; exact Calls.up (ih _ _ _ ((Hr.out.alloc _).up _))))))
                      refine wpQuiet_nil ?_
                      rintro _ ⟨u1, rfl⟩
                      go_wp2_with fail
                      go_ret
                      exact ⟨ret_bool (by rw [HW.out, Hy.out]), (Ext.alloc' _ _).trans' u1.ext⟩
                    · rw [hkw] at hy
                      have Hy : Hid (wellL (prevOf ns (j + 1 + 1)) (ns.drop (j + 1 + 1)) (ks.drop (j + 1 + 1)) = wellL none ns ks) := by unfold Hid; rw [← hy]; simp [hle']
                      clear hy
                      go_wp2_with fail
                      refine wp_region_up (by kernel_rfl) (by kernel_rfl) ?_
                      repeat (go_big_quiet_step ((first | (go_at_call 82; exact Calls.up ((name6_any _ _ Hsz.out).mono fun e w' ⟨he, hw⟩ => ⟨he, hw ▸ Below.refl _ _⟩)) | (go_at_call 16; exact Calls.up (ih _ _ _ ((Hr.out.alloc _).up _))))))
                      refine wpQuiet_nil ?_
                      rintro _ ⟨u1, rfl⟩
                      go_wp2_with fail
                      go_roundw
                      case rel => exact ⟨j + 1 + 1, u1, by omega, by go_num, rfl, Hy.out⟩
                      case measure => simp [intOf]; omega
                  · have hle' : leS ns[j + 1] ns[j] = true := hle
                    have Hy : Hid (wellL none ns ks = false) := by unfold Hid; rw [← hy]; simp [hle']
                    clear hy
                    go_wp2_with fail
                    refine wp_region_up (by kernel_rfl) (by kernel_rfl) ?_
                    repeat (go_big_quiet_step ((first | (go_at_call 82; exact Calls.up ((name6_any _ _ Hsz.out).mono fun e w' ⟨he, hw⟩ => ⟨he, hw ▸ Below.refl _ _⟩)) | (go_at_call 16; exact Calls.up (ih _ _ _ ((Hr.out.alloc _).up _))))))
                    refine wpQuiet_nil ?_
                    rintro _ ⟨u1, rfl⟩
                    go_wp2_with fail
                    go_ret
                    exact ⟨ret_bool (by rw [HW.out, Hy.out]), (Ext.alloc' _ _).trans' u1.ext⟩
            · rw [wellL_end hlt] at hy
              have Hy := Lib.hid hy
              clear hy
              go_wp2_with fail
              go_ret
              exact ⟨ret_bool (by rw [HW.out, ← Hy.out]), (Ext.alloc' _ _).trans' u.ext⟩
        · have hW : N.well (.mk 2 tx ns ks) = false := by simp [N.well]; intro h4 h5; exact absurd ⟨h4, h5⟩ h3
          have HW := Lib.hid hW
          clear hW hsn hns hk htx
          by_cases h4 : tx.toList = []
          · have h5 : ns.length ≠ ks.length := fun h => h3 ⟨h4, h⟩
            have e1 : tx.toList.isEmpty = true := by simpa using h4
            have e2 : ((ns.length : Int) != (ks.length : Int)) = true := by rw [bne_iff_ne]; omega
            clear h3 h4 h5
            go_enter Try.func16, Try.ntmps16
            go_wp2_with fail
            go_ret
            exact ⟨ret_bool (by rw [HW.out]), Ext.alloc' _ _⟩
          · have e1 : tx.toList.isEmpty = false := by simpa using h4
            clear h3 h4
            go_enter Try.func16, Try.ntmps16
            go_wp2_with fail
            go_ret
            exact ⟨ret_bool (by rw [HW.out]), Ext.alloc' _ _⟩
      · have hW : N.well (.mk k tx ns ks) = false := by simp only [N.well]; rw [if_neg (fun h => h1 (.inl h)), if_neg (fun h => h1 (.inr h)), if_neg h2]
        have HW := Lib.hid hW
        have k1 : (k == 1) = false := by rw [beq_eq_false_iff_ne]; exact fun h => h1 (.inl h)
        have k3 : (k == 3) = false := by rw [beq_eq_false_iff_ne]; exact fun h => h1 (.inr h)
        have k2 : (k == 2) = false := by rw [beq_eq_false_iff_ne]; exact h2
        have k2' : (k != 2) = true := by rw [bne_iff_ne]; exact h2
        clear hW hsn hns hk htx h1 h2
        go_enter Try.func16, Try.ntmps16
        go_wp2_with fail
        go_ret
        exact ⟨ret_bool (by rw [HW.out]), Ext.alloc' _ _⟩
end Go.Proofs.Ytocndkhgopjhhaa
