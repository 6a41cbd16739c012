import Derived.Test.YtocndkhgopjhhaaProg
import Derived.Test.YtocndkhgopjhhaaBase
namespace Go.Proofs.Ytocndkhgopjhhaa
open Go.RowKit

set_option maxHeartbeats 400000 in
theorem text7_any (s : ByteArray) (w : World) (hs : s.size ≤ maxLen) :
    Calls Try.prog 81 #[.string s] w fun e w' => e = .returned (.bool (textB s)) ∧ w' = w := by
  unfold maxLen at hs
  go_enter Try.func81, Try.ntmps81
  go_wp2_with fail
  go_loop [3] (fun i => ∃ j : Nat, j ≤ s.size ∧ i = .int .i64 j ∧ (s.data.toList.drop j).any (· == 0) = hasNul s) (fun i => s.size - (intOf i).toNat)
  case atStart => exact ⟨0, Nat.zero_le _, rfl, rfl⟩
  case round =>
    obtain ⟨j, hj, rfl, hy⟩ := hrel
    by_cases hlt : j < s.size
    · rw [any_drop s j hlt] at hy
      by_cases h0 : s[j] = 0
      · have Hy : Hid (hasNul s = true) := by unfold Hid; rw [← hy, h0]; rfl
        clear hy
        have h0' : ((s[j].toNat : Int) == 0) = true := by rw [h0]; rfl
        clear h0
        go_wp2_with fail
        go_ret
        exact ⟨ret_bool (by rw [textB, Hy.out]; rfl), rfl⟩
      · have Hy : Hid ((s.data.toList.drop (j + 1)).any (· == 0) = hasNul s) := by unfold Hid; rw [← hy]; simp [h0]
        clear hy
        have h0' : ((s[j].toNat : Int) == 0) = false := by
          rw [beq_eq_false_iff_ne]; intro h; exact h0 (UInt8.toNat_inj.1 (by simpa using h))
        clear h0
        go_wp2_with fail
        go_round
        case rel => exact ⟨j + 1, by omega, by go_num, Hy.out⟩
        case measure => simp [intOf]; omega
    · rw [any_drop_end s j hlt] at hy
      have Hy := Lib.hid hy
      clear hy
      go_wp2_with fail
      go_ret
      exact ⟨ret_bool (by rw [textB, ← Hy.out]; simp), rfl⟩

set_option maxHeartbeats 1000000 in
theorem name6_any (s : ByteArray) (w : World) (hs : s.size ≤ maxLen) :
    Calls Try.prog 82 #[.string s] w fun e w' => e = .returned (.bool (nameB s)) ∧ w' = w := by
  unfold maxLen at hs
  by_cases e1 : s.toList = []
  · go_enter Try.func82, Try.ntmps82
    go_wp2_with fail
    go_ret
    exact ⟨ret_bool (by simp [nameB, e1]), rfl⟩
  by_cases e2 : 64 < (s.size : Int)
  · go_enter Try.func82, Try.ntmps82
    go_wp2_with fail
    go_ret
    exact ⟨ret_bool (by simp [nameB, e2]), rfl⟩
  by_cases e3 : s.toList = [46]
  · go_enter Try.func82, Try.ntmps82
    go_wp2_with fail
    go_ret
    exact ⟨ret_bool (by simp [nameB, e3]), rfl⟩
  by_cases e4 : s.toList = [46, 46]
  · go_enter Try.func82, Try.ntmps82
    go_wp2_with fail
    go_ret
    exact ⟨ret_bool (by simp [nameB, e4]), rfl⟩
  have hN : nameB s = !hasBad s := by simp [nameB, e1, e2, e3, e4]
  have HN := Lib.hid hN
  clear hN
  have f1 : s.toList.isEmpty = false := by simpa using e1
  have f3 : (s.toList == [46]) = false := by simpa using e3
  have f4 : (s.toList == [46, 46]) = false := by simpa using e4
  go_enter Try.func82, Try.ntmps82
  go_wp2_with fail
  go_loop [3] (fun i => ∃ j : Nat, j ≤ s.size ∧ i = .int .i64 j ∧ (s.data.toList.drop j).any badB = hasBad s) (fun i => s.size - (intOf i).toNat)
  case atStart => exact ⟨0, Nat.zero_le _, rfl, rfl⟩
  case round =>
    obtain ⟨j, hj, rfl, hy⟩ := hrel
    by_cases hlt : j < s.size
    · rw [any_drop s j hlt] at hy
      rw [badB_int] at hy
      cases b0 : ((s[j].toNat : Int) == 0)
      · cases b1 : ((s[j].toNat : Int) == 47)
        · cases b2 : ((s[j].toNat : Int) == 10)
          · have Hy : Hid ((s.data.toList.drop (j + 1)).any badB = hasBad s) := by unfold Hid; rw [← hy, b0, b1, b2]; rfl
            clear hy
            go_wp2_with fail
            go_round
            case rel => exact ⟨j + 1, by omega, by go_num, Hy.out⟩
            case measure => simp [intOf]; omega
          · have Hy : Hid (hasBad s = true) := by unfold Hid; rw [← hy, b0, b1, b2]; rfl
            clear hy
            go_wp2_with fail
            go_ret
            exact ⟨ret_bool (by rw [HN.out, Hy.out]; rfl), rfl⟩
        · have Hy : Hid (hasBad s = true) := by unfold Hid; rw [← hy, b0, b1]; rfl
          clear hy
          go_wp2_with fail
          go_ret
          exact ⟨ret_bool (by rw [HN.out, Hy.out]; rfl), rfl⟩
      · have Hy : Hid (hasBad s = true) := by unfold Hid; rw [← hy, b0]; rfl
        clear hy
        go_wp2_with fail
        go_ret
        exact ⟨ret_bool (by rw [HN.out, Hy.out]; rfl), rfl⟩
    · rw [any_drop_end s j hlt] at hy
      have Hy := Lib.hid hy
      clear hy
      go_wp2_with fail
      go_ret
      exact ⟨ret_bool (by rw [HN.out, ← Hy.out]; rfl), rfl⟩
end Go.Proofs.Ytocndkhgopjhhaa
namespace Go.Proofs.Ytocndkhgopjhhaa
open Go.RowKit

set_option maxHeartbeats 1000000 in
theorem well7_any (B : Nat) (S : Nat → Prop) (d : Nat) : ∀ (t : N) (v : Value) (w : World), Rep B S w d t v →
    Calls Try.prog 16 #[v] w fun e w' => e = .returned (.bool t.well) ∧ Ext w w' := by
  induction d with
  | zero => intro t v w h; exact h.elim
  | succ d ih =>
    rintro ⟨k, tx, ns, ks⟩ v w ⟨nv, A, c, rfl, htx, hn, hc, hm, hB, hk⟩
    obtain ⟨An, cn, rfl, hcn, hmn, hBn, hsn, hns⟩ := hn
    clear hB hBn
    by_cases h1 : k = 1 ∨ k = 3
    · rcases h1 with rfl | rfl
      · by_cases hn0 : ns = []
        · by_cases hk0 : ks.length = 0
          · have q1 : ((ns.length : Int) == 0) = true := by simp [hn0]
            have q2 : ((ks.length : Int) == 0) = true := by simp [hk0]
            have hW : N.well (.mk 1 tx ns ks) = textB tx := by simp [N.well, hn0, hk0]
            have HW := Lib.hid hW
            have Htx := Lib.hid htx
            clear hW hn0 hk0 hsn hns hk htx
            cases htb : textB tx
            · have Htb := Lib.hid htb
              go_enter Try.func16, Try.ntmps16
              go_wp2_with (go_at_call 81; refine (text7_any _ _ Htx.out).mono ?_; rintro e w' ⟨rfl, rfl⟩)
              go_ret
              exact ⟨ret_bool (by rw [HW.out, Htb.out]), Ext.alloc' _ _⟩
            · have Htb := Lib.hid htb
              go_enter Try.func16, Try.ntmps16
              go_wp2_with (go_at_call 81; refine (text7_any _ _ Htx.out).mono ?_; rintro e w' ⟨rfl, rfl⟩)
              go_ret
              exact ⟨ret_bool (by rw [HW.out, Htb.out]), Ext.alloc' _ _⟩
          · have q1 : ((ns.length : Int) == 0) = true := by simp [hn0]
            have q2 : ((ks.length : Int) == 0) = false := by rw [beq_eq_false_iff_ne]; omega
            have hW : N.well (.mk 1 tx ns ks) = false := by simp [N.well, hk0]
            have HW := Lib.hid hW
            clear hW hn0 hk0 hsn hns hk htx
            go_enter Try.func16, Try.ntmps16
            go_wp2_with fail
            go_ret
            exact ⟨ret_bool (by rw [HW.out]), Ext.alloc' _ _⟩
        · have q1 : ((ns.length : Int) == 0) = false := by simpa using hn0
          have hW : N.well (.mk 1 tx ns ks) = false := by simp [N.well, hn0]
          have HW := Lib.hid hW
          clear hW hn0 hsn hns hk htx
          go_enter Try.func16, Try.ntmps16
          go_wp2_with fail
          go_ret
          exact ⟨ret_bool (by rw [HW.out]), Ext.alloc' _ _⟩
      · by_cases hn0 : ns = []
        · by_cases hk0 : ks.length = 0
          · have q1 : ((ns.length : Int) == 0) = true := by simp [hn0]
            have q2 : ((ks.length : Int) == 0) = true := by simp [hk0]
            have hW : N.well (.mk 3 tx ns ks) = (textB tx && decide (0 < tx.size)) := by simp [N.well, hn0, hk0]
            have HW := Lib.hid hW
            have Htx := Lib.hid htx
            clear hW hn0 hk0 hsn hns hk htx
            by_cases hz : 0 < tx.size
            · have Hz : Hid (decide (0 < tx.size) = true) := decide_eq_true (by omega)
              have hz' : decide ((0 : Int) < (tx.size : Int)) = true := decide_eq_true (by omega)
              cases htb : textB tx
              · have Htb := Lib.hid htb
                go_enter Try.func16, Try.ntmps16
                go_wp2_with (go_at_call 81; refine (text7_any _ _ Htx.out).mono ?_; rintro e w' ⟨rfl, rfl⟩)
                go_ret
                exact ⟨ret_bool (by rw [HW.out, Hz.out, Htb.out]; rfl), Ext.alloc' _ _⟩
              · have Htb := Lib.hid htb
                go_enter Try.func16, Try.ntmps16
                go_wp2_with (go_at_call 81; refine (text7_any _ _ Htx.out).mono ?_; rintro e w' ⟨rfl, rfl⟩)
                go_ret
                exact ⟨ret_bool (by rw [HW.out, Hz.out, Htb.out]; rfl), Ext.alloc' _ _⟩
            · have Hz : Hid (decide (0 < tx.size) = false) := decide_eq_false (by omega)
              have hz' : decide ((0 : Int) < (tx.size : Int)) = false := decide_eq_false (by omega)
              cases htb : textB tx
              · have Htb := Lib.hid htb
                go_enter Try.func16, Try.ntmps16
                go_wp2_with (go_at_call 81; refine (text7_any _ _ Htx.out).mono ?_; rintro e w' ⟨rfl, rfl⟩)
                go_ret
                exact ⟨ret_bool (by rw [HW.out, Hz.out, Htb.out]; rfl), Ext.alloc' _ _⟩
              · have Htb := Lib.hid htb
                go_enter Try.func16, Try.ntmps16
                go_wp2_with (go_at_call 81; refine (text7_any _ _ Htx.out).mono ?_; rintro e w' ⟨rfl, rfl⟩)
                go_ret
                exact ⟨ret_bool (by rw [HW.out, Hz.out, Htb.out]; rfl), Ext.alloc' _ _⟩
          · have q1 : ((ns.length : Int) == 0) = true := by simp [hn0]
            have q2 : ((ks.length : Int) == 0) = false := by rw [beq_eq_false_iff_ne]; omega
            have hW : N.well (.mk 3 tx ns ks) = false := by simp [N.well, hk0]
            have HW := Lib.hid hW
            clear hW hn0 hk0 hsn hns hk htx
            go_enter Try.func16, Try.ntmps16
            go_wp2_with fail
            go_ret
            exact ⟨ret_bool (by rw [HW.out]), Ext.alloc' _ _⟩
        · have q1 : ((ns.length : Int) == 0) = false := by simpa using hn0
          have hW : N.well (.mk 3 tx ns ks) = false := by simp [N.well, hn0]
          have HW := Lib.hid hW
          clear hW hn0 hsn hns hk htx
          go_enter Try.func16, Try.ntmps16
          go_wp2_with fail
          go_ret
          exact ⟨ret_bool (by rw [HW.out]), Ext.alloc' _ _⟩
    · by_cases h2 : k = 2
      · subst h2
        clear h1
        by_cases h3 : tx.toList = [] ∧ ns.length = ks.length
        · obtain ⟨h3, h4⟩ := h3
          have hW : N.well (.mk 2 tx ns ks) = wellL none ns ks := by simp [N.well, h3, h4]
          have HW := Lib.hid hW
          have Hlen := Lib.hid h4
          clear hW
          have e1 : tx.toList.isEmpty = true := by simpa using h3
          have e2 : ((ns.length : Int) == (ks.length : Int)) = true := by simp [h4]
          have hsz : (ns.length : Int) ≤ (ks.length : Int) := by omega
          have hsz2 : (ks.length : Int) ≤ (ns.length : Int) := by omega
          clear h3 h4
          have Hsn := Lib.hid hsn
          clear hsn htx
          unfold maxLen at hm hmn
          go_enter Try.func16, Try.ntmps16
          have hu := (up_rules (w.alloc (.cells #[.int .u8 2, .string tx, .slice An ns.length cn, .slice A ks.length c] 25))).1
          simp only [World.size_alloc] at hu
          go_wp2_with fail
          go_loopw [3] (fun i wr => ∃ (j : Nat) (u : Up (w.alloc (.cells #[.int .u8 2, .string tx, .slice An ns.length cn, .slice A ks.length c] 25))), j ≤ ns.length ∧ i = .int .i64 j ∧ wr = u.val ∧ wellL (prevOf ns j) (ns.drop j) (ks.drop j) = wellL none ns ks) (fun i _ => ns.length - (intOf i).toNat)
          case atStart => obtain ⟨u, hu⟩ := Up.self (w.alloc (.cells #[.int .u8 2, .string tx, .slice An ns.length cn, .slice A ks.length c] 25)); exact ⟨0, u, Nat.zero_le _, rfl, hu, rfl⟩
          case round =>
            obtain ⟨j, u, hj, rfl, rfl, hy⟩ := hrel
            by_cases hlt : j < ns.length
            · have hltk : j < ks.length := by omega
              rw [wellL_at hlt hltk] at hy
              obtain ⟨b, o, rfl, hS, hbs, hcell⟩ := hns (by omega)
              obtain ⟨bk, ok, rfl, hSk, hbk, hck⟩ := hk (by omega)
              have hbs' : b < w.heap.size + 1 := by omega
              have hbk' : bk < w.heap.size + 1 := by omega
              have cj := hcell j _ (List.getElem?_eq_getElem hlt)
              obtain ⟨v0, v1, v2, v3, c0, c1, c2, c3, hr⟩ := hck j _ (List.getElem?_eq_getElem hltk)
              have Hr := Lib.hid hr
              have Hsz := Lib.hid (Hsn.out _ (List.getElem_mem hlt))
              clear hck hr
              cases hnm : nameB ns[j]
              · rw [hnm] at hy
                have Hy : Hid (wellL none ns ks = false) := by unfold Hid; rw [← hy]; rfl
                clear hy
                go_wp2_with fail
                refine wp_region_up (by kernel_rfl) (by kernel_rfl) ?_
                repeat (go_big_quiet_step ((first | (go_at_call 82; exact Calls.up ((name6_any _ _ Hsz.out).mono fun e w' ⟨he, hw⟩ => ⟨he, hw ▸ Below.refl _ _⟩)) | (go_at_call 16; exact Calls.up (ih _ _ _ ((Hr.out.alloc _).up _))))))
                refine wpQuiet_nil ?_
                rintro _ ⟨u1, rfl⟩
                go_wp2_with fail
                go_ret
                exact ⟨ret_bool (by rw [HW.out, Hy.out]), (Ext.alloc' _ _).trans' u1.ext⟩
              · rw [hnm] at hy
                cases j with
                | zero =>
                  simp only [Nat.zero_mul, Nat.add_zero] at c0 c1 c2 c3 cj
                  cases hkw : ks[0].well
                  · rw [hkw] at hy
                    have Hy : Hid (wellL none ns ks = false) := by unfold Hid; rw [← hy]; rfl
                    clear hy
                    go_wp2_with fail
                    refine wp_region_up (by kernel_rfl) (by kernel_rfl) ?_
                    repeat (go_big_quiet_step ((first | (go_at_call 82; exact Calls.up ((name6_any _ _ Hsz.out).mono fun e w' ⟨he, hw⟩ => ⟨he, hw ▸ Below.refl _ _⟩)) | (go_at_call 16; exact Calls.up (ih _ _ _ ((Hr.out.alloc _).up _))))))
                    refine wpQuiet_nil ?_
                    rintro _ ⟨u1, rfl⟩
                    go_wp2_with fail
                    go_ret
                    exact ⟨ret_bool (by rw [HW.out, Hy.out]), (Ext.alloc' _ _).trans' u1.ext⟩
                  · rw [hkw] at hy
                    have Hy : Hid (wellL (prevOf ns (0 + 1)) (ns.drop (0 + 1)) (ks.drop (0 + 1)) = wellL none ns ks) := by unfold Hid; rw [← hy]; rfl
                    clear hy
                    go_wp2_with fail
                    refine wp_region_up (by kernel_rfl) (by kernel_rfl) ?_
                    repeat (go_big_quiet_step ((first | (go_at_call 82; exact Calls.up ((name6_any _ _ Hsz.out).mono fun e w' ⟨he, hw⟩ => ⟨he, hw ▸ Below.refl _ _⟩)) | (go_at_call 16; exact Calls.up (ih _ _ _ ((Hr.out.alloc _).up _))))))
                    refine wpQuiet_nil ?_
                    rintro _ ⟨u1, rfl⟩
                    go_wp2_with fail
                    go_roundw
                    case rel => exact ⟨0 + 1, u1, by omega, by go_num, rfl, Hy.out⟩
                    case measure => simp [intOf]; omega
                | succ j =>
                  have hlj : j < ns.length := by omega
                  have cp := hcell j _ (List.getElem?_eq_getElem hlj)
                  have hp : prevOf ns (j + 1) = some ns[j] := by simp [prevOf, List.getElem?_eq_getElem hlj]
                  have hjp : (0 : Int) < ((j + 1 : Nat) : Int) := by omega
                  rw [hp] at hy
                  clear hp hcell
                  cases hle : (Op.bytesLess ns[j + 1].toList ns[j].toList || ns[j + 1].toList == ns[j].toList)
                  · have hle' : leS ns[j + 1] ns[j] = false := hle
                    cases hkw : ks[j + 1].well
                    · rw [hkw] at hy
                      have Hy : Hid (wellL none ns ks = false) := by unfold Hid; rw [← hy]; simp
                      clear hy
                      go_wp2_with fail
                      refine wp_region_up (by kernel_rfl) (by kernel_rfl) ?_
                      repeat (go_big_quiet_step ((first | (go_at_call 82; exact Calls.up ((name6_any _ _ Hsz.out).mono fun e w' ⟨he, hw⟩ => ⟨he, hw ▸ Below.refl _ _⟩)) | (go_at_call 16; exact Calls.up (ih _ _ _ ((Hr.out.alloc _).up _))))))
                      refine wpQuiet_nil ?_
                      rintro _ ⟨u1, rfl⟩
                      go_wp2_with fail
                      go_ret
                      exact ⟨ret_bool (by rw [HW.out, Hy.out]), (Ext.alloc' _ _).trans' u1.ext⟩
                    · rw [hkw] at hy
                      have Hy : Hid (wellL (prevOf ns (j + 1 + 1)) (ns.drop (j + 1 + 1)) (ks.drop (j + 1 + 1)) = wellL none ns ks) := by unfold Hid; rw [← hy]; simp [hle']
                      clear hy
                      go_wp2_with fail
                      refine wp_region_up (by kernel_rfl) (by kernel_rfl) ?_
                      repeat (go_big_quiet_step ((first | (go_at_call 82; exact Calls.up ((name6_any _ _ Hsz.out).mono fun e w' ⟨he, hw⟩ => ⟨he, hw ▸ Below.refl _ _⟩)) | (go_at_call 16; exact Calls.up (ih _ _ _ ((Hr.out.alloc _).up _))))))
                      refine wpQuiet_nil ?_
                      rintro _ ⟨u1, rfl⟩
                      go_wp2_with fail
                      go_roundw
                      case rel => exact ⟨j + 1 + 1, u1, by omega, by go_num, rfl, Hy.out⟩
                      case measure => simp [intOf]; omega
                  · have hle' : leS ns[j + 1] ns[j] = true := hle
                    have Hy : Hid (wellL none ns ks = false) := by unfold Hid; rw [← hy]; simp [hle']
                    clear hy
                    go_wp2_with fail
                    refine wp_region_up (by kernel_rfl) (by kernel_rfl) ?_
                    repeat (go_big_quiet_step ((first | (go_at_call 82; exact Calls.up ((name6_any _ _ Hsz.out).mono fun e w' ⟨he, hw⟩ => ⟨he, hw ▸ Below.refl _ _⟩)) | (go_at_call 16; exact Calls.up (ih _ _ _ ((Hr.out.alloc _).up _))))))
                    refine wpQuiet_nil ?_
                    rintro _ ⟨u1, rfl⟩
                    go_wp2_with fail
                    go_ret
                    exact ⟨ret_bool (by rw [HW.out, Hy.out]), (Ext.alloc' _ _).trans' u1.ext⟩
            · rw [wellL_end hlt] at hy
              have Hy := Lib.hid hy
              clear hy
              go_wp2_with fail
              go_ret
              exact ⟨ret_bool (by rw [HW.out, ← Hy.out]), (Ext.alloc' _ _).trans' u.ext⟩
        · have hW : N.well (.mk 2 tx ns ks) = false := by simp [N.well]; intro h4 h5; exact absurd ⟨h4, h5⟩ h3
          have HW := Lib.hid hW
          clear hW hsn hns hk htx
          by_cases h4 : tx.toList = []
          · have h5 : ns.length ≠ ks.length := fun h => h3 ⟨h4, h⟩
            have e1 : tx.toList.isEmpty = true := by simpa using h4
            have e2 : ((ns.length : Int) != (ks.length : Int)) = true := by rw [bne_iff_ne]; omega
            clear h3 h4 h5
            go_enter Try.func16, Try.ntmps16
            go_wp2_with fail
            go_ret
            exact ⟨ret_bool (by rw [HW.out]), Ext.alloc' _ _⟩
          · have e1 : tx.toList.isEmpty = false := by simpa using h4
            clear h3 h4
            go_enter Try.func16, Try.ntmps16
            go_wp2_with fail
            go_ret
            exact ⟨ret_bool (by rw [HW.out]), Ext.alloc' _ _⟩
      · have hW : N.well (.mk k tx ns ks) = false := by simp only [N.well]; rw [if_neg (fun h => h1 (.inl h)), if_neg (fun h => h1 (.inr h)), if_neg h2]
        have HW := Lib.hid hW
        have k1 : (k == 1) = false := by rw [beq_eq_false_iff_ne]; exact fun h => h1 (.inl h)
        have k3 : (k == 3) = false := by rw [beq_eq_false_iff_ne]; exact fun h => h1 (.inr h)
        have k2 : (k == 2) = false := by rw [beq_eq_false_iff_ne]; exact h2
        have k2' : (k != 2) = true := by rw [bne_iff_ne]; exact h2
        clear hW hsn hns hk htx h1 h2
        go_enter Try.func16, Try.ntmps16
        go_wp2_with fail
        go_ret
        exact ⟨ret_bool (by rw [HW.out]), Ext.alloc' _ _⟩
end Go.Proofs.Ytocndkhgopjhhaa
namespace Go.Proofs.Ytocndkhgopjhhaa
open Go.RowKit

set_option maxHeartbeats 1000000 in
theorem nodes_any (B : Nat) (S : Nat → Prop) (d : Nat) : ∀ (t : N) (v : Value) (w : World), Rep B S w d t v →
    Calls Try.prog 21 #[v] w fun e w' => e = .returned (.int .i64 t.nodes) ∧ Ext w w' := by
  induction d with
  | zero => intro t v w h; exact h.elim
  | succ d ih =>
    rintro ⟨k, tx, ns, ks⟩ v w ⟨nv, A, c, rfl, htx, hn, hc, hm, hB, hk⟩
    obtain ⟨An, cn, rfl, hcn, hmn, hBn, hsn, hns⟩ := hn
    clear hB hBn hsn htx hns hcn hmn
    unfold maxLen at hm
    have hW : N.nodes (.mk k tx ns ks) = nodesL 1 ks := by rw [N.nodes]
    have HW := Lib.hid hW
    clear hW
    go_enter Try.func21, Try.ntmps21
    have hu := (up_rules (w.alloc (.cells #[.int .u8 k, .string tx, .slice An ns.length cn, .slice A ks.length c] 25))).1
    simp only [World.size_alloc] at hu
    go_wp2_with fail
    go_loopw [3, 9] (fun x i wr => ∃ (j : Nat) (y : Int) (u : Up (w.alloc (.cells #[.int .u8 k, .string tx, .slice An ns.length cn, .slice A ks.length c] 25))), j ≤ ks.length ∧ i = .int .i64 j ∧ x = .int .i64 y ∧ wr = u.val ∧ nodesL y (ks.drop j) = nodesL 1 ks) (fun _ i _ => ks.length - (intOf i).toNat)
    case atStart => obtain ⟨u, hu⟩ := Up.self (w.alloc (.cells #[.int .u8 k, .string tx, .slice An ns.length cn, .slice A ks.length c] 25)); exact ⟨0, _, u, Nat.zero_le _, rfl, rfl, hu, rfl⟩
    case round =>
      obtain ⟨j, y, u, hj, rfl, rfl, rfl, hy⟩ := hrel
      by_cases hlt : j < ks.length
      · obtain ⟨b, o, rfl, hS, hbs, hcell⟩ := hk (by omega)
        obtain ⟨v0, v1, v2, v3, c0, c1, c2, c3, hr⟩ := hcell j _ (List.getElem?_eq_getElem hlt)
        have hbs' : b < w.heap.size + 1 := by omega
        obtain ⟨A1, e1, A2, e2, rfl, rfl, rfl, rfl⟩ := hr.shape
        have Hr := Lib.hid hr
        have Hy : Hid (nodesL (wrap64 (y + ks[j].nodes)) (ks.drop (j + 1)) = nodesL 1 ks) := by
          unfold Hid; rw [← hy, List.drop_eq_getElem_cons hlt, nodesL]
        clear hy hcell hr
        go_wp2_with fail
        refine (ih _ _ _ (((Hr.out.alloc _).up u).alloc _)).mono ?_
        rintro e w1 ⟨rfl, hx1⟩
        obtain ⟨u1, rfl⟩ := Up.to u ((Ext.alloc' _ _).trans' hx1)
        clear hx1
        go_wp2_with fail
        go_roundw
        case rel => exact ⟨j + 1, _, u1, by omega, by go_num, rfl, rfl, Hy.out⟩
        case measure => simp [intOf]; omega
      · have Hy : Hid (y = nodesL 1 ks) := by
          unfold Hid; rw [← hy, List.drop_eq_nil_of_le (by omega), nodesL]
        clear hy
        go_wp2_with fail
        go_ret
        exact ⟨ret_int (by rw [HW.out]; exact Hy.out), (Ext.alloc' _ _).trans' u.ext⟩

set_option maxHeartbeats 1000000 in
theorem nodes7_any (B : Nat) (S : Nat → Prop) (d : Nat) : ∀ (t : N) (v : Value) (w : World), Rep B S w d t v →
    Calls Try.prog 22 #[v] w fun e w' => e = .returned (.int .i64 t.nodes) ∧ Ext w w' := by
  induction d with
  | zero => intro t v w h; exact h.elim
  | succ d ih =>
    rintro ⟨k, tx, ns, ks⟩ v w ⟨nv, A, c, rfl, htx, hn, hc, hm, hB, hk⟩
    obtain ⟨An, cn, rfl, hcn, hmn, hBn, hsn, hns⟩ := hn
    clear hB hBn hsn htx hns hcn hmn
    unfold maxLen at hm
    have hW : N.nodes (.mk k tx ns ks) = nodesL 1 ks := by rw [N.nodes]
    have HW := Lib.hid hW
    clear hW
    go_enter Try.func22, Try.ntmps22
    have hu := (up_rules (w.alloc (.cells #[.int .u8 k, .string tx, .slice An ns.length cn, .slice A ks.length c] 25))).1
    simp only [World.size_alloc] at hu
    go_wp2_with fail
    go_loopw [3, 4] (fun x i wr => ∃ (j : Nat) (y : Int) (u : Up (w.alloc (.cells #[.int .u8 k, .string tx, .slice An ns.length cn, .slice A ks.length c] 25))), j ≤ ks.length ∧ i = .int .i64 j ∧ x = .int .i64 y ∧ wr = u.val ∧ nodesL y (ks.drop j) = nodesL 1 ks) (fun _ i _ => ks.length - (intOf i).toNat)
    case atStart => obtain ⟨u, hu⟩ := Up.self (w.alloc (.cells #[.int .u8 k, .string tx, .slice An ns.length cn, .slice A ks.length c] 25)); exact ⟨0, _, u, Nat.zero_le _, rfl, rfl, hu, rfl⟩
    case round =>
      obtain ⟨j, y, u, hj, rfl, rfl, rfl, hy⟩ := hrel
      by_cases hlt : j < ks.length
      · obtain ⟨b, o, rfl, hS, hbs, hcell⟩ := hk (by omega)
        obtain ⟨v0, v1, v2, v3, c0, c1, c2, c3, hr⟩ := hcell j _ (List.getElem?_eq_getElem hlt)
        have hbs' : b < w.heap.size + 1 := by omega
        obtain ⟨A1, e1, A2, e2, rfl, rfl, rfl, rfl⟩ := hr.shape
        have Hr := Lib.hid hr
        have Hy : Hid (nodesL (wrap64 (y + ks[j].nodes)) (ks.drop (j + 1)) = nodesL 1 ks) := by
          unfold Hid; rw [← hy, List.drop_eq_getElem_cons hlt, nodesL]
        clear hy hcell hr
        go_wp2_with fail
        refine (ih _ _ _ ((Hr.out.alloc _).up u)).mono ?_
        rintro e w1 ⟨rfl, hx1⟩
        obtain ⟨u1, rfl⟩ := Up.to u (hx1)
        clear hx1
        go_wp2_with fail
        go_roundw
        case rel => exact ⟨j + 1, _, u1, by omega, by go_num, rfl, rfl, Hy.out⟩
        case measure => simp [intOf]; omega
      · have Hy : Hid (y = nodesL 1 ks) := by
          unfold Hid; rw [← hy, List.drop_eq_nil_of_le (by omega), nodesL]
        clear hy
        go_wp2_with fail
        go_ret
        exact ⟨ret_int (by rw [HW.out]; exact Hy.out), (Ext.alloc' _ _).trans' u.ext⟩

set_option maxHeartbeats 1000000 in
theorem depth_any (B : Nat) (S : Nat → Prop) (d : Nat) : ∀ (t : N) (v : Value) (w : World), Rep B S w d t v →
    Calls Try.prog 83 #[v] w fun e w' => e = .returned (.int .i64 t.deep) ∧ Ext w w' := by
  induction d with
  | zero => intro t v w h; exact h.elim
  | succ d ih =>
    rintro ⟨k, tx, ns, ks⟩ v w ⟨nv, A, c, rfl, htx, hn, hc, hm, hB, hk⟩
    obtain ⟨An, cn, rfl, hcn, hmn, hBn, hsn, hns⟩ := hn
    clear hB hBn hsn htx hns hcn hmn
    unfold maxLen at hm
    have hW : N.deep (.mk k tx ns ks) = deepL 0 ks := by rw [N.deep]
    have HW := Lib.hid hW
    clear hW
    go_enter Try.func83, Try.ntmps83
    have hu := (up_rules (w.alloc (.cells #[.int .u8 k, .string tx, .slice An ns.length cn, .slice A ks.length c] 25))).1
    simp only [World.size_alloc] at hu
    go_wp2_with fail
    go_loopw [3, 9] (fun x i wr => ∃ (j : Nat) (y : Int) (u : Up (w.alloc (.cells #[.int .u8 k, .string tx, .slice An ns.length cn, .slice A ks.length c] 25))), j ≤ ks.length ∧ i = .int .i64 j ∧ x = .int .i64 y ∧ wr = u.val ∧ deepL y (ks.drop j) = deepL 0 ks) (fun _ i _ => ks.length - (intOf i).toNat)
    case atStart => obtain ⟨u, hu⟩ := Up.self (w.alloc (.cells #[.int .u8 k, .string tx, .slice An ns.length cn, .slice A ks.length c] 25)); exact ⟨0, _, u, Nat.zero_le _, rfl, rfl, hu, rfl⟩
    case round =>
      obtain ⟨j, y, u, hj, rfl, rfl, rfl, hy⟩ := hrel
      by_cases hlt : j < ks.length
      · obtain ⟨b, o, rfl, hS, hbs, hcell⟩ := hk (by omega)
        obtain ⟨v0, v1, v2, v3, c0, c1, c2, c3, hr⟩ := hcell j _ (List.getElem?_eq_getElem hlt)
        have hbs' : b < w.heap.size + 1 := by omega
        obtain ⟨A1, e1, A2, e2, rfl, rfl, rfl, rfl⟩ := hr.shape
        have Hr := Lib.hid hr
        have Hy : Hid (deepL (if y < wrap64 (1 + ks[j].deep) then wrap64 (1 + ks[j].deep) else y) (ks.drop (j + 1)) = deepL 0 ks) := by
          unfold Hid; rw [← hy, List.drop_eq_getElem_cons hlt, deepL]; rw [Int.add_comm 1]
        clear hy hcell hr
        go_wp2_with fail
        refine (ih _ _ _ (((Hr.out.alloc _).up u).alloc _)).mono ?_
        rintro e w1 ⟨rfl, hx1⟩
        obtain ⟨u1, rfl⟩ := Up.to u ((Ext.alloc' _ _).trans' hx1)
        clear hx1
        go_wp2_with fail
        go_roundw
        case rel => exact ⟨j + 1, _, u1, by omega, by go_num, rfl, rfl, Hy.out⟩
        case measure => simp [intOf]; omega
      · have Hy : Hid (y = deepL 0 ks) := by
          unfold Hid; rw [← hy, List.drop_eq_nil_of_le (by omega), deepL]
        clear hy
        go_wp2_with fail
        go_ret
        exact ⟨ret_int (by rw [HW.out]; exact Hy.out), (Ext.alloc' _ _).trans' u.ext⟩

set_option maxHeartbeats 1000000 in
theorem deep7_any (B : Nat) (S : Nat → Prop) (d : Nat) : ∀ (t : N) (v : Value) (w : World), Rep B S w d t v →
    Calls Try.prog 84 #[v] w fun e w' => e = .returned (.int .i64 t.deep) ∧ Ext w w' := by
  induction d with
  | zero => intro t v w h; exact h.elim
  | succ d ih =>
    rintro ⟨k, tx, ns, ks⟩ v w ⟨nv, A, c, rfl, htx, hn, hc, hm, hB, hk⟩
    obtain ⟨An, cn, rfl, hcn, hmn, hBn, hsn, hns⟩ := hn
    clear hB hBn hsn htx hns hcn hmn
    unfold maxLen at hm
    have hW : N.deep (.mk k tx ns ks) = deepL 0 ks := by rw [N.deep]
    have HW := Lib.hid hW
    clear hW
    go_enter Try.func84, Try.ntmps84
    have hu := (up_rules (w.alloc (.cells #[.int .u8 k, .string tx, .slice An ns.length cn, .slice A ks.length c] 25))).1
    simp only [World.size_alloc] at hu
    go_wp2_with fail
    go_loopw [3, 4] (fun x i wr => ∃ (j : Nat) (y : Int) (u : Up (w.alloc (.cells #[.int .u8 k, .string tx, .slice An ns.length cn, .slice A ks.length c] 25))), j ≤ ks.length ∧ i = .int .i64 j ∧ x = .int .i64 y ∧ wr = u.val ∧ deepL y (ks.drop j) = deepL 0 ks) (fun _ i _ => ks.length - (intOf i).toNat)
    case atStart => obtain ⟨u, hu⟩ := Up.self (w.alloc (.cells #[.int .u8 k, .string tx, .slice An ns.length cn, .slice A ks.length c] 25)); exact ⟨0, _, u, Nat.zero_le _, rfl, rfl, hu, rfl⟩
    case round =>
      obtain ⟨j, y, u, hj, rfl, rfl, rfl, hy⟩ := hrel
      by_cases hlt : j < ks.length
      · obtain ⟨b, o, rfl, hS, hbs, hcell⟩ := hk (by omega)
        obtain ⟨v0, v1, v2, v3, c0, c1, c2, c3, hr⟩ := hcell j _ (List.getElem?_eq_getElem hlt)
        have hbs' : b < w.heap.size + 1 := by omega
        obtain ⟨A1, e1, A2, e2, rfl, rfl, rfl, rfl⟩ := hr.shape
        have Hr := Lib.hid hr
        have Hy : Hid (deepL (if y < wrap64 (ks[j].deep + 1) then wrap64 (ks[j].deep + 1) else y) (ks.drop (j + 1)) = deepL 0 ks) := by
          unfold Hid; rw [← hy, List.drop_eq_getElem_cons hlt, deepL]
        clear hy hcell hr
        go_wp2_with fail
        refine (ih _ _ _ ((Hr.out.alloc _).up u)).mono ?_
        rintro e w1 ⟨rfl, hx1⟩
        obtain ⟨u1, rfl⟩ := Up.to u (hx1)
        clear hx1
        go_wp2_with fail
        go_roundw
        case rel => exact ⟨j + 1, _, u1, by omega, by go_num, rfl, rfl, Hy.out⟩
        case measure => simp [intOf]; omega
      · have Hy : Hid (y = deepL 0 ks) := by
          unfold Hid; rw [← hy, List.drop_eq_nil_of_le (by omega), deepL]
        clear hy
        go_wp2_with fail
        go_ret
        exact ⟨ret_int (by rw [HW.out]; exact Hy.out), (Ext.alloc' _ _).trans' u.ext⟩

end Go.Proofs.Ytocndkhgopjhhaa
namespace Go.Proofs.Ytocndkhgopjhhaa
open Go.RowKit

set_option maxHeartbeats 400000 in
theorem weight_any (B : Nat) (S : Nat → Prop) (d : Nat) : ∀ (t : N) (v : Value) (w : World), Rep B S w d t v →
    Calls Try.prog 14 #[v] w fun e w' => e = .returned (.int .i64 t.weight) ∧ Ext w w' := by
  induction d with
  | zero => intro t v w h; exact h.elim
  | succ d ih =>
    rintro ⟨k, tx, ns, ks⟩ v w ⟨nv, A, c, rfl, htx, hn, hc, hm, hB, hk⟩
    obtain ⟨An, cn, rfl, hcn, hmn, hBn, hsn, hns⟩ := hn
    clear hB hBn hsn htx
    unfold maxLen at hm hmn
    go_enter Try.func14, Try.ntmps14
    go_upto_block 0 with (fail)
    go_cut [3] (fun x wx => x = .int .i64 (wNames (wrap64 (1 + wrap64 ((tx.size : Int) / 64))) ns) ∧ wx = w.alloc (.cells #[.int .u8 k, .string tx, .slice An ns.length cn, .slice A ks.length c] 25))
    case first =>
      go_wp2_with fail
      go_loop [3, 4] (fun x i => ∃ (j : Nat) (y : Int), j ≤ ns.length ∧ i = .int .i64 j ∧ x = .int .i64 y ∧ wNames y (ns.drop j) = wNames (wrap64 (1 + wrap64 ((tx.size : Int) / 64))) ns) (fun _ i => ns.length - (intOf i).toNat)
      case atStart => exact ⟨0, _, Nat.zero_le _, rfl, rfl, rfl⟩
      case round =>
        obtain ⟨j, y, hj, rfl, rfl, hy⟩ := hrel
        by_cases hlt : j < ns.length ∧ y < 3000
        · obtain ⟨hlt, h3⟩ := hlt
          obtain ⟨b, o, rfl, hS, hbs, hcell⟩ := hns (by omega)
          have hcj := hcell j _ (List.getElem?_eq_getElem hlt)
          have Hy : Hid (wNames (wrap64 (wrap64 (y + 1) + wrap64 ((ns[j].size : Int) / 64))) (ns.drop (j + 1)) = wNames (wrap64 (1 + wrap64 ((tx.size : Int) / 64))) ns) := by
            rw [List.drop_eq_getElem_cons hlt, wNames, if_pos h3] at hy; exact hy
          clear hy hcell
          go_wp2_with fail
          go_round
          case rel => exact ⟨j + 1, _, by omega, by go_num, rfl, Hy.out⟩
          case measure => simp [intOf]; omega
        · have Hy : Hid (y = wNames (wrap64 (1 + wrap64 ((tx.size : Int) / 64))) ns) := by
            unfold Hid
            rw [← hy]
            by_cases hl : j < ns.length
            · rw [List.drop_eq_getElem_cons hl, wNames, if_neg (by omega)]
            · rw [List.drop_eq_nil_of_le (by omega), wNames]
          clear hy
          go_wp2_with fail
          all_goals
            go_meet
            case rel => exact ⟨by rw [Hy.out], rfl⟩
    case rest =>
      obtain ⟨rfl, rfl⟩ := hcut
      go_wp2_with fail
      go_loopw [3, 5] (fun x i wr => ∃ (j : Nat) (y : Int), j ≤ ks.length ∧ i = .int .i64 j ∧ x = .int .i64 y ∧ wKids y (ks.drop j) = N.weight (.mk k tx ns ks) ∧
          Ext (w.alloc (.cells #[.int .u8 k, .string tx, .slice An ns.length cn, .slice A ks.length c] 25)) wr) (fun _ i _ => ks.length - (intOf i).toNat)
      case atStart => exact ⟨0, _, Nat.zero_le _, rfl, rfl, by rw [N.weight]; rfl, Below.refl _ _⟩
      case round =>
        obtain ⟨j, y, hj, rfl, rfl, hy, hx⟩ := hrel
        have Hx := Lib.hid hx
        obtain ⟨hcx, hfx⟩ := hx.rules
        have hzx := hx.size
        simp only [World.size_alloc] at hcx hfx hzx
        clear hx
        by_cases hlt : j < ks.length ∧ y < 3000
        · obtain ⟨hlt, h3⟩ := hlt
          obtain ⟨b, o, rfl, hS, hbs, hcell⟩ := hk (by omega)
          obtain ⟨v0, v1, v2, v3, c0, c1, c2, c3, hr⟩ := hcell j _ (List.getElem?_eq_getElem hlt)
          have hbs' : b < w.heap.size + 1 := by omega
          have Hr := Lib.hid hr
          have Hy : Hid (wKids (wrap64 (y + ks[j].weight)) (ks.drop (j + 1)) = N.weight (.mk k tx ns ks)) := by
            rw [List.drop_eq_getElem_cons hlt, wKids, if_pos h3] at hy; exact hy
          clear hy hcell hr
          go_wp2_with fail
          refine (ih _ _ _ ((Rep.ext Hr.out (Ext.alloc' _ _)).ext Hx.out)).mono ?_
          rintro e w1 ⟨rfl, hx1⟩
          have Hx1 := Lib.hid hx1
          clear hx1
          go_wp2_with fail
          go_roundw
          case rel => exact ⟨j + 1, _, by omega, by go_num, rfl, Hy.out, Hx.out.trans' Hx1.out⟩
          case measure => simp [intOf]; omega
        · have Hy : Hid (y = N.weight (.mk k tx ns ks)) := by
            unfold Hid
            rw [← hy]
            by_cases hl : j < ks.length
            · rw [List.drop_eq_getElem_cons hl, wKids, if_neg (by omega)]
            · rw [List.drop_eq_nil_of_le (by omega), wKids]
          clear hy
          go_wp2_with fail
          all_goals
            go_ret
            exact ⟨ret_int Hy.out, (Ext.alloc' _ _).trans' Hx.out⟩
end Go.Proofs.Ytocndkhgopjhhaa
