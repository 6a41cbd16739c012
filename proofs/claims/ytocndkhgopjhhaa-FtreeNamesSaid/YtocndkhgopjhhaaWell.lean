import Derived.Test.YtocndkhgopjhhaaProg
import Derived.Test.YtocndkhgopjhhaaBase
import Derived.Test.YtocndkhgopjhhaaLibs
namespace Go.Proofs.Ytocndkhgopjhhaa
open Go.RowKit

set_option maxHeartbeats 2000000 in
theorem well_any (B : Nat) (hB45 : B ≤ 2199023255552) (S : Nat → Prop) (d : Nat) : ∀ (t : N) (v : Value) (w : World), Rep B S w d t v →
    Calls Try.prog 15 #[v] w fun e w' => e = .returned (.bool t.well) ∧ Ext w w' := by
  induction d with
  | zero => intro t v w h; exact h.elim
  | succ d ih =>
    rintro ⟨k, tx, ns, ks⟩ v w ⟨nv, A, c, rfl, htx, hn, hc, hm, hB, hk⟩
    obtain ⟨An, cn, rfl, hcn, hmn, hBn, hsn, hns⟩ := hn
    have hBn' : ns.length ≤ 35184372088832 := by omega
    have hB' : ks.length ≤ 35184372088832 := by omega
    clear hB hBn
    by_cases h1 : k = 1 ∨ k = 3
    · rcases h1 with rfl | rfl
      · by_cases hn0 : ns.length + ks.length = 0
        · have hnn : ns = [] := List.eq_nil_of_length_eq_zero (by omega)
          have hkk : ks = [] := List.eq_nil_of_length_eq_zero (by omega)
          subst hnn hkk
          clear hns hk hsn
          have Htx := Lib.hid htx
          clear htx
          have hnul := indexByte_neg tx.data.toList
          cases hu : hasNul tx
          · have hnul' : decide (Lib.indexByte tx.data.toList 0 < 0) = true := by rw [hnul]; unfold hasNul at hu; rw [hu]; rfl
            clear hnul
            have Hu := Lib.hid hu
            clear hu
            by_cases hz : (tx.size : Int) ≤ 256
            · have Hz : Hid (decide ((tx.size : Int) ≤ 256) = true) := decide_eq_true hz
              go_enter Try.func15, Try.ntmps15
              go_wp2_with (go_at_call 79; refine (indexByte_any _ _).mono ?_; rintro e w' ⟨rfl, rfl⟩)
              go_ret
              exact ⟨ret_bool (by simp [N.well, textB, Hu.out, Hz.out]), Ext.alloc' _ _⟩
            · have Hz : Hid (decide ((tx.size : Int) ≤ 256) = false) := decide_eq_false hz
              go_enter Try.func15, Try.ntmps15
              go_wp2_with (go_at_call 79; refine (indexByte_any _ _).mono ?_; rintro e w' ⟨rfl, rfl⟩)
              go_ret
              exact ⟨ret_bool (by simp [N.well, textB, Hu.out, Hz.out]), Ext.alloc' _ _⟩
          · have hnul' : decide (Lib.indexByte tx.data.toList 0 < 0) = false := by rw [hnul]; unfold hasNul at hu; rw [hu]; rfl
            clear hnul
            have Hu := Lib.hid hu
            clear hu
            by_cases hz : (tx.size : Int) ≤ 256
            · have Hz : Hid (decide ((tx.size : Int) ≤ 256) = true) := decide_eq_true hz
              go_enter Try.func15, Try.ntmps15
              go_wp2_with (go_at_call 79; refine (indexByte_any _ _).mono ?_; rintro e w' ⟨rfl, rfl⟩)
              go_ret
              exact ⟨ret_bool (by simp [N.well, textB, Hu.out, Hz.out]), Ext.alloc' _ _⟩
            · have Hz : Hid (decide ((tx.size : Int) ≤ 256) = false) := decide_eq_false hz
              go_enter Try.func15, Try.ntmps15
              go_wp2_with (go_at_call 79; refine (indexByte_any _ _).mono ?_; rintro e w' ⟨rfl, rfl⟩)
              go_ret
              exact ⟨ret_bool (by simp [N.well, textB, Hu.out, Hz.out]), Ext.alloc' _ _⟩
        · have q1 : (((ns.length : Int) + (ks.length : Int)) == 0) = false := by rw [beq_eq_false_iff_ne]; omega
          have hW : N.well (.mk 1 tx ns ks) = false := by
            rw [N.well]; by_cases hnn : ns = []
            · subst hnn; have : ¬ ks.length = 0 := by simpa using hn0
              simp [this]
            · simp [hnn]
          have HW := Lib.hid hW
          clear hW hn0 hsn hns hk htx
          go_enter Try.func15, Try.ntmps15
          go_wp2_with fail
          go_ret
          exact ⟨ret_bool (by rw [HW.out]), Ext.alloc' _ _⟩
      · by_cases hn0 : ns.length + ks.length = 0
        · have hnn : ns = [] := List.eq_nil_of_length_eq_zero (by omega)
          have hkk : ks = [] := List.eq_nil_of_length_eq_zero (by omega)
          subst hnn hkk
          clear hns hk hsn
          have Htx := Lib.hid htx
          clear htx
          have hnul := indexByte_neg tx.data.toList
          cases hu : hasNul tx
          · have hnul' : decide (Lib.indexByte tx.data.toList 0 < 0) = true := by rw [hnul]; unfold hasNul at hu; rw [hu]; rfl
            clear hnul
            have Hu := Lib.hid hu
            clear hu
            by_cases hz : (tx.size : Int) ≤ 256
            · have Hz : Hid (decide ((tx.size : Int) ≤ 256) = true) := decide_eq_true hz
              by_cases he : tx.toList = []
              · have q : tx.toList.isEmpty = true := by simpa using he
                have Hsz : Hid (decide (0 < tx.size) = false) := by unfold Hid; rw [size_pos, q]; rfl
                clear he
                go_enter Try.func15, Try.ntmps15
                go_wp2_with (go_at_call 79; refine (indexByte_any _ _).mono ?_; rintro e w' ⟨rfl, rfl⟩)
                go_ret
                exact ⟨ret_bool (by simp [N.well, textB, Hu.out, Hz.out, Hsz.out]), Ext.alloc' _ _⟩
              · have q : tx.toList.isEmpty = false := by simpa using he
                have Hsz : Hid (decide (0 < tx.size) = true) := by unfold Hid; rw [size_pos, q]; rfl
                clear he
                go_enter Try.func15, Try.ntmps15
                go_wp2_with (go_at_call 79; refine (indexByte_any _ _).mono ?_; rintro e w' ⟨rfl, rfl⟩)
                go_ret
                exact ⟨ret_bool (by simp [N.well, textB, Hu.out, Hz.out, Hsz.out]), Ext.alloc' _ _⟩
            · have Hz : Hid (decide ((tx.size : Int) ≤ 256) = false) := decide_eq_false hz
              go_enter Try.func15, Try.ntmps15
              go_wp2_with (go_at_call 79; refine (indexByte_any _ _).mono ?_; rintro e w' ⟨rfl, rfl⟩)
              go_ret
              exact ⟨ret_bool (by simp [N.well, textB, Hu.out, Hz.out]), Ext.alloc' _ _⟩
          · have hnul' : decide (Lib.indexByte tx.data.toList 0 < 0) = false := by rw [hnul]; unfold hasNul at hu; rw [hu]; rfl
            clear hnul
            have Hu := Lib.hid hu
            clear hu
            by_cases hz : (tx.size : Int) ≤ 256
            · have Hz : Hid (decide ((tx.size : Int) ≤ 256) = true) := decide_eq_true hz
              go_enter Try.func15, Try.ntmps15
              go_wp2_with (go_at_call 79; refine (indexByte_any _ _).mono ?_; rintro e w' ⟨rfl, rfl⟩)
              go_ret
              exact ⟨ret_bool (by simp [N.well, textB, Hu.out, Hz.out]), Ext.alloc' _ _⟩
            · have Hz : Hid (decide ((tx.size : Int) ≤ 256) = false) := decide_eq_false hz
              go_enter Try.func15, Try.ntmps15
              go_wp2_with (go_at_call 79; refine (indexByte_any _ _).mono ?_; rintro e w' ⟨rfl, rfl⟩)
              go_ret
              exact ⟨ret_bool (by simp [N.well, textB, Hu.out, Hz.out]), Ext.alloc' _ _⟩
        · have q1 : (((ns.length : Int) + (ks.length : Int)) == 0) = false := by rw [beq_eq_false_iff_ne]; omega
          have hW : N.well (.mk 3 tx ns ks) = false := by
            rw [N.well]; by_cases hnn : ns = []
            · subst hnn; have : ¬ ks.length = 0 := by simpa using hn0
              simp [this]
            · simp [hnn]
          have HW := Lib.hid hW
          clear hW hn0 hsn hns hk htx
          go_enter Try.func15, Try.ntmps15
          go_wp2_with fail
          go_ret
          exact ⟨ret_bool (by rw [HW.out]), Ext.alloc' _ _⟩
    · by_cases h2 : k = 2
      · subst h2
        clear h1
        by_cases h3 : tx.toList = [] ∧ ns.length = ks.length
        · obtain ⟨h3, h4⟩ := h3
          have hW : N.well (.mk 2 tx ns ks) = wellL none ns ks := by simp [N.well, h3, h4]
          have HW := Lib.hid hW
          clear hW
          have e1 : tx.toList.isEmpty = true := by simpa using h3
          have e2 : ((ns.length : Int) != (ks.length : Int)) = false := by simp [h4]
          have hsz : (ns.length : Int) ≤ (ks.length : Int) := by omega
          have hsz2 : (ks.length : Int) ≤ (ns.length : Int) := by omega
          clear h3 h4
          have Hsn := Lib.hid hsn
          clear hsn htx
          unfold maxLen at hm hmn
          go_enter Try.func15, Try.ntmps15
          have hu := (up_rules (w.alloc (.cells #[.int .u8 2, .string tx, .slice An ns.length cn, .slice A ks.length c] 25))).1
          simp only [World.size_alloc] at hu
          go_wp2_with fail
          go_loopw [57] (fun i wr => ∃ (j : Nat) (u : Up (w.alloc (.cells #[.int .u8 2, .string tx, .slice An ns.length cn, .slice A ks.length c] 25))), j ≤ ns.length ∧ i = .int .i64 j ∧ wr = u.val ∧ wellL (prevOf ns j) (ns.drop j) (ks.drop j) = wellL none ns ks) (fun i _ => ns.length - (intOf i).toNat)
          case atStart => obtain ⟨u, hu⟩ := Up.self (w.alloc (.cells #[.int .u8 2, .string tx, .slice An ns.length cn, .slice A ks.length c] 25)); exact ⟨0, u, Nat.zero_le _, rfl, hu, rfl⟩
          case round =>
            obtain ⟨j, u, hj, rfl, rfl, hy⟩ := hrel
            by_cases hlt : j < ns.length
            · have hltk : j < ks.length := by omega
              rw [wellL_at hlt hltk] at hy
              obtain ⟨b, o, rfl, hS, hbs, hcell⟩ := hns (by omega)
              obtain ⟨bk, ok, rfl, hSk, hbk, hck⟩ := hk (by omega)
              have hbs' : b < w.heap.size + 1 := by omega
              have hbk' : bk < w.heap.size + 1 := by omega
              have cj := hcell j _ (List.getElem?_eq_getElem hlt)
              obtain ⟨v0, v1, v2, v3, c0, c1, c2, c3, hr⟩ := hck j _ (List.getElem?_eq_getElem hltk)
              have Hr := Lib.hid hr
              have Hsz := Lib.hid (Hsn.out _ (List.getElem_mem hlt))
              clear hck hr
              cases hnm : nameB ns[j]
              · rw [hnm] at hy
                have Hy : Hid (wellL none ns ks = false) := by unfold Hid; rw [← hy]; rfl
                clear hy
                go_wp2_with (first | (go_at_call 80; refine (pathName_any _ _ Hsz.out).mono ?_; rintro e w1 ⟨rfl, hx1⟩; obtain ⟨u1, rfl⟩ := Up.to _ hx1; clear hx1) | (go_at_call 15; refine (ih _ _ _ ((Hr.out.alloc _).up _)).mono ?_; rintro e w2 ⟨rfl, hx2⟩; obtain ⟨u2, rfl⟩ := Up.to _ hx2; clear hx2))
                go_ret
                exact ⟨ret_bool (by rw [HW.out, Hy.out]), (Ext.alloc' _ _).trans' (Up.ext _)⟩
              · rw [hnm] at hy
                cases j with
                | zero =>
                  simp only [Nat.zero_mul, Nat.add_zero] at c0 c1 c2 c3 cj
                  cases hkw : ks[0].well
                  · rw [hkw] at hy
                    have Hy : Hid (wellL none ns ks = false) := by unfold Hid; rw [← hy]; rfl
                    clear hy
                    go_wp2_with (first | (go_at_call 80; refine (pathName_any _ _ Hsz.out).mono ?_; rintro e w1 ⟨rfl, hx1⟩; obtain ⟨u1, rfl⟩ := Up.to _ hx1; clear hx1) | (go_at_call 15; refine (ih _ _ _ ((Hr.out.alloc _).up _)).mono ?_; rintro e w2 ⟨rfl, hx2⟩; obtain ⟨u2, rfl⟩ := Up.to _ hx2; clear hx2))
                    go_ret
                    exact ⟨ret_bool (by rw [HW.out, Hy.out]), (Ext.alloc' _ _).trans' (Up.ext _)⟩
                  · rw [hkw] at hy
                    have Hy : Hid (wellL (prevOf ns (0 + 1)) (ns.drop (0 + 1)) (ks.drop (0 + 1)) = wellL none ns ks) := by unfold Hid; rw [← hy]; rfl
                    clear hy
                    go_wp2_with (first | (go_at_call 80; refine (pathName_any _ _ Hsz.out).mono ?_; rintro e w1 ⟨rfl, hx1⟩; obtain ⟨u1, rfl⟩ := Up.to _ hx1; clear hx1) | (go_at_call 15; refine (ih _ _ _ ((Hr.out.alloc _).up _)).mono ?_; rintro e w2 ⟨rfl, hx2⟩; obtain ⟨u2, rfl⟩ := Up.to _ hx2; clear hx2))
                    go_roundw
                    case rel => exact ⟨0 + 1, u2, by omega, by go_num, rfl, Hy.out⟩
                    case measure => simp [intOf]; omega
                | succ j =>
                  have hlj : j < ns.length := by omega
                  have cp := hcell j _ (List.getElem?_eq_getElem hlj)
                  have hp : prevOf ns (j + 1) = some ns[j] := by simp [prevOf, List.getElem?_eq_getElem hlj]
                  have hjp : (0 : Int) < ((j + 1 : Nat) : Int) := by omega
                  rw [hp] at hy
                  clear hp hcell
                  cases hle : (Op.bytesLess ns[j + 1].toList ns[j].toList || ns[j + 1].toList == ns[j].toList)
                  · have hle' : leS ns[j + 1] ns[j] = false := hle
                    cases hkw : ks[j + 1].well
                    · rw [hkw] at hy
                      have Hy : Hid (wellL none ns ks = false) := by unfold Hid; rw [← hy]; simp
                      clear hy
                      go_wp2_with (first | (go_at_call 80; refine (pathName_any _ _ Hsz.out).mono ?_; rintro e w1 ⟨rfl, hx1⟩; obtain ⟨u1, rfl⟩ := Up.to _ hx1; clear hx1) | (go_at_call 15; refine (ih _ _ _ ((Hr.out.alloc _).up _)).mono ?_; rintro e w2 ⟨rfl, hx2⟩; obtain ⟨u2, rfl⟩ := Up.to _ hx2; clear hx2))
                      go_ret
                      exact ⟨ret_bool (by rw [HW.out, Hy.out]), (Ext.alloc' _ _).trans' (Up.ext _)⟩
                    · rw [hkw] at hy
                      have Hy : Hid (wellL (prevOf ns (j + 1 + 1)) (ns.drop (j + 1 + 1)) (ks.drop (j + 1 + 1)) = wellL none ns ks) := by unfold Hid; rw [← hy]; simp [hle']
                      clear hy
                      go_wp2_with (first | (go_at_call 80; refine (pathName_any _ _ Hsz.out).mono ?_; rintro e w1 ⟨rfl, hx1⟩; obtain ⟨u1, rfl⟩ := Up.to _ hx1; clear hx1) | (go_at_call 15; refine (ih _ _ _ ((Hr.out.alloc _).up _)).mono ?_; rintro e w2 ⟨rfl, hx2⟩; obtain ⟨u2, rfl⟩ := Up.to _ hx2; clear hx2))
                      go_roundw
                      case rel => exact ⟨j + 1 + 1, u2, by omega, by go_num, rfl, Hy.out⟩
                      case measure => simp [intOf]; omega
                  · have hle' : leS ns[j + 1] ns[j] = true := hle
                    have Hy : Hid (wellL none ns ks = false) := by unfold Hid; rw [← hy]; simp [hle']
                    clear hy
                    go_wp2_with (first | (go_at_call 80; refine (pathName_any _ _ Hsz.out).mono ?_; rintro e w1 ⟨rfl, hx1⟩; obtain ⟨u1, rfl⟩ := Up.to _ hx1; clear hx1) | (go_at_call 15; refine (ih _ _ _ ((Hr.out.alloc _).up _)).mono ?_; rintro e w2 ⟨rfl, hx2⟩; obtain ⟨u2, rfl⟩ := Up.to _ hx2; clear hx2))
                    go_ret
                    exact ⟨ret_bool (by rw [HW.out, Hy.out]), (Ext.alloc' _ _).trans' (Up.ext _)⟩
            · rw [wellL_end hlt] at hy
              have Hy := Lib.hid hy
              clear hy
              go_wp2_with fail
              go_ret
              exact ⟨ret_bool (by rw [HW.out, ← Hy.out]), (Ext.alloc' _ _).trans' u.ext⟩
        · have hW : N.well (.mk 2 tx ns ks) = false := by simp [N.well]; intro h4 h5; exact absurd ⟨h4, h5⟩ h3
          have HW := Lib.hid hW
          clear hW hsn hns hk htx
          by_cases h4 : tx.toList = []
          · have h5 : ns.length ≠ ks.length := fun h => h3 ⟨h4, h⟩
            have e1 : tx.toList.isEmpty = true := by simpa using h4
            have e2 : ((ns.length : Int) != (ks.length : Int)) = true := by rw [bne_iff_ne]; omega
            clear h3 h4 h5
            go_enter Try.func15, Try.ntmps15
            go_wp2_with fail
            go_ret
            exact ⟨ret_bool (by rw [HW.out]), Ext.alloc' _ _⟩
          · have e1 : tx.toList.isEmpty = false := by simpa using h4
            clear h3 h4
            go_enter Try.func15, Try.ntmps15
            go_wp2_with fail
            go_ret
            exact ⟨ret_bool (by rw [HW.out]), Ext.alloc' _ _⟩
      · have hW : N.well (.mk k tx ns ks) = false := by simp only [N.well]; rw [if_neg (fun h => h1 (.inl h)), if_neg (fun h => h1 (.inr h)), if_neg h2]
        have HW := Lib.hid hW
        have k1 : (k == 1) = false := by rw [beq_eq_false_iff_ne]; exact fun h => h1 (.inl h)
        have k3 : (k == 3) = false := by rw [beq_eq_false_iff_ne]; exact fun h => h1 (.inr h)
        have k2 : (k == 2) = false := by rw [beq_eq_false_iff_ne]; exact h2
        clear hW hsn hns hk htx h1 h2
        go_enter Try.func15, Try.ntmps15
        go_wp2_with fail
        go_ret
        exact ⟨ret_bool (by rw [HW.out]), Ext.alloc' _ _⟩
end Go.Proofs.Ytocndkhgopjhhaa
