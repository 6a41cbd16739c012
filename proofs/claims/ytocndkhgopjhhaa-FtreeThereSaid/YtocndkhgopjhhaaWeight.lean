import Derived.Test.YtocndkhgopjhhaaProg
import Derived.Test.YtocndkhgopjhhaaBase
namespace Go.Proofs.Ytocndkhgopjhhaa
open Go.RowKit

set_option maxHeartbeats 400000 in
theorem weight_any (B : Nat) (S : Nat → Prop) (d : Nat) : ∀ (t : N) (v : Value) (w : World), Rep B S w d t v →
    Calls Try.prog 14 #[v] w fun e w' => e = .returned (.int .i64 t.weight) ∧ Ext w w' := by
  induction d with
  | zero => intro t v w h; exact h.elim
  | succ d ih =>
    rintro ⟨k, tx, ns, ks⟩ v w ⟨nv, A, c, rfl, htx, hn, hc, hm, hB, hk⟩
    obtain ⟨An, cn, rfl, hcn, hmn, hBn, hsn, hns⟩ := hn
    clear hB hBn hsn htx
    unfold maxLen at hm hmn
    go_enter Try.func14, Try.ntmps14
    go_upto_block 0 with (fail)
    go_cut [3] (fun x wx => x = .int .i64 (wNames (wrap64 (1 + wrap64 ((tx.size : Int) / 64))) ns) ∧ wx = w.alloc (.cells #[.int .u8 k, .string tx, .slice An ns.length cn, .slice A ks.length c] 25))
    case first =>
      go_wp2_with fail
      go_loop [3, 4] (fun x i => ∃ (j : Nat) (y : Int), j ≤ ns.length ∧ i = .int .i64 j ∧ x = .int .i64 y ∧ wNames y (ns.drop j) = wNames (wrap64 (1 + wrap64 ((tx.size : Int) / 64))) ns) (fun _ i => ns.length - (intOf i).toNat)
      case atStart => exact ⟨0, _, Nat.zero_le _, rfl, rfl, rfl⟩
      case round =>
        obtain ⟨j, y, hj, rfl, rfl, hy⟩ := hrel
        by_cases hlt : j < ns.length ∧ y < 3000
        · obtain ⟨hlt, h3⟩ := hlt
          obtain ⟨b, o, rfl, hS, hbs, hcell⟩ := hns (by omega)
          have hcj := hcell j _ (List.getElem?_eq_getElem hlt)
          have Hy : Hid (wNames (wrap64 (wrap64 (y + 1) + wrap64 ((ns[j].size : Int) / 64))) (ns.drop (j + 1)) = wNames (wrap64 (1 + wrap64 ((tx.size : Int) / 64))) ns) := by
            rw [List.drop_eq_getElem_cons hlt, wNames, if_pos h3] at hy; exact hy
          clear hy hcell
          go_wp2_with fail
          go_round
          case rel => exact ⟨j + 1, _, by omega, by go_num, rfl, Hy.out⟩
          case measure => simp [intOf]; omega
        · have Hy : Hid (y = wNames (wrap64 (1 + wrap64 ((tx.size : Int) / 64))) ns) := by
            unfold Hid
            rw [← hy]
            by_cases hl : j < ns.length
            · rw [List.drop_eq_getElem_cons hl, wNames, if_neg (by omega)]
            · rw [List.drop_eq_nil_of_le (by omega), wNames]
          clear hy
          go_wp2_with fail
          all_goals
            go_meet
            case rel => exact ⟨by rw [Hy.out], rfl⟩
    case rest =>
      obtain ⟨rfl, rfl⟩ := hcut
      go_wp2_with fail
      go_loopw [3, 5] (fun x i wr => ∃ (j : Nat) (y : Int), j ≤ ks.length ∧ i = .int .i64 j ∧ x = .int .i64 y ∧ wKids y (ks.drop j) = N.weight (.mk k tx ns ks) ∧
          Ext (w.alloc (.cells #[.int .u8 k, .string tx, .slice An ns.length cn, .slice A ks.length c] 25)) wr) (fun _ i _ => ks.length - (intOf i).toNat)
      case atStart => exact ⟨0, _, Nat.zero_le _, rfl, rfl, by rw [N.weight]; rfl, Below.refl _ _⟩
      case round =>
        obtain ⟨j, y, hj, rfl, rfl, hy, hx⟩ := hrel
        have Hx := Lib.hid hx
        obtain ⟨hcx, hfx⟩ := hx.rules
        have hzx := hx.size
        simp only [World.size_alloc] at hcx hfx hzx
        clear hx
        by_cases hlt : j < ks.length ∧ y < 3000
        · obtain ⟨hlt, h3⟩ := hlt
          obtain ⟨b, o, rfl, hS, hbs, hcell⟩ := hk (by omega)
          obtain ⟨v0, v1, v2, v3, c0, c1, c2, c3, hr⟩ := hcell j _ (List.getElem?_eq_getElem hlt)
          have hbs' : b < w.heap.size + 1 := by omega
          have Hr := Lib.hid hr
          have Hy : Hid (wKids (wrap64 (y + ks[j].weight)) (ks.drop (j + 1)) = N.weight (.mk k tx ns ks)) := by
            rw [List.drop_eq_getElem_cons hlt, wKids, if_pos h3] at hy; exact hy
          clear hy hcell hr
          go_wp2_with fail
          refine (ih _ _ _ ((Rep.ext Hr.out (Ext.alloc' _ _)).ext Hx.out)).mono ?_
          rintro e w1 ⟨rfl, hx1⟩
          have Hx1 := Lib.hid hx1
          clear hx1
          go_wp2_with fail
          go_roundw
          case rel => exact ⟨j + 1, _, by omega, by go_num, rfl, Hy.out, Hx.out.trans' Hx1.out⟩
          case measure => simp [intOf]; omega
        · have Hy : Hid (y = N.weight (.mk k tx ns ks)) := by
            unfold Hid
            rw [← hy]
            by_cases hl : j < ks.length
            · rw [List.drop_eq_getElem_cons hl, wKids, if_neg (by omega)]
            · rw [List.drop_eq_nil_of_le (by omega), wKids]
          clear hy
          go_wp2_with fail
          all_goals
            go_ret
            exact ⟨ret_int Hy.out, (Ext.alloc' _ _).trans' Hx.out⟩
end Go.Proofs.Ytocndkhgopjhhaa
