/- touchstonelaw07.large: what it counts. -/
import Derived.Test.YtocndkhgopjhhaaProg
import Derived.Test.YtocndkhgopjhhaaStep
namespace Go.Proofs.Ytocndkhgopjhhaa
open Go.RowKit

set_option maxRecDepth 100000 in
set_option maxHeartbeats 4000000 in
theorem large_any {B : Nat} {S : Nat → Prop} {w : World} {v : Value} {l : List Stp} (h : Steps B S w v l) :
    Calls Try.prog 52 #[v] w fun e w' => e = .returned (.bool (largeB l)) ∧ Ext w w' := by
  have H := Lib.hid h
  obtain ⟨A, c, rfl, hc, hm, _⟩ := h
  unfold maxLen at hm
  go_enter Try.func52, Try.ntmps52
  go_wp2_with fail
  go_loopw [3, 4] (fun x i wr => ∃ (j : Nat) (y : Int), j ≤ l.length ∧ i = .int .i64 j ∧ x = .int .i64 y ∧ largeL y (l.drop j) = largeL 0 l ∧ Ext w wr) (fun _ i _ => l.length - (intOf i).toNat)
  case atStart => exact ⟨0, 0, Nat.zero_le _, rfl, rfl, rfl, Below.refl _ _⟩
  case round =>
    obtain ⟨j, y, hj, rfl, rfl, hy, hx⟩ := hrel
    have Hx := Lib.hid hx
    obtain ⟨hcx, hfx⟩ := hx.rules
    have hzx := hx.size
    clear hx
    by_cases hlt : j < l.length ∧ y < 3000
    · obtain ⟨hlt, h3⟩ := hlt
      obtain ⟨s, hs⟩ : ∃ s, l[j]? = some s := ⟨_, List.getElem?_eq_getElem hlt⟩
      have hdr : l.drop j = s :: l.drop (j + 1) := by
        rw [List.drop_eq_getElem_cons hlt]
        rw [List.getElem?_eq_getElem hlt] at hs
        injection hs with hs
        rw [hs]
      obtain ⟨b, o, c2, av, bv, v0, v1, v2, v3, d, e, hb, _, _, c0, c1, c2', c3, c4, c5, c6, k1, k2, ha, hbv, hr⟩ := H.out.at' hs
      injection e with e1 e2 e3
      subst e1 e3
      rw [hdr, largeL, if_pos h3] at hy
      have HA := Lib.hid ha
      have HBV := Lib.hid hbv
      have HR := Lib.hid hr
      obtain ⟨Aa, ca, rfl, hca, hma, _, _, hac⟩ := ha
      obtain ⟨Ab, cb, rfl, hcb, hmb, _, _, hbc⟩ := hbv
      unfold maxLen at hma hmb
      clear hs hdr
      by_cases ha60 : 60 < s.a.length
      · have Hy : Hid (largeL 0 l = none) := Lib.hid (by rw [← hy, if_pos (.inl ha60)])
        clear hy
        go_wp2_with fail
        go_ret
        exact ⟨ret_bool (by unfold largeB; rw [Hy.out]), Hx.out⟩
      · by_cases hb60 : 60 < s.b.length
        · have Hy : Hid (largeL 0 l = none) := Lib.hid (by rw [← hy, if_pos (.inr hb60)])
          clear hy
          go_wp2_with fail
          go_ret
          exact ⟨ret_bool (by unfold largeB; rw [Hy.out]), Hx.out⟩
        · rw [if_neg (by omega)] at hy
          have Hy := Lib.hid hy
          clear hy
          go_wp2_with (go_at_call 14; refine (weight_any B S d s.n _ _ (HR.out.ext Hx.out)).mono ?_; rintro e w1 ⟨rfl, hx1⟩; have HX1 := Lib.hid (Hx.out.trans' hx1); clear hx1)
          obtain ⟨hcy, hfy⟩ := HX1.out.rules
          have hzy := HX1.out.size
          clear hcx hfx
          go_loop [3, 5] (fun x i => ∃ (q : Nat) (z : Int), q ≤ s.a.length ∧ i = .int .i64 q ∧ x = .int .i64 z ∧ strN z (s.a.drop q) = strN (wrap64 (wrap64 (y + 5) + s.n.weight)) s.a) (fun _ i => s.a.length - (intOf i).toNat)
          case atStart => exact ⟨0, _, Nat.zero_le _, rfl, rfl, rfl⟩
          case round =>
            obtain ⟨q, z, hq, rfl, rfl, hz⟩ := hrel
            by_cases hql : q < s.a.length
            · obtain ⟨ba, oa, rfl, _, hba, hca'⟩ := hac (by omega)
              have hcq := hca' q _ (List.getElem?_eq_getElem hql)
              rw [List.drop_eq_getElem_cons hql, strN] at hz
              have Hz := Lib.hid hz
              clear hz hca'
              go_wp2_with fail
              go_round
              case rel => exact ⟨q + 1, _, by omega, by go_num, rfl, Hz.out⟩
              case measure => simp [intOf]; omega
            · rw [List.drop_eq_nil_of_le (by omega), strN] at hz
              subst hz
              clear hq
              go_wp2_with fail
              go_loop [3, 6] (fun x i => ∃ (q : Nat) (z : Int), q ≤ s.b.length ∧ i = .int .i64 q ∧ x = .int .i64 z ∧ strN z (s.b.drop q) = strN (strN (wrap64 (wrap64 (y + 5) + s.n.weight)) s.a) s.b) (fun _ i => s.b.length - (intOf i).toNat)
              case atStart => exact ⟨0, _, Nat.zero_le _, rfl, rfl, rfl⟩
              case round =>
                obtain ⟨r, z, hr', rfl, rfl, hz⟩ := hrel
                by_cases hrl : r < s.b.length
                · obtain ⟨bb, ob, rfl, _, hbb, hcb'⟩ := hbc (by omega)
                  have hcr := hcb' r _ (List.getElem?_eq_getElem hrl)
                  rw [List.drop_eq_getElem_cons hrl, strN] at hz
                  have Hz := Lib.hid hz
                  clear hz hcb'
                  go_wp2_with fail
                  go_round
                  case rel => exact ⟨r + 1, _, by omega, by go_num, rfl, Hz.out⟩
                  case measure => simp [intOf]; omega
                · rw [List.drop_eq_nil_of_le (by omega), strN] at hz
                  subst hz
                  clear hr'
                  go_wp2_with fail
                  go_roundw
                  case rel => exact ⟨j + 1, _, by omega, by go_num, rfl, Hy.out, HX1.out⟩
                  case measure => simp [intOf]; omega
    · have Hy : Hid (largeL 0 l = some y) := Lib.hid (by
        rw [← hy]
        by_cases hl : j < l.length
        · rw [List.drop_eq_getElem_cons hl, largeL, if_neg (by omega)]
        · rw [List.drop_eq_nil_of_le (by omega), largeL])
      clear hy hcx hfx hzx
      by_cases h3 : 3000 ≤ y
      · have hd : decide (3000 ≤ y) = true := decide_eq_true h3
        have Hd := Lib.hid hd
        go_wp2_with fail
        all_goals
          go_ret
          exact ⟨ret_bool (by unfold largeB; rw [Hy.out]; simp [h3]), Hx.out⟩
      · have hd : decide (3000 ≤ y) = false := decide_eq_false h3
        go_wp2_with fail
        all_goals
          go_ret
          refine ⟨ret_bool ?_, Hx.out⟩
          unfold largeB
          rw [Hy.out]
          simp only
          rw [hd, Bool.false_or]
          first | exact decide_eq_decide.2 (by omega) | (rw [decide_eq_decide]; omega)
end Go.Proofs.Ytocndkhgopjhhaa
