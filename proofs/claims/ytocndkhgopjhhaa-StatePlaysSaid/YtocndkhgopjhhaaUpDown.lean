/- container/heap over the queue's row: up, down. -/
import Derived.Test.YtocndkhgopjhhaaProg
import Derived.Test.YtocndkhgopjhhaaQue
import Derived.Laws.ByValue
namespace Go.Proofs.Ytocndkhgopjhhaa
open Go.RowKit

/-- What such a call comes to. -/
def Moved (T : Nat → Prop) (q base : Nat) (most : Int) (v : Value) (xs : List It) (P : List It → Prop) (w w' : World) : Prop :=
  ∃ ys, List.Perm ys xs ∧ P ys ∧ Qu T w' q base most v ys ∧ w.grownBy w' v.ownBlock

theorem grown_ext {w w' : World} (h : Ext w w') (r : Option Nat) : w.grownBy w' r := ⟨h.os, h.tape, h.output, h.size, fun b hb _ => h.block b hb⟩

set_option maxRecDepth 100000 in
set_option maxHeartbeats 4000000 in
theorem up_any {T : Nat → Prop} {w : World} {q base : Nat} {most : Int} {v : Value} {xs : List It} (h : Qu T w q base most v xs) {j0 : Nat} (hj : j0 < xs.length) (hinv : UpInv ltI xs j0) (hb : xs.length ≤ 4611686018427387903) :
    Calls Try.prog 135 #[.iface 121 (.pointer (some ⟨q, 0, none⟩)), .int .i64 j0] w fun e w' => e = .returned (.tuple #[]) ∧ Moved T q base most v xs (fun ys => Heap ltI ys.length ys) w w' := by
  have H := Lib.hid h
  have HI := Lib.hid hinv
  clear h hinv
  go_enter Try.func135, Try.ntmps135
  go_wp2_with fail
  go_loopw [1] (fun i wr => ∃ (j : Nat) (ys : List It), i = .int .i64 j ∧ j < ys.length ∧ ys.length = xs.length ∧ UpInv ltI ys j ∧ List.Perm ys xs ∧ Qu T wr q base most v ys ∧ w.grownBy wr v.ownBlock) (fun i _ => (intOf i).toNat)
  case atStart => exact ⟨j0, xs, rfl, hj, rfl, HI.out, List.Perm.refl _, H.out, grown_ext (Below.refl _ _) _⟩
  case round =>
    obtain ⟨j, ys, rfl, hjl, hyl, hu, hp, hq, hg⟩ := hrel
    have Hu := Lib.hid hu
    have Hp := Lib.hid hp
    have Hq := Lib.hid hq
    have Hg := Lib.hid hg
    have hc : wr.cell? ⟨q, 0, none⟩ = some v := hq.blk.cell 0
    have ml := m_less q wr v hc
    have ms := m_swap q wr v hc
    clear hu hp hq hg
    rcases Nat.eq_zero_or_pos j with rfl | hj0
    · go_wp2_with fail
      go_end0
      exact ⟨rfl, ys, Hp.out, up_stop_zero Hu.out, Hq.out, Hg.out⟩
    · obtain ⟨x, hx⟩ : ∃ x, ys[j]? = some x := ⟨_, List.getElem?_eq_getElem hjl⟩
      obtain ⟨p, hp⟩ : ∃ p, ys[(j - 1) / 2]? = some p := ⟨_, List.getElem?_eq_getElem (by omega)⟩
      obtain ⟨i, hi⟩ : ∃ i, (j - 1) / 2 = i := ⟨_, rfl⟩
      rw [hi] at hp
      have hij : i < j := by omega
      have hq2 : Int.tdiv ((j : Int) - 1) 2 = (i : Int) := by
        rw [Int.tdiv_eq_ediv_of_nonneg (by omega)]; omega
      have HX := Lib.hid hx
      have HPp := Lib.hid hp
      have HIe := Lib.hid hi
      have hne : ((i : Int) == (j : Int)) = false := beq_eq_false_iff_ne.2 (by omega)
      clear hx hp hi
      go_wp2_with fail
      refine (tless_any Hq.out HX.out HPp.out).mono ?_
      rintro e w1 ⟨rfl, hx1⟩
      have Hx1 := Lib.hid hx1
      have hc1 : w1.cell? ⟨q, 0, none⟩ = some v := (Hq.out.ext hx1).blk.cell 0
      have ms1 := m_swap q w1 v hc1
      clear hx1 ml ms hc
      cases hl : lessR x.td.row p.td.row
      · have Hl := Lib.hid hl
        clear hl
        go_wp2_with fail
        go_end0
        refine ⟨rfl, ys, Hp.out, ?_, Hq.out.ext Hx1.out, grownBy_trans Hg.out (grown_ext Hx1.out _)⟩
        exact up_stop Hu.out HX.out (by rw [HIe.out]; exact HPp.out) Hl.out
      · have Hl := Lib.hid hl
        clear hl
        go_wp2_with fail
        refine ((Hq.out.ext Hx1.out).swap HPp.out HX.out).mono ?_
        rintro e w2 ⟨rfl, hq2, hg2⟩
        have Hq2 := Lib.hid hq2
        have Hg2 := Lib.hid hg2
        clear hq2 hg2
        go_wp2_with fail
        go_roundw
        case rel =>
          refine ⟨i, swapL ys i j, rfl, by rw [swapL_length]; omega, by rw [swapL_length]; exact hyl, ?_, (swapL_perm _ _ _).trans Hp.out, Hq2.out, grownBy_trans (grownBy_trans Hg.out (grown_ext Hx1.out _)) Hg2.out⟩
          have := up_step ltI_ord Hu.out hj0 HX.out (by rw [HIe.out]; exact HPp.out) Hl.out
          rw [HIe.out] at this; exact this
        case measure => simp [intOf]; omega

set_option maxRecDepth 100000 in
set_option maxHeartbeats 8000000 in
theorem down_any {T : Nat → Prop} {w : World} {q base : Nat} {most : Int} {v : Value} {xs : List It} (h : Qu T w q base most v xs) {n : Nat} (hn : n ≤ xs.length) (hinv : DownInv ltI n xs 0) (hb : xs.length ≤ 2305843009213693951) :
    Calls Try.prog 137 #[.iface 121 (.pointer (some ⟨q, 0, none⟩)), .int .i64 0, .int .i64 n] w fun e w' => (∃ b, e = .returned (.bool b)) ∧ Moved T q base most v xs (fun ys => Heap ltI n ys ∧ ∀ k, n ≤ k → ys[k]? = xs[k]?) w w' := by
  have H := Lib.hid h
  have HI := Lib.hid hinv
  clear h hinv
  go_enter Try.func137, Try.ntmps137
  go_wp2_with fail
  go_loopw [7] (fun i wr => ∃ (j : Nat) (ys : List It), i = .int .i64 j ∧ (j = 0 ∨ j < n) ∧ ys.length = xs.length ∧ DownInv ltI n ys j ∧ List.Perm ys xs ∧ Qu T wr q base most v ys ∧ w.grownBy wr v.ownBlock ∧ ∀ k, n ≤ k → ys[k]? = xs[k]?) (fun i _ => n - (intOf i).toNat)
  case atStart => exact ⟨0, xs, rfl, .inl rfl, rfl, HI.out, List.Perm.refl _, H.out, grown_ext (Below.refl _ _) _, fun _ _ => rfl⟩
  case round =>
    obtain ⟨i, ys, rfl, hjn, hyl, hu, hp, hq, hg, hk⟩ := hrel
    have Hu := Lib.hid hu
    have Hp := Lib.hid hp
    have Hq := Lib.hid hq
    have Hg := Lib.hid hg
    have Hk := Lib.hid hk
    have hc : wr.cell? ⟨q, 0, none⟩ = some v := hq.blk.cell 0
    have ml := m_less q wr v hc
    clear hu hp hq hg hk
    obtain ⟨j1, hj1⟩ : ∃ j1, 2 * i + 1 = j1 := ⟨_, rfl⟩
    obtain ⟨j2, hj2⟩ : ∃ j2, j1 + 1 = j2 := ⟨_, rfl⟩
    have e1 : (2 : Int) * (i : Int) + 1 = (j1 : Int) := by omega
    have e2 : (j1 : Int) + 1 = (j2 : Int) := by omega
    by_cases h1 : j1 < n
    · obtain ⟨x, hx⟩ : ∃ x, ys[i]? = some x := ⟨_, List.getElem?_eq_getElem (by omega)⟩
      obtain ⟨y1, hy1⟩ : ∃ y, ys[j1]? = some y := ⟨_, List.getElem?_eq_getElem (by omega)⟩
      have HX := Lib.hid hx
      have HY1 := Lib.hid hy1
      clear hx hy1
      by_cases h2 : j2 < n
      · obtain ⟨y2, hy2⟩ : ∃ y, ys[j2]? = some y := ⟨_, List.getElem?_eq_getElem (by omega)⟩
        have HY2 := Lib.hid hy2
        clear hy2
        go_wp2_with fail
        refine (tless_any Hq.out HY2.out HY1.out).mono ?_
        rintro e w1 ⟨rfl, hx1⟩
        have Hx1 := Lib.hid hx1
        have Hq1 := Lib.hid (Hq.out.ext hx1)
        have ml1 := m_less q w1 v (Hq1.out.blk.cell 0)
        clear hx1 ml hc
        cases hl0 : lessR y2.td.row y1.td.row
        · have Hl0 := Lib.hid hl0
          have HY := HY1
          obtain ⟨y, hy⟩ : ∃ y, y = y1 := ⟨_, rfl⟩
          rw [← hy] at HY
          subst hy
          have Hm : Hid (∀ (c : Nat) (a : It), 0 < c → c < n → (c - 1) / 2 = i → ys[c]? = some a → ltI a y = false) := Lib.hid fun c a h0 hc hci ha => by
            rcases (by omega : c = j1 ∨ c = j2) with rfl | rfl
            · rw [HY.out] at ha; injection ha with ha; subst ha; exact lessR_irrefl _
            · rw [HY2.out] at ha; injection ha with ha; subst ha; exact Hl0.out
          clear hl0
          go_wp2_with fail
          refine (tless_any (Hq1.out) HY.out HX.out).mono ?_
          rintro e w2 ⟨rfl, hx2⟩
          have Hx2 := Lib.hid hx2
          have Hq2 := Lib.hid ((Hq1.out).ext hx2)
          have ms2 := m_swap q w2 v (Hq2.out.blk.cell 0)
          clear hx2
          cases hl : lessR y.td.row x.td.row
          · have Hl := Lib.hid hl
            clear hl
            go_wp2_with fail
            go_ret
            refine ⟨Exists.intro _ rfl, ys, Hp.out, ⟨?_, Hk.out⟩, Hq2.out, grownBy_trans Hg.out (grown_ext (Hx1.out.trans' Hx2.out) _)⟩
            refine down_stop Hu.out fun k a r h0 hk hki ha hr => ?_
            rw [HX.out] at hr; injection hr with hr; subst hr
            exact ltI_ord.trans _ _ _ Hl.out (Hm.out k a h0 hk hki ha)
          · have Hl := Lib.hid hl
            clear hl
            go_wp2_with fail
            refine (Hq2.out.swap HX.out HY.out).mono ?_
            rintro e w3 ⟨rfl, hq3, hg3⟩
            have Hq3 := Lib.hid hq3
            have Hg3 := Lib.hid hg3
            clear hq3 hg3
            go_wp2_with fail
            go_roundw
            case rel =>
              refine ⟨j1, swapL ys i j1, rfl, by omega, by rw [swapL_length]; exact hyl, ?_, (swapL_perm _ _ _).trans Hp.out, Hq3.out, grownBy_trans (grownBy_trans Hg.out (grown_ext (Hx1.out.trans' Hx2.out) _)) Hg3.out, fun k hk => ?_⟩
              · exact down_step ltI_ord Hu.out (by omega) (by omega) (by omega) HX.out HY.out Hl.out Hm.out
              · rw [swapL_get HX.out HY.out, if_neg (by omega), if_neg (by omega)]; exact Hk.out k hk
            case measure => simp [intOf]; omega
        · have Hl0 := Lib.hid hl0
          have HY := HY2
          obtain ⟨y, hy⟩ : ∃ y, y = y2 := ⟨_, rfl⟩
          rw [← hy] at HY
          subst hy
          have Hm : Hid (∀ (c : Nat) (a : It), 0 < c → c < n → (c - 1) / 2 = i → ys[c]? = some a → ltI a y = false) := Lib.hid fun c a h0 hc hci ha => by
            rcases (by omega : c = j1 ∨ c = j2) with rfl | rfl
            · rw [HY1.out] at ha; injection ha with ha; subst ha; exact ltI_ord.asymm _ _ Hl0.out
            · rw [HY.out] at ha; injection ha with ha; subst ha; exact lessR_irrefl _
          clear hl0
          go_wp2_with fail
          refine (tless_any (Hq1.out) HY.out HX.out).mono ?_
          rintro e w2 ⟨rfl, hx2⟩
          have Hx2 := Lib.hid hx2
          have Hq2 := Lib.hid ((Hq1.out).ext hx2)
          have ms2 := m_swap q w2 v (Hq2.out.blk.cell 0)
          clear hx2
          cases hl : lessR y.td.row x.td.row
          · have Hl := Lib.hid hl
            clear hl
            go_wp2_with fail
            go_ret
            refine ⟨Exists.intro _ rfl, ys, Hp.out, ⟨?_, Hk.out⟩, Hq2.out, grownBy_trans Hg.out (grown_ext (Hx1.out.trans' Hx2.out) _)⟩
            refine down_stop Hu.out fun k a r h0 hk hki ha hr => ?_
            rw [HX.out] at hr; injection hr with hr; subst hr
            exact ltI_ord.trans _ _ _ Hl.out (Hm.out k a h0 hk hki ha)
          · have Hl := Lib.hid hl
            clear hl
            go_wp2_with fail
            refine (Hq2.out.swap HX.out HY.out).mono ?_
            rintro e w3 ⟨rfl, hq3, hg3⟩
            have Hq3 := Lib.hid hq3
            have Hg3 := Lib.hid hg3
            clear hq3 hg3
            go_wp2_with fail
            go_roundw
            case rel =>
              refine ⟨j2, swapL ys i j2, rfl, by omega, by rw [swapL_length]; exact hyl, ?_, (swapL_perm _ _ _).trans Hp.out, Hq3.out, grownBy_trans (grownBy_trans Hg.out (grown_ext (Hx1.out.trans' Hx2.out) _)) Hg3.out, fun k hk => ?_⟩
              · exact down_step ltI_ord Hu.out (by omega) (by omega) (by omega) HX.out HY.out Hl.out Hm.out
              · rw [swapL_get HX.out HY.out, if_neg (by omega), if_neg (by omega)]; exact Hk.out k hk
            case measure => simp [intOf]; omega
      · have HY := HY1
        obtain ⟨y, hy⟩ : ∃ y, y = y1 := ⟨_, rfl⟩
        rw [← hy] at HY
        subst hy
        have Hm : Hid (∀ (c : Nat) (a : It), 0 < c → c < n → (c - 1) / 2 = i → ys[c]? = some a → ltI a y = false) := Lib.hid fun c a h0 hc hci ha => by
          obtain rfl : c = j1 := by omega
          rw [HY.out] at ha; injection ha with ha; subst ha; exact lessR_irrefl _
        go_wp2_with fail
        refine (tless_any (Hq.out) HY.out HX.out).mono ?_
        rintro e w2 ⟨rfl, hx2⟩
        have Hx2 := Lib.hid hx2
        have Hq2 := Lib.hid ((Hq.out).ext hx2)
        have ms2 := m_swap q w2 v (Hq2.out.blk.cell 0)
        clear hx2
        cases hl : lessR y.td.row x.td.row
        · have Hl := Lib.hid hl
          clear hl
          go_wp2_with fail
          go_ret
          refine ⟨Exists.intro _ rfl, ys, Hp.out, ⟨?_, Hk.out⟩, Hq2.out, grownBy_trans Hg.out (grown_ext (Hx2.out) _)⟩
          refine down_stop Hu.out fun k a r h0 hk hki ha hr => ?_
          rw [HX.out] at hr; injection hr with hr; subst hr
          exact ltI_ord.trans _ _ _ Hl.out (Hm.out k a h0 hk hki ha)
        · have Hl := Lib.hid hl
          clear hl
          go_wp2_with fail
          refine (Hq2.out.swap HX.out HY.out).mono ?_
          rintro e w3 ⟨rfl, hq3, hg3⟩
          have Hq3 := Lib.hid hq3
          have Hg3 := Lib.hid hg3
          clear hq3 hg3
          go_wp2_with fail
          go_roundw
          case rel =>
            refine ⟨j1, swapL ys i j1, rfl, by omega, by rw [swapL_length]; exact hyl, ?_, (swapL_perm _ _ _).trans Hp.out, Hq3.out, grownBy_trans (grownBy_trans Hg.out (grown_ext (Hx2.out) _)) Hg3.out, fun k hk => ?_⟩
            · exact down_step ltI_ord Hu.out (by omega) (by omega) (by omega) HX.out HY.out Hl.out Hm.out
            · rw [swapL_get HX.out HY.out, if_neg (by omega), if_neg (by omega)]; exact Hk.out k hk
          case measure => simp [intOf]; omega
    · go_wp2_with fail
      go_ret
      refine ⟨Exists.intro _ rfl, ys, Hp.out, ⟨?_, Hk.out⟩, Hq.out, Hg.out⟩
      exact down_stop Hu.out fun k a r h0 hk hki ha hr => by omega
end Go.Proofs.Ytocndkhgopjhhaa
