/- touchstonelaw10.long: what it lets by, the lengths of the places too. -/
import Derived.Test.YtocndkhgopjhhaaGreatProg
import Derived.Test.YtocndkhgopjhhaaGreatPrimJ
import Derived.Test.YtocndkhgopjhhaaGreatMay
import Derived.Outline
namespace Go.Proofs.YtocndkhgopjhhaaGreat
open Go.RowKit

/-- What long answers: where it answers no, the root may be a tree, and the steps are few. -/
def LongPostT (t : N) (l : List POp) (w : World) (e : Ending) (w' : World) : Prop :=
  ∃ b, e = .returned (.bool b) ∧ Ext w w' ∧ (b = false → t.may = true ∧ l.length ≤ 40 ∧ ∀ (i : Nat) o, l[i]? = some o → o.a.length ≤ 20 ∧ o.b.length ≤ 20)
theorem LongPostT.yes {t : N} {l : List POp} {w w' : World} (h : Ext w w') : LongPostT t l w (.returned (.bool true)) w' := ⟨true, rfl, h, fun e => by cases e⟩

set_option maxRecDepth 100000 in
set_option maxHeartbeats 8000000 in
theorem long10t_any {Bn B d : Nat} (_hBn : Bn ≤ 2199023255552) {Sn S : Nat → Prop} {w : World} {v lv : Value} {t : N} {l : List POp} (hn : Rep Bn Sn w d t v) (h : POps B S w lv l) :
    Calls Tryz.prog 4 #[v, lv] w (LongPostT t l w) := by
  have H := Lib.hid h
  have HN := Lib.hid hn
  obtain ⟨At, ct, At', ct', rfl⟩ := hn.agg
  obtain ⟨A, c, rfl, hc, hm, _⟩ := h
  unfold maxLen at hm
  have hx0 := Ext.alloc' w (.cells #[.int .u8 t.kind, .string t.text, .slice At t.names.length ct, .slice At' t.kids.length ct'] 25)
  have HB := Lib.hid (Blk.new w 25 #[.int .u8 t.kind, .string t.text, .slice At t.names.length ct, .slice At' t.kids.length ct'])
  have HX := Lib.hid hx0
  clear hn hx0
  go_enter Tryz.func4, Tryz.ntmps4
  go_wp2_with fail
  cases hmy : t.may
  · have HM := Lib.hid hmy
    clear hmy
    refine (may7_any _ _ _ _ _ _ (HN.out.ext HX.out)).mono ?_
    rw [HM.out]
    rintro e w1 ⟨rfl, x1⟩
    have X := Lib.hid (HX.out.trans' x1)
    clear x1
    go_wp2_with fail
    go_ret
    exact .yes X.out
  have HM := Lib.hid hmy
  refine (may7_any _ _ _ _ _ _ (HN.out.ext HX.out)).mono ?_
  rw [hmy]
  clear hmy
  rintro e w1 ⟨rfl, x1⟩
  have X := Lib.hid (HX.out.trans' x1)
  obtain ⟨p0, p1, p2, p3, _, _, _, _⟩ := (HB.out.ext x1).cells4
  have pl := (HB.out.ext x1).lt
  clear x1
  go_wp2_with fail
  refine (nodes7_any _ _ _ _ _ _ (HN.out.ext X.out)).mono ?_
  rintro e w2 ⟨rfl, x2⟩
  have X := Lib.hid (X.out.trans' x2)
  clear x2 p0 p1 p2 p3 pl
  by_cases hnd : 200 < t.nodes
  · go_wp2_with fail
    go_ret
    exact .yes X.out
  by_cases hln : 40 < (l.length : Int)
  · go_wp2_with fail
    go_ret
    exact .yes X.out
  have HLN := Lib.hid (show l.length ≤ 40 by omega)
  go_wp2_with fail
  have HH := Lib.hid (H.out.ext X.out)
  go_loopw [5] (fun i wr => ∃ j : Nat, j ≤ l.length ∧ i = .int .i64 j ∧ wr = w2 ∧ ∀ (i : Nat) o, i < j → l[i]? = some o → o.a.length ≤ 20 ∧ o.b.length ≤ 20) (fun i _ => l.length - (intOf i).toNat)
  case atStart => exact ⟨0, Nat.zero_le _, rfl, rfl, fun i o hi _ => absurd hi (Nat.not_lt_zero _)⟩
  case round =>
    obtain ⟨j, hj, rfl, rfl, hall⟩ := hrel
    have HALL := Lib.hid hall
    clear hall
    by_cases hlt : j < l.length
    · obtain ⟨o, ho⟩ : ∃ o, l[j]? = some o := ⟨_, List.getElem?_eq_getElem hlt⟩
      obtain ⟨b, of, c2, av, bv, e, _, hb, _, _, c0, c1, c2', c3, c4, hts, ha, hbv⟩ := HH.out.at' ho
      injection e with e1 e2 e3
      subst e1 e3
      obtain ⟨Aa, ca, rfl, hca, hma, _, _, hac⟩ := ha
      obtain ⟨Ab, cb, rfl, hcb, hmb, _, _, hbc⟩ := hbv
      unfold maxLen at hma hmb hts
      have HO := Lib.hid ho
      clear ho
      by_cases q1 : 20 < (o.a.length : Int)
      · go_wp2_with fail
        go_ret
        exact .yes X.out
      by_cases q2 : 20 < (o.b.length : Int)
      · go_wp2_with fail
        go_ret
        exact .yes X.out
      by_cases q3 : 1000 < (o.text.size : Int)
      · go_wp2_with fail
        go_ret
        exact .yes X.out
      go_wp2_with fail
      go_loop [6] (fun i => ∃ q : Nat, q ≤ o.a.length ∧ i = .int .i64 q) (fun i => o.a.length - (intOf i).toNat)
      case atStart => exact ⟨0, Nat.zero_le _, rfl⟩
      case round =>
        obtain ⟨q, hq, rfl⟩ := hrel
        by_cases hql : q < o.a.length
        · obtain ⟨ba, oa, rfl, _, hba, hca'⟩ := hac (by omega)
          have hcq := hca' q _ (List.getElem?_eq_getElem hql)
          have Hca := Lib.hid hca'
          clear hca'
          by_cases q4 : 200 < (o.a[q].size : Int)
          · go_wp2_with fail
            go_ret
            exact .yes X.out
          · go_wp2_with fail
            go_round
            case rel => exact ⟨q + 1, by omega, by go_num⟩
            case measure => simp [intOf]; omega
        · clear hq
          go_wp2_with fail
          go_loop [7] (fun i => ∃ q : Nat, q ≤ o.b.length ∧ i = .int .i64 q) (fun i => o.b.length - (intOf i).toNat)
          case atStart => exact ⟨0, Nat.zero_le _, rfl⟩
          case round =>
            obtain ⟨r, hr, rfl⟩ := hrel
            by_cases hrl : r < o.b.length
            · obtain ⟨bb, ob, rfl, _, hbb, hcb'⟩ := hbc (by omega)
              have hcr := hcb' r _ (List.getElem?_eq_getElem hrl)
              have Hcb := Lib.hid hcb'
              clear hcb'
              by_cases q4 : 200 < (o.b[r].size : Int)
              · go_wp2_with fail
                go_ret
                exact .yes X.out
              · go_wp2_with fail
                go_round
                case rel => exact ⟨r + 1, by omega, by go_num⟩
                case measure => simp [intOf]; omega
            · clear hr
              go_wp2_with fail
              go_roundw
              case rel => 
                refine ⟨j + 1, by omega, by go_num, by first | trivial | rfl, fun i o' hi ho' => ?_⟩
                rcases Nat.lt_or_ge i j with h | h
                · exact HALL.out i o' h ho'
                · obtain rfl : i = j := by omega
                  rw [HO.out] at ho'
                  injection ho' with ho'
                  subst ho'
                  exact ⟨by omega, by omega⟩
              case measure => simp [intOf]; omega
    · go_wp2_with fail
      go_ret
      exact ⟨false, rfl, X.out, fun _ => ⟨HM.out, HLN.out, fun i o hi => HALL.out i o (by have := (List.getElem?_eq_some_iff.1 hi).1; omega) hi⟩⟩
end Go.Proofs.YtocndkhgopjhhaaGreat
