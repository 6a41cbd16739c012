/- touchstonelaw28.long. -/
import Derived.Test.YtocndkhgopjhhaaProg
import Derived.Test.YtocndkhgopjhhaaPatM
namespace Go.Proofs.Ytocndkhgopjhhaa
open Go.RowKit

/-- 'The slice value v reads as the steps l'. -/
def OpsV (B : Nat) (S : Nat → Prop) (w : World) (v : Value) (l : List (Int × Td)) : Prop :=
  ∃ A c, v = .slice A l.length c ∧ l.length ≤ c ∧ c ≤ maxLen ∧ (0 < l.length → ∃ b o, A = some ⟨b, o, none⟩ ∧ b < w.heap.size ∧ ∀ i k t, l[i]? = some (k, t) →
    ∃ rv fv, w.cell? ⟨b, o + i * 3, none⟩ = some (.int .u8 k) ∧ w.cell? ⟨b, o + i * 3 + 1, none⟩ = some rv ∧ w.cell? ⟨b, o + i * 3 + 2, none⟩ = some fv ∧ Tdv B S w t (.agg #[rv, fv]))
def bigF (f : Fc) : Bool := decide (30 < (f.names.length : Int)) || decide (30 < (f.kids.length : Int))
def bigTd (t : Td) : Bool := decide (100 < (t.row.length : Int)) || decide (20 < (t.facts.length : Int)) || t.facts.any bigF
def longF (l : List (Int × Td)) : Bool := decide (60 < (l.length : Int)) || l.any fun o => bigTd o.2
theorem any_at {α : Type} {p : α → Bool} {l : List α} {j : Nat} (h : j < l.length) : (l.drop j).any p = (p l[j] || (l.drop (j + 1)).any p) := by
  rw [List.drop_eq_getElem_cons h, List.any_cons]
theorem any_end {α : Type} {p : α → Bool} {l : List α} {j : Nat} (h : ¬ j < l.length) : (l.drop j).any p = false := by
  rw [List.drop_eq_nil_of_le (by omega)]; rfl

set_option maxRecDepth 100000 in
set_option maxHeartbeats 4000000 in
theorem long28_any {B : Nat} {S : Nat → Prop} {w : World} {v : Value} {l : List (Int × Td)} (h : OpsV B S w v l) :
    Calls Try.prog 26 #[v] w fun e w' => e = .returned (.bool (longF l)) ∧ w' = w := by
  obtain ⟨A, c, rfl, hc, hm, g⟩ := h
  have G := Lib.hid g
  unfold maxLen at hm
  clear g
  by_cases h60 : 60 < (l.length : Int)
  · have HL : Hid (longF l = true) := Lib.hid (by unfold longF; rw [decide_eq_true h60]; rfl)
    go_enter Try.func26, Try.ntmps26
    go_wp2_with fail
    go_ret
    exact ⟨ret_bool HL.out.symm, rfl⟩
  have HL : Hid (longF l = l.any fun o => bigTd o.2) := Lib.hid (by unfold longF; rw [decide_eq_false h60]; rfl)
  have h60' : decide (60 < (l.length : Int)) = false := decide_eq_false h60
  have h60n : decide (60 < l.length) = false := decide_eq_false (by omega)
  go_enter Try.func26, Try.ntmps26
  go_wp2_with fail
  go_loopw [3] (fun i wr => ∃ j : Nat, j ≤ l.length ∧ i = .int .i64 j ∧ wr = w ∧ ((l.drop j).any fun o => bigTd o.2) = l.any fun o => bigTd o.2) (fun i _ => l.length - (intOf i).toNat)
  case atStart => exact ⟨0, Nat.zero_le _, rfl, rfl, rfl⟩
  case round =>
    obtain ⟨j, hj, rfl, rfl, hy⟩ := hrel
    by_cases hlt : j < l.length
    · rw [any_at hlt] at hy
      obtain ⟨⟨k, t⟩, ht⟩ : ∃ o, l[j] = o := ⟨_, rfl⟩
      rw [ht] at hy
      obtain ⟨b, o, rfl, hb, hcell⟩ := G.out (by omega)
      obtain ⟨rv, fv, c0, c1, c2, rv', fv', e, hr, hf⟩ := hcell j k t (by rw [List.getElem?_eq_getElem hlt, ht])
      injection e with e
      simp only [Array.mk.injEq, List.cons.injEq, and_true] at e
      obtain ⟨rfl, rfl⟩ := e
      have HF := Lib.hid hf
      obtain ⟨A0, c0', rfl, _⟩ := hr
      obtain ⟨A1, c1', rfl, hc1, hm1, _⟩ := hf.form
      unfold maxLen at hm1
      have j1 : (0 : Int) ≤ (j : Int) := by omega
      have j2 : (j : Int) < (l.length : Int) := by omega
      have Hy := Lib.hid hy
      clear hcell hf hy ht
      by_cases g1 : 100 < (t.row.length : Int)
      · have HB : Hid ((l.any fun o => bigTd o.2) = true) := Lib.hid (by rw [← Hy.out]; simp only [bigTd, decide_eq_true g1, Bool.true_or])
        go_wp2_with fail
        go_ret
        exact ⟨ret_bool (by rw [HL.out, HB.out]), (by first | rfl | trivial)⟩
      by_cases g2 : 20 < (t.facts.length : Int)
      · have HB : Hid ((l.any fun o => bigTd o.2) = true) := Lib.hid (by rw [← Hy.out]; simp only [bigTd, decide_eq_true g2, Bool.true_or, Bool.or_true])
        have g1' : decide (100 < (t.row.length : Int)) = false := decide_eq_false g1
        go_wp2_with fail
        go_ret
        exact ⟨ret_bool (by rw [HL.out, HB.out]), (by first | rfl | trivial)⟩
      have HB : Hid (bigTd t = t.facts.any bigF) := Lib.hid (by simp only [bigTd, decide_eq_false g1, decide_eq_false g2, Bool.false_or])
      have g1' : decide (100 < (t.row.length : Int)) = false := decide_eq_false g1
      have g2' : decide (20 < (t.facts.length : Int)) = false := decide_eq_false g2
      go_wp2_with fail
      go_loopw [4] (fun i wi => ∃ m : Nat, m ≤ t.facts.length ∧ i = .int .i64 m ∧ wi = wr ∧ (t.facts.drop m).any bigF = t.facts.any bigF) (fun i _ => t.facts.length - (intOf i).toNat)
      case atStart => exact ⟨0, Nat.zero_le _, rfl, rfl, rfl⟩
      case round =>
        obtain ⟨m, hm', rfl, rfl, hyk⟩ := hrel
        by_cases hml : m < t.facts.length
        · rw [any_at hml] at hyk
          obtain ⟨f, hf⟩ : ∃ f, t.facts[m] = f := ⟨_, rfl⟩
          rw [hf] at hyk
          obtain ⟨b1, o1, nv, kv, rfl, _, hb1, p0, p1, p2, p3, p4, p5, hs1, hk1, _⟩ := HF.out.get (i := m) (f := f) (by rw [List.getElem?_eq_getElem hml, hf])
          obtain ⟨An, cn, rfl, _⟩ := hs1
          obtain ⟨Ak, ck, rfl, _⟩ := hk1
          have m1 : (0 : Int) ≤ (m : Int) := by omega
          have m2 : (m : Int) < (t.facts.length : Int) := by omega
          have HyK := Lib.hid hyk
          clear hyk hf
          by_cases q1 : 30 < (f.names.length : Int)
          · have HE : Hid ((l.any fun o => bigTd o.2) = true) := Lib.hid (by rw [← Hy.out]; simp only [HB.out]; rw [← HyK.out]; simp only [bigF, decide_eq_true q1, Bool.true_or])
            go_wp2_with fail
            go_ret
            exact ⟨ret_bool (by rw [HL.out, HE.out]), (by first | rfl | trivial)⟩
          have q1' : decide (30 < (f.names.length : Int)) = false := decide_eq_false q1
          by_cases q2 : 30 < (f.kids.length : Int)
          · have HE : Hid ((l.any fun o => bigTd o.2) = true) := Lib.hid (by rw [← Hy.out]; simp only [HB.out]; rw [← HyK.out]; simp only [bigF, decide_eq_true q2, Bool.true_or, Bool.or_true])
            go_wp2_with fail
            go_ret
            exact ⟨ret_bool (by rw [HL.out, HE.out]), (by first | rfl | trivial)⟩
          have q2' : decide (30 < (f.kids.length : Int)) = false := decide_eq_false q2
          have HE : Hid ((t.facts.drop (m + 1)).any bigF = t.facts.any bigF) := Lib.hid (by rw [← HyK.out]; simp only [bigF, decide_eq_false q1, decide_eq_false q2, Bool.false_or])
          go_wp2_with fail
          go_roundw
          case rel => exact ⟨m + 1, by omega, by go_num, (by first | rfl | trivial), HE.out⟩
          case measure => simp [intOf]; omega
        · rw [any_end hml] at hyk
          have HE : Hid (((l.drop (j + 1)).any fun o => bigTd o.2) = l.any fun o => bigTd o.2) := Lib.hid (by rw [← Hy.out]; simp only [HB.out]; rw [← hyk]; rfl)
          clear hyk
          go_wp2_with fail
          go_roundw
          case rel => exact ⟨j + 1, by omega, by go_num, (by first | rfl | trivial), HE.out⟩
          case measure => simp [intOf]; omega
    · rw [any_end hlt] at hy
      have Hy := Lib.hid hy
      clear hy
      go_wp2_with fail
      go_ret
      exact ⟨ret_bool (by rw [HL.out]; exact Hy.out), (by first | rfl | trivial)⟩
end Go.Proofs.Ytocndkhgopjhhaa
