/- touchstoneref06.Under, Same. -/
import Derived.Test.YtocndkhgopjhhaaProg
import Derived.Test.YtocndkhgopjhhaaSame
namespace Go.Proofs.Ytocndkhgopjhhaa
open Go.RowKit

/-- Do the texts b begin by the texts a? -/
def underL : List ByteArray → List ByteArray → Bool
  | [], _ => true
  | _ :: _, [] => false
  | x :: a, y :: b => decide (x = y) && underL a b
theorem underL_iff : ∀ {a b : List ByteArray}, underL a b = true ↔ ∃ r, b = a ++ r
  | [], b => ⟨fun _ => ⟨b, rfl⟩, fun _ => by unfold underL; rfl⟩
  | x :: a, [] => ⟨fun h => by simp [underL] at h, fun ⟨r, h⟩ => by simp at h⟩
  | x :: a, y :: b => by
    rw [underL, Bool.and_eq_true, decide_eq_true_eq, underL_iff]
    constructor
    · rintro ⟨rfl, r, rfl⟩; exact ⟨r, rfl⟩
    · rintro ⟨r, h⟩
      injection h with h1 h2
      exact ⟨h1.symm, r, h2⟩
theorem underL_long {a b : List ByteArray} (h : b.length < a.length) : underL a b = false := by
  cases e : underL a b
  · rfl
  · obtain ⟨r, rfl⟩ := underL_iff.1 e
    simp at h; omega
theorem underL_at {a b : List ByteArray} {j : Nat} (h1 : j < a.length) (h2 : j < b.length) : underL (a.drop j) (b.drop j) = (decide (a[j] = b[j]) && underL (a.drop (j + 1)) (b.drop (j + 1))) := by
  rw [List.drop_eq_getElem_cons h1, List.drop_eq_getElem_cons h2, underL]
theorem underL_end {a b : List ByteArray} {j : Nat} (h1 : ¬ j < a.length) : underL (a.drop j) b = true := by
  rw [List.drop_eq_nil_of_le (by omega)]; unfold underL; rfl

set_option maxRecDepth 100000 in
set_option maxHeartbeats 2000000 in
theorem under6_any {B1 B2 : Nat} {S1 S2 : Nat → Prop} {w : World} {v1 v2 : Value} {a b : List ByteArray} (h1 : Strs B1 S1 w v1 a) (h2 : Strs B2 S2 w v2 b) :
    Calls Try.prog 58 #[v1, v2] w fun e w' => e = .returned (.bool (underL a b)) ∧ Ext w w' := by
  obtain ⟨A1, c1, rfl, hc1, hm1, _, _, g1⟩ := h1
  obtain ⟨A2, c2, rfl, hc2, hm2, _, _, g2⟩ := h2
  unfold maxLen at hm1 hm2
  have G1 := Lib.hid g1
  have G2 := Lib.hid g2
  have hu := (up_rules w).1
  clear g1 g2
  by_cases hl : (b.length : Int) < (a.length : Int)
  · have hl' : b.length < a.length := by omega
    have HL := Lib.hid (underL_long hl')
    go_enter Try.func58, Try.ntmps58
    go_wp2_with fail
    go_ret
    exact ⟨ret_bool HL.out.symm, Below.refl _ _⟩
  have hl' : a.length ≤ b.length := by omega
  have hlb : decide (b.length < a.length) = false := decide_eq_false (by omega)
  clear hl
  go_enter Try.func58, Try.ntmps58
  go_wp2_with fail
  go_loopw [5] (fun i wr => ∃ (j : Nat) (u : Up w), i = .int .i64 j ∧ wr = u.val ∧ j ≤ a.length ∧ underL (a.drop j) (b.drop j) = underL a b) (fun i _ => a.length - (intOf i).toNat)
  case atStart =>
    obtain ⟨u, hu⟩ := Up.self w
    exact ⟨0, u, rfl, hu, Nat.zero_le _, rfl⟩
  case round =>
    obtain ⟨j, u, rfl, rfl, hj1, hy⟩ := hrel
    by_cases hja : j < a.length
    · have hjb : j < b.length := by omega
      rw [underL_at hja hjb] at hy
      obtain ⟨b1, o1, rfl, hS1, hb1, k1⟩ := G1.out (by omega)
      obtain ⟨b2, o2, rfl, hS2, hb2, k2⟩ := G2.out (by omega)
      obtain ⟨x, hx⟩ : ∃ x, a[j] = x := ⟨_, rfl⟩
      obtain ⟨y, hy'⟩ : ∃ y, b[j] = y := ⟨_, rfl⟩
      have q1 := k1 j x (by rw [List.getElem?_eq_getElem hja, hx])
      have q2 := k2 j y (by rw [List.getElem?_eq_getElem hjb, hy'])
      rw [hx, hy'] at hy
      clear k1 k2 hx hy'
      by_cases hxy : x = y
      · have t1 : (x.toList != y.toList) = false := by simp [hxy]
        have t2 : (x.toList == y.toList) = true := by simp [hxy]
        have Hy : Hid (underL (a.drop (j + 1)) (b.drop (j + 1)) = underL a b) := Lib.hid (by rw [← hy, decide_eq_true hxy]; rfl)
        clear hy hxy
        go_wp2_with fail
        refine wp_region_up (by kernel_rfl) (by kernel_rfl) ?_
        repeat (go_big_quiet_step (fail))
        refine wpQuiet_nil ?_
        rintro _ ⟨u3, rfl⟩
        go_wp2_with fail
        go_roundw
        case rel => exact ⟨j + 1, u3, by go_num, rfl, by omega, Hy.out⟩
        case measure => simp [intOf]; omega
      · have t1 : (x.toList != y.toList) = true := by rw [bne_iff_ne]; intro h; exact hxy (toList_inj h)
        have t2 : (x.toList == y.toList) = false := by rw [beq_eq_false_iff_ne]; intro h; exact hxy (toList_inj h)
        have Hy : Hid (underL a b = false) := Lib.hid (by rw [← hy, decide_eq_false hxy]; rfl)
        clear hy hxy
        go_wp2_with fail
        refine wp_region_up (by kernel_rfl) (by kernel_rfl) ?_
        repeat (go_big_quiet_step (fail))
        refine wpQuiet_nil ?_
        rintro _ ⟨u3, rfl⟩
        go_wp2_with fail
        go_ret
        exact ⟨ret_bool Hy.out.symm, u3.ext⟩
    · rw [underL_end hja] at hy
      have Hy := Lib.hid hy
      clear hy
      go_wp2_with fail
      go_ret
      exact ⟨ret_bool Hy.out, u.ext⟩

theorem under_same {a b : List ByteArray} : (decide (a.length = b.length) && underL a b) = decide (a = b) := by
  rw [Bool.eq_iff_iff, Bool.and_eq_true, decide_eq_true_eq, decide_eq_true_eq, underL_iff]
  constructor
  · rintro ⟨h, r, rfl⟩
    have : r = [] := by simpa using h
    subst this; simp
  · rintro rfl; exact ⟨rfl, [], by simp⟩

theorem same6_any {B1 B2 : Nat} {S1 S2 : Nat → Prop} {w : World} {v1 v2 : Value} {a b : List ByteArray} (h1 : Strs B1 S1 w v1 a) (h2 : Strs B2 S2 w v2 b) :
    Calls Try.prog 138 #[v1, v2] w fun e w' => e = .returned (.bool (decide (a = b))) ∧ Ext w w' := by
  have H1 := Lib.hid h1
  have H2 := Lib.hid h2
  obtain ⟨A1, c1, rfl, _⟩ := h1
  obtain ⟨A2, c2, rfl, _⟩ := h2
  have HS := Lib.hid (under_same (a := a) (b := b))
  cases hl : ((a.length : Int) == (b.length : Int))
  · have hne : ¬ a.length = b.length := by intro e; rw [e] at hl; simp at hl
    have HS2 : Hid (decide (a = b) = false) := Lib.hid (by rw [← HS.out, decide_eq_false hne]; rfl)
    clear hne
    go_enter Try.func138, Try.ntmps138
    go_wp2_with fail
    go_ret
    exact ⟨ret_bool HS2.out.symm, Below.refl _ _⟩
  · have he : a.length = b.length := by have : (a.length : Int) = (b.length : Int) := by simpa using hl
                                        omega
    have HS2 : Hid (decide (a = b) = underL a b) := Lib.hid (by rw [← HS.out, decide_eq_true he]; rfl)
    clear he
    go_enter Try.func138, Try.ntmps138
    go_wp2_with (go_at_call 58; refine (under6_any H1.out H2.out).mono ?_; rintro e w1 ⟨rfl, hx1⟩; have Hx1 := Lib.hid hx1; clear hx1)
    go_ret
    exact ⟨ret_bool HS2.out.symm, Hx1.out⟩
end Go.Proofs.Ytocndkhgopjhhaa
