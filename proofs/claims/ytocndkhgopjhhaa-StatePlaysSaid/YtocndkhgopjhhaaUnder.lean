/- touchstoneref28.Ints. -/
import Derived.Test.YtocndkhgopjhhaaProg
import Derived.Test.YtocndkhgopjhhaaTreeB
import Derived.Test.YtocndkhgopjhhaaSt
import Derived.Test.YtocndkhgopjhhaaLess
namespace Go.Proofs.Ytocndkhgopjhhaa
open Go.RowKit

theorem lessR_both (a b : List Int) : (!lessR a b && !lessR b a) = decide (a = b) := by
  rw [Bool.eq_iff_iff, Bool.and_eq_true, decide_eq_true_eq]
  constructor
  · rintro ⟨h1, h2⟩; exact lessR_eq (by simpa using h1) (by simpa using h2)
  · rintro rfl; simp [lessR_irrefl]

theorem ints28_any {B1 B2 : Nat} {S1 S2 : Nat → Prop} {w : World} {v1 v2 : Value} {a b : List Int} (h1 : Ints B1 S1 w v1 a) (h2 : Ints B2 S2 w v2 b) :
    Calls Try.prog 97 #[v1, v2] w fun e w' => e = .returned (.bool (decide (a = b))) ∧ Ext w w' := by
  have H1 := Lib.hid h1
  have H2 := Lib.hid h2
  obtain ⟨A1, c1, rfl, _⟩ := h1
  obtain ⟨A2, c2, rfl, _⟩ := h2
  have HS := Lib.hid (lessR_both a b)
  cases hl : lessR a b
  · have HL := Lib.hid hl
    cases hk : lessR b a
    · have HK := Lib.hid hk
      have HS2 : Hid (decide (a = b) = true) := Lib.hid (by rw [← HS.out, hl, hk]; rfl)
      clear hl hk
      go_enter Try.func97, Try.ntmps97
      go_wp2_with fail
      refine (less_any H1.out H2.out).mono ?_
      rw [HL.out]; rintro e w1 ⟨rfl, hx1⟩; have Hx1 := Lib.hid hx1; clear hx1
      go_wp2_with fail
      refine (less_any (H2.out.ext Hx1.out) (H1.out.ext Hx1.out)).mono ?_
      rw [HK.out]; rintro e w2 ⟨rfl, hx2⟩; have Hx2 := Lib.hid hx2; clear hx2
      go_wp2_with fail
      go_ret
      exact ⟨ret_bool HS2.out.symm, Hx1.out.trans' Hx2.out⟩
    · have HK := Lib.hid hk
      have HS2 : Hid (decide (a = b) = false) := Lib.hid (by rw [← HS.out, hl, hk]; rfl)
      clear hl hk
      go_enter Try.func97, Try.ntmps97
      go_wp2_with fail
      refine (less_any H1.out H2.out).mono ?_
      rw [HL.out]; rintro e w1 ⟨rfl, hx1⟩; have Hx1 := Lib.hid hx1; clear hx1
      go_wp2_with fail
      refine (less_any (H2.out.ext Hx1.out) (H1.out.ext Hx1.out)).mono ?_
      rw [HK.out]; rintro e w2 ⟨rfl, hx2⟩; have Hx2 := Lib.hid hx2; clear hx2
      go_wp2_with fail
      go_ret
      exact ⟨ret_bool HS2.out.symm, Hx1.out.trans' Hx2.out⟩
  · have HL := Lib.hid hl
    have HS2 : Hid (decide (a = b) = false) := Lib.hid (by rw [← HS.out, hl]; rfl)
    clear hl
    go_enter Try.func97, Try.ntmps97
    go_wp2_with fail
    refine (less_any H1.out H2.out).mono ?_
    rw [HL.out]; rintro e w1 ⟨rfl, hx1⟩; have Hx1 := Lib.hid hx1; clear hx1
    go_wp2_with fail
    go_ret
    exact ⟨ret_bool HS2.out.symm, Hx1.out⟩
end Go.Proofs.Ytocndkhgopjhhaa
