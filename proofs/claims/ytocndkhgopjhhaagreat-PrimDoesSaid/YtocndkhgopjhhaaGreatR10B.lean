/- touchstoneref10.Rename, Copy over a term that is made whole. -/
import Derived.Test.YtocndkhgopjhhaaGreatProg
import Derived.Test.YtocndkhgopjhhaaGreatR10A
import Derived.Outline
namespace Go.Proofs.YtocndkhgopjhhaaGreat
open Go.RowKit

section
variable {X : Nat → Prop} {B B1 B2 g : Nat} {S1 S2 : Nat → Prop} {t : N} {w : World} {v1 v2 : Value} {a b : List ByteArray}
set_option maxRecDepth 100000 in
set_option maxHeartbeats 8000000 in
theorem rename10_any (hB : B + 40 ≤ 2199023255552) (hla : a.length ≤ 20) (hlb : b.length ≤ 20) (h : FIs X B w g t) (hd : DirW t) (ha : Strs B1 S1 w v1 a) (hb : Strs B2 S2 w v2 b) (hS1 : ∀ x, S1 x → x ≠ g) :
    Calls Tryz.prog 37 #[.pointer (some ⟨g, 0, none⟩), v1, v2] w (RPostX X (B + 40) g (pRename t a b) w) := by
  have HF := Lib.hid h
  have H1 := Lib.hid ha
  have H2 := Lib.hid hb
  have HD := Lib.hid hd
  have HXB := Lib.hid h.2
  have HZ := Lib.hid h.1.zero
  have TA := Lib.hid (PF.of h hd ha).tk
  have KA := Lib.hid (PF.of h hd ha).kd
  have TB := Lib.hid (PF.of h hd hb).tk
  have KB := Lib.hid (PF.of h hd hb).kd
  have EB := Lib.hid (PF.of h hd hb).em
  have SM := Lib.hid (fun w1 (x : Ext w w1) => same6_any (ha.ext x) (hb.ext x))
  have UN := Lib.hid (fun w1 (x : Ext w w1) => under6_any (ha.ext x) (hb.ext x))
  obtain ⟨A1, c1, rfl, _⟩ := ha
  obtain ⟨A2, c2, rfl, _⟩ := hb
  have X : Hid (Ext w w) := Lib.hid (Below.refl _ _)
  have HS1 := Lib.hid hS1
  clear h hd hS1
  by_cases h1 : takenB t a = false
  · have HT := Lib.hid h1
    have HR := Lib.hid (show pRename t a b = (5, t) from by
      unfold pRename; rw [if_pos h1])
    clear h1
    go_enter Tryz.func37, Tryz.ntmps37
    go_wp2_with (first
      | (go_at_call 58; (with_reducible refine (TA.out _ X.out).mono ?_); rw [HT.out]; rintro e w8 ⟨rfl, x8⟩; have X := Lib.hid (X.out.trans' x8); clear x8)
      | (go_at_call 59; (with_reducible refine (KA.out _ X.out).mono ?_); rintro e w8 ⟨rfl, x8⟩; have X := Lib.hid (X.out.trans' x8); clear x8)
      | (go_at_call 60; refine (stop_any (HZ.out.ext X.out)).mono ?_; rintro e w8 ⟨rfl, x8⟩; have X := Lib.hid (X.out.trans' x8); clear x8))
    go_ret
    rw [HR.out]
    exact RPostX.no HF.out X.out
  have HT := Lib.hid (show takenB t a = true by simpa using h1)
  by_cases h2 : takenB t b = false
  · have HU := Lib.hid h2
    have HR := Lib.hid (show pRename t a b = (5, t) from by
      unfold pRename; rw [if_neg h1]; rw [if_pos h2])
    clear h1 h2
    go_enter Tryz.func37, Tryz.ntmps37
    go_wp2_with (first
      | (go_at_call 58; (with_reducible refine (TA.out _ X.out).mono ?_); rw [HT.out]; rintro e w8 ⟨rfl, x8⟩; have X := Lib.hid (X.out.trans' x8); clear x8)
      | (go_at_call 58; (with_reducible refine (TB.out _ X.out).mono ?_); rw [HU.out]; rintro e w8 ⟨rfl, x8⟩; have X := Lib.hid (X.out.trans' x8); clear x8)
      | (go_at_call 59; (with_reducible refine (KA.out _ X.out).mono ?_); rintro e w8 ⟨rfl, x8⟩; have X := Lib.hid (X.out.trans' x8); clear x8)
      | (go_at_call 60; refine (stop_any (HZ.out.ext X.out)).mono ?_; rintro e w8 ⟨rfl, x8⟩; have X := Lib.hid (X.out.trans' x8); clear x8))
    go_ret
    rw [HR.out]
    exact RPostX.no HF.out X.out
  have HU := Lib.hid (show takenB t b = true by simpa using h2)
  by_cases h3 : t.kindAt a = 0
  · have k0 : (t.kindAt a == 0) = true := by simpa using h3
    have HR := Lib.hid (show pRename t a b = (5, t) from by
      unfold pRename; rw [if_neg h1]; rw [if_neg h2]; rw [if_pos h3])
    clear h1 h2 h3
    go_enter Tryz.func37, Tryz.ntmps37
    go_wp2_with (first
      | (go_at_call 58; (with_reducible refine (TA.out _ X.out).mono ?_); rw [HT.out]; rintro e w8 ⟨rfl, x8⟩; have X := Lib.hid (X.out.trans' x8); clear x8)
      | (go_at_call 58; (with_reducible refine (TB.out _ X.out).mono ?_); rw [HU.out]; rintro e w8 ⟨rfl, x8⟩; have X := Lib.hid (X.out.trans' x8); clear x8)
      | (go_at_call 59; (with_reducible refine (KA.out _ X.out).mono ?_); rintro e w8 ⟨rfl, x8⟩; have X := Lib.hid (X.out.trans' x8); clear x8)
      | (go_at_call 60; refine (stop_any (HZ.out.ext X.out)).mono ?_; rintro e w8 ⟨rfl, x8⟩; have X := Lib.hid (X.out.trans' x8); clear x8))
    go_ret
    rw [HR.out]
    exact RPostX.no HF.out X.out
  have k0 : (t.kindAt a == 0) = false := by simpa using h3
  by_cases h4 : a = b
  · have HSm := Lib.hid (show decide (a = b) = true from decide_eq_true h4)
    have HR := Lib.hid (show pRename t a b = (6, t) from by
      unfold pRename; rw [if_neg h1]; rw [if_neg h2]; rw [if_neg h3]; rw [if_pos h4])
    clear h1 h2 h3 h4
    go_enter Tryz.func37, Tryz.ntmps37
    go_wp2_with (first
      | (go_at_call 58; (with_reducible refine (TA.out _ X.out).mono ?_); rw [HT.out]; rintro e w8 ⟨rfl, x8⟩; have X := Lib.hid (X.out.trans' x8); clear x8)
      | (go_at_call 58; (with_reducible refine (TB.out _ X.out).mono ?_); rw [HU.out]; rintro e w8 ⟨rfl, x8⟩; have X := Lib.hid (X.out.trans' x8); clear x8)
      | (go_at_call 59; (with_reducible refine (KA.out _ X.out).mono ?_); rintro e w8 ⟨rfl, x8⟩; have X := Lib.hid (X.out.trans' x8); clear x8)
      | (go_at_call 60; refine (stop_any (HZ.out.ext X.out)).mono ?_; rintro e w8 ⟨rfl, x8⟩; have X := Lib.hid (X.out.trans' x8); clear x8)
      | (go_at_call 64; (with_reducible refine (SM.out _ X.out).mono ?_); rw [HSm.out]; rintro e w8 ⟨rfl, x8⟩; have X := Lib.hid (X.out.trans' x8); clear x8))
    go_ret
    rw [HR.out]
    exact RPostX.no HF.out X.out
  have HSm := Lib.hid (show decide (a = b) = false from decide_eq_false h4)
  by_cases h5 : a = []
  · have hz : ((a.length : Int) == 0) = true := by rw [h5]; rfl
    have HR := Lib.hid (show pRename t a b = (57, t) from by
      unfold pRename; rw [if_neg h1]; rw [if_neg h2]; rw [if_neg h3]; rw [if_neg h4]; rw [if_pos h5])
    clear h1 h2 h3 h4 h5
    go_enter Tryz.func37, Tryz.ntmps37
    go_wp2_with (first
      | (go_at_call 58; (with_reducible refine (TA.out _ X.out).mono ?_); rw [HT.out]; rintro e w8 ⟨rfl, x8⟩; have X := Lib.hid (X.out.trans' x8); clear x8)
      | (go_at_call 58; (with_reducible refine (TB.out _ X.out).mono ?_); rw [HU.out]; rintro e w8 ⟨rfl, x8⟩; have X := Lib.hid (X.out.trans' x8); clear x8)
      | (go_at_call 59; (with_reducible refine (KA.out _ X.out).mono ?_); rintro e w8 ⟨rfl, x8⟩; have X := Lib.hid (X.out.trans' x8); clear x8)
      | (go_at_call 60; refine (stop_any (HZ.out.ext X.out)).mono ?_; rintro e w8 ⟨rfl, x8⟩; have X := Lib.hid (X.out.trans' x8); clear x8)
      | (go_at_call 64; (with_reducible refine (SM.out _ X.out).mono ?_); rw [HSm.out]; rintro e w8 ⟨rfl, x8⟩; have X := Lib.hid (X.out.trans' x8); clear x8))
    go_ret
    rw [HR.out]
    exact RPostX.no HF.out X.out
  have hz : ((a.length : Int) == 0) = false := by
    rw [beq_eq_false_iff_ne]
    intro e
    exact h5 (List.eq_nil_of_length_eq_zero (by omega))
  by_cases h6 : underL a b = true
  · have HUn := Lib.hid h6
    have HR := Lib.hid (show pRename t a b = (58, t) from by
      unfold pRename; rw [if_neg h1]; rw [if_neg h2]; rw [if_neg h3]; rw [if_neg h4]; rw [if_neg h5]; rw [if_pos h6])
    clear h1 h2 h3 h4 h5 h6
    go_enter Tryz.func37, Tryz.ntmps37
    go_wp2_with (first
      | (go_at_call 58; (with_reducible refine (TA.out _ X.out).mono ?_); rw [HT.out]; rintro e w8 ⟨rfl, x8⟩; have X := Lib.hid (X.out.trans' x8); clear x8)
      | (go_at_call 58; (with_reducible refine (TB.out _ X.out).mono ?_); rw [HU.out]; rintro e w8 ⟨rfl, x8⟩; have X := Lib.hid (X.out.trans' x8); clear x8)
      | (go_at_call 59; (with_reducible refine (KA.out _ X.out).mono ?_); rintro e w8 ⟨rfl, x8⟩; have X := Lib.hid (X.out.trans' x8); clear x8)
      | (go_at_call 60; refine (stop_any (HZ.out.ext X.out)).mono ?_; rintro e w8 ⟨rfl, x8⟩; have X := Lib.hid (X.out.trans' x8); clear x8)
      | (go_at_call 64; (with_reducible refine (SM.out _ X.out).mono ?_); rw [HSm.out]; rintro e w8 ⟨rfl, x8⟩; have X := Lib.hid (X.out.trans' x8); clear x8)
      | (go_at_call 65; (with_reducible refine (UN.out _ X.out).mono ?_); rw [HUn.out]; rintro e w8 ⟨rfl, x8⟩; have X := Lib.hid (X.out.trans' x8); clear x8))
    go_ret
    rw [HR.out]
    exact RPostX.no HF.out X.out
  have HUn := Lib.hid (show underL a b = false by simpa using h6)
  by_cases h7 : t.kindAt b = 0
  · have kb0 : (t.kindAt b != 0) = false := by simpa using h7
    have HR := Lib.hid (show pRename t a b = (0, t.tmove a b) from by
      unfold pRename; rw [if_neg h1]; rw [if_neg h2]; rw [if_neg h3]; rw [if_neg h4]; rw [if_neg h5]; rw [if_neg h6]; rw [if_pos h7])
    clear h1 h2 h3 h4 h5 h6 h7
    go_enter Tryz.func37, Tryz.ntmps37
    go_wp2_with (first
      | (go_at_call 58; (with_reducible refine (TA.out _ X.out).mono ?_); rw [HT.out]; rintro e w8 ⟨rfl, x8⟩; have X := Lib.hid (X.out.trans' x8); clear x8)
      | (go_at_call 58; (with_reducible refine (TB.out _ X.out).mono ?_); rw [HU.out]; rintro e w8 ⟨rfl, x8⟩; have X := Lib.hid (X.out.trans' x8); clear x8)
      | (go_at_call 59; (with_reducible refine (KA.out _ X.out).mono ?_); rintro e w8 ⟨rfl, x8⟩; have X := Lib.hid (X.out.trans' x8); clear x8)
      | (go_at_call 60; refine (stop_any (HZ.out.ext X.out)).mono ?_; rintro e w8 ⟨rfl, x8⟩; have X := Lib.hid (X.out.trans' x8); clear x8)
      | (go_at_call 64; (with_reducible refine (SM.out _ X.out).mono ?_); rw [HSm.out]; rintro e w8 ⟨rfl, x8⟩; have X := Lib.hid (X.out.trans' x8); clear x8)
      | (go_at_call 65; (with_reducible refine (UN.out _ X.out).mono ?_); rw [HUn.out]; rintro e w8 ⟨rfl, x8⟩; have X := Lib.hid (X.out.trans' x8); clear x8)
      | (go_at_call 59; (with_reducible refine (KB.out _ X.out).mono ?_); rintro e w8 ⟨rfl, x8⟩; have X := Lib.hid (X.out.trans' x8); clear x8)
      | (go_at_call 66; refine (fmove_any (by omega) (fun b hb => hb.2) (HF.out.ext X.out).1 HD.out (H1.out.ext X.out) (H2.out.ext X.out) HS1.out).mono ?_; rintro e w9 hdn; obtain ⟨rfl, _⟩ := id hdn; have HDN := Lib.hid hdn; clear hdn))
    go_ret
    rw [HR.out]
    exact RPostX.yes HXB.out HDN.out X.out (by omega)
  have kb0 : (t.kindAt b != 0) = true := by simpa using h7
  by_cases h8 : t.kindAt a = 2
  · have ka2 : (t.kindAt a == 2) = true := by simpa using h8
    by_cases h9 : t.kindAt b = 2
    · have kb2 : (t.kindAt b == 2) = true := by simpa using h9
      by_cases h10 : emptyB ((t.get b).getD N.zero) = false
      · have HE := Lib.hid h10
        have HR := Lib.hid (show pRename t a b = (57, t) from by
          unfold pRename; rw [if_neg h1]; rw [if_neg h2]; rw [if_neg h3]; rw [if_neg h4]; rw [if_neg h5]; rw [if_neg h6]; rw [if_neg h7]; rw [if_neg (by simp [h8, h9])]; rw [if_pos ⟨h9, h10⟩])
        clear h1 h2 h3 h4 h5 h6 h7 h8 h9 h10
        go_enter Tryz.func37, Tryz.ntmps37
        go_wp2_with (first
          | (go_at_call 58; (with_reducible refine (TA.out _ X.out).mono ?_); rw [HT.out]; rintro e w8 ⟨rfl, x8⟩; have X := Lib.hid (X.out.trans' x8); clear x8)
          | (go_at_call 58; (with_reducible refine (TB.out _ X.out).mono ?_); rw [HU.out]; rintro e w8 ⟨rfl, x8⟩; have X := Lib.hid (X.out.trans' x8); clear x8)
          | (go_at_call 59; (with_reducible refine (KA.out _ X.out).mono ?_); rintro e w8 ⟨rfl, x8⟩; have X := Lib.hid (X.out.trans' x8); clear x8)
          | (go_at_call 60; refine (stop_any (HZ.out.ext X.out)).mono ?_; rintro e w8 ⟨rfl, x8⟩; have X := Lib.hid (X.out.trans' x8); clear x8)
          | (go_at_call 64; (with_reducible refine (SM.out _ X.out).mono ?_); rw [HSm.out]; rintro e w8 ⟨rfl, x8⟩; have X := Lib.hid (X.out.trans' x8); clear x8)
          | (go_at_call 65; (with_reducible refine (UN.out _ X.out).mono ?_); rw [HUn.out]; rintro e w8 ⟨rfl, x8⟩; have X := Lib.hid (X.out.trans' x8); clear x8)
          | (go_at_call 59; (with_reducible refine (KB.out _ X.out).mono ?_); rintro e w8 ⟨rfl, x8⟩; have X := Lib.hid (X.out.trans' x8); clear x8)
          | (go_at_call 62; (with_reducible refine (EB.out _ X.out).mono ?_); rw [HE.out]; rintro e w8 ⟨rfl, x8⟩; have X := Lib.hid (X.out.trans' x8); clear x8))
        go_ret
        rw [HR.out]
        exact RPostX.no HF.out X.out
      have HE := Lib.hid (show emptyB ((t.get b).getD N.zero) = true by simpa using h10)
      have HR := Lib.hid (show pRename t a b = (0, t.tmove a b) from by
        unfold pRename; rw [if_neg h1]; rw [if_neg h2]; rw [if_neg h3]; rw [if_neg h4]; rw [if_neg h5]; rw [if_neg h6]; rw [if_neg h7]; rw [if_neg (by simp [h8, h9])]; rw [if_neg (fun h => h10 h.2)])
      clear h1 h2 h3 h4 h5 h6 h7 h8 h9 h10
      go_enter Tryz.func37, Tryz.ntmps37
      go_wp2_with (first
        | (go_at_call 58; (with_reducible refine (TA.out _ X.out).mono ?_); rw [HT.out]; rintro e w8 ⟨rfl, x8⟩; have X := Lib.hid (X.out.trans' x8); clear x8)
        | (go_at_call 58; (with_reducible refine (TB.out _ X.out).mono ?_); rw [HU.out]; rintro e w8 ⟨rfl, x8⟩; have X := Lib.hid (X.out.trans' x8); clear x8)
        | (go_at_call 59; (with_reducible refine (KA.out _ X.out).mono ?_); rintro e w8 ⟨rfl, x8⟩; have X := Lib.hid (X.out.trans' x8); clear x8)
        | (go_at_call 60; refine (stop_any (HZ.out.ext X.out)).mono ?_; rintro e w8 ⟨rfl, x8⟩; have X := Lib.hid (X.out.trans' x8); clear x8)
        | (go_at_call 64; (with_reducible refine (SM.out _ X.out).mono ?_); rw [HSm.out]; rintro e w8 ⟨rfl, x8⟩; have X := Lib.hid (X.out.trans' x8); clear x8)
        | (go_at_call 65; (with_reducible refine (UN.out _ X.out).mono ?_); rw [HUn.out]; rintro e w8 ⟨rfl, x8⟩; have X := Lib.hid (X.out.trans' x8); clear x8)
        | (go_at_call 59; (with_reducible refine (KB.out _ X.out).mono ?_); rintro e w8 ⟨rfl, x8⟩; have X := Lib.hid (X.out.trans' x8); clear x8)
        | (go_at_call 62; (with_reducible refine (EB.out _ X.out).mono ?_); rw [HE.out]; rintro e w8 ⟨rfl, x8⟩; have X := Lib.hid (X.out.trans' x8); clear x8)
        | (go_at_call 66; refine (fmove_any (by omega) (fun b hb => hb.2) (HF.out.ext X.out).1 HD.out (H1.out.ext X.out) (H2.out.ext X.out) HS1.out).mono ?_; rintro e w9 hdn; obtain ⟨rfl, _⟩ := id hdn; have HDN := Lib.hid hdn; clear hdn))
      go_ret
      rw [HR.out]
      exact RPostX.yes HXB.out HDN.out X.out (by omega)
    have kb2 : (t.kindAt b == 2) = false := by simpa using h9
    have HR := Lib.hid (show pRename t a b = (55, t) from by
      unfold pRename; rw [if_neg h1]; rw [if_neg h2]; rw [if_neg h3]; rw [if_neg h4]; rw [if_neg h5]; rw [if_neg h6]; rw [if_neg h7]; rw [if_pos (by simp [h8, h9])])
    clear h1 h2 h3 h4 h5 h6 h7 h8 h9
    go_enter Tryz.func37, Tryz.ntmps37
    go_wp2_with (first
      | (go_at_call 58; (with_reducible refine (TA.out _ X.out).mono ?_); rw [HT.out]; rintro e w8 ⟨rfl, x8⟩; have X := Lib.hid (X.out.trans' x8); clear x8)
      | (go_at_call 58; (with_reducible refine (TB.out _ X.out).mono ?_); rw [HU.out]; rintro e w8 ⟨rfl, x8⟩; have X := Lib.hid (X.out.trans' x8); clear x8)
      | (go_at_call 59; (with_reducible refine (KA.out _ X.out).mono ?_); rintro e w8 ⟨rfl, x8⟩; have X := Lib.hid (X.out.trans' x8); clear x8)
      | (go_at_call 60; refine (stop_any (HZ.out.ext X.out)).mono ?_; rintro e w8 ⟨rfl, x8⟩; have X := Lib.hid (X.out.trans' x8); clear x8)
      | (go_at_call 64; (with_reducible refine (SM.out _ X.out).mono ?_); rw [HSm.out]; rintro e w8 ⟨rfl, x8⟩; have X := Lib.hid (X.out.trans' x8); clear x8)
      | (go_at_call 65; (with_reducible refine (UN.out _ X.out).mono ?_); rw [HUn.out]; rintro e w8 ⟨rfl, x8⟩; have X := Lib.hid (X.out.trans' x8); clear x8)
      | (go_at_call 59; (with_reducible refine (KB.out _ X.out).mono ?_); rintro e w8 ⟨rfl, x8⟩; have X := Lib.hid (X.out.trans' x8); clear x8))
    go_ret
    rw [HR.out]
    exact RPostX.no HF.out X.out
  have ka2 : (t.kindAt a == 2) = false := by simpa using h8
  by_cases h9 : t.kindAt b = 2
  · have kb2 : (t.kindAt b == 2) = true := by simpa using h9
    have HR := Lib.hid (show pRename t a b = (55, t) from by
      unfold pRename; rw [if_neg h1]; rw [if_neg h2]; rw [if_neg h3]; rw [if_neg h4]; rw [if_neg h5]; rw [if_neg h6]; rw [if_neg h7]; rw [if_pos (by simp [h8, h9])])
    clear h1 h2 h3 h4 h5 h6 h7 h8 h9
    go_enter Tryz.func37, Tryz.ntmps37
    go_wp2_with (first
      | (go_at_call 58; (with_reducible refine (TA.out _ X.out).mono ?_); rw [HT.out]; rintro e w8 ⟨rfl, x8⟩; have X := Lib.hid (X.out.trans' x8); clear x8)
      | (go_at_call 58; (with_reducible refine (TB.out _ X.out).mono ?_); rw [HU.out]; rintro e w8 ⟨rfl, x8⟩; have X := Lib.hid (X.out.trans' x8); clear x8)
      | (go_at_call 59; (with_reducible refine (KA.out _ X.out).mono ?_); rintro e w8 ⟨rfl, x8⟩; have X := Lib.hid (X.out.trans' x8); clear x8)
      | (go_at_call 60; refine (stop_any (HZ.out.ext X.out)).mono ?_; rintro e w8 ⟨rfl, x8⟩; have X := Lib.hid (X.out.trans' x8); clear x8)
      | (go_at_call 64; (with_reducible refine (SM.out _ X.out).mono ?_); rw [HSm.out]; rintro e w8 ⟨rfl, x8⟩; have X := Lib.hid (X.out.trans' x8); clear x8)
      | (go_at_call 65; (with_reducible refine (UN.out _ X.out).mono ?_); rw [HUn.out]; rintro e w8 ⟨rfl, x8⟩; have X := Lib.hid (X.out.trans' x8); clear x8)
      | (go_at_call 59; (with_reducible refine (KB.out _ X.out).mono ?_); rintro e w8 ⟨rfl, x8⟩; have X := Lib.hid (X.out.trans' x8); clear x8))
    go_ret
    rw [HR.out]
    exact RPostX.no HF.out X.out
  have kb2 : (t.kindAt b == 2) = false := by simpa using h9
  have HR := Lib.hid (show pRename t a b = (0, t.tmove a b) from by
    unfold pRename; rw [if_neg h1]; rw [if_neg h2]; rw [if_neg h3]; rw [if_neg h4]; rw [if_neg h5]; rw [if_neg h6]; rw [if_neg h7]; rw [if_neg (by simp [h8, h9])]; rw [if_neg (fun h => h9 h.1)])
  clear h1 h2 h3 h4 h5 h6 h7 h8 h9
  go_enter Tryz.func37, Tryz.ntmps37
  go_wp2_with (first
    | (go_at_call 58; (with_reducible refine (TA.out _ X.out).mono ?_); rw [HT.out]; rintro e w8 ⟨rfl, x8⟩; have X := Lib.hid (X.out.trans' x8); clear x8)
    | (go_at_call 58; (with_reducible refine (TB.out _ X.out).mono ?_); rw [HU.out]; rintro e w8 ⟨rfl, x8⟩; have X := Lib.hid (X.out.trans' x8); clear x8)
    | (go_at_call 59; (with_reducible refine (KA.out _ X.out).mono ?_); rintro e w8 ⟨rfl, x8⟩; have X := Lib.hid (X.out.trans' x8); clear x8)
    | (go_at_call 60; refine (stop_any (HZ.out.ext X.out)).mono ?_; rintro e w8 ⟨rfl, x8⟩; have X := Lib.hid (X.out.trans' x8); clear x8)
    | (go_at_call 64; (with_reducible refine (SM.out _ X.out).mono ?_); rw [HSm.out]; rintro e w8 ⟨rfl, x8⟩; have X := Lib.hid (X.out.trans' x8); clear x8)
    | (go_at_call 65; (with_reducible refine (UN.out _ X.out).mono ?_); rw [HUn.out]; rintro e w8 ⟨rfl, x8⟩; have X := Lib.hid (X.out.trans' x8); clear x8)
    | (go_at_call 59; (with_reducible refine (KB.out _ X.out).mono ?_); rintro e w8 ⟨rfl, x8⟩; have X := Lib.hid (X.out.trans' x8); clear x8)
    | (go_at_call 66; refine (fmove_any (by omega) (fun b hb => hb.2) (HF.out.ext X.out).1 HD.out (H1.out.ext X.out) (H2.out.ext X.out) HS1.out).mono ?_; rintro e w9 hdn; obtain ⟨rfl, _⟩ := id hdn; have HDN := Lib.hid hdn; clear hdn))
  go_ret
  rw [HR.out]
  exact RPostX.yes HXB.out HDN.out X.out (by omega)
set_option maxRecDepth 100000 in
set_option maxHeartbeats 8000000 in
theorem copy10_any {deep : Bool} (hB : B + 40 ≤ 2199023255552) (hlb : b.length ≤ 20) (h : FIs X B w g t) (hd : DirW t) (ha : Strs B1 S1 w v1 a) (hb : Strs B2 S2 w v2 b) :
    Calls Tryz.prog 38 #[.pointer (some ⟨g, 0, none⟩), v1, v2, .bool deep] w (RPostX X (B + 40) g (pCopy deep t a b) w) := by
  have HF := Lib.hid h
  have H1 := Lib.hid ha
  have H2 := Lib.hid hb
  have HD := Lib.hid hd
  have HXB := Lib.hid h.2
  have HZ := Lib.hid h.1.zero
  have TA := Lib.hid (PF.of h hd ha).tk
  have KA := Lib.hid (PF.of h hd ha).kd
  have TB := Lib.hid (PF.of h hd hb).tk
  have KB := Lib.hid (PF.of h hd hb).kd
  have EB := Lib.hid (PF.of h hd hb).em
  have SM := Lib.hid (fun w1 (x : Ext w w1) => same6_any (ha.ext x) (hb.ext x))
  have UN := Lib.hid (fun w1 (x : Ext w w1) => under6_any (ha.ext x) (hb.ext x))
  obtain ⟨A1, c1, rfl, _⟩ := ha
  obtain ⟨A2, c2, rfl, _⟩ := hb
  have X : Hid (Ext w w) := Lib.hid (Below.refl _ _)
  clear h hd
  by_cases h1 : takenB t a = false
  · have HT := Lib.hid h1
    have HR := Lib.hid (show pCopy deep t a b = (5, t) from by
      unfold pCopy; rw [if_pos h1])
    clear h1
    go_enter Tryz.func38, Tryz.ntmps38
    go_wp2_with (first
      | (go_at_call 58; (with_reducible refine (TA.out _ X.out).mono ?_); rw [HT.out]; rintro e w8 ⟨rfl, x8⟩; have X := Lib.hid (X.out.trans' x8); clear x8)
      | (go_at_call 59; (with_reducible refine (KA.out _ X.out).mono ?_); rintro e w8 ⟨rfl, x8⟩; have X := Lib.hid (X.out.trans' x8); clear x8)
      | (go_at_call 60; refine (stop_any (HZ.out.ext X.out)).mono ?_; rintro e w8 ⟨rfl, x8⟩; have X := Lib.hid (X.out.trans' x8); clear x8))
    go_ret
    rw [HR.out]
    exact RPostX.no HF.out X.out
  have HT := Lib.hid (show takenB t a = true by simpa using h1)
  by_cases h2 : takenB t b = false
  · have HU := Lib.hid h2
    have HR := Lib.hid (show pCopy deep t a b = (5, t) from by
      unfold pCopy; rw [if_neg h1]; rw [if_pos h2])
    clear h1 h2
    go_enter Tryz.func38, Tryz.ntmps38
    go_wp2_with (first
      | (go_at_call 58; (with_reducible refine (TA.out _ X.out).mono ?_); rw [HT.out]; rintro e w8 ⟨rfl, x8⟩; have X := Lib.hid (X.out.trans' x8); clear x8)
      | (go_at_call 58; (with_reducible refine (TB.out _ X.out).mono ?_); rw [HU.out]; rintro e w8 ⟨rfl, x8⟩; have X := Lib.hid (X.out.trans' x8); clear x8)
      | (go_at_call 59; (with_reducible refine (KA.out _ X.out).mono ?_); rintro e w8 ⟨rfl, x8⟩; have X := Lib.hid (X.out.trans' x8); clear x8)
      | (go_at_call 60; refine (stop_any (HZ.out.ext X.out)).mono ?_; rintro e w8 ⟨rfl, x8⟩; have X := Lib.hid (X.out.trans' x8); clear x8))
    go_ret
    rw [HR.out]
    exact RPostX.no HF.out X.out
  have HU := Lib.hid (show takenB t b = true by simpa using h2)
  by_cases h3 : t.kindAt a = 0
  · have k0 : (t.kindAt a == 0) = true := by simpa using h3
    have HR := Lib.hid (show pCopy deep t a b = (5, t) from by
      unfold pCopy; rw [if_neg h1]; rw [if_neg h2]; rw [if_pos h3])
    clear h1 h2 h3
    go_enter Tryz.func38, Tryz.ntmps38
    go_wp2_with (first
      | (go_at_call 58; (with_reducible refine (TA.out _ X.out).mono ?_); rw [HT.out]; rintro e w8 ⟨rfl, x8⟩; have X := Lib.hid (X.out.trans' x8); clear x8)
      | (go_at_call 58; (with_reducible refine (TB.out _ X.out).mono ?_); rw [HU.out]; rintro e w8 ⟨rfl, x8⟩; have X := Lib.hid (X.out.trans' x8); clear x8)
      | (go_at_call 59; (with_reducible refine (KA.out _ X.out).mono ?_); rintro e w8 ⟨rfl, x8⟩; have X := Lib.hid (X.out.trans' x8); clear x8)
      | (go_at_call 60; refine (stop_any (HZ.out.ext X.out)).mono ?_; rintro e w8 ⟨rfl, x8⟩; have X := Lib.hid (X.out.trans' x8); clear x8))
    go_ret
    rw [HR.out]
    exact RPostX.no HF.out X.out
  have k0 : (t.kindAt a == 0) = false := by simpa using h3
  by_cases h4 : a = b
  · have HSm := Lib.hid (show decide (a = b) = true from decide_eq_true h4)
    have HR := Lib.hid (show pCopy deep t a b = (6, t) from by
      unfold pCopy; rw [if_neg h1]; rw [if_neg h2]; rw [if_neg h3]; rw [if_pos h4])
    clear h1 h2 h3 h4
    go_enter Tryz.func38, Tryz.ntmps38
    go_wp2_with (first
      | (go_at_call 58; (with_reducible refine (TA.out _ X.out).mono ?_); rw [HT.out]; rintro e w8 ⟨rfl, x8⟩; have X := Lib.hid (X.out.trans' x8); clear x8)
      | (go_at_call 58; (with_reducible refine (TB.out _ X.out).mono ?_); rw [HU.out]; rintro e w8 ⟨rfl, x8⟩; have X := Lib.hid (X.out.trans' x8); clear x8)
      | (go_at_call 59; (with_reducible refine (KA.out _ X.out).mono ?_); rintro e w8 ⟨rfl, x8⟩; have X := Lib.hid (X.out.trans' x8); clear x8)
      | (go_at_call 60; refine (stop_any (HZ.out.ext X.out)).mono ?_; rintro e w8 ⟨rfl, x8⟩; have X := Lib.hid (X.out.trans' x8); clear x8)
      | (go_at_call 64; (with_reducible refine (SM.out _ X.out).mono ?_); rw [HSm.out]; rintro e w8 ⟨rfl, x8⟩; have X := Lib.hid (X.out.trans' x8); clear x8))
    go_ret
    rw [HR.out]
    exact RPostX.no HF.out X.out
  have HSm := Lib.hid (show decide (a = b) = false from decide_eq_false h4)
  by_cases h5 : t.kindAt a = 2
  · have ka2 : (t.kindAt a == 2) = true := by simpa using h5
    by_cases h6 : deep = false
    · have dp : (!deep) = true := by rw [h6]; rfl
      have dp2 : deep = false := h6
      have HR := Lib.hid (show pCopy deep t a b = (55, t) from by
        unfold pCopy; rw [if_neg h1]; rw [if_neg h2]; rw [if_neg h3]; rw [if_neg h4]; rw [if_pos ⟨h5, h6⟩])
      clear h1 h2 h3 h4 h5 h6
      go_enter Tryz.func38, Tryz.ntmps38
      go_wp2_with (first
        | (go_at_call 58; (with_reducible refine (TA.out _ X.out).mono ?_); rw [HT.out]; rintro e w8 ⟨rfl, x8⟩; have X := Lib.hid (X.out.trans' x8); clear x8)
        | (go_at_call 58; (with_reducible refine (TB.out _ X.out).mono ?_); rw [HU.out]; rintro e w8 ⟨rfl, x8⟩; have X := Lib.hid (X.out.trans' x8); clear x8)
        | (go_at_call 59; (with_reducible refine (KA.out _ X.out).mono ?_); rintro e w8 ⟨rfl, x8⟩; have X := Lib.hid (X.out.trans' x8); clear x8)
        | (go_at_call 60; refine (stop_any (HZ.out.ext X.out)).mono ?_; rintro e w8 ⟨rfl, x8⟩; have X := Lib.hid (X.out.trans' x8); clear x8)
        | (go_at_call 64; (with_reducible refine (SM.out _ X.out).mono ?_); rw [HSm.out]; rintro e w8 ⟨rfl, x8⟩; have X := Lib.hid (X.out.trans' x8); clear x8))
      go_ret
      rw [HR.out]
      exact RPostX.no HF.out X.out
    have dp2 : deep = true := by simpa using h6
    by_cases h7 : underL a b = true
    · have HUn := Lib.hid h7
      have HR := Lib.hid (show pCopy deep t a b = (58, t) from by
        unfold pCopy; rw [if_neg h1]; rw [if_neg h2]; rw [if_neg h3]; rw [if_neg h4]; rw [if_neg (fun h => h6 h.2)]; rw [if_pos h7])
      clear h1 h2 h3 h4 h5 h6 h7
      go_enter Tryz.func38, Tryz.ntmps38
      go_wp2_with (first
        | (go_at_call 58; (with_reducible refine (TA.out _ X.out).mono ?_); rw [HT.out]; rintro e w8 ⟨rfl, x8⟩; have X := Lib.hid (X.out.trans' x8); clear x8)
        | (go_at_call 58; (with_reducible refine (TB.out _ X.out).mono ?_); rw [HU.out]; rintro e w8 ⟨rfl, x8⟩; have X := Lib.hid (X.out.trans' x8); clear x8)
        | (go_at_call 59; (with_reducible refine (KA.out _ X.out).mono ?_); rintro e w8 ⟨rfl, x8⟩; have X := Lib.hid (X.out.trans' x8); clear x8)
        | (go_at_call 60; refine (stop_any (HZ.out.ext X.out)).mono ?_; rintro e w8 ⟨rfl, x8⟩; have X := Lib.hid (X.out.trans' x8); clear x8)
        | (go_at_call 64; (with_reducible refine (SM.out _ X.out).mono ?_); rw [HSm.out]; rintro e w8 ⟨rfl, x8⟩; have X := Lib.hid (X.out.trans' x8); clear x8)
        | (go_at_call 65; (with_reducible refine (UN.out _ X.out).mono ?_); rw [HUn.out]; rintro e w8 ⟨rfl, x8⟩; have X := Lib.hid (X.out.trans' x8); clear x8))
      go_ret
      rw [HR.out]
      exact RPostX.no HF.out X.out
    have HUn := Lib.hid (show underL a b = false by simpa using h7)
    by_cases h8 : t.kindAt b = 0
    · have kb0 : (t.kindAt b != 0) = false := by simpa using h8
      have HR := Lib.hid (show pCopy deep t a b = (0, t.tcopy a b) from by
        unfold pCopy; rw [if_neg h1]; rw [if_neg h2]; rw [if_neg h3]; rw [if_neg h4]; rw [if_neg (fun h => h6 h.2)]; rw [if_neg h7]; rw [if_pos h8])
      clear h1 h2 h3 h4 h5 h6 h7 h8
      go_enter Tryz.func38, Tryz.ntmps38
      go_wp2_with (first
        | (go_at_call 58; (with_reducible refine (TA.out _ X.out).mono ?_); rw [HT.out]; rintro e w8 ⟨rfl, x8⟩; have X := Lib.hid (X.out.trans' x8); clear x8)
        | (go_at_call 58; (with_reducible refine (TB.out _ X.out).mono ?_); rw [HU.out]; rintro e w8 ⟨rfl, x8⟩; have X := Lib.hid (X.out.trans' x8); clear x8)
        | (go_at_call 59; (with_reducible refine (KA.out _ X.out).mono ?_); rintro e w8 ⟨rfl, x8⟩; have X := Lib.hid (X.out.trans' x8); clear x8)
        | (go_at_call 60; refine (stop_any (HZ.out.ext X.out)).mono ?_; rintro e w8 ⟨rfl, x8⟩; have X := Lib.hid (X.out.trans' x8); clear x8)
        | (go_at_call 64; (with_reducible refine (SM.out _ X.out).mono ?_); rw [HSm.out]; rintro e w8 ⟨rfl, x8⟩; have X := Lib.hid (X.out.trans' x8); clear x8)
        | (go_at_call 65; (with_reducible refine (UN.out _ X.out).mono ?_); rw [HUn.out]; rintro e w8 ⟨rfl, x8⟩; have X := Lib.hid (X.out.trans' x8); clear x8)
        | (go_at_call 59; (with_reducible refine (KB.out _ X.out).mono ?_); rintro e w8 ⟨rfl, x8⟩; have X := Lib.hid (X.out.trans' x8); clear x8)
        | (go_at_call 67; refine (fcopy_any (by omega) (fun b hb => hb.2) (HF.out.ext X.out).1 HD.out (H1.out.ext X.out) (H2.out.ext X.out)).mono ?_; rintro e w9 hdn; obtain ⟨rfl, _⟩ := id hdn; have HDN := Lib.hid hdn; clear hdn))
      go_ret
      rw [HR.out]
      exact RPostX.yes HXB.out HDN.out X.out (by omega)
    have kb0 : (t.kindAt b != 0) = true := by simpa using h8
    have HR := Lib.hid (show pCopy deep t a b = (6, t) from by
      unfold pCopy; rw [if_neg h1]; rw [if_neg h2]; rw [if_neg h3]; rw [if_neg h4]; rw [if_neg (fun h => h6 h.2)]; rw [if_neg h7]; rw [if_neg h8]; rw [if_pos h5])
    clear h1 h2 h3 h4 h5 h6 h7 h8
    go_enter Tryz.func38, Tryz.ntmps38
    go_wp2_with (first
      | (go_at_call 58; (with_reducible refine (TA.out _ X.out).mono ?_); rw [HT.out]; rintro e w8 ⟨rfl, x8⟩; have X := Lib.hid (X.out.trans' x8); clear x8)
      | (go_at_call 58; (with_reducible refine (TB.out _ X.out).mono ?_); rw [HU.out]; rintro e w8 ⟨rfl, x8⟩; have X := Lib.hid (X.out.trans' x8); clear x8)
      | (go_at_call 59; (with_reducible refine (KA.out _ X.out).mono ?_); rintro e w8 ⟨rfl, x8⟩; have X := Lib.hid (X.out.trans' x8); clear x8)
      | (go_at_call 60; refine (stop_any (HZ.out.ext X.out)).mono ?_; rintro e w8 ⟨rfl, x8⟩; have X := Lib.hid (X.out.trans' x8); clear x8)
      | (go_at_call 64; (with_reducible refine (SM.out _ X.out).mono ?_); rw [HSm.out]; rintro e w8 ⟨rfl, x8⟩; have X := Lib.hid (X.out.trans' x8); clear x8)
      | (go_at_call 65; (with_reducible refine (UN.out _ X.out).mono ?_); rw [HUn.out]; rintro e w8 ⟨rfl, x8⟩; have X := Lib.hid (X.out.trans' x8); clear x8)
      | (go_at_call 59; (with_reducible refine (KB.out _ X.out).mono ?_); rintro e w8 ⟨rfl, x8⟩; have X := Lib.hid (X.out.trans' x8); clear x8))
    go_ret
    rw [HR.out]
    exact RPostX.no HF.out X.out
  have ka2 : (t.kindAt a == 2) = false := by simpa using h5
  by_cases h7 : underL a b = true
  · have HUn := Lib.hid h7
    have HR := Lib.hid (show pCopy deep t a b = (58, t) from by
      unfold pCopy; rw [if_neg h1]; rw [if_neg h2]; rw [if_neg h3]; rw [if_neg h4]; rw [if_neg (fun h => h5 h.1)]; rw [if_pos h7])
    clear h1 h2 h3 h4 h5 h7
    go_enter Tryz.func38, Tryz.ntmps38
    go_wp2_with (first
      | (go_at_call 58; (with_reducible refine (TA.out _ X.out).mono ?_); rw [HT.out]; rintro e w8 ⟨rfl, x8⟩; have X := Lib.hid (X.out.trans' x8); clear x8)
      | (go_at_call 58; (with_reducible refine (TB.out _ X.out).mono ?_); rw [HU.out]; rintro e w8 ⟨rfl, x8⟩; have X := Lib.hid (X.out.trans' x8); clear x8)
      | (go_at_call 59; (with_reducible refine (KA.out _ X.out).mono ?_); rintro e w8 ⟨rfl, x8⟩; have X := Lib.hid (X.out.trans' x8); clear x8)
      | (go_at_call 60; refine (stop_any (HZ.out.ext X.out)).mono ?_; rintro e w8 ⟨rfl, x8⟩; have X := Lib.hid (X.out.trans' x8); clear x8)
      | (go_at_call 64; (with_reducible refine (SM.out _ X.out).mono ?_); rw [HSm.out]; rintro e w8 ⟨rfl, x8⟩; have X := Lib.hid (X.out.trans' x8); clear x8)
      | (go_at_call 65; (with_reducible refine (UN.out _ X.out).mono ?_); rw [HUn.out]; rintro e w8 ⟨rfl, x8⟩; have X := Lib.hid (X.out.trans' x8); clear x8))
    go_ret
    rw [HR.out]
    exact RPostX.no HF.out X.out
  have HUn := Lib.hid (show underL a b = false by simpa using h7)
  by_cases h8 : t.kindAt b = 0
  · have kb0 : (t.kindAt b != 0) = false := by simpa using h8
    have HR := Lib.hid (show pCopy deep t a b = (0, t.tcopy a b) from by
      unfold pCopy; rw [if_neg h1]; rw [if_neg h2]; rw [if_neg h3]; rw [if_neg h4]; rw [if_neg (fun h => h5 h.1)]; rw [if_neg h7]; rw [if_pos h8])
    clear h1 h2 h3 h4 h5 h7 h8
    go_enter Tryz.func38, Tryz.ntmps38
    go_wp2_with (first
      | (go_at_call 58; (with_reducible refine (TA.out _ X.out).mono ?_); rw [HT.out]; rintro e w8 ⟨rfl, x8⟩; have X := Lib.hid (X.out.trans' x8); clear x8)
      | (go_at_call 58; (with_reducible refine (TB.out _ X.out).mono ?_); rw [HU.out]; rintro e w8 ⟨rfl, x8⟩; have X := Lib.hid (X.out.trans' x8); clear x8)
      | (go_at_call 59; (with_reducible refine (KA.out _ X.out).mono ?_); rintro e w8 ⟨rfl, x8⟩; have X := Lib.hid (X.out.trans' x8); clear x8)
      | (go_at_call 60; refine (stop_any (HZ.out.ext X.out)).mono ?_; rintro e w8 ⟨rfl, x8⟩; have X := Lib.hid (X.out.trans' x8); clear x8)
      | (go_at_call 64; (with_reducible refine (SM.out _ X.out).mono ?_); rw [HSm.out]; rintro e w8 ⟨rfl, x8⟩; have X := Lib.hid (X.out.trans' x8); clear x8)
      | (go_at_call 65; (with_reducible refine (UN.out _ X.out).mono ?_); rw [HUn.out]; rintro e w8 ⟨rfl, x8⟩; have X := Lib.hid (X.out.trans' x8); clear x8)
      | (go_at_call 59; (with_reducible refine (KB.out _ X.out).mono ?_); rintro e w8 ⟨rfl, x8⟩; have X := Lib.hid (X.out.trans' x8); clear x8)
      | (go_at_call 67; refine (fcopy_any (by omega) (fun b hb => hb.2) (HF.out.ext X.out).1 HD.out (H1.out.ext X.out) (H2.out.ext X.out)).mono ?_; rintro e w9 hdn; obtain ⟨rfl, _⟩ := id hdn; have HDN := Lib.hid hdn; clear hdn))
    go_ret
    rw [HR.out]
    exact RPostX.yes HXB.out HDN.out X.out (by omega)
  have kb0 : (t.kindAt b != 0) = true := by simpa using h8
  by_cases h9 : t.kindAt b = 1
  · have kb1 : (t.kindAt b != 1) = false := by simpa using h9
    have HR := Lib.hid (show pCopy deep t a b = (0, t.tcopy a b) from by
      unfold pCopy; rw [if_neg h1]; rw [if_neg h2]; rw [if_neg h3]; rw [if_neg h4]; rw [if_neg (fun h => h5 h.1)]; rw [if_neg h7]; rw [if_neg h8]; rw [if_neg h5]; rw [if_neg (fun h => h h9)])
    clear h1 h2 h3 h4 h5 h7 h8 h9
    go_enter Tryz.func38, Tryz.ntmps38
    go_wp2_with (first
      | (go_at_call 58; (with_reducible refine (TA.out _ X.out).mono ?_); rw [HT.out]; rintro e w8 ⟨rfl, x8⟩; have X := Lib.hid (X.out.trans' x8); clear x8)
      | (go_at_call 58; (with_reducible refine (TB.out _ X.out).mono ?_); rw [HU.out]; rintro e w8 ⟨rfl, x8⟩; have X := Lib.hid (X.out.trans' x8); clear x8)
      | (go_at_call 59; (with_reducible refine (KA.out _ X.out).mono ?_); rintro e w8 ⟨rfl, x8⟩; have X := Lib.hid (X.out.trans' x8); clear x8)
      | (go_at_call 60; refine (stop_any (HZ.out.ext X.out)).mono ?_; rintro e w8 ⟨rfl, x8⟩; have X := Lib.hid (X.out.trans' x8); clear x8)
      | (go_at_call 64; (with_reducible refine (SM.out _ X.out).mono ?_); rw [HSm.out]; rintro e w8 ⟨rfl, x8⟩; have X := Lib.hid (X.out.trans' x8); clear x8)
      | (go_at_call 65; (with_reducible refine (UN.out _ X.out).mono ?_); rw [HUn.out]; rintro e w8 ⟨rfl, x8⟩; have X := Lib.hid (X.out.trans' x8); clear x8)
      | (go_at_call 59; (with_reducible refine (KB.out _ X.out).mono ?_); rintro e w8 ⟨rfl, x8⟩; have X := Lib.hid (X.out.trans' x8); clear x8)
      | (go_at_call 67; refine (fcopy_any (by omega) (fun b hb => hb.2) (HF.out.ext X.out).1 HD.out (H1.out.ext X.out) (H2.out.ext X.out)).mono ?_; rintro e w9 hdn; obtain ⟨rfl, _⟩ := id hdn; have HDN := Lib.hid hdn; clear hdn))
    go_ret
    rw [HR.out]
    exact RPostX.yes HXB.out HDN.out X.out (by omega)
  have kb1 : (t.kindAt b != 1) = true := by simpa using h9
  have HR := Lib.hid (show pCopy deep t a b = (55, t) from by
    unfold pCopy; rw [if_neg h1]; rw [if_neg h2]; rw [if_neg h3]; rw [if_neg h4]; rw [if_neg (fun h => h5 h.1)]; rw [if_neg h7]; rw [if_neg h8]; rw [if_neg h5]; rw [if_pos h9])
  clear h1 h2 h3 h4 h5 h7 h8 h9
  go_enter Tryz.func38, Tryz.ntmps38
  go_wp2_with (first
    | (go_at_call 58; (with_reducible refine (TA.out _ X.out).mono ?_); rw [HT.out]; rintro e w8 ⟨rfl, x8⟩; have X := Lib.hid (X.out.trans' x8); clear x8)
    | (go_at_call 58; (with_reducible refine (TB.out _ X.out).mono ?_); rw [HU.out]; rintro e w8 ⟨rfl, x8⟩; have X := Lib.hid (X.out.trans' x8); clear x8)
    | (go_at_call 59; (with_reducible refine (KA.out _ X.out).mono ?_); rintro e w8 ⟨rfl, x8⟩; have X := Lib.hid (X.out.trans' x8); clear x8)
    | (go_at_call 60; refine (stop_any (HZ.out.ext X.out)).mono ?_; rintro e w8 ⟨rfl, x8⟩; have X := Lib.hid (X.out.trans' x8); clear x8)
    | (go_at_call 64; (with_reducible refine (SM.out _ X.out).mono ?_); rw [HSm.out]; rintro e w8 ⟨rfl, x8⟩; have X := Lib.hid (X.out.trans' x8); clear x8)
    | (go_at_call 65; (with_reducible refine (UN.out _ X.out).mono ?_); rw [HUn.out]; rintro e w8 ⟨rfl, x8⟩; have X := Lib.hid (X.out.trans' x8); clear x8)
    | (go_at_call 59; (with_reducible refine (KB.out _ X.out).mono ?_); rintro e w8 ⟨rfl, x8⟩; have X := Lib.hid (X.out.trans' x8); clear x8))
  go_ret
  rw [HR.out]
  exact RPostX.no HF.out X.out
end
end Go.Proofs.YtocndkhgopjhhaaGreat
