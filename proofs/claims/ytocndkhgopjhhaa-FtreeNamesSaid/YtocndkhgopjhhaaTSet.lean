/- (*ftree.Tree): open, apart, set. -/
import Derived.Test.YtocndkhgopjhhaaProg
import Derived.Test.YtocndkhgopjhhaaTAt
import Derived.Test.YtocndkhgopjhhaaChange
import Derived.Test.YtocndkhgopjhhaaBase
import Derived.Outline
namespace Go.Proofs.Ytocndkhgopjhhaa
open Go.RowKit

theorem Strs.init {B : Nat} {S : Nat → Prop} {w : World} {A : Option Addr} {n c : Nat} {s : ByteArray} {q : List ByteArray} (h : Strs B S w (.slice A n c) (q ++ [s])) : Strs B S w (.slice A q.length q.length) q := by
  obtain ⟨rfl, h1, h2, h3, h4, h5⟩ := h.at'
  simp only [List.length_append, List.length_cons, List.length_nil] at h1 h3 h5
  refine ⟨A, q.length, rfl, Nat.le_refl _, by omega, by omega, fun x hx => h4 x (by simp [hx]), fun _ => ?_⟩
  obtain ⟨b, o, e, hS, hl, hc⟩ := h5 (by omega)
  exact ⟨b, o, e, hS, hl, fun i x hi => hc i x (by rw [List.getElem?_append_left (List.getElem?_eq_some_iff.1 hi).1]; exact hi)⟩
theorem Strs.last {B : Nat} {S : Nat → Prop} {w : World} {A : Option Addr} {n c : Nat} {s : ByteArray} {q : List ByteArray} (h : Strs B S w (.slice A n c) (q ++ [s])) : ∃ b o, A = some ⟨b, o, none⟩ ∧ n = q.length + 1 ∧ q.length + 1 ≤ c ∧ c ≤ maxLen ∧ S b ∧ b < w.heap.size ∧ w.cell? ⟨b, o + q.length, none⟩ = some (.string s) ∧ s.size ≤ maxLen := by
  obtain ⟨rfl, h1, h2, h3, h4, h5⟩ := h.at'
  simp only [List.length_append, List.length_cons, List.length_nil] at h1 h3 h5
  obtain ⟨b, o, e, hS, hl, hc⟩ := h5 (by omega)
  exact ⟨b, o, e, by simp, by omega, h2, hS, hl, hc q.length s (by simp), h4 s (by simp)⟩

set_option maxRecDepth 100000 in
set_option maxHeartbeats 1000000 in
theorem topen_any {B Bp : Nat} (hB : B ≤ 2199023255552) {S Sp : Nat → Prop} {w : World} {g d : Nat} {t : N} {pv : Value} {p : List ByteArray} (h : TreeAt B S w g d t) (hw : t.well = true) (hp : Strs Bp Sp w pv p) :
    Calls Try.prog 99 #[.pointer (some ⟨g, 0, none⟩), pv] w fun e w' => e = .returned (.bool (openB t p)) ∧ Ext w w' := by
  have HP := Lib.hid hp
  have HT := Lib.hid h
  have HW := Lib.hid hw
  clear h hw
  rcases snoc_or p with rfl | ⟨q, s, rfl⟩
  · obtain ⟨Ap, cp, rfl, _⟩ := hp
    have Ho := Lib.hid (openB_nil t)
    go_enter Try.func99, Try.ntmps99
    go_wp2_with fail
    go_ret
    exact ⟨ret_bool Ho.out.symm, Below.refl _ _⟩
  · obtain ⟨Ap, cp, rfl, _⟩ := id hp
    obtain ⟨bp, op, rfl, hn, hcp, hcm, _, hbp, hc, hs⟩ := hp.last
    have HPI := Lib.hid hp.init
    have Ho := Lib.hid (openB_snoc t q s)
    have Hs := Lib.hid hs
    rw [hn] at HP ⊢
    unfold maxLen at hcm
    have hf := field0
    clear hp hn hs
    cases hnb : nameB s
    · have Hnb := Lib.hid hnb
      clear hnb
      go_enter Try.func99, Try.ntmps99
      go_wp2_with (go_at_call 80; refine (pathName_any s _ Hs.out).mono ?_; rw [Hnb.out]; rintro e w1 ⟨rfl, hx1⟩; have HX1 := Lib.hid hx1; clear hx1)
      go_ret
      exact ⟨ret_bool (by rw [Ho.out, Hnb.out]; rfl), HX1.out⟩
    · have Hnb := Lib.hid hnb
      clear hnb
      go_enter Try.func99, Try.ntmps99
      go_wp2_with (first | (go_at_call 80; refine (pathName_any s _ Hs.out).mono ?_; rw [Hnb.out]; rintro e w1 ⟨rfl, hx1⟩; have HX1 := Lib.hid hx1; clear hx1) | (go_at_call 108; refine (tat_any hB (HT.out.ext HX1.out) HW.out (HPI.out.ext HX1.out)).mono ?_; rintro e w2 ⟨A2, c2, A2', c2', rfl, hx2, _⟩; have HX2 := Lib.hid hx2; clear hx2))
      go_ret
      refine ⟨ret_bool ?_, HX1.out.trans' HX2.out⟩
      rw [Ho.out, Hnb.out, Bool.true_and]
      rw [Bool.eq_iff_iff]; simp only [N.kindAt, beq_iff_eq]
      exact decide_eq_true_iff.symm

theorem Strs.take {B : Nat} {S : Nat → Prop} {w : World} {A : Option Addr} {n c k : Nat} {a : List ByteArray} (h : Strs B S w (.slice A n c) a) (hk : k ≤ a.length) : Strs B S w (.slice A k c) (a.take k) := by
  obtain ⟨rfl, h1, h2, h3, h4, h5⟩ := h.at'
  have hl : (a.take k).length = k := by rw [List.length_take]; omega
  refine ⟨A, c, by rw [hl], by omega, h2, by omega, fun x hx => h4 x (List.mem_of_mem_take hx), fun hp => ?_⟩
  obtain ⟨b, o, e, hS, hlt, hc⟩ := h5 (by omega)
  exact ⟨b, o, e, hS, hlt, fun i x hi => hc i x (by
    have hik : i < k := by have := (List.getElem?_eq_some_iff.1 hi).1; omega
    rwa [List.getElem?_take_of_lt hik] at hi)⟩
theorem under_take {a b : List ByteArray} (hl : b.length ≤ a.length) : decide (a.take b.length = b) = underL b a := by
  rw [Bool.eq_iff_iff, decide_eq_true_iff, underL_iff]
  constructor
  · intro h
    exact ⟨a.drop b.length, by rw [← h, List.length_take, Nat.min_eq_left hl]; exact (List.take_append_drop _ _).symm⟩
  · rintro ⟨r, rfl⟩
    simp

set_option maxRecDepth 100000 in
set_option maxHeartbeats 1000000 in
theorem begins_any {B1 B2 : Nat} {S1 S2 : Nat → Prop} {w : World} {v1 v2 : Value} {a b : List ByteArray} (h1 : Strs B1 S1 w v1 a) (h2 : Strs B2 S2 w v2 b) :
    Calls Try.prog 142 #[v1, v2] w fun e w' => e = .returned (.bool (underL b a)) ∧ Ext w w' := by
  have H1 := Lib.hid h1
  have H2 := Lib.hid h2
  obtain ⟨A1, c1, rfl, hc1, hm1, _⟩ := h1
  obtain ⟨A2, c2, rfl, hc2, hm2, _⟩ := h2
  unfold maxLen at hm1 hm2
  have hm1' : (a.length : Int) ≤ 9223372036854775807 := by omega
  by_cases hl : b.length ≤ a.length
  · have ht := (H1.out.take hl)
    have HT := Lib.hid ht
    have hge : decide (b.length ≤ a.length) = true := decide_eq_true hl
    have Hl := Lib.hid hl
    clear ht
    go_enter Try.func142, Try.ntmps142
    go_wp2_with (go_at_call 85; refine (equalS_any HT.out H2.out).mono ?_; rintro e w1 ⟨rfl, hx1⟩; have HX1 := Lib.hid hx1; clear hx1)
    go_ret
    exact ⟨ret_bool (under_take Hl.out), HX1.out⟩
  · have hge : decide (b.length ≤ a.length) = false := decide_eq_false hl
    have Hl := Lib.hid (underL_long (a := b) (b := a) (by omega))
    clear hl
    go_enter Try.func142, Try.ntmps142
    go_wp2_with fail
    go_ret
    exact ⟨ret_bool Hl.out.symm, Below.refl _ _⟩

set_option maxRecDepth 100000 in
set_option maxHeartbeats 2000000 in
theorem apart_any {B B1 B2 : Nat} (hB : B ≤ 2199023255552) {S S1 S2 : Nat → Prop} {w : World} {g d : Nat} {t : N} {v1 v2 : Value} {a b : List ByteArray} (h : TreeAt B S w g d t) (hw : t.well = true) (h1 : Strs B1 S1 w v1 a) (h2 : Strs B2 S2 w v2 b) :
    Calls Try.prog 107 #[.pointer (some ⟨g, 0, none⟩), v1, v2] w fun e w' => e = .returned (.bool (apartB t a b)) ∧ Ext w w' := by
  have H1 := Lib.hid h1
  have H2 := Lib.hid h2
  have HT := Lib.hid h
  have HW := Lib.hid hw
  obtain ⟨A1, c1, rfl, _⟩ := h1
  obtain ⟨A2, c2, rfl, _⟩ := h2
  clear h hw
  cases q0 : decide (0 < a.length)
  · have Hd : Hid (apartB t a b = false) := Lib.hid (by unfold apartB; rw [q0]; rfl)
    go_enter Try.func107, Try.ntmps107
    go_wp2_with fail
    go_ret
    exact ⟨ret_bool Hd.out.symm, Below.refl _ _⟩
  by_cases hk : t.kindAt a = 0
  · have q1 : (t.kindAt a == 0) = true := by simpa using hk
    have q1' : (t.kindAt a != 0) = false := by simpa using hk
    have Hd : Hid (apartB t a b = false) := Lib.hid (by unfold apartB; rw [show decide (t.kindAt a ≠ 0) = false from decide_eq_false (by simpa using hk)]; simp)
    clear hk
    go_enter Try.func107, Try.ntmps107
    go_wp2_with (go_at_call 48; refine (tkind_any hB HT.out HW.out H1.out).mono ?_; rintro e w1 ⟨rfl, hx1⟩; have HX1 := Lib.hid hx1; clear hx1)
    go_ret
    exact ⟨ret_bool Hd.out.symm, HX1.out⟩
  have q1 : (t.kindAt a == 0) = false := by simpa using hk
  have q1' : (t.kindAt a != 0) = true := by simpa using hk
  have Hk := Lib.hid (show decide (t.kindAt a ≠ 0) = true from decide_eq_true hk)
  have Hq0 := Lib.hid q0
  clear hk
  cases ho : openB t b
  · have Hd : Hid (apartB t a b = false) := Lib.hid (by unfold apartB; rw [ho]; simp)
    have Ho := Lib.hid ho
    clear ho
    go_enter Try.func107, Try.ntmps107
    go_wp2_with (first | (go_at_call 48; refine (tkind_any hB HT.out HW.out H1.out).mono ?_; rintro e w1 ⟨rfl, hx1⟩; have HX1 := Lib.hid hx1; clear hx1) | (go_at_call 99; refine (topen_any hB (HT.out.ext HX1.out) HW.out (H2.out.ext HX1.out)).mono ?_; rw [Ho.out]; rintro e w2 ⟨rfl, hx2⟩; have HX2 := Lib.hid hx2; clear hx2))
    go_ret
    exact ⟨ret_bool Hd.out.symm, HX1.out.trans' HX2.out⟩
  have Ho := Lib.hid ho
  clear ho
  cases hu : underL b a
  · have Hu := Lib.hid hu
    clear hu
    cases hv : underL a b
    · have Hv := Lib.hid hv
      have Hd : Hid (apartB t a b = true) := Lib.hid (by unfold apartB; rw [Hk.out, Ho.out, Hu.out, Hv.out, Hq0.out]; rfl)
      clear hv
      go_enter Try.func107, Try.ntmps107
      go_wp2_with fail
      refine (tkind_any hB HT.out HW.out H1.out).mono ?_
      rintro e w1 ⟨rfl, hx1⟩
      have HX1 := Lib.hid hx1
      clear hx1
      go_wp2_with fail
      refine (topen_any hB (HT.out.ext HX1.out) HW.out (H2.out.ext HX1.out)).mono ?_
      rw [Ho.out]
      rintro e w2 ⟨rfl, hx2⟩
      have HX2 := Lib.hid (HX1.out.trans' hx2)
      clear hx2
      go_wp2_with fail
      refine (begins_any (H1.out.ext HX2.out) (H2.out.ext HX2.out)).mono ?_
      rw [Hu.out]
      rintro e w3 ⟨rfl, hx3⟩
      have HX3 := Lib.hid (HX2.out.trans' hx3)
      clear hx3
      go_wp2_with fail
      refine (begins_any (H2.out.ext HX3.out) (H1.out.ext HX3.out)).mono ?_
      rw [Hv.out]
      rintro e w4 ⟨rfl, hx4⟩
      have HX4 := Lib.hid (HX3.out.trans' hx4)
      clear hx4
      go_wp2_with fail
      go_ret
      exact ⟨ret_bool Hd.out.symm, HX4.out⟩
    · have Hv := Lib.hid hv
      have Hd : Hid (apartB t a b = false) := Lib.hid (by unfold apartB; rw [hv]; simp)
      clear hv
      go_enter Try.func107, Try.ntmps107
      go_wp2_with fail
      refine (tkind_any hB HT.out HW.out H1.out).mono ?_
      rintro e w1 ⟨rfl, hx1⟩
      have HX1 := Lib.hid hx1
      clear hx1
      go_wp2_with fail
      refine (topen_any hB (HT.out.ext HX1.out) HW.out (H2.out.ext HX1.out)).mono ?_
      rw [Ho.out]
      rintro e w2 ⟨rfl, hx2⟩
      have HX2 := Lib.hid (HX1.out.trans' hx2)
      clear hx2
      go_wp2_with fail
      refine (begins_any (H1.out.ext HX2.out) (H2.out.ext HX2.out)).mono ?_
      rw [Hu.out]
      rintro e w3 ⟨rfl, hx3⟩
      have HX3 := Lib.hid (HX2.out.trans' hx3)
      clear hx3
      go_wp2_with fail
      refine (begins_any (H2.out.ext HX3.out) (H1.out.ext HX3.out)).mono ?_
      rw [Hv.out]
      rintro e w4 ⟨rfl, hx4⟩
      have HX4 := Lib.hid (HX3.out.trans' hx4)
      clear hx4
      go_wp2_with fail
      go_ret
      exact ⟨ret_bool Hd.out.symm, HX4.out⟩
  · have Hu := Lib.hid hu
    have Hd : Hid (apartB t a b = false) := Lib.hid (by unfold apartB; rw [hu]; simp)
    clear hu
    go_enter Try.func107, Try.ntmps107
    go_wp2_with fail
    refine (tkind_any hB HT.out HW.out H1.out).mono ?_
    rintro e w1 ⟨rfl, hx1⟩
    have HX1 := Lib.hid hx1
    clear hx1
    go_wp2_with fail
    refine (topen_any hB (HT.out.ext HX1.out) HW.out (H2.out.ext HX1.out)).mono ?_
    rw [Ho.out]
    rintro e w2 ⟨rfl, hx2⟩
    have HX2 := Lib.hid (HX1.out.trans' hx2)
    clear hx2
    go_wp2_with fail
    refine (begins_any (H1.out.ext HX2.out) (H2.out.ext HX2.out)).mono ?_
    rw [Hu.out]
    rintro e w3 ⟨rfl, hx3⟩
    have HX3 := Lib.hid (HX2.out.trans' hx3)
    clear hx3
    go_wp2_with fail
    go_ret
    exact ⟨ret_bool Hd.out.symm, HX3.out⟩
end Go.Proofs.Ytocndkhgopjhhaa
