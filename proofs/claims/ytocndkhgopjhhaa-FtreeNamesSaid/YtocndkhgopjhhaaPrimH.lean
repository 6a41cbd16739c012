/- path.Under; prim: Rename, Copy on a tree. -/
import Derived.Test.YtocndkhgopjhhaaProg
import Derived.Test.YtocndkhgopjhhaaPrimG
import Derived.Outline
namespace Go.Proofs.Ytocndkhgopjhhaa
open Go.RowKit

variable {X : Nat → Prop}

theorem under_take' {a b : List ByteArray} (hl : a.length ≤ b.length) : decide (a = b.take a.length) = underL a b := by
  rw [← under_take hl]
  exact decide_eq_decide.2 eq_comm
theorem pathUnder_any {B1 B2 : Nat} {S1 S2 : Nat → Prop} {w : World} {v1 v2 : Value} {a b : List ByteArray} (h1 : Strs B1 S1 w v1 a) (h2 : Strs B2 S2 w v2 b) :
    Calls Try.prog 117 #[v1, v2] w fun e w' => e = .returned (.bool (underL a b)) ∧ Ext w w' := by
  have H1 := Lib.hid h1
  have H2 := Lib.hid h2
  obtain ⟨A1, c1, rfl, hc1, hm1, _⟩ := h1
  obtain ⟨A2, c2, rfl, hc2, hm2, _⟩ := h2
  unfold maxLen at hm1 hm2
  by_cases hl : a.length ≤ b.length
  · have HT := Lib.hid (H2.out.take hl)
    have hge : decide (a.length ≤ b.length) = true := decide_eq_true hl
    have Hl := Lib.hid hl
    go_enter Try.func117, Try.ntmps117
    go_wp2_with (go_at_call 85; refine (equalS_any H1.out HT.out).mono ?_; rintro e w1 ⟨rfl, hx1⟩; have HX1 := Lib.hid hx1; clear hx1)
    go_ret
    exact ⟨ret_bool (under_take' Hl.out), HX1.out⟩
  · have hge : decide (a.length ≤ b.length) = false := decide_eq_false hl
    have Hl := Lib.hid (underL_long (a := a) (b := b) (by omega))
    clear hl
    go_enter Try.func117, Try.ntmps117
    go_wp2_with fail
    go_ret
    exact ⟨ret_bool Hl.out.symm, Below.refl _ _⟩

/-- what the closures of Rename and Copy see: the boxes, and what is in them -/
structure Caps2 (W : World) (g bf b1 b2 B1 B2 : Nat) (S1 S2 : Nat → Prop) (A1 : Option Addr) (c1 : Nat) (A2 : Option Addr) (c2 : Nat) (a b : List ByteArray) : Prop where
  fs : Blk W bf 137 #[ifT g]
  p1 : Blk W b1 22 #[.slice A1 a.length c1]
  p2 : Blk W b2 22 #[.slice A2 b.length c2]
  s1 : Strs B1 S1 W (.slice A1 a.length c1) a
  s2 : Strs B2 S2 W (.slice A2 b.length c2) b
theorem Caps2.ext {W w : World} {g bf b1 b2 B1 B2 : Nat} {S1 S2 : Nat → Prop} {A1 : Option Addr} {c1 : Nat} {A2 : Option Addr} {c2 : Nat} {a b : List ByteArray} (h : Caps2 W g bf b1 b2 B1 B2 S1 S2 A1 c1 A2 c2 a b) (hx : Ext W w) : Caps2 w g bf b1 b2 B1 B2 S1 S2 A1 c1 A2 c2 a b :=
  ⟨h.fs.ext hx, h.p1.ext hx, h.p2.ext hx, h.s1.ext hx, h.s2.ext hx⟩
theorem Caps2.cells {W : World} {g bf b1 b2 B1 B2 : Nat} {S1 S2 : Nat → Prop} {A1 : Option Addr} {c1 : Nat} {A2 : Option Addr} {c2 : Nat} {a b : List ByteArray} (h : Caps2 W g bf b1 b2 B1 B2 S1 S2 A1 c1 A2 c2 a b) :
    W.cell? ⟨bf, 0, none⟩ = some (ifT g) ∧ W.cell? ⟨b1, 0, none⟩ = some (.slice A1 a.length c1) ∧ W.cell? ⟨b2, 0, none⟩ = some (.slice A2 b.length c2) ∧ bf < W.heap.size ∧ b1 < W.heap.size ∧ b2 < W.heap.size :=
  ⟨h.fs.cell 0, h.p1.cell 0, h.p2.cell 0, h.fs.lt, h.p1.lt, h.p2.lt⟩

/-- The looks of Rename. -/
def rnPre (t : N) (a b : List ByteArray) : Option Int :=
  if t.kindAt a = 0 then some 5 else if a = b then some 6 else if a = [] then some 57 else if underL a b = true then some 58 else none
def rnThere (ka kb : Int) (em : Bool) : Int :=
  if kb = 0 then 0 else if (ka = 2) ≠ (kb = 2) then 55 else if kb = 2 ∧ em = false then 57 else 0
theorem pRename_eq {t : N} {a b : List ByteArray} (h1 : takenB t a = true) (h2 : takenB t b = true) : pRename t a b =
    match rnPre t a b with
    | some c => (c, t)
    | none => if rnThere (t.kindAt a) (t.kindAt b) (emptyB ((t.get b).getD N.zero)) = 0 then (0, t.tmove a b) else (rnThere (t.kindAt a) (t.kindAt b) (emptyB ((t.get b).getD N.zero)), t) := by
  unfold pRename rnPre rnThere
  rw [h1, h2, if_neg (by simp), if_neg (by simp)]
  by_cases q1 : t.kindAt a = 0
  · rw [if_pos q1, if_pos q1]
  rw [if_neg q1, if_neg q1]
  by_cases q2 : a = b
  · rw [if_pos q2, if_pos q2]
  rw [if_neg q2, if_neg q2]
  by_cases q3 : a = []
  · rw [if_pos q3, if_pos q3]
  rw [if_neg q3, if_neg q3]
  by_cases q4 : underL a b = true
  · rw [if_pos q4, if_pos q4]
  rw [if_neg q4, if_neg q4]
  simp only
  by_cases q5 : t.kindAt b = 0
  · simp only [if_pos q5]; rfl
  simp only [if_neg q5]
  by_cases q6 : (t.kindAt a = 2) ≠ (t.kindAt b = 2)
  · simp only [if_pos q6]; rfl
  simp only [if_neg q6]
  by_cases q7 : t.kindAt b = 2 ∧ emptyB ((t.get b).getD N.zero) = false
  · simp only [if_pos q7]; rfl
  simp only [if_neg q7]
  rfl
theorem nil_int {p : List ByteArray} (h : p ≠ []) : ((p.length : Int) == 0) = false := by
  rw [beq_eq_false_iff_ne]
  intro e
  exact h (List.eq_nil_of_length_eq_zero (by omega))

section
variable {B B1 B2 : Nat} {S1 S2 : Nat → Prop} {W : World} {g bf b1 b2 : Nat} {t : N} {a b : List ByteArray} {A1 : Option Addr} {c1 : Nat} {A2 : Option Addr} {c2 : Nat}
set_option maxRecDepth 100000 in
set_option maxHeartbeats 4000000 in
theorem doRename_any (hB : B + 2 ≤ 2199023255552) (h : TIsX X B W g t) (hd : DirW t) (hc : Caps2 W g bf b1 b2 B1 B2 S1 S2 A1 c1 A2 c2 a b) (hS1 : ∀ x, S1 x → x ≠ g) (h1 : takenB t a = true) (h2 : takenB t b = true) :
    Calls Try.prog 116 #[.pointer (some ⟨bf, 0, none⟩), .pointer (some ⟨b1, 0, none⟩), .pointer (some ⟨b2, 0, none⟩)] W (PPostX X (B + 2) g (pRename t a b) W) := by
  obtain ⟨d, ht, hXb⟩ := h
  have HXB := Lib.hid hXb
  clear hXb
  have HT := Lib.hid ht
  have HW := Lib.hid hd.wf
  have HC := Lib.hid hc
  have HS1 := Lib.hid hS1
  have Hp := Lib.hid (pRename_eq h1 h2)
  obtain ⟨f0, f1, f2, l0, l1, l2⟩ := hc.cells
  have mk := m_kind
  have me := m_empty
  have mm := m_move
  clear ht hd hc h1 h2 hS1
  obtain ⟨ka, hka⟩ : ∃ k, k = t.kindAt a := ⟨_, rfl⟩
  obtain ⟨kb, hkb⟩ : ∃ k, k = t.kindAt b := ⟨_, rfl⟩
  have HKA := Lib.hid hka
  have HKB := Lib.hid hkb
  by_cases q1 : ka = 0
  · have q1' : (ka == 0) = true := by simpa using q1
    have Hr : Hid (pRename t a b = (5, t)) := Lib.hid (by rw [Hp.out]; unfold rnPre; rw [if_pos (by rw [← hka]; exact q1)])
    clear q1 hka hkb
    go_enter Try.func116, Try.ntmps116
    go_wp2_with (go_at_call 48; refine (tkind_any (by omega) HT.out HW.out HC.out.s1).mono ?_; rw [← HKA.out]; rintro e w1 ⟨rfl, hx1⟩; have HX1 := Lib.hid hx1; clear hx1)
    go_ret
    rw [Hr.out]
    exact PPostX.no ⟨_, HT.out, HXB.out⟩ HX1.out
  have q1' : (ka == 0) = false := by simpa using q1
  have Q1 : Hid (¬ t.kindAt a = 0) := Lib.hid (by rw [← hka]; exact q1)
  clear q1 hka hkb
  go_enter Try.func116, Try.ntmps116
  go_wp2_with fail
  refine (tkind_any (by omega) HT.out HW.out HC.out.s1).mono ?_
  rw [← HKA.out]
  rintro e w1 ⟨rfl, hx1⟩
  have HX := Lib.hid hx1
  have HC1 := Lib.hid (HC.out.ext hx1)
  clear hx1 f0 f1 f2 l0 l1 l2
  obtain ⟨f0, f1, f2, l0, l1, l2⟩ := HC1.out.cells
  go_wp2_with fail
  refine (equalS_any HC1.out.s1 HC1.out.s2).mono ?_
  rintro e w2 ⟨rfl, hx2⟩
  by_cases q2 : a = b
  · have q2' : decide (a = b) = true := decide_eq_true q2
    have Hr : Hid (pRename t a b = (6, t)) := Lib.hid (by rw [Hp.out]; unfold rnPre; rw [if_neg Q1.out, if_pos q2])
    have HX := Lib.hid (HX.out.trans' hx2)
    clear hx2
    go_wp2_with fail
    go_ret
    rw [Hr.out]
    exact PPostX.no ⟨_, HT.out, HXB.out⟩ HX.out
  have q2' : decide (a = b) = false := decide_eq_false q2
  have Q2 := Lib.hid q2
  have HX := Lib.hid (HX.out.trans' hx2)
  have HC2 := Lib.hid (HC1.out.ext hx2)
  clear hx2 f0 f1 f2 l0 l1 l2 q2
  obtain ⟨f0, f1, f2, l0, l1, l2⟩ := HC2.out.cells
  by_cases q3 : a = []
  · have q3' : ((a.length : Int) == 0) = true := by rw [q3]; rfl
    have Hr : Hid (pRename t a b = (57, t)) := Lib.hid (by rw [Hp.out]; unfold rnPre; rw [if_neg Q1.out, if_neg Q2.out, if_pos q3])
    clear q3
    go_wp2_with fail
    go_ret
    rw [Hr.out]
    exact PPostX.no ⟨_, HT.out, HXB.out⟩ HX.out
  have q3' := nil_int q3
  have Q3 := Lib.hid q3
  clear q3
  go_wp2_with fail
  refine (pathUnder_any HC2.out.s1 HC2.out.s2).mono ?_
  rintro e w3 ⟨rfl, hx3⟩
  cases q4 : underL a b
  case true =>
    have Hr : Hid (pRename t a b = (58, t)) := Lib.hid (by rw [Hp.out]; unfold rnPre; rw [if_neg Q1.out, if_neg Q2.out, if_neg Q3.out, if_pos q4])
    have HX := Lib.hid (HX.out.trans' hx3)
    clear hx3 q4
    go_wp2_with fail
    go_ret
    rw [Hr.out]
    exact PPostX.no ⟨_, HT.out, HXB.out⟩ HX.out
  have Hpre : Hid (rnPre t a b = none) := Lib.hid (by unfold rnPre; rw [if_neg Q1.out, if_neg Q2.out, if_neg Q3.out, if_neg (by rw [q4]; simp)])
  have HX := Lib.hid (HX.out.trans' hx3)
  have HC3 := Lib.hid (HC2.out.ext hx3)
  clear hx3 f0 f1 f2 l0 l1 l2 q4
  obtain ⟨f0, f1, f2, l0, l1, l2⟩ := HC3.out.cells
  go_wp2_with fail
  refine (tkind_any (by omega) (HT.out.ext HX.out) HW.out HC3.out.s2).mono ?_
  rw [← HKB.out]
  rintro e w4 ⟨rfl, hx4⟩
  have HX := Lib.hid (HX.out.trans' hx4)
  have HC4 := Lib.hid (HC3.out.ext hx4)
  clear hx4 f0 f1 f2 l0 l1 l2
  obtain ⟨f0, f1, f2, l0, l1, l2⟩ := HC4.out.cells
  have Hq : Hid (pRename t a b = if rnThere ka kb (emptyB ((t.get b).getD N.zero)) = 0 then (0, t.tmove a b) else (rnThere ka kb (emptyB ((t.get b).getD N.zero)), t)) := Lib.hid (by rw [Hp.out, Hpre.out, HKA.out, HKB.out])
  by_cases q5 : kb = 0
  · have q5' : (kb == 0) = true := by simpa using q5
    have Hr : Hid (pRename t a b = (0, t.tmove a b)) := Lib.hid (by rw [Hq.out]; unfold rnThere; simp [q5])
    clear q5
    go_wp2_with fail
    refine (tmove_any hB (HT.out.ext HX.out) HW.out HC4.out.s1 HC4.out.s2 HS1.out).mono ?_
    rintro e w5 hdone
    have he := hdone.1
    subst he
    have HD := Lib.hid hdone
    clear hdone
    go_wp2_with fail
    go_ret
    rw [Hr.out]
    exact PPostX.yes HXB.out HD.out HX.out (by omega)
  have q5' : (kb == 0) = false := by simpa using q5
  by_cases q6 : (ka = 2) ≠ (kb = 2)
  · have Hr : Hid (pRename t a b = (55, t)) := Lib.hid (by rw [Hq.out]; unfold rnThere; simp [q5, q6])
    by_cases qa : ka = 2
    · have qb : ¬ kb = 2 := fun e => q6 (by rw [eq_true qa, eq_true e])
      have qa' : (ka == 2) = true := by simpa using qa
      have qb' : (kb == 2) = false := by simpa using qb
      clear q5 q6 qa qb
      go_wp2_with fail
      go_ret
      rw [Hr.out]
      exact PPostX.no ⟨_, HT.out, HXB.out⟩ HX.out
    · have qb : kb = 2 := Classical.byContradiction fun e => q6 (by rw [eq_false qa, eq_false e])
      have qa' : (ka == 2) = false := by simpa using qa
      have qb' : (kb == 2) = true := by simpa using qb
      clear q5 q6 qa qb
      go_wp2_with fail
      go_ret
      rw [Hr.out]
      exact PPostX.no ⟨_, HT.out, HXB.out⟩ HX.out
  have q6' : (ka = 2) = (kb = 2) := by simpa using q6
  by_cases qb : kb = 2
  · have qa : ka = 2 := q6'.mpr qb
    have qa' : (ka == 2) = true := by simpa using qa
    have qb' : (kb == 2) = true := by simpa using qb
    cases hem : emptyB ((t.get b).getD N.zero)
    · have Hr : Hid (pRename t a b = (57, t)) := Lib.hid (by rw [Hq.out, hem]; unfold rnThere; simp [qa, qb])
      have HE := Lib.hid hem
      clear q5 q6 q6' qa qb hem
      go_wp2_with (go_at_call 50; refine (tempty_any (by omega) (HT.out.ext HX.out) HW.out HC4.out.s2).mono ?_; rw [HE.out]; rintro e w5 ⟨rfl, hx5⟩; have HX5 := Lib.hid (HX.out.trans' hx5); clear hx5)
      go_ret
      rw [Hr.out]
      exact PPostX.no ⟨_, HT.out, HXB.out⟩ HX5.out
    · have Hr : Hid (pRename t a b = (0, t.tmove a b)) := Lib.hid (by rw [Hq.out, hem]; unfold rnThere; simp [qa, qb])
      have HE := Lib.hid hem
      clear q5 q6 q6' qa qb hem
      go_wp2_with fail
      refine (tempty_any (by omega) (HT.out.ext HX.out) HW.out HC4.out.s2).mono ?_
      rw [HE.out]
      rintro e w5 ⟨rfl, hx5⟩
      have HX := Lib.hid (HX.out.trans' hx5)
      have HC5 := Lib.hid (HC4.out.ext hx5)
      clear hx5 f0 f1 f2 l0 l1 l2
      obtain ⟨f0, f1, f2, l0, l1, l2⟩ := HC5.out.cells
      go_wp2_with fail
      refine (tmove_any hB (HT.out.ext HX.out) HW.out HC5.out.s1 HC5.out.s2 HS1.out).mono ?_
      rintro e w6 hdone
      have he := hdone.1
      subst he
      have HD := Lib.hid hdone
      clear hdone
      go_wp2_with fail
      go_ret
      rw [Hr.out]
      exact PPostX.yes HXB.out HD.out HX.out (by omega)
  · have qa : ¬ ka = 2 := fun e => qb (q6'.mp e)
    have qa' : (ka == 2) = false := by simpa using qa
    have qb' : (kb == 2) = false := by simpa using qb
    have Hr : Hid (pRename t a b = (0, t.tmove a b)) := Lib.hid (by rw [Hq.out]; unfold rnThere; simp [qa, qb])
    clear q5 q6 q6' qa qb
    go_wp2_with fail
    refine (tmove_any hB (HT.out.ext HX.out) HW.out HC4.out.s1 HC4.out.s2 HS1.out).mono ?_
    rintro e w6 hdone
    have he := hdone.1
    subst he
    have HD := Lib.hid hdone
    clear hdone
    go_wp2_with fail
    go_ret
    rw [Hr.out]
    exact PPostX.yes HXB.out HD.out HX.out (by omega)
end
end Go.Proofs.Ytocndkhgopjhhaa
