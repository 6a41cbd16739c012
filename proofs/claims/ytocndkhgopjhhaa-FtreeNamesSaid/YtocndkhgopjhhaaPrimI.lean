/- prim: Copy's closure on a tree; Rename and Copy themselves. -/
import Derived.Test.YtocndkhgopjhhaaProg
import Derived.Test.YtocndkhgopjhhaaPrimH
import Derived.Outline
namespace Go.Proofs.Ytocndkhgopjhhaa
open Go.RowKit

variable {X : Nat → Prop}

/-- The looks of Copy. -/
def cpPre (deep : Bool) (t : N) (a b : List ByteArray) : Option Int :=
  if t.kindAt a = 0 then some 5 else if a = b then some 6 else if t.kindAt a = 2 ∧ deep = false then some 55 else if underL a b = true then some 58 else none
def cpThere (ka kb : Int) : Int := if kb = 0 then 0 else if ka = 2 then 6 else if kb ≠ 1 then 55 else 0
theorem pCopy_eq {deep : Bool} {t : N} {a b : List ByteArray} (h1 : takenB t a = true) (h2 : takenB t b = true) : pCopy deep t a b =
    match cpPre deep t a b with
    | some c => (c, t)
    | none => if cpThere (t.kindAt a) (t.kindAt b) = 0 then (0, t.tcopy a b) else (cpThere (t.kindAt a) (t.kindAt b), t) := by
  unfold pCopy cpPre cpThere
  rw [h1, h2, if_neg (by simp), if_neg (by simp)]
  by_cases q1 : t.kindAt a = 0
  · rw [if_pos q1, if_pos q1]
  rw [if_neg q1, if_neg q1]
  by_cases q2 : a = b
  · rw [if_pos q2, if_pos q2]
  rw [if_neg q2, if_neg q2]
  by_cases q3 : t.kindAt a = 2 ∧ deep = false
  · rw [if_pos q3, if_pos q3]
  rw [if_neg q3, if_neg q3]
  by_cases q4 : underL a b = true
  · rw [if_pos q4, if_pos q4]
  rw [if_neg q4, if_neg q4]
  simp only
  by_cases q5 : t.kindAt b = 0
  · simp only [if_pos q5]; rfl
  simp only [if_neg q5]
  by_cases q6 : t.kindAt a = 2
  · simp only [if_pos q6]; rfl
  simp only [if_neg q6]
  by_cases q7 : t.kindAt b ≠ 1
  · simp only [if_pos q7]; rfl
  simp only [if_neg q7]
  rfl

section
variable {B B1 B2 : Nat} {S1 S2 : Nat → Prop} {W : World} {g bf b1 b2 bd : Nat} {t : N} {a b : List ByteArray} {A1 : Option Addr} {c1 : Nat} {A2 : Option Addr} {c2 : Nat} {deep : Bool}
set_option maxRecDepth 100000 in
set_option maxHeartbeats 4000000 in
theorem doCopy_any (hB : B + 2 ≤ 2199023255552) (h : TIsX X B W g t) (hd : DirW t) (hc : Caps2 W g bf b1 b2 B1 B2 S1 S2 A1 c1 A2 c2 a b) (hbd : Blk W bd 4 #[.bool deep]) (h1 : takenB t a = true) (h2 : takenB t b = true) :
    Calls Try.prog 118 #[.pointer (some ⟨bf, 0, none⟩), .pointer (some ⟨b1, 0, none⟩), .pointer (some ⟨b2, 0, none⟩), .pointer (some ⟨bd, 0, none⟩)] W (PPostX X (B + 2) g (pCopy deep t a b) W) := by
  obtain ⟨d, ht, hXb⟩ := h
  have HXB := Lib.hid hXb
  clear hXb
  have HT := Lib.hid ht
  have HW := Lib.hid hd.wf
  have HC := Lib.hid hc
  have HBD := Lib.hid hbd
  have Hp := Lib.hid (pCopy_eq (deep := deep) h1 h2)
  obtain ⟨f0, f1, f2, l0, l1, l2⟩ := hc.cells
  have mk := m_kind
  have mm := m_copy
  clear ht hd hc h1 h2 hbd
  obtain ⟨ka, hka⟩ : ∃ k, k = t.kindAt a := ⟨_, rfl⟩
  obtain ⟨kb, hkb⟩ : ∃ k, k = t.kindAt b := ⟨_, rfl⟩
  have HKA := Lib.hid hka
  have HKB := Lib.hid hkb
  by_cases q1 : ka = 0
  · have q1' : (ka == 0) = true := by simpa using q1
    have Hr : Hid (pCopy deep t a b = (5, t)) := Lib.hid (by rw [Hp.out]; unfold cpPre; rw [if_pos (by rw [← hka]; exact q1)])
    clear q1 hka hkb
    go_enter Try.func118, Try.ntmps118
    go_wp2_with (go_at_call 48; refine (tkind_any (by omega) HT.out HW.out HC.out.s1).mono ?_; rw [← HKA.out]; rintro e w1 ⟨rfl, hx1⟩; have HX1 := Lib.hid hx1; clear hx1)
    go_ret
    rw [Hr.out]
    exact PPostX.no ⟨_, HT.out, HXB.out⟩ HX1.out
  have q1' : (ka == 0) = false := by simpa using q1
  have Q1 : Hid (¬ t.kindAt a = 0) := Lib.hid (by rw [← hka]; exact q1)
  clear q1 hka hkb
  go_enter Try.func118, Try.ntmps118
  go_wp2_with fail
  refine (tkind_any (by omega) HT.out HW.out HC.out.s1).mono ?_
  rw [← HKA.out]
  rintro e w1 ⟨rfl, hx1⟩
  have HX := Lib.hid hx1
  have HC1 := Lib.hid (HC.out.ext hx1)
  clear hx1 f0 f1 f2 l0 l1 l2
  obtain ⟨f0, f1, f2, l0, l1, l2⟩ := HC1.out.cells
  go_wp2_with fail
  refine (equalS_any HC1.out.s1 HC1.out.s2).mono ?_
  rintro e w2 ⟨rfl, hx2⟩
  by_cases q2 : a = b
  · have q2' : decide (a = b) = true := decide_eq_true q2
    have Hr : Hid (pCopy deep t a b = (6, t)) := Lib.hid (by rw [Hp.out]; unfold cpPre; rw [if_neg Q1.out, if_pos q2])
    have HX := Lib.hid (HX.out.trans' hx2)
    clear hx2
    go_wp2_with fail
    go_ret
    rw [Hr.out]
    exact PPostX.no ⟨_, HT.out, HXB.out⟩ HX.out
  have q2' : decide (a = b) = false := decide_eq_false q2
  have Q2 := Lib.hid q2
  have HX := Lib.hid (HX.out.trans' hx2)
  have HC2 := Lib.hid (HC1.out.ext hx2)
  have d0 : w2.cell? ⟨bd, 0, none⟩ = some (.bool deep) := (HBD.out.ext HX.out).cell 0
  have dl := (HBD.out.ext HX.out).lt
  clear hx2 f0 f1 f2 l0 l1 l2 q2
  obtain ⟨f0, f1, f2, l0, l1, l2⟩ := HC2.out.cells
  have case55 : ∀ (q3 : ka = 2 ∧ deep = false), pCopy deep t a b = (55, t) := fun q3 => by
    rw [Hp.out]; unfold cpPre; rw [if_neg Q1.out, if_neg Q2.out, if_pos (by rw [← HKA.out]; exact q3)]
  have C55 := Lib.hid case55
  have casepre : ¬ (ka = 2 ∧ deep = false) → ¬ (t.kindAt a = 2 ∧ deep = false) := fun h => by rw [← HKA.out]; exact h
  have CP := Lib.hid casepre
  clear case55 casepre
  by_cases q3 : ka = 2 ∧ deep = false
  · have Hr := Lib.hid (C55.out q3)
    obtain ⟨qa, rfl⟩ := q3
    have qa' : (ka == 2) = true := by simpa using qa
    clear qa
    go_wp2_with fail
    go_ret
    rw [Hr.out]
    exact PPostX.no ⟨_, HT.out, HXB.out⟩ HX.out
  have Q3 := Lib.hid (CP.out q3)
  have hgoal : ∀ (x : Prop), x → x := fun _ h => h
  obtain ⟨qd, hqd⟩ : ∃ qd : Bool, qd = (decide (ka = 2) && !deep) := ⟨_, rfl⟩
  have hqf : (ka == 2) = false ∨ ((ka == 2) = true ∧ deep = true) := by
    by_cases qa : ka = 2
    · right
      exact ⟨by simpa using qa, by cases deep with
        | true => rfl
        | false => exact absurd ⟨qa, rfl⟩ q3⟩
    · left; simpa using qa
  clear q3 hgoal hqd
  rcases hqf with qa' | ⟨qa', rfl⟩
  all_goals
    go_wp2_with fail
    refine (pathUnder_any HC2.out.s1 HC2.out.s2).mono ?_
    rintro e w3 ⟨rfl, hx3⟩
    cases q4 : underL a b
    case true =>
      have Hr := Lib.hid (show pCopy _ t a b = (58, t) by rw [Hp.out]; unfold cpPre; rw [if_neg Q1.out, if_neg Q2.out, if_neg Q3.out, if_pos q4])
      have HX := Lib.hid (HX.out.trans' hx3)
      clear hx3 q4
      go_wp2_with fail
      go_ret
      rw [Hr.out]
      exact PPostX.no ⟨_, HT.out, HXB.out⟩ HX.out
    have Hpre := Lib.hid (show cpPre _ t a b = none by unfold cpPre; rw [if_neg Q1.out, if_neg Q2.out, if_neg Q3.out, if_neg (by rw [q4]; simp)])
    have HX := Lib.hid (HX.out.trans' hx3)
    have HC3 := Lib.hid (HC2.out.ext hx3)
    clear hx3 f0 f1 f2 l0 l1 l2 q4 d0 dl
    obtain ⟨f0, f1, f2, l0, l1, l2⟩ := HC3.out.cells
    go_wp2_with fail
    refine (tkind_any (by omega) (HT.out.ext HX.out) HW.out HC3.out.s2).mono ?_
    rw [← HKB.out]
    rintro e w4 ⟨rfl, hx4⟩
    have HX := Lib.hid (HX.out.trans' hx4)
    have HC4 := Lib.hid (HC3.out.ext hx4)
    clear hx4 f0 f1 f2 l0 l1 l2
    obtain ⟨f0, f1, f2, l0, l1, l2⟩ := HC4.out.cells
    have Hq := Lib.hid (show pCopy _ t a b = if cpThere ka kb = 0 then (0, t.tcopy a b) else (cpThere ka kb, t) by rw [Hp.out, Hpre.out, HKA.out, HKB.out])
    by_cases q5 : kb = 0
    · have q5' : (kb == 0) = true := by simpa using q5
      have Hr := Lib.hid (show pCopy _ t a b = (0, t.tcopy a b) by rw [Hq.out]; unfold cpThere; simp [q5])
      clear q5
      go_wp2_with fail
      refine (tcopy_any (by omega) (HT.out.ext HX.out) HW.out HC4.out.s1 HC4.out.s2).mono ?_
      rintro e w5 hdone
      have he := hdone.1
      subst he
      have HD := Lib.hid hdone
      clear hdone
      go_wp2_with fail
      go_ret
      rw [Hr.out]
      exact PPostX.yes HXB.out HD.out HX.out (by omega)
    have q5' : (kb == 0) = false := by simpa using q5
    first
    | (have qa : ka = 2 := by simpa using qa'
       have Hr := Lib.hid (show pCopy _ t a b = (6, t) by rw [Hq.out]; unfold cpThere; simp [q5, qa])
       clear q5 qa
       go_wp2_with fail
       go_ret
       rw [Hr.out]
       exact PPostX.no ⟨_, HT.out, HXB.out⟩ HX.out)
    | (have qa : ¬ ka = 2 := by simpa using qa'
       by_cases q7 : kb = 1
       · have q7' : (kb == 1) = true := by simpa using q7
         have q7'' : (kb != 1) = false := by simpa using q7
         have Hr := Lib.hid (show pCopy _ t a b = (0, t.tcopy a b) by rw [Hq.out]; unfold cpThere; simp [qa, q7])
         clear q5 qa q7
         go_wp2_with fail
         refine (tcopy_any (by omega) (HT.out.ext HX.out) HW.out HC4.out.s1 HC4.out.s2).mono ?_
         rintro e w5 hdone
         have he := hdone.1
         subst he
         have HD := Lib.hid hdone
         clear hdone
         go_wp2_with fail
         go_ret
         rw [Hr.out]
         exact PPostX.yes HXB.out HD.out HX.out (by omega)
       · have q7' : (kb == 1) = false := by simpa using q7
         have q7'' : (kb != 1) = true := by simpa using q7
         have Hr := Lib.hid (show pCopy _ t a b = (55, t) by rw [Hq.out]; unfold cpThere; simp [q5, qa, q7])
         clear q5 qa q7
         go_wp2_with fail
         go_ret
         rw [Hr.out]
         exact PPostX.no ⟨_, HT.out, HXB.out⟩ HX.out)
end

section
variable {B B1 B2 : Nat} {S1 S2 : Nat → Prop} {w : World} {g : Nat} {t : N} {v1 v2 : Value} {a b : List ByteArray}
theorem places2 {w : World} {bp : Nat} {v1 v2 : Value} (hb : Blk w bp 22 #[v1, v2]) (h1 : Strs B1 S1 w v1 a) (h2 : Strs B2 S2 w v2 b) : Places (B1 + B2) (fun _ => True) w bp 2 [a, b] :=
  Places.two hb (h1.wide (by omega) (Below.refl _ _) (fun _ _ _ => trivial)) (h2.wide (by omega) (Below.refl _ _) (fun _ _ _ => trivial))

set_option maxRecDepth 100000 in
set_option maxHeartbeats 4000000 in
theorem rename_any (hB : B + 2 ≤ 2199023255552) (h : TIsX X B w g t) (hd : DirW t) (h1 : Strs B1 S1 w v1 a) (h2 : Strs B2 S2 w v2 b) (hS1 : ∀ x, S1 x → x ≠ g) :
    Calls Try.prog 65 #[ifT g, v1, v2] w (PPostX X (B + 2) g (pRename t a b) w) := by
  have HT := Lib.hid h
  have HD := Lib.hid hd
  have H1 := Lib.hid h1
  have H2 := Lib.hid h2
  have HS1 := Lib.hid hS1
  obtain ⟨A1, c1, rfl, _⟩ := h1
  obtain ⟨A2, c2, rfl, _⟩ := h2
  obtain ⟨d, ht, hXb⟩ := h
  have HXB := Lib.hid hXb
  clear hXb
  have HTA := Lib.hid ht
  clear ht hd hS1
  have hx4 : Ext w ((((w.alloc (.cells #[ifT g] 137)).alloc (.cells #[.slice A1 a.length c1] 22)).alloc (.cells #[.slice A2 b.length c2] 22)).alloc (.cells #[.slice A1 a.length c1, .slice A2 b.length c2] 22)) := (((Ext.alloc' _ _).trans' (Ext.alloc' _ _)).trans' (Ext.alloc' _ _)).trans' (Ext.alloc' _ _)
  have b0 := (((Blk.new w 137 #[ifT g]).alloc (.cells #[.slice A1 a.length c1] 22)).alloc (.cells #[.slice A2 b.length c2] 22)).alloc (.cells #[.slice A1 a.length c1, .slice A2 b.length c2] 22)
  have b1 := ((Blk.new' (w.alloc (.cells #[ifT g] 137)) 22 #[.slice A1 a.length c1] (n := w.heap.size + 1) (by simp)).alloc (.cells #[.slice A2 b.length c2] 22)).alloc (.cells #[.slice A1 a.length c1, .slice A2 b.length c2] 22)
  have b2 := (Blk.new' ((w.alloc (.cells #[ifT g] 137)).alloc (.cells #[.slice A1 a.length c1] 22)) 22 #[.slice A2 b.length c2] (n := w.heap.size + 1 + 1) (by simp)).alloc (.cells #[.slice A1 a.length c1, .slice A2 b.length c2] 22)
  have b3 := Blk.new' (((w.alloc (.cells #[ifT g] 137)).alloc (.cells #[.slice A1 a.length c1] 22)).alloc (.cells #[.slice A2 b.length c2] 22)) 22 #[.slice A1 a.length c1, .slice A2 b.length c2] (n := w.heap.size + 1 + 1 + 1) (by simp)
  have HX4 := Lib.hid hx4
  have HC := Lib.hid (Caps2.mk b0 b1 b2 (H1.out.ext hx4) (H2.out.ext hx4))
  have HPL := Lib.hid (places2 b3 (H1.out.ext hx4) (H2.out.ext hx4))
  clear hx4 b0 b1 b2 b3
  go_enter Try.func65, Try.ntmps65
  go_wp2_with fail
  cases htk : takenB t a && takenB t b
  · have Hr : Hid (pRename t a b = (5, t)) := Lib.hid (by
      unfold pRename
      cases ha : takenB t a
      · rw [if_pos rfl]
      · rw [ha, Bool.true_and] at htk
        rw [if_neg (by simp), htk, if_pos rfl])
    have HTK := Lib.hid htk
    clear htk
    refine (at_no (by omega) (HTA.out.ext HX4.out) HD.out.wf HPL.out (by simpa using HTK.out)).mono ?_
    rintro e w1 ⟨rfl, hx1⟩
    have HX1 := Lib.hid (HX4.out.trans' hx1)
    clear hx1
    go_wp2_with fail
    go_ret
    rw [Hr.out]
    exact PPostX.no HT.out HX1.out
  · have HTK := Lib.hid ((Bool.and_eq_true _ _).mp htk)
    clear htk
    refine (at_yes (c := (pRename t a b).1) (R := fun w' => PPostX X (B + 2) g (pRename t a b) w (.returned (.int .i64 (pRename t a b).1)) w') (by omega) (HTA.out.ext HX4.out) HD.out.wf HPL.out (by simp [HTK.out.1, HTK.out.2]) (fun w1 hx1 => ?_) (.inl ⟨_, _, _, .inr (.inr rfl), rfl⟩)).mono ?_
    · have hxx := HX4.out.trans' hx1
      refine (doRename_any hB (HT.out.ext hxx) HD.out (HC.out.ext hx1) HS1.out HTK.out.1 HTK.out.2).mono ?_
      rintro e w2 hp
      have he := hp.1
      subst he
      exact ⟨rfl, hp.from hxx⟩
    · rintro e w1 ⟨rfl, hr⟩
      have HR := Lib.hid hr
      clear hr
      go_wp2_with fail
      go_ret
      exact HR.out

set_option maxRecDepth 100000 in
set_option maxHeartbeats 4000000 in
theorem pcopy_any {deep : Bool} (hB : B + 2 ≤ 2199023255552) (h : TIsX X B w g t) (hd : DirW t) (h1 : Strs B1 S1 w v1 a) (h2 : Strs B2 S2 w v2 b) :
    Calls Try.prog 69 #[ifT g, v1, v2, .bool deep] w (PPostX X (B + 2) g (pCopy deep t a b) w) := by
  have HT := Lib.hid h
  have HD := Lib.hid hd
  have H1 := Lib.hid h1
  have H2 := Lib.hid h2
  obtain ⟨A1, c1, rfl, _⟩ := h1
  obtain ⟨A2, c2, rfl, _⟩ := h2
  obtain ⟨d, ht, hXb⟩ := h
  have HXB := Lib.hid hXb
  clear hXb
  have HTA := Lib.hid ht
  clear ht hd
  have hx4 : Ext w (((((w.alloc (.cells #[ifT g] 137)).alloc (.cells #[.slice A1 a.length c1] 22)).alloc (.cells #[.slice A2 b.length c2] 22)).alloc (.cells #[.bool deep] 4)).alloc (.cells #[.slice A1 a.length c1, .slice A2 b.length c2] 22)) := ((((Ext.alloc' _ _).trans' (Ext.alloc' _ _)).trans' (Ext.alloc' _ _)).trans' (Ext.alloc' _ _)).trans' (Ext.alloc' _ _)
  have b0 := ((((Blk.new w 137 #[ifT g]).alloc (.cells #[.slice A1 a.length c1] 22)).alloc (.cells #[.slice A2 b.length c2] 22)).alloc (.cells #[.bool deep] 4)).alloc (.cells #[.slice A1 a.length c1, .slice A2 b.length c2] 22)
  have b1 := (((Blk.new' (w.alloc (.cells #[ifT g] 137)) 22 #[.slice A1 a.length c1] (n := w.heap.size + 1) (by simp)).alloc (.cells #[.slice A2 b.length c2] 22)).alloc (.cells #[.bool deep] 4)).alloc (.cells #[.slice A1 a.length c1, .slice A2 b.length c2] 22)
  have b2 := ((Blk.new' ((w.alloc (.cells #[ifT g] 137)).alloc (.cells #[.slice A1 a.length c1] 22)) 22 #[.slice A2 b.length c2] (n := w.heap.size + 1 + 1) (by simp)).alloc (.cells #[.bool deep] 4)).alloc (.cells #[.slice A1 a.length c1, .slice A2 b.length c2] 22)
  have bd := (Blk.new' (((w.alloc (.cells #[ifT g] 137)).alloc (.cells #[.slice A1 a.length c1] 22)).alloc (.cells #[.slice A2 b.length c2] 22)) 4 #[.bool deep] (n := w.heap.size + 1 + 1 + 1) (by simp)).alloc (.cells #[.slice A1 a.length c1, .slice A2 b.length c2] 22)
  have b3 := Blk.new' ((((w.alloc (.cells #[ifT g] 137)).alloc (.cells #[.slice A1 a.length c1] 22)).alloc (.cells #[.slice A2 b.length c2] 22)).alloc (.cells #[.bool deep] 4)) 22 #[.slice A1 a.length c1, .slice A2 b.length c2] (n := w.heap.size + 1 + 1 + 1 + 1) (by simp)
  have HX4 := Lib.hid hx4
  have HC := Lib.hid (Caps2.mk b0 b1 b2 (H1.out.ext hx4) (H2.out.ext hx4))
  have HBD := Lib.hid bd
  have HPL := Lib.hid (places2 b3 (H1.out.ext hx4) (H2.out.ext hx4))
  clear hx4 b0 b1 b2 b3 bd
  go_enter Try.func69, Try.ntmps69
  go_wp2_with fail
  cases htk : takenB t a && takenB t b
  · have Hr : Hid (pCopy deep t a b = (5, t)) := Lib.hid (by
      unfold pCopy
      cases ha : takenB t a
      · rw [if_pos rfl]
      · rw [ha, Bool.true_and] at htk
        rw [if_neg (by simp), htk, if_pos rfl])
    have HTK := Lib.hid htk
    clear htk
    refine (at_no (by omega) (HTA.out.ext HX4.out) HD.out.wf HPL.out (by simpa using HTK.out)).mono ?_
    rintro e w1 ⟨rfl, hx1⟩
    have HX1 := Lib.hid (HX4.out.trans' hx1)
    clear hx1
    go_wp2_with fail
    go_ret
    rw [Hr.out]
    exact PPostX.no HT.out HX1.out
  · have HTK := Lib.hid ((Bool.and_eq_true _ _).mp htk)
    clear htk
    refine (at_yes (c := (pCopy deep t a b).1) (R := fun w' => PPostX X (B + 2) g (pCopy deep t a b) w (.returned (.int .i64 (pCopy deep t a b).1)) w') (by omega) (HTA.out.ext HX4.out) HD.out.wf HPL.out (by simp [HTK.out.1, HTK.out.2]) (fun w1 hx1 => ?_) (.inr (.inr ⟨_, _, _, _, rfl, rfl⟩))).mono ?_
    · have hxx := HX4.out.trans' hx1
      refine (doCopy_any hB (HT.out.ext hxx) HD.out (HC.out.ext hx1) (HBD.out.ext hx1) HTK.out.1 HTK.out.2).mono ?_
      rintro e w2 hp
      have he := hp.1
      subst he
      exact ⟨rfl, hp.from hxx⟩
    · rintro e w1 ⟨rfl, hr⟩
      have HR := Lib.hid hr
      clear hr
      go_wp2_with fail
      go_ret
      exact HR.out
end
end Go.Proofs.Ytocndkhgopjhhaa
