/- touchstonelaw07.FtreeThere answers true. -/
import Derived.Test.YtocndkhgopjhhaaProg
import Derived.Test.YtocndkhgopjhhaaWorks
import Derived.Test.YtocndkhgopjhhaaLarge
import Derived.Test.YtocndkhgopjhhaaThereP
import Derived.Test.YtocndkhgopjhhaaAt
import Derived.Outline
namespace Go.Proofs.Ytocndkhgopjhhaa
open Go.RowKit

theorem steps1 {B : Nat} {S : Nat → Prop} {w : World} {s : Stp} {a b c d e f g : Value} (h : StpV B S w s [a, b, c, d, e, f, g]) : Steps B (fun b => S b ∨ w.heap.size ≤ b) (w.alloc (.cells #[a, b, c, d, e, f, g] 80)) (.slice (some ⟨w.heap.size, 0, none⟩) 1 1) [s] := by
  refine ⟨_, 1, rfl, Nat.le_refl _, by simp [maxLen], fun _ => ⟨w.heap.size, 0, rfl, .inr (Nat.le_refl _), by simp, fun i x hi => ?_⟩⟩
  have h0 : i = 0 := by have := (List.getElem?_eq_some_iff.1 hi).1; simp at this; omega
  subst h0
  simp at hi
  subst hi
  have hx := Ext.alloc' w (.cells #[a, b, c, d, e, f, g] 80)
  obtain ⟨av, bv, v0, v1, v2, v3, dd, e1, k1, k2, h1, h2, h3⟩ := h
  refine ⟨_, ⟨av, bv, v0, v1, v2, v3, dd, e1, k1, k2, h1.wide (Nat.le_refl _) hx (fun _ h _ => .inl h), h2.wide (Nat.le_refl _) hx (fun _ h _ => .inl h), h3.wide (Nat.le_refl _) hx (fun _ h _ => .inl h) (Nat.le_refl _)⟩, fun k hk => ?_⟩
  have := (Blk.new w 80 #[a, b, c, d, e, f, g]).cell k
  simp [this]

theorem Blk.turn {w w' : World} {F : Nat → Prop} {g : Nat} {t : TypeId} {cs : Array Value} (h : Blk w g t cs) (ht : Turns F w w') (hg : ¬ F g) : Blk w' g t cs := (ht.block g h.lt hg).trans h
theorem Rep.turn {B : Nat} {w w' : World} {gt d : Nat} {t : N} {v : Value} (h : Rep B (fun b => b ≠ gt) w d t v) (ht : Turns (fun b => b = gt) w w') : Rep B (fun b => b ≠ gt) w' d t v := Rep.keep ht.size (fun b hb hl => ht.block b hl hb) (fun _ h _ => h) _ _ _ h
theorem Rep.far {B : Nat} {S : Nat → Prop} {w : World} {gt d : Nat} {t : N} {v : Value} (h : Rep B S w d t v) (hS : ∀ b, S b → b ≠ gt) : Rep B (fun b => b ≠ gt) w d t v := h.wide (Nat.le_refl _) (Below.refl _ _) (fun b h _ => hS b h) (Nat.le_refl _)

/-- the cells of a step -/
theorem Blk.cells7 {w : World} {g : Nat} {t : TypeId} {a b c d e f h : Value} (hb : Blk w g t #[a, b, c, d, e, f, h]) :
    w.cell? ⟨g, 0, none⟩ = some a ∧ w.cell? ⟨g, 1, none⟩ = some b ∧ w.cell? ⟨g, 2, none⟩ = some c ∧ w.cell? ⟨g, 3, none⟩ = some d ∧ w.cell? ⟨g, 4, none⟩ = some e ∧ w.cell? ⟨g, 5, none⟩ = some f ∧ w.cell? ⟨g, 6, none⟩ = some h :=
  ⟨hb.cell 0, hb.cell 1, hb.cell 2, hb.cell 3, hb.cell 4, hb.cell 5, hb.cell 6⟩

/-- from number n on neither place begins the other -/
def Apt (n j : Nat) (a p : List ByteArray) : Prop := n ≤ j → underL a p = false ∧ underL p a = false

/-- what came in, in words -/
structure ThereIn (w : World) (d : Nat) (t : N) (s : Stp) (place : List ByteArray) (v sv pv : Value) : Prop where
  node : Rep B41 (fun b => b < w.heap.size) w d t v
  nodeW : t.wide K41
  step : ∃ cs, sv = .agg cs.toArray ∧ StpV B41 (fun b => b < w.heap.size) w s cs
  stepW : s.n.wide K41
  at_ : Strs (4 * B41) (fun b => b < w.heap.size) w pv place

set_option maxRecDepth 100000 in
set_option maxHeartbeats 4000000 in
theorem there_1 {w : World} {d : Nat} {t : N} {s : Stp} {place : List ByteArray} {v sv pv : Value} (h : ThereIn w d t s place v sv pv) (h1 : 3000 ≤ t.weight) : Calls Try.prog 8 #[v, sv, pv] w fun e w' => e = .returned (.bool true) ∧ Ext w w' := by
  obtain ⟨hn, hnw, ⟨cs, rfl, hs⟩, hsw, hp⟩ := h
  obtain ⟨At, ct, At', ct', rfl⟩ := hn.agg
  have HR := Lib.hid hn
  have HNW := Lib.hid hnw
  have HSV := Lib.hid hs
  have HSW := Lib.hid hsw
  have HP := Lib.hid hp
  obtain ⟨av, bv, v0, v1, v2, v3, dn, rfl, k1, k2, ha, hb, hr⟩ := hs
  have HA := Lib.hid ha
  have HB := Lib.hid hb
  have HRS := Lib.hid hr
  obtain ⟨Aa, ca, rfl, _⟩ := ha
  obtain ⟨Ab, cb, rfl, _⟩ := hb
  obtain ⟨An, cn, An', cn', rfl, rfl, rfl, rfl⟩ := hr.shape
  obtain ⟨Ap, cp, rfl, _, hpm, _⟩ := hp
  unfold maxLen at hpm
  clear hn hnw hsw hr
  go_enter Try.func8, Try.ntmps8
  go_wp2_with fail
  refine (works_any _).mono ?_
  rintro e w1 ⟨rfl, x1⟩
  have HN := Lib.hid (((Blk.new w 25 #[.int .u8 t.kind, .string t.text, .slice At t.names.length ct, .slice At' t.kids.length ct']).alloc (.cells #[.int .u8 s.kind, .slice Aa s.a.length ca, .slice Ab s.b.length cb, .int .u8 s.n.kind, .string s.n.text, .slice An s.n.names.length cn, .slice An' s.n.kids.length cn'] 80)).ext x1)
  have HS := Lib.hid ((Blk.new' (w.alloc (.cells #[.int .u8 t.kind, .string t.text, .slice At t.names.length ct, .slice At' t.kids.length ct'] 25)) 80 #[.int .u8 s.kind, .slice Aa s.a.length ca, .slice Ab s.b.length cb, .int .u8 s.n.kind, .string s.n.text, .slice An s.n.names.length cn, .slice An' s.n.kids.length cn'] (n := w.heap.size + 1) (by simp)).ext x1)
  have X := Lib.hid (((Ext.alloc' w (.cells #[.int .u8 t.kind, .string t.text, .slice At t.names.length ct, .slice At' t.kids.length ct'] 25)).trans' (Ext.alloc' _ _)).trans' x1)
  obtain ⟨p0, p1, p2, p3, _, _, _, _⟩ := HN.out.cells4
  clear x1
  go_wp2_with fail
  refine (weight_any _ _ _ t _ _ (HR.out.ext X.out)).mono ?_
  rintro e w2 ⟨rfl, x2⟩
  have HN := Lib.hid (HN.out.ext x2)
  have HS := Lib.hid (HS.out.ext x2)
  have X := Lib.hid (X.out.trans' x2)
  clear x2 p0 p1 p2 p3
  go_wp2_with fail
  refine (works_any _).mono ?_
  rintro e w9 ⟨rfl, x9⟩
  have X := Lib.hid (X.out.trans' x9)
  clear x9
  go_wp2_with fail
  go_ret
  exact ⟨rfl, X.out⟩

set_option maxRecDepth 100000 in
set_option maxHeartbeats 4000000 in
theorem there_2 {w : World} {d : Nat} {t : N} {s : Stp} {place : List ByteArray} {v sv pv : Value} (h : ThereIn w d t s place v sv pv) (h1 : ¬ 3000 ≤ t.weight) (hl : largeB [s] = true) : Calls Try.prog 8 #[v, sv, pv] w fun e w' => e = .returned (.bool true) ∧ Ext w w' := by
  obtain ⟨hn, hnw, ⟨cs, rfl, hs⟩, hsw, hp⟩ := h
  obtain ⟨At, ct, At', ct', rfl⟩ := hn.agg
  have HR := Lib.hid hn
  have HNW := Lib.hid hnw
  have HSV := Lib.hid hs
  have HSW := Lib.hid hsw
  have HP := Lib.hid hp
  obtain ⟨av, bv, v0, v1, v2, v3, dn, rfl, k1, k2, ha, hb, hr⟩ := hs
  have HA := Lib.hid ha
  have HB := Lib.hid hb
  have HRS := Lib.hid hr
  obtain ⟨Aa, ca, rfl, _⟩ := ha
  obtain ⟨Ab, cb, rfl, _⟩ := hb
  obtain ⟨An, cn, An', cn', rfl, rfl, rfl, rfl⟩ := hr.shape
  obtain ⟨Ap, cp, rfl, _, hpm, _⟩ := hp
  unfold maxLen at hpm
  clear hn hnw hsw hr
  have HL := Lib.hid hl
  clear hl
  go_enter Try.func8, Try.ntmps8
  go_wp2_with fail
  refine (works_any _).mono ?_
  rintro e w1 ⟨rfl, x1⟩
  have HN := Lib.hid (((Blk.new w 25 #[.int .u8 t.kind, .string t.text, .slice At t.names.length ct, .slice At' t.kids.length ct']).alloc (.cells #[.int .u8 s.kind, .slice Aa s.a.length ca, .slice Ab s.b.length cb, .int .u8 s.n.kind, .string s.n.text, .slice An s.n.names.length cn, .slice An' s.n.kids.length cn'] 80)).ext x1)
  have HS := Lib.hid ((Blk.new' (w.alloc (.cells #[.int .u8 t.kind, .string t.text, .slice At t.names.length ct, .slice At' t.kids.length ct'] 25)) 80 #[.int .u8 s.kind, .slice Aa s.a.length ca, .slice Ab s.b.length cb, .int .u8 s.n.kind, .string s.n.text, .slice An s.n.names.length cn, .slice An' s.n.kids.length cn'] (n := w.heap.size + 1) (by simp)).ext x1)
  have X := Lib.hid (((Ext.alloc' w (.cells #[.int .u8 t.kind, .string t.text, .slice At t.names.length ct, .slice At' t.kids.length ct'] 25)).trans' (Ext.alloc' _ _)).trans' x1)
  obtain ⟨p0, p1, p2, p3, _, _, _, _⟩ := HN.out.cells4
  clear x1
  go_wp2_with fail
  refine (weight_any _ _ _ t _ _ (HR.out.ext X.out)).mono ?_
  rintro e w2 ⟨rfl, x2⟩
  have HN := Lib.hid (HN.out.ext x2)
  have HS := Lib.hid (HS.out.ext x2)
  have X := Lib.hid (X.out.trans' x2)
  clear x2 p0 p1 p2 p3
  obtain ⟨p0, p1, p2, p3, p4, p5, p6⟩ := HS.out.cells7
  go_wp2_with fail
  have st := steps1 (HSV.out.ext X.out)
  refine (large_any st).mono ?_
  rw [HL.out]
  rintro e w3 ⟨rfl, x3⟩
  have x3 := (Ext.alloc' w2 (.cells #[.int .u8 s.kind, .slice Aa s.a.length ca, .slice Ab s.b.length cb, .int .u8 s.n.kind, .string s.n.text, .slice An s.n.names.length cn, .slice An' s.n.kids.length cn'] 80)).trans' x3
  have HN := Lib.hid (HN.out.ext x3)
  have HS := Lib.hid (HS.out.ext x3)
  have X := Lib.hid (X.out.trans' x3)
  clear x3 st p0 p1 p2 p3 p4 p5 p6
  go_wp2_with fail
  refine (works_any _).mono ?_
  rintro e w9 ⟨rfl, x9⟩
  have X := Lib.hid (X.out.trans' x9)
  clear x9
  go_wp2_with fail
  go_ret
  exact ⟨rfl, X.out⟩

set_option maxRecDepth 100000 in
set_option maxHeartbeats 4000000 in
theorem there_3 {w : World} {d : Nat} {t : N} {s : Stp} {place : List ByteArray} {v sv pv : Value} (h : ThereIn w d t s place v sv pv) (h1 : ¬ 3000 ≤ t.weight) (hl : largeB [s] = false) (h3 : 60 < place.length) : Calls Try.prog 8 #[v, sv, pv] w fun e w' => e = .returned (.bool true) ∧ Ext w w' := by
  obtain ⟨hn, hnw, ⟨cs, rfl, hs⟩, hsw, hp⟩ := h
  obtain ⟨At, ct, At', ct', rfl⟩ := hn.agg
  have HR := Lib.hid hn
  have HNW := Lib.hid hnw
  have HSV := Lib.hid hs
  have HSW := Lib.hid hsw
  have HP := Lib.hid hp
  obtain ⟨av, bv, v0, v1, v2, v3, dn, rfl, k1, k2, ha, hb, hr⟩ := hs
  have HA := Lib.hid ha
  have HB := Lib.hid hb
  have HRS := Lib.hid hr
  obtain ⟨Aa, ca, rfl, _⟩ := ha
  obtain ⟨Ab, cb, rfl, _⟩ := hb
  obtain ⟨An, cn, An', cn', rfl, rfl, rfl, rfl⟩ := hr.shape
  obtain ⟨Ap, cp, rfl, _, hpm, _⟩ := hp
  unfold maxLen at hpm
  clear hn hnw hsw hr
  have HL := Lib.hid hl
  clear hl
  have h4 : 60 < (place.length : Int) := by omega
  go_enter Try.func8, Try.ntmps8
  go_wp2_with fail
  refine (works_any _).mono ?_
  rintro e w1 ⟨rfl, x1⟩
  have HN := Lib.hid (((Blk.new w 25 #[.int .u8 t.kind, .string t.text, .slice At t.names.length ct, .slice At' t.kids.length ct']).alloc (.cells #[.int .u8 s.kind, .slice Aa s.a.length ca, .slice Ab s.b.length cb, .int .u8 s.n.kind, .string s.n.text, .slice An s.n.names.length cn, .slice An' s.n.kids.length cn'] 80)).ext x1)
  have HS := Lib.hid ((Blk.new' (w.alloc (.cells #[.int .u8 t.kind, .string t.text, .slice At t.names.length ct, .slice At' t.kids.length ct'] 25)) 80 #[.int .u8 s.kind, .slice Aa s.a.length ca, .slice Ab s.b.length cb, .int .u8 s.n.kind, .string s.n.text, .slice An s.n.names.length cn, .slice An' s.n.kids.length cn'] (n := w.heap.size + 1) (by simp)).ext x1)
  have X := Lib.hid (((Ext.alloc' w (.cells #[.int .u8 t.kind, .string t.text, .slice At t.names.length ct, .slice At' t.kids.length ct'] 25)).trans' (Ext.alloc' _ _)).trans' x1)
  obtain ⟨p0, p1, p2, p3, _, _, _, _⟩ := HN.out.cells4
  clear x1
  go_wp2_with fail
  refine (weight_any _ _ _ t _ _ (HR.out.ext X.out)).mono ?_
  rintro e w2 ⟨rfl, x2⟩
  have HN := Lib.hid (HN.out.ext x2)
  have HS := Lib.hid (HS.out.ext x2)
  have X := Lib.hid (X.out.trans' x2)
  clear x2 p0 p1 p2 p3
  obtain ⟨p0, p1, p2, p3, p4, p5, p6⟩ := HS.out.cells7
  go_wp2_with fail
  have st := steps1 (HSV.out.ext X.out)
  refine (large_any st).mono ?_
  rw [HL.out]
  rintro e w3 ⟨rfl, x3⟩
  have x3 := (Ext.alloc' w2 (.cells #[.int .u8 s.kind, .slice Aa s.a.length ca, .slice Ab s.b.length cb, .int .u8 s.n.kind, .string s.n.text, .slice An s.n.names.length cn, .slice An' s.n.kids.length cn'] 80)).trans' x3
  have HN := Lib.hid (HN.out.ext x3)
  have HS := Lib.hid (HS.out.ext x3)
  have X := Lib.hid (X.out.trans' x3)
  clear x3 st p0 p1 p2 p3 p4 p5 p6
  go_wp2_with fail
  refine (works_any _).mono ?_
  rintro e w9 ⟨rfl, x9⟩
  have X := Lib.hid (X.out.trans' x9)
  clear x9
  go_wp2_with fail
  go_ret
  exact ⟨rfl, X.out⟩

set_option maxRecDepth 100000 in
set_option maxHeartbeats 4000000 in
theorem there_4 {w : World} {d : Nat} {t : N} {s : Stp} {place : List ByteArray} {v sv pv : Value} (h : ThereIn w d t s place v sv pv) (h1 : ¬ 3000 ≤ t.weight) (hl : largeB [s] = false) (h3 : ¬ 60 < place.length) (hm : t.may = false) : Calls Try.prog 8 #[v, sv, pv] w fun e w' => e = .returned (.bool true) ∧ Ext w w' := by
  obtain ⟨hn, hnw, ⟨cs, rfl, hs⟩, hsw, hp⟩ := h
  obtain ⟨At, ct, At', ct', rfl⟩ := hn.agg
  have HR := Lib.hid hn
  have HNW := Lib.hid hnw
  have HSV := Lib.hid hs
  have HSW := Lib.hid hsw
  have HP := Lib.hid hp
  obtain ⟨av, bv, v0, v1, v2, v3, dn, rfl, k1, k2, ha, hb, hr⟩ := hs
  have HA := Lib.hid ha
  have HB := Lib.hid hb
  have HRS := Lib.hid hr
  obtain ⟨Aa, ca, rfl, _⟩ := ha
  obtain ⟨Ab, cb, rfl, _⟩ := hb
  obtain ⟨An, cn, An', cn', rfl, rfl, rfl, rfl⟩ := hr.shape
  obtain ⟨Ap, cp, rfl, _, hpm, _⟩ := hp
  unfold maxLen at hpm
  clear hn hnw hsw hr
  have HL := Lib.hid hl
  have HM := Lib.hid hm
  clear hl hm
  have h4 : ¬ 60 < (place.length : Int) := by omega
  go_enter Try.func8, Try.ntmps8
  go_wp2_with fail
  refine (works_any _).mono ?_
  rintro e w1 ⟨rfl, x1⟩
  have HN := Lib.hid (((Blk.new w 25 #[.int .u8 t.kind, .string t.text, .slice At t.names.length ct, .slice At' t.kids.length ct']).alloc (.cells #[.int .u8 s.kind, .slice Aa s.a.length ca, .slice Ab s.b.length cb, .int .u8 s.n.kind, .string s.n.text, .slice An s.n.names.length cn, .slice An' s.n.kids.length cn'] 80)).ext x1)
  have HS := Lib.hid ((Blk.new' (w.alloc (.cells #[.int .u8 t.kind, .string t.text, .slice At t.names.length ct, .slice At' t.kids.length ct'] 25)) 80 #[.int .u8 s.kind, .slice Aa s.a.length ca, .slice Ab s.b.length cb, .int .u8 s.n.kind, .string s.n.text, .slice An s.n.names.length cn, .slice An' s.n.kids.length cn'] (n := w.heap.size + 1) (by simp)).ext x1)
  have X := Lib.hid (((Ext.alloc' w (.cells #[.int .u8 t.kind, .string t.text, .slice At t.names.length ct, .slice At' t.kids.length ct'] 25)).trans' (Ext.alloc' _ _)).trans' x1)
  obtain ⟨p0, p1, p2, p3, _, _, _, _⟩ := HN.out.cells4
  clear x1
  go_wp2_with fail
  refine (weight_any _ _ _ t _ _ (HR.out.ext X.out)).mono ?_
  rintro e w2 ⟨rfl, x2⟩
  have HN := Lib.hid (HN.out.ext x2)
  have HS := Lib.hid (HS.out.ext x2)
  have X := Lib.hid (X.out.trans' x2)
  clear x2 p0 p1 p2 p3
  obtain ⟨p0, p1, p2, p3, p4, p5, p6⟩ := HS.out.cells7
  go_wp2_with fail
  have st := steps1 (HSV.out.ext X.out)
  refine (large_any st).mono ?_
  rw [HL.out]
  rintro e w3 ⟨rfl, x3⟩
  have x3 := (Ext.alloc' w2 (.cells #[.int .u8 s.kind, .slice Aa s.a.length ca, .slice Ab s.b.length cb, .int .u8 s.n.kind, .string s.n.text, .slice An s.n.names.length cn, .slice An' s.n.kids.length cn'] 80)).trans' x3
  have HN := Lib.hid (HN.out.ext x3)
  have HS := Lib.hid (HS.out.ext x3)
  have X := Lib.hid (X.out.trans' x3)
  clear x3 st p0 p1 p2 p3 p4 p5 p6
  obtain ⟨p0, p1, p2, p3, _, _, _, _⟩ := HN.out.cells4
  go_wp2_with fail
  refine (tnew_no (by decide) (HR.out.ext X.out) HM.out).mono ?_
  rintro e w4 ⟨rfl, x4⟩
  have X := Lib.hid (X.out.trans' x4)
  clear x4 p0 p1 p2 p3
  go_wp2_with fail
  go_ret
  exact ⟨rfl, X.out⟩

set_option maxRecDepth 100000 in
set_option maxHeartbeats 4000000 in
theorem there_5 {w : World} {d : Nat} {t : N} {s : Stp} {place : List ByteArray} {v sv pv : Value} (h : ThereIn w d t s place v sv pv) (h1 : ¬ 3000 ≤ t.weight) (hl : largeB [s] = false) (h3 : ¬ 60 < place.length) (hm : t.may = true) : Calls Try.prog 8 #[v, sv, pv] w fun e w' => e = .returned (.bool true) ∧ Ext w w' := by
  obtain ⟨hn, hnw, ⟨cs, rfl, hs⟩, hsw, hp⟩ := h
  obtain ⟨At, ct, At', ct', rfl⟩ := hn.agg
  have HR := Lib.hid hn
  have HNW := Lib.hid hnw
  have HSV := Lib.hid hs
  have HSW := Lib.hid hsw
  have HP := Lib.hid hp
  obtain ⟨av, bv, v0, v1, v2, v3, dn, rfl, k1, k2, ha, hb, hr⟩ := hs
  have HA := Lib.hid ha
  have HB := Lib.hid hb
  have HRS := Lib.hid hr
  obtain ⟨Aa, ca, rfl, _⟩ := ha
  obtain ⟨Ab, cb, rfl, _⟩ := hb
  obtain ⟨An, cn, An', cn', rfl, rfl, rfl, rfl⟩ := hr.shape
  obtain ⟨Ap, cp, rfl, _, hpm, _⟩ := hp
  unfold maxLen at hpm
  clear hn hnw hsw hr
  have HL := Lib.hid hl
  have HM := Lib.hid hm
  have hm2 : t.kind = 2 ∧ t.well = true := by
    unfold N.may at hm
    simp only [Bool.and_eq_true, decide_eq_true_eq] at hm
    exact ⟨hm.1.1.1, hm.1.1.2⟩
  have hd := DirW.of hm2.2 hm2.1
  have HD := Lib.hid hd
  have HW := Lib.hid hm2.2
  have hrd := opN_dir (s := s) hd
  obtain ⟨r, hr⟩ : ∃ r, r = opN s t := ⟨_, rfl⟩
  have HRR := Lib.hid hr
  rw [← hr] at hrd
  have HRD := Lib.hid hrd
  have HRW := Lib.hid hrd.wf
  have hk2 : (r.kind != 2) = false := by have := hrd.kind; simpa using this
  have HRK := Lib.hid (HR.out.narrow (K := K41) (by decide) hm2.2 HNW.out)
  have h4 : ¬ 60 < (place.length : Int) := by omega
  have hfa : t.find s.a = t.get s.a := by unfold N.find; rw [hm2.2]; rfl
  have hfp : t.find place = t.get place := by unfold N.find; rw [hm2.2]; rfl
  have hra : r.find s.a = r.get s.a := by unfold N.find; rw [hrd.wf]; rfl
  have hrb : r.find s.b = r.get s.b := by unfold N.find; rw [hrd.wf]; rfl
  have hrp : r.find place = r.get place := by unfold N.find; rw [hrd.wf]; rfl
  have HFA := Lib.hid hfa
  have HFP := Lib.hid hfp
  have HGA := Lib.hid hra
  have HGB := Lib.hid hrb
  have HGP := Lib.hid hrp
  clear hl hm hm2 hd hrd hr hfa hfp hra hrb hrp
  have hk : s.kind % 4 = 0 ∨ s.kind % 4 = 1 ∨ s.kind % 4 = 2 ∨ s.kind % 4 = 3 := by omega
  go_enter Try.func8, Try.ntmps8
  go_wp2_with fail
  refine (works_any _).mono ?_
  rintro e w1 ⟨rfl, x1⟩
  have HN := Lib.hid (((Blk.new w 25 #[.int .u8 t.kind, .string t.text, .slice At t.names.length ct, .slice At' t.kids.length ct']).alloc (.cells #[.int .u8 s.kind, .slice Aa s.a.length ca, .slice Ab s.b.length cb, .int .u8 s.n.kind, .string s.n.text, .slice An s.n.names.length cn, .slice An' s.n.kids.length cn'] 80)).ext x1)
  have HS := Lib.hid ((Blk.new' (w.alloc (.cells #[.int .u8 t.kind, .string t.text, .slice At t.names.length ct, .slice At' t.kids.length ct'] 25)) 80 #[.int .u8 s.kind, .slice Aa s.a.length ca, .slice Ab s.b.length cb, .int .u8 s.n.kind, .string s.n.text, .slice An s.n.names.length cn, .slice An' s.n.kids.length cn'] (n := w.heap.size + 1) (by simp)).ext x1)
  have X := Lib.hid (((Ext.alloc' w (.cells #[.int .u8 t.kind, .string t.text, .slice At t.names.length ct, .slice At' t.kids.length ct'] 25)).trans' (Ext.alloc' _ _)).trans' x1)
  obtain ⟨p0, p1, p2, p3, _, _, _, _⟩ := HN.out.cells4
  clear x1
  go_wp2_with fail
  refine (weight_any _ _ _ t _ _ (HR.out.ext X.out)).mono ?_
  rintro e w2 ⟨rfl, x2⟩
  have HN := Lib.hid (HN.out.ext x2)
  have HS := Lib.hid (HS.out.ext x2)
  have X := Lib.hid (X.out.trans' x2)
  clear x2 p0 p1 p2 p3
  obtain ⟨p0, p1, p2, p3, p4, p5, p6⟩ := HS.out.cells7
  go_wp2_with fail
  have st := steps1 (HSV.out.ext X.out)
  refine (large_any st).mono ?_
  rw [HL.out]
  rintro e w3 ⟨rfl, x3⟩
  have x3 := (Ext.alloc' w2 (.cells #[.int .u8 s.kind, .slice Aa s.a.length ca, .slice Ab s.b.length cb, .int .u8 s.n.kind, .string s.n.text, .slice An s.n.names.length cn, .slice An' s.n.kids.length cn'] 80)).trans' x3
  have HN := Lib.hid (HN.out.ext x3)
  have HS := Lib.hid (HS.out.ext x3)
  have X := Lib.hid (X.out.trans' x3)
  clear x3 st p0 p1 p2 p3 p4 p5 p6
  obtain ⟨p0, p1, p2, p3, _, _, _, _⟩ := HN.out.cells4
  go_wp2_with fail
  refine (tnew_any (by decide) (HRK.out.ext X.out) HM.out).mono ?_
  rintro e w4 ⟨gt, rfl, hgt, x4, tr⟩
  have hng : w.heap.size + 1 < gt := by have := HS.out.lt; omega
  have hgl := tr.lt
  have HN := Lib.hid (HN.out.ext x4)
  have HS := Lib.hid (HS.out.ext x4)
  have X := Lib.hid (X.out.trans' x4)
  have TR := Lib.hid (show TreeAt K41 (fun b => b ≠ gt) w4 gt d t from tr.keep (Nat.le_refl _) (Nat.le_refl _) (Nat.le_refl _) rfl (fun _ _ _ => rfl) (fun b h _ => h.2) (fun b h => h))
  clear x4 tr hgt p0 p1 p2 p3
  go_wp2_with fail
  refine (troot_any (by decide) TR.out).mono ?_
  rintro e w5 ⟨A9, c9, A9', c9', rfl, x5, r9⟩
  have R9 := Lib.hid (r9.far (gt := gt) (fun b h => by have := h.1; omega))
  have HN := Lib.hid (HN.out.ext x5)
  have HS := Lib.hid (HS.out.ext x5)
  have TR := Lib.hid (TR.out.ext x5)
  have X := Lib.hid (X.out.trans' x5)
  have z5 := x5.size
  clear x5 r9
  obtain ⟨hs_0, hs_1, hs_2, hs_3, hs_4, hs_5, hs_6⟩ := HS.out.cells7
  have hs_l := HS.out.lt
  go_wp2_with fail
  clear hs_0 hs_1 hs_2 hs_3 hs_4 hs_5 hs_6 hs_l
  have hx := Ext.alloc' w5 (.cells #[.int .u8 (t).kind, .string (t).text, .slice A9 (t).names.length c9, .slice A9' (t).kids.length c9'] 25)
  have B9 := Lib.hid (Blk.new w5 25 #[.int .u8 (t).kind, .string (t).text, .slice A9 (t).names.length c9, .slice A9' (t).kids.length c9'])
  have HN := Lib.hid (HN.out.ext hx)
  have HS := Lib.hid (HS.out.ext hx)
  have TR := Lib.hid (TR.out.ext hx)
  have X := Lib.hid (X.out.trans' hx)
  have R9 := Lib.hid (R9.out.ext hx)
  clear hx
  have z5' : gt < w5.heap.size := by omega
  refine (at_any K41 _ (by decide) _ _ _ _ _ _ _ _ R9.out (HA.out.ext X.out)).mono ?_
  rw [HFA.out]
  rintro e w6 ⟨vx, rfl, xx, rx⟩
  obtain ⟨A10, c10, A10', c10', rfl⟩ := rx.agg
  have R10 := Lib.hid (rx.far (gt := gt) (fun b h => by (try simp only [World.size_alloc] at h); omega))
  have HN := Lib.hid (HN.out.ext xx)
  have HS := Lib.hid (HS.out.ext xx)
  have TR := Lib.hid (TR.out.ext xx)
  have B9 := Lib.hid (B9.out.ext xx)
  have R9 := Lib.hid (R9.out.ext xx)
  have X := Lib.hid (X.out.trans' xx)
  have z10 := xx.size
  have zz10 : gt < w6.heap.size := by (try simp only [World.size_alloc] at z10); omega
  clear xx rx
  obtain ⟨b9_0, b9_1, b9_2, b9_3, _, _, _, _⟩ := B9.out.cells4
  have b9_l := B9.out.lt
  go_wp2_with fail
  clear b9_0 b9_1 b9_2 b9_3 b9_l
  have hx := Ext.alloc' w6 (.cells #[.int .u8 ((t.get s.a).getD N.zero).kind, .string ((t.get s.a).getD N.zero).text, .slice A10 ((t.get s.a).getD N.zero).names.length c10, .slice A10' ((t.get s.a).getD N.zero).kids.length c10'] 25)
  have B10 := Lib.hid (Blk.new w6 25 #[.int .u8 ((t.get s.a).getD N.zero).kind, .string ((t.get s.a).getD N.zero).text, .slice A10 ((t.get s.a).getD N.zero).names.length c10, .slice A10' ((t.get s.a).getD N.zero).kids.length c10'])
  have HN := Lib.hid (HN.out.ext hx)
  have HS := Lib.hid (HS.out.ext hx)
  have TR := Lib.hid (TR.out.ext hx)
  have B9 := Lib.hid (B9.out.ext hx)
  have R9 := Lib.hid (R9.out.ext hx)
  have X := Lib.hid (X.out.trans' hx)
  have R10 := Lib.hid (R10.out.ext hx)
  clear hx
  refine (at_any K41 _ (by decide) _ _ _ _ _ _ _ _ R9.out (HP.out.ext X.out)).mono ?_
  rw [HFP.out]
  rintro e w7 ⟨vx, rfl, xx, rx⟩
  obtain ⟨A12, c12, A12', c12', rfl⟩ := rx.agg
  have R12 := Lib.hid (rx.far (gt := gt) (fun b h => by (try simp only [World.size_alloc] at h); omega))
  have HN := Lib.hid (HN.out.ext xx)
  have HS := Lib.hid (HS.out.ext xx)
  have TR := Lib.hid (TR.out.ext xx)
  have B9 := Lib.hid (B9.out.ext xx)
  have R9 := Lib.hid (R9.out.ext xx)
  have B10 := Lib.hid (B10.out.ext xx)
  have R10 := Lib.hid (R10.out.ext xx)
  have X := Lib.hid (X.out.trans' xx)
  have z12 := xx.size
  have zz12 : gt < w7.heap.size := by (try simp only [World.size_alloc] at z12); omega
  clear xx rx
  obtain ⟨hs_0, hs_1, hs_2, hs_3, hs_4, hs_5, hs_6⟩ := HS.out.cells7
  have hs_l := HS.out.lt
  rcases hk with hk | hk | hk | hk
  all_goals
    first
    | (have kk0 : (s.kind % 4 == 0) = true := (by rw [hk]; rfl); have kk1 : (s.kind % 4 == 1) = false := (by rw [hk]; rfl); have kk2 : (s.kind % 4 == 2) = false := (by rw [hk]; rfl); have kk3 : (s.kind % 4 == 3) = false := (by rw [hk]; rfl); have kl : decide (s.kind % 4 < 2) = true := (by rw [hk]; rfl))
    | (have kk0 : (s.kind % 4 == 0) = false := (by rw [hk]; rfl); have kk1 : (s.kind % 4 == 1) = true := (by rw [hk]; rfl); have kk2 : (s.kind % 4 == 2) = false := (by rw [hk]; rfl); have kk3 : (s.kind % 4 == 3) = false := (by rw [hk]; rfl); have kl : decide (s.kind % 4 < 2) = true := (by rw [hk]; rfl))
    | (have kk0 : (s.kind % 4 == 0) = false := (by rw [hk]; rfl); have kk1 : (s.kind % 4 == 1) = false := (by rw [hk]; rfl); have kk2 : (s.kind % 4 == 2) = true := (by rw [hk]; rfl); have kk3 : (s.kind % 4 == 3) = false := (by rw [hk]; rfl); have kl : decide (s.kind % 4 < 2) = false := (by rw [hk]; rfl))
    | (have kk0 : (s.kind % 4 == 0) = false := (by rw [hk]; rfl); have kk1 : (s.kind % 4 == 1) = false := (by rw [hk]; rfl); have kk2 : (s.kind % 4 == 2) = false := (by rw [hk]; rfl); have kk3 : (s.kind % 4 == 3) = true := (by rw [hk]; rfl); have kl : decide (s.kind % 4 < 2) = false := (by rw [hk]; rfl))
    have HK := Lib.hid hk
    clear hk
  all_goals go_wp2_with fail
  all_goals
    clear hs_0 hs_1 hs_2 hs_3 hs_4 hs_5 hs_6 hs_l
    have hx := Ext.alloc' w7 (.cells #[.int .u8 ((t.get place).getD N.zero).kind, .string ((t.get place).getD N.zero).text, .slice A12 ((t.get place).getD N.zero).names.length c12, .slice A12' ((t.get place).getD N.zero).kids.length c12'] 25)
    have B12 := Lib.hid (Blk.new w7 25 #[.int .u8 ((t.get place).getD N.zero).kind, .string ((t.get place).getD N.zero).text, .slice A12 ((t.get place).getD N.zero).names.length c12, .slice A12' ((t.get place).getD N.zero).kids.length c12'])
    have HN := Lib.hid (HN.out.ext hx)
    have HS := Lib.hid (HS.out.ext hx)
    have TR := Lib.hid (TR.out.ext hx)
    have B9 := Lib.hid (B9.out.ext hx)
    have R9 := Lib.hid (R9.out.ext hx)
    have B10 := Lib.hid (B10.out.ext hx)
    have R10 := Lib.hid (R10.out.ext hx)
    have X := Lib.hid (X.out.trans' hx)
    have R12 := Lib.hid (R12.out.ext hx)
    clear hx
    first
    | (go_at_call 44; refine (tput_any' (B := K41) (Bx := B41) (by decide) (by decide) TR.out HW.out (HA.out.ext X.out) (HRS.out.ext X.out) (fun h => (HRS.out.narrow (K := K41) (by decide) h HSW.out).ext X.out)).mono ?_; rw [opN0 HK.out, ← HRR.out])
    | (go_at_call 45; refine (tdel_any (B := K41) (by decide) TR.out HW.out (HA.out.ext X.out)).mono ?_; rw [opN1 HK.out, ← HRR.out])
    | (go_at_call 46; refine (tmove_any (B := K41) (by decide) TR.out HW.out (HA.out.ext X.out) (HB.out.ext X.out) (fun b h => by omega)).mono ?_; rw [opN2 HK.out, ← HRR.out])
    | (go_at_call 47; refine (tcopy_any (B := K41) (by decide) TR.out HW.out (HA.out.ext X.out) (HB.out.ext X.out)).mono ?_; rw [opN3 HK.out, ← HRR.out])
    rintro e w8 ⟨rfl, t8, tr⟩
    obtain ⟨d8, TR⟩ : ∃ d8, Hid (TreeAt (K41 + 2) (fun b => b ≠ gt) w8 gt d8 r) := ⟨_, Lib.hid (tr.keep (by decide) (Nat.le_refl _) (Nat.le_refl _) rfl (fun _ _ _ => rfl) (fun b h _ => tr.ne h) (fun b h => h))⟩
    clear tr
    have HN := Lib.hid (HN.out.turn t8 (by omega))
    have HS := Lib.hid (HS.out.turn t8 (by omega))
    have B9 := Lib.hid (B9.out.turn t8 (by omega))
    have B10 := Lib.hid (B10.out.turn t8 (by omega))
    have B12 := Lib.hid (B12.out.turn t8 (by omega))
    have R9 := Lib.hid (R9.out.turn t8)
    have R10 := Lib.hid (R10.out.turn t8)
    have R12 := Lib.hid (R12.out.turn t8)
    have X := Lib.hid (X.out.turns t8 (fun b h => by omega))
    have z8 : gt < w8.heap.size := TR.out.lt
    clear t8
    go_wp2_with fail
    refine (troot_any (by decide) TR.out).mono ?_
    rintro e w9 ⟨A14, c14, A14', c14', rfl, x9, r14⟩
    have R14 := Lib.hid (r14.far (gt := gt) (fun b h => by have := h.1; omega))
    have HN := Lib.hid (HN.out.ext x9)
    have HS := Lib.hid (HS.out.ext x9)
    have TR := Lib.hid (TR.out.ext x9)
    have B9 := Lib.hid (B9.out.ext x9)
    have R9 := Lib.hid (R9.out.ext x9)
    have B10 := Lib.hid (B10.out.ext x9)
    have R10 := Lib.hid (R10.out.ext x9)
    have B12 := Lib.hid (B12.out.ext x9)
    have R12 := Lib.hid (R12.out.ext x9)
    have X := Lib.hid (X.out.trans' x9)
    have z9 := x9.size
    clear x9 r14
    go_wp2_with fail
    have hx := Ext.alloc' w9 (.cells #[.int .u8 (r).kind, .string (r).text, .slice A14 (r).names.length c14, .slice A14' (r).kids.length c14'] 25)
    have B14 := Lib.hid (Blk.new w9 25 #[.int .u8 (r).kind, .string (r).text, .slice A14 (r).names.length c14, .slice A14' (r).kids.length c14'])
    have HN := Lib.hid (HN.out.ext hx)
    have HS := Lib.hid (HS.out.ext hx)
    have TR := Lib.hid (TR.out.ext hx)
    have B9 := Lib.hid (B9.out.ext hx)
    have R9 := Lib.hid (R9.out.ext hx)
    have B10 := Lib.hid (B10.out.ext hx)
    have R10 := Lib.hid (R10.out.ext hx)
    have B12 := Lib.hid (B12.out.ext hx)
    have R12 := Lib.hid (R12.out.ext hx)
    have X := Lib.hid (X.out.trans' hx)
    have R14 := Lib.hid (R14.out.ext hx)
    clear hx
    have z9' : gt < w9.heap.size := by omega
    refine (well_any _ (by decide) _ _ _ _ _ R14.out).mono ?_
    rw [HRW.out]
    rintro e w10 ⟨rfl, x10⟩
    have HN := Lib.hid (HN.out.ext x10)
    have HS := Lib.hid (HS.out.ext x10)
    have TR := Lib.hid (TR.out.ext x10)
    have B9 := Lib.hid (B9.out.ext x10)
    have R9 := Lib.hid (R9.out.ext x10)
    have B10 := Lib.hid (B10.out.ext x10)
    have R10 := Lib.hid (R10.out.ext x10)
    have B12 := Lib.hid (B12.out.ext x10)
    have R12 := Lib.hid (R12.out.ext x10)
    have B14 := Lib.hid (B14.out.ext x10)
    have R14 := Lib.hid (R14.out.ext x10)
    have X := Lib.hid (X.out.trans' x10)
    have z10 := x10.size
    have z10' : gt < w10.heap.size := by (try simp only [World.size_alloc] at z10); omega
    clear x10
    obtain ⟨b14_0, b14_1, b14_2, b14_3, _, _, _, _⟩ := B14.out.cells4
    have b14_l := B14.out.lt
    obtain ⟨hs_0, hs_1, hs_2, hs_3, hs_4, hs_5, hs_6⟩ := HS.out.cells7
    have hs_l := HS.out.lt
    go_wp2_with fail
    clear b14_0 b14_1 b14_2 b14_3 b14_l hs_0 hs_1 hs_2 hs_3 hs_4 hs_5 hs_6 hs_l
    refine (at_any (K41 + 2) _ (by decide) _ _ _ _ _ _ _ _ R14.out (HA.out.ext X.out)).mono ?_
    rw [HGA.out]
    rintro e w11 ⟨vx, rfl, xx, rx⟩
    obtain ⟨A15, c15, A15', c15', rfl⟩ := rx.agg
    have R15 := Lib.hid (rx.far (gt := gt) (fun b h => by (try simp only [World.size_alloc] at h); omega))
    have HN := Lib.hid (HN.out.ext xx)
    have HS := Lib.hid (HS.out.ext xx)
    have TR := Lib.hid (TR.out.ext xx)
    have B9 := Lib.hid (B9.out.ext xx)
    have R9 := Lib.hid (R9.out.ext xx)
    have B10 := Lib.hid (B10.out.ext xx)
    have R10 := Lib.hid (R10.out.ext xx)
    have B12 := Lib.hid (B12.out.ext xx)
    have R12 := Lib.hid (R12.out.ext xx)
    have B14 := Lib.hid (B14.out.ext xx)
    have R14 := Lib.hid (R14.out.ext xx)
    have X := Lib.hid (X.out.trans' xx)
    have z15 := xx.size
    have zz15 : gt < w11.heap.size := by (try simp only [World.size_alloc] at z15); omega
    clear xx rx
    obtain ⟨b14_0, b14_1, b14_2, b14_3, _, _, _, _⟩ := B14.out.cells4
    have b14_l := B14.out.lt
    obtain ⟨hs_0, hs_1, hs_2, hs_3, hs_4, hs_5, hs_6⟩ := HS.out.cells7
    have hs_l := HS.out.lt
    go_wp2_with fail
    clear b14_0 b14_1 b14_2 b14_3 b14_l hs_0 hs_1 hs_2 hs_3 hs_4 hs_5 hs_6 hs_l
    have hx := Ext.alloc' w11 (.cells #[.int .u8 ((r.get s.a).getD N.zero).kind, .string ((r.get s.a).getD N.zero).text, .slice A15 ((r.get s.a).getD N.zero).names.length c15, .slice A15' ((r.get s.a).getD N.zero).kids.length c15'] 25)
    have B15 := Lib.hid (Blk.new w11 25 #[.int .u8 ((r.get s.a).getD N.zero).kind, .string ((r.get s.a).getD N.zero).text, .slice A15 ((r.get s.a).getD N.zero).names.length c15, .slice A15' ((r.get s.a).getD N.zero).kids.length c15'])
    have HN := Lib.hid (HN.out.ext hx)
    have HS := Lib.hid (HS.out.ext hx)
    have TR := Lib.hid (TR.out.ext hx)
    have B9 := Lib.hid (B9.out.ext hx)
    have R9 := Lib.hid (R9.out.ext hx)
    have B10 := Lib.hid (B10.out.ext hx)
    have R10 := Lib.hid (R10.out.ext hx)
    have B12 := Lib.hid (B12.out.ext hx)
    have R12 := Lib.hid (R12.out.ext hx)
    have B14 := Lib.hid (B14.out.ext hx)
    have R14 := Lib.hid (R14.out.ext hx)
    have X := Lib.hid (X.out.trans' hx)
    have R15 := Lib.hid (R15.out.ext hx)
    clear hx
    refine (at_any (K41 + 2) _ (by decide) _ _ _ _ _ _ _ _ R14.out (HB.out.ext X.out)).mono ?_
    rw [HGB.out]
    rintro e w12 ⟨vx, rfl, xx, rx⟩
    obtain ⟨A17, c17, A17', c17', rfl⟩ := rx.agg
    have R17 := Lib.hid (rx.far (gt := gt) (fun b h => by (try simp only [World.size_alloc] at h); omega))
    have HN := Lib.hid (HN.out.ext xx)
    have HS := Lib.hid (HS.out.ext xx)
    have TR := Lib.hid (TR.out.ext xx)
    have B9 := Lib.hid (B9.out.ext xx)
    have R9 := Lib.hid (R9.out.ext xx)
    have B10 := Lib.hid (B10.out.ext xx)
    have R10 := Lib.hid (R10.out.ext xx)
    have B12 := Lib.hid (B12.out.ext xx)
    have R12 := Lib.hid (R12.out.ext xx)
    have B14 := Lib.hid (B14.out.ext xx)
    have R14 := Lib.hid (R14.out.ext xx)
    have B15 := Lib.hid (B15.out.ext xx)
    have R15 := Lib.hid (R15.out.ext xx)
    have X := Lib.hid (X.out.trans' xx)
    have z17 := xx.size
    have zz17 : gt < w12.heap.size := by (try simp only [World.size_alloc] at z17); omega
    clear xx rx
    obtain ⟨b9_0, b9_1, b9_2, b9_3, _, _, _, _⟩ := B9.out.cells4
    have b9_l := B9.out.lt
    obtain ⟨b14_0, b14_1, b14_2, b14_3, _, _, _, _⟩ := B14.out.cells4
    have b14_l := B14.out.lt
    go_wp2_with fail
    clear b9_0 b9_1 b9_2 b9_3 b9_l b14_0 b14_1 b14_2 b14_3 b14_l
    have hx := Ext.alloc' w12 (.cells #[.int .u8 ((r.get s.b).getD N.zero).kind, .string ((r.get s.b).getD N.zero).text, .slice A17 ((r.get s.b).getD N.zero).names.length c17, .slice A17' ((r.get s.b).getD N.zero).kids.length c17'] 25)
    have B17 := Lib.hid (Blk.new w12 25 #[.int .u8 ((r.get s.b).getD N.zero).kind, .string ((r.get s.b).getD N.zero).text, .slice A17 ((r.get s.b).getD N.zero).names.length c17, .slice A17' ((r.get s.b).getD N.zero).kids.length c17'])
    have HN := Lib.hid (HN.out.ext hx)
    have HS := Lib.hid (HS.out.ext hx)
    have TR := Lib.hid (TR.out.ext hx)
    have B9 := Lib.hid (B9.out.ext hx)
    have R9 := Lib.hid (R9.out.ext hx)
    have B10 := Lib.hid (B10.out.ext hx)
    have R10 := Lib.hid (R10.out.ext hx)
    have B12 := Lib.hid (B12.out.ext hx)
    have R12 := Lib.hid (R12.out.ext hx)
    have B14 := Lib.hid (B14.out.ext hx)
    have R14 := Lib.hid (R14.out.ext hx)
    have B15 := Lib.hid (B15.out.ext hx)
    have R15 := Lib.hid (R15.out.ext hx)
    have X := Lib.hid (X.out.trans' hx)
    have R17 := Lib.hid (R17.out.ext hx)
    clear hx
    obtain ⟨bs, hbs⟩ : ∃ b, t.same r = b := ⟨_, rfl⟩
    have HSR := Lib.hid hbs
    clear hbs
    refine (same7_any _ _ _ _ _ _ t r _ _ _ R9.out R14.out).mono ?_
    rw [HSR.out]
    rintro e w13 ⟨rfl, x13⟩
    have HN := Lib.hid (HN.out.ext x13)
    have HS := Lib.hid (HS.out.ext x13)
    have TR := Lib.hid (TR.out.ext x13)
    have B9 := Lib.hid (B9.out.ext x13)
    have R9 := Lib.hid (R9.out.ext x13)
    have B10 := Lib.hid (B10.out.ext x13)
    have R10 := Lib.hid (R10.out.ext x13)
    have B12 := Lib.hid (B12.out.ext x13)
    have R12 := Lib.hid (R12.out.ext x13)
    have B14 := Lib.hid (B14.out.ext x13)
    have R14 := Lib.hid (R14.out.ext x13)
    have B15 := Lib.hid (B15.out.ext x13)
    have R15 := Lib.hid (R15.out.ext x13)
    have B17 := Lib.hid (B17.out.ext x13)
    have R17 := Lib.hid (R17.out.ext x13)
    have X := Lib.hid (X.out.trans' x13)
    clear x13
    obtain ⟨hs_0, hs_1, hs_2, hs_3, hs_4, hs_5, hs_6⟩ := HS.out.cells7; obtain ⟨b15_0, b15_1, b15_2, b15_3, _, _, _, _⟩ := B15.out.cells4; obtain ⟨b17_0, b17_1, b17_2, b17_3, _, _, _, _⟩ := B17.out.cells4; obtain ⟨b10_0, b10_1, b10_2, b10_3, _, _, _, _⟩ := B10.out.cells4
    cases bs
    case' false =>
      have hsf : t.same (opN s t) = false := HRR.out ▸ HSR.out
      first
      | (obtain ⟨q1, q2⟩ := op_put HD.out HK.out hsf; rw [← HRR.out] at q1 q2; have Q2 := Lib.hid q2; clear q2)
      | (obtain ⟨q1, q2, q3, q4⟩ := op_move HD.out HK.out hsf; rw [← HRR.out] at q1 q2 q3; have Q3 := Lib.hid q3; clear q3)
      | (obtain ⟨q1, q2, q3, q4⟩ := op_copy HD.out HK.out hsf; rw [← HRR.out] at q1 q2 q3 q4; have Q3 := Lib.hid q3; have Q4 := Lib.hid q4; clear q3 q4)
      | (by_cases ha : 0 < s.a.length; (have q1 := op_del' HD.out HK.out ha; rw [← HRR.out] at q1); (have q1 : True := trivial))
      clear hsf
    case' true =>
      first
      | (by_cases ha : 0 < s.a.length; (have q1 := op_del' HD.out HK.out ha; rw [← HRR.out] at q1); (have q1 : True := trivial))
      | skip
    all_goals go_wp2_with fail
    all_goals
      first
      | (go_at_call 20; (with_reducible refine (same7_any _ _ _ _ _ _ _ _ _ _ _ R15.out (HRS.out.ext X.out)).mono ?_); rw [Q2.out]; rintro e w14 ⟨rfl, x14⟩; have HN := Lib.hid (HN.out.ext x14); have HS := Lib.hid (HS.out.ext x14); have TR := Lib.hid (TR.out.ext x14); have B9 := Lib.hid (B9.out.ext x14); have R9 := Lib.hid (R9.out.ext x14); have B10 := Lib.hid (B10.out.ext x14); have R10 := Lib.hid (R10.out.ext x14); have B12 := Lib.hid (B12.out.ext x14); have R12 := Lib.hid (R12.out.ext x14); have B14 := Lib.hid (B14.out.ext x14); have R14 := Lib.hid (R14.out.ext x14); have B15 := Lib.hid (B15.out.ext x14); have R15 := Lib.hid (R15.out.ext x14); have B17 := Lib.hid (B17.out.ext x14); have R17 := Lib.hid (R17.out.ext x14); have X := Lib.hid (X.out.trans' x14); clear x14 hs_0 hs_1 hs_2 hs_3 hs_4 hs_5 hs_6 b15_0 b15_1 b15_2 b15_3 b17_0 b17_1 b17_2 b17_3 b10_0 b10_1 b10_2 b10_3; obtain ⟨hs_0, hs_1, hs_2, hs_3, hs_4, hs_5, hs_6⟩ := HS.out.cells7; obtain ⟨b15_0, b15_1, b15_2, b15_3, _, _, _, _⟩ := B15.out.cells4; obtain ⟨b17_0, b17_1, b17_2, b17_3, _, _, _, _⟩ := B17.out.cells4; obtain ⟨b10_0, b10_1, b10_2, b10_3, _, _, _, _⟩ := B10.out.cells4; go_wp2_with fail)
      | (go_at_call 20; (with_reducible refine (same7_any _ _ _ _ _ _ _ _ _ _ _ R17.out R10.out).mono ?_); rw [Q3.out]; rintro e w14 ⟨rfl, x14⟩; have HN := Lib.hid (HN.out.ext x14); have HS := Lib.hid (HS.out.ext x14); have TR := Lib.hid (TR.out.ext x14); have B9 := Lib.hid (B9.out.ext x14); have R9 := Lib.hid (R9.out.ext x14); have B10 := Lib.hid (B10.out.ext x14); have R10 := Lib.hid (R10.out.ext x14); have B12 := Lib.hid (B12.out.ext x14); have R12 := Lib.hid (R12.out.ext x14); have B14 := Lib.hid (B14.out.ext x14); have R14 := Lib.hid (R14.out.ext x14); have B15 := Lib.hid (B15.out.ext x14); have R15 := Lib.hid (R15.out.ext x14); have B17 := Lib.hid (B17.out.ext x14); have R17 := Lib.hid (R17.out.ext x14); have X := Lib.hid (X.out.trans' x14); clear x14 hs_0 hs_1 hs_2 hs_3 hs_4 hs_5 hs_6 b15_0 b15_1 b15_2 b15_3 b17_0 b17_1 b17_2 b17_3 b10_0 b10_1 b10_2 b10_3; obtain ⟨hs_0, hs_1, hs_2, hs_3, hs_4, hs_5, hs_6⟩ := HS.out.cells7; obtain ⟨b15_0, b15_1, b15_2, b15_3, _, _, _, _⟩ := B15.out.cells4; obtain ⟨b17_0, b17_1, b17_2, b17_3, _, _, _, _⟩ := B17.out.cells4; obtain ⟨b10_0, b10_1, b10_2, b10_3, _, _, _, _⟩ := B10.out.cells4; go_wp2_with fail)
      | skip
    all_goals
      first
      | (go_at_call 20; (with_reducible refine (same7_any _ _ _ _ _ _ _ _ _ _ _ R15.out R10.out).mono ?_); rw [Q4.out]; rintro e w15 ⟨rfl, x14⟩; have HN := Lib.hid (HN.out.ext x14); have HS := Lib.hid (HS.out.ext x14); have TR := Lib.hid (TR.out.ext x14); have B9 := Lib.hid (B9.out.ext x14); have R9 := Lib.hid (R9.out.ext x14); have B10 := Lib.hid (B10.out.ext x14); have R10 := Lib.hid (R10.out.ext x14); have B12 := Lib.hid (B12.out.ext x14); have R12 := Lib.hid (R12.out.ext x14); have B14 := Lib.hid (B14.out.ext x14); have R14 := Lib.hid (R14.out.ext x14); have B15 := Lib.hid (B15.out.ext x14); have R15 := Lib.hid (R15.out.ext x14); have B17 := Lib.hid (B17.out.ext x14); have R17 := Lib.hid (R17.out.ext x14); have X := Lib.hid (X.out.trans' x14); clear x14 hs_0 hs_1 hs_2 hs_3 hs_4 hs_5 hs_6 b15_0 b15_1 b15_2 b15_3 b17_0 b17_1 b17_2 b17_3 b10_0 b10_1 b10_2 b10_3; obtain ⟨hs_0, hs_1, hs_2, hs_3, hs_4, hs_5, hs_6⟩ := HS.out.cells7; obtain ⟨b15_0, b15_1, b15_2, b15_3, _, _, _, _⟩ := B15.out.cells4; obtain ⟨b17_0, b17_1, b17_2, b17_3, _, _, _, _⟩ := B17.out.cells4; obtain ⟨b10_0, b10_1, b10_2, b10_3, _, _, _, _⟩ := B10.out.cells4; go_wp2_with fail)
      | skip
    all_goals
      rename World => wz
      have hbe : ((t.get place).isSome == (t.get place).isSome) = true := by simp
      clear hs_0 hs_1 hs_2 hs_3 hs_4 hs_5 hs_6 b15_0 b15_1 b15_2 b15_3 b17_0 b17_1 b17_2 b17_3 b10_0 b10_1 b10_2 b10_3
      clear z5 z5' zz10 zz12 z10 z12 z8 z9 z9' z15 z17 zz15 zz17 hgl
      go_loopw [20] (fun i wr => ∃ j : Nat, j ≤ 2 ∧ i = .int .i64 j ∧ Ext wz wr ∧ Apt 1 j s.a place ∧ Apt 2 j s.b place) (fun i _ => 2 - (intOf i).toNat)
      case atStart => exact ⟨0, by omega, rfl, Below.refl _ _, fun h => by omega, fun h => by omega⟩
      case round =>
        obtain ⟨j, hj, rfl, hx, h1f, h2f⟩ := hrel
        have HSw := Lib.hid (HS.out.ext hx)
        have B14w := Lib.hid (B14.out.ext hx)
        have B12w := Lib.hid (B12.out.ext hx)
        have R14w := Lib.hid (R14.out.ext hx)
        have R12w := Lib.hid (R12.out.ext hx)
        have Xw := Lib.hid (X.out.trans' hx)
        have HXR := Lib.hid hx
        have H1F := Lib.hid h1f
        have H2F := Lib.hid h2f
        clear hx h1f h2f
        rcases (by omega : j = 0 ∨ j = 1 ∨ j = 2) with rfl | rfl | rfl
        · skip
          obtain ⟨s0, s1, s2, s3, s4, s5, s6⟩ := HSw.out.cells7
          cases ua : underL s.a place
          · have UA := Lib.hid ua
            clear ua
            go_wp2_with fail
            (with_reducible refine (under6_any (HA.out.ext Xw.out) (HP.out.ext Xw.out)).mono ?_)
            rw [UA.out]
            rintro e wu ⟨rfl, xu⟩
            have XU := Lib.hid xu
            clear xu
            cases ub : underL place s.a
            · have UB := Lib.hid ub
              clear ub
              go_wp2_with fail
              (with_reducible refine (under6_any (HP.out.ext (Xw.out.trans' XU.out)) (HA.out.ext (Xw.out.trans' XU.out))).mono ?_)
              rw [UB.out]
              rintro e wv ⟨rfl, xv⟩
              have XV := Lib.hid (XU.out.trans' xv)
              clear xv s0 s1 s2 s3 s4 s5 s6
              go_wp2_with fail
              go_roundw
              case rel => exact ⟨1, by omega, by go_num, HXR.out.trans' XV.out, fun _ => ⟨UA.out, UB.out⟩, fun h => by omega⟩
              case measure => simp [intOf]
            · have UB := Lib.hid ub
              clear ub
              go_wp2_with fail
              (with_reducible refine (under6_any (HP.out.ext (Xw.out.trans' XU.out)) (HA.out.ext (Xw.out.trans' XU.out))).mono ?_)
              rw [UB.out]
              rintro e wv ⟨rfl, xv⟩
              have XV := Lib.hid (XU.out.trans' xv)
              clear xv s0 s1 s2 s3 s4 s5 s6
              go_wp2_with fail
              go_ret
              exact ⟨rfl, Xw.out.trans' XV.out⟩
          · have UA := Lib.hid ua
            clear ua
            go_wp2_with fail
            (with_reducible refine (under6_any (HA.out.ext Xw.out) (HP.out.ext Xw.out)).mono ?_)
            rw [UA.out]
            rintro e wu ⟨rfl, xu⟩
            have XU := Lib.hid xu
            clear xu s0 s1 s2 s3 s4 s5 s6
            go_wp2_with fail
            go_ret
            exact ⟨rfl, Xw.out.trans' XU.out⟩
        · by_cases hk2 : s.kind % 4 < 2
          · first
            | exact absurd hk2 (of_decide_eq_false kl)
            | skip
              have hff : r.find place = t.get place := by
                rw [HGP.out, HRR.out]
                exact op_far HD.out (H1F.out (by omega)).1 (H1F.out (by omega)).2 (fun h => absurd hk2 (by omega))
              have HFF := Lib.hid hff
              clear hff
              obtain ⟨p0, p1, p2, p3, _, _, _, _⟩ := B14w.out.cells4
              obtain ⟨s0, s1, s2, s3, s4, s5, s6⟩ := HSw.out.cells7
              go_wp2_with fail
              refine (at_any (K41 + 2) _ (by decide) _ _ _ _ _ _ _ _ R14w.out (HP.out.ext Xw.out)).mono ?_
              rw [HFF.out]
              rintro e wy ⟨vy, rfl, xy, ry⟩
              obtain ⟨Ay, cy, Ay', cy', rfl⟩ := ry.agg
              have RY := Lib.hid ry
              have B12y := Lib.hid (B12w.out.ext xy)
              have R12y := Lib.hid (R12w.out.ext xy)
              have XY := Lib.hid (Xw.out.trans' xy)
              obtain ⟨q0, q1', q2', q3', _, _, _, _⟩ := B12y.out.cells4
              have hyl := B12y.out.lt
              clear xy ry p0 p1 p2 p3 s0 s1 s2 s3 s4 s5 s6
              go_wp2_with fail
              refine (same7_any _ _ _ _ _ _ _ _ _ _ _ (RY.out.alloc _) (R12y.out.alloc _)).mono ?_
              rw [N.same_refl]
              rintro e wf ⟨rfl, xf⟩
              have XF := Lib.hid ((XY.out.trans' (Ext.alloc' _ _)).trans' xf)
              clear xf q0 q1' q2' q3'
              go_wp2_with fail
              go_ret
              exact ⟨rfl, XF.out⟩
          · first
            | exact absurd (of_decide_eq_true kl) hk2
            | skip
              obtain ⟨s0, s1, s2, s3, s4, s5, s6⟩ := HSw.out.cells7
              cases ua : underL s.b place
              · have UA := Lib.hid ua
                clear ua
                go_wp2_with fail
                (with_reducible refine (under6_any (HB.out.ext Xw.out) (HP.out.ext Xw.out)).mono ?_)
                rw [UA.out]
                rintro e wu ⟨rfl, xu⟩
                have XU := Lib.hid xu
                clear xu
                cases ub : underL place s.b
                · have UB := Lib.hid ub
                  clear ub
                  go_wp2_with fail
                  (with_reducible refine (under6_any (HP.out.ext (Xw.out.trans' XU.out)) (HB.out.ext (Xw.out.trans' XU.out))).mono ?_)
                  rw [UB.out]
                  rintro e wv ⟨rfl, xv⟩
                  have XV := Lib.hid (XU.out.trans' xv)
                  clear xv s0 s1 s2 s3 s4 s5 s6
                  go_wp2_with fail
                  go_roundw
                  case rel => exact ⟨2, by omega, by go_num, HXR.out.trans' XV.out, fun _ => H1F.out (by omega), fun _ => ⟨UA.out, UB.out⟩⟩
                  case measure => simp [intOf]
                · have UB := Lib.hid ub
                  clear ub
                  go_wp2_with fail
                  (with_reducible refine (under6_any (HP.out.ext (Xw.out.trans' XU.out)) (HB.out.ext (Xw.out.trans' XU.out))).mono ?_)
                  rw [UB.out]
                  rintro e wv ⟨rfl, xv⟩
                  have XV := Lib.hid (XU.out.trans' xv)
                  clear xv s0 s1 s2 s3 s4 s5 s6
                  go_wp2_with fail
                  go_ret
                  exact ⟨rfl, Xw.out.trans' XV.out⟩
              · have UA := Lib.hid ua
                clear ua
                go_wp2_with fail
                (with_reducible refine (under6_any (HB.out.ext Xw.out) (HP.out.ext Xw.out)).mono ?_)
                rw [UA.out]
                rintro e wu ⟨rfl, xu⟩
                have XU := Lib.hid xu
                clear xu s0 s1 s2 s3 s4 s5 s6
                go_wp2_with fail
                go_ret
                exact ⟨rfl, Xw.out.trans' XU.out⟩
        · skip
          have hff : r.find place = t.get place := by
            rw [HGP.out, HRR.out]
            exact op_far HD.out (H1F.out (by omega)).1 (H1F.out (by omega)).2 (fun h => H2F.out (by omega))
          have HFF := Lib.hid hff
          clear hff
          obtain ⟨p0, p1, p2, p3, _, _, _, _⟩ := B14w.out.cells4
          obtain ⟨s0, s1, s2, s3, s4, s5, s6⟩ := HSw.out.cells7
          go_wp2_with fail
          refine (at_any (K41 + 2) _ (by decide) _ _ _ _ _ _ _ _ R14w.out (HP.out.ext Xw.out)).mono ?_
          rw [HFF.out]
          rintro e wy ⟨vy, rfl, xy, ry⟩
          obtain ⟨Ay, cy, Ay', cy', rfl⟩ := ry.agg
          have RY := Lib.hid ry
          have B12y := Lib.hid (B12w.out.ext xy)
          have R12y := Lib.hid (R12w.out.ext xy)
          have XY := Lib.hid (Xw.out.trans' xy)
          obtain ⟨q0, q1', q2', q3', _, _, _, _⟩ := B12y.out.cells4
          have hyl := B12y.out.lt
          clear xy ry p0 p1 p2 p3 s0 s1 s2 s3 s4 s5 s6
          go_wp2_with fail
          refine (same7_any _ _ _ _ _ _ _ _ _ _ _ (RY.out.alloc _) (R12y.out.alloc _)).mono ?_
          rw [N.same_refl]
          rintro e wf ⟨rfl, xf⟩
          have XF := Lib.hid ((XY.out.trans' (Ext.alloc' _ _)).trans' xf)
          clear xf q0 q1' q2' q3'
          go_wp2_with fail
          go_ret
          exact ⟨rfl, XF.out⟩
end Go.Proofs.Ytocndkhgopjhhaa
