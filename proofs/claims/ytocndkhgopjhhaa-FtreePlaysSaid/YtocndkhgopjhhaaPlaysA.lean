/- touchstonelaw07.FtreePlays: what is not gone through. -/
import Derived.Test.YtocndkhgopjhhaaProg
import Derived.Test.YtocndkhgopjhhaaPlay
import Derived.Test.YtocndkhgopjhhaaLarge
import Derived.Test.YtocndkhgopjhhaaGiven
import Derived.Test.YtocndkhgopjhhaaMay
import Derived.Outline
namespace Go.Proofs.Ytocndkhgopjhhaa
open Go.RowKit

/-- what came in, in words -/
structure PlaysIn (w : World) (d : Nat) (t : N) (l : List Stp) (v lv : Value) : Prop where
  node : Rep B41 (fun b => b < w.heap.size) w d t v
  nodeW : t.wide K41
  steps : Steps B41 (fun b => b < w.heap.size) w lv l
  stepsW : ∀ s ∈ l, s.n.wide K41

set_option maxRecDepth 100000 in
set_option maxHeartbeats 1000000 in
theorem plays_1 {w : World} {d : Nat} {t : N} {l : List Stp} {v lv : Value} (h : PlaysIn w d t l v lv) (h1 : 3000 ≤ t.weight) : Calls Try.prog 7 #[v, lv] w fun e w' => e = .returned (.bool true) ∧ Ext w w' := by
  obtain ⟨hn, hnw, hs, hsw⟩ := h
  obtain ⟨At, ct, At', ct', rfl⟩ := hn.agg
  have HR := Lib.hid hn
  obtain ⟨A, c, rfl, _⟩ := hs
  have X := Lib.hid (Ext.alloc' w (.cells #[.int .u8 t.kind, .string t.text, .slice At t.names.length ct, .slice At' t.kids.length ct'] 25))
  clear hn hnw hsw
  go_enter Try.func7, Try.ntmps7
  go_wp2_with fail
  refine (weight_any _ _ _ t _ _ (HR.out.ext X.out)).mono ?_
  rintro e w2 ⟨rfl, x2⟩
  have X := Lib.hid (X.out.trans' x2)
  clear x2
  go_wp2_with fail
  go_ret
  exact ⟨rfl, X.out⟩

set_option maxRecDepth 100000 in
set_option maxHeartbeats 1000000 in
theorem plays_2 {w : World} {d : Nat} {t : N} {l : List Stp} {v lv : Value} (h : PlaysIn w d t l v lv) (h1 : ¬ 3000 ≤ t.weight) (hl : largeB l = true) : Calls Try.prog 7 #[v, lv] w fun e w' => e = .returned (.bool true) ∧ Ext w w' := by
  obtain ⟨hn, hnw, hs, hsw⟩ := h
  obtain ⟨At, ct, At', ct', rfl⟩ := hn.agg
  have HR := Lib.hid hn
  have HSV := Lib.hid hs
  obtain ⟨A, c, rfl, _⟩ := hs
  have HL := Lib.hid hl
  have X := Lib.hid (Ext.alloc' w (.cells #[.int .u8 t.kind, .string t.text, .slice At t.names.length ct, .slice At' t.kids.length ct'] 25))
  clear hn hnw hsw hl
  go_enter Try.func7, Try.ntmps7
  go_wp2_with fail
  refine (weight_any _ _ _ t _ _ (HR.out.ext X.out)).mono ?_
  rintro e w2 ⟨rfl, x2⟩
  have X := Lib.hid (X.out.trans' x2)
  clear x2
  go_wp2_with fail
  refine (large_any (HSV.out.ext X.out)).mono ?_
  rw [HL.out]
  rintro e w3 ⟨rfl, x3⟩
  have X := Lib.hid (X.out.trans' x3)
  clear x3
  go_wp2_with fail
  go_ret
  exact ⟨rfl, X.out⟩

set_option maxRecDepth 100000 in
set_option maxHeartbeats 2000000 in
theorem plays_3 {w : World} {d : Nat} {t : N} {l : List Stp} {v lv : Value} (h : PlaysIn w d t l v lv) (h1 : ¬ 3000 ≤ t.weight) (hl : largeB l = false) (hm : t.may = false) : Calls Try.prog 7 #[v, lv] w fun e w' => e = .returned (.bool true) ∧ Ext w w' := by
  obtain ⟨hn, hnw, hs, hsw⟩ := h
  obtain ⟨At, ct, At', ct', rfl⟩ := hn.agg
  have HR := Lib.hid hn
  have HSV := Lib.hid hs
  obtain ⟨A, c, rfl, _⟩ := hs
  have HL := Lib.hid hl
  have HM := Lib.hid hm
  have X := Lib.hid (Ext.alloc' w (.cells #[.int .u8 t.kind, .string t.text, .slice At t.names.length ct, .slice At' t.kids.length ct'] 25))
  have HB := Lib.hid (Blk.new w 25 #[.int .u8 t.kind, .string t.text, .slice At t.names.length ct, .slice At' t.kids.length ct'])
  clear hn hnw hsw hl hm
  go_enter Try.func7, Try.ntmps7
  go_wp2_with fail
  refine (weight_any _ _ _ t _ _ (HR.out.ext X.out)).mono ?_
  rintro e w2 ⟨rfl, x2⟩
  have X := Lib.hid (X.out.trans' x2)
  have HB := Lib.hid (HB.out.ext x2)
  clear x2
  go_wp2_with fail
  refine (large_any (HSV.out.ext X.out)).mono ?_
  rw [HL.out]
  rintro e w3 ⟨rfl, x3⟩
  have X := Lib.hid (X.out.trans' x3)
  have HB := Lib.hid (HB.out.ext x3)
  have HB3 := Lib.hid HB.out
  obtain ⟨p0, p1, p2, p3, _⟩ := HB.out.cells4
  have pl := HB.out.lt
  clear x3
  go_wp2_with fail
  refine (given_any B41 (by decide) _ _ _ _ _ (HR.out.ext X.out)).mono ?_
  rintro e w4 ⟨A4, c4, A4', c4', rfl, x4, r4⟩
  have x4' := x4.trans' (Ext.alloc' w4 (.cells #[.int .u8 t.kind, .string t.text, .slice A4 t.names.length c4, .slice A4' t.kids.length c4'] 25))
  have R4 := Lib.hid (r4.ext (Ext.alloc' w4 (.cells #[.int .u8 t.kind, .string t.text, .slice A4 t.names.length c4, .slice A4' t.kids.length c4'] 25)))
  have B4 := Lib.hid (Blk.new w4 25 #[.int .u8 t.kind, .string t.text, .slice A4 t.names.length c4, .slice A4' t.kids.length c4'])
  have HN4 := Lib.hid (show ∀ b, (w3.heap.size ≤ b ∧ Nfz w4 b) → b < w4.heap.size → Nfz (w4.alloc (.cells #[.int .u8 t.kind, .string t.text, .slice A4 t.names.length c4, .slice A4' t.kids.length c4'] 25)) b from fun b hb hl => hb.2.ext (Ext.alloc' _ _) hl)
  have HX4 := Lib.hid x4'
  have X4 := Lib.hid (X.out.trans' x4')
  have HB := Lib.hid (HB.out.ext x4')
  clear x4 x4' p0 p1 p2 p3 pl
  go_wp2_with fail
  refine (tnew_no (by decide) R4.out HM.out).mono ?_
  rintro e w5 ⟨rfl, x5⟩
  have B5 := Lib.hid (B4.out.ext x5)
  obtain ⟨p0, p1, p2, p3, _⟩ := B5.out.cells4
  have pl := B5.out.lt
  have hz5 := x5.size
  have hz4 := HX4.out.size
  have R5 := Lib.hid (Rep.keep (S' := fun b => w3.heap.size ≤ b ∧ Nfz w5 b) (Nat.le_refl _) (fun _ _ _ => rfl) (fun b hb hl => ⟨hb.1.1, (HN4.out b hb.1 hb.2).ext x5 (by simp; omega)⟩) _ _ _ ((Rep.keep (S' := fun b => (w3.heap.size ≤ b ∧ Nfz w4 b) ∧ b < w4.heap.size) (Nat.le_refl _) (fun _ _ _ => rfl) (fun b hb hl => ⟨hb, hl⟩) _ _ _ r4).ext ((Ext.alloc' w4 (.cells #[.int .u8 t.kind, .string t.text, .slice A4 t.names.length c4, .slice A4' t.kids.length c4'] 25)).trans' x5)))
  have HX5 := Lib.hid (HX4.out.trans' x5)
  have HB := Lib.hid (HB.out.ext x5)
  clear x5 r4
  go_wp2_with fail
  refine (spoil_own (fun b hb => hb.2) R5.out).mono ?_
  rintro e w6 ⟨rfl, t6⟩
  have x6 := spoil_back HX5.out t6 (fun b hb => hb.1)
  have X6 := Lib.hid (X.out.trans' x6)
  have HB6 := Lib.hid (HB3.out.ext x6)
  clear t6 x6 p0 p1 p2 p3 pl
  obtain ⟨p0, p1, p2, p3, _⟩ := HB6.out.cells4
  have pl := HB6.out.lt
  go_wp2_with fail
  refine (may7_any _ _ _ t _ _ (HR.out.ext X6.out)).mono ?_
  rw [HM.out]
  rintro e w7 ⟨rfl, x7⟩
  have X7 := Lib.hid (X6.out.trans' x7)
  clear x7
  go_wp2_with fail
  go_ret
  exact ⟨rfl, X7.out⟩
end Go.Proofs.Ytocndkhgopjhhaa
