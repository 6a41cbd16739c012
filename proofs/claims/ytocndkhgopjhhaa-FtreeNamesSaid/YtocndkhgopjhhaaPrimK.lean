/- touchstonelaw10: example, awake. -/
import Derived.Test.YtocndkhgopjhhaaProg
import Derived.Test.YtocndkhgopjhhaaWorks
import Derived.Test.YtocndkhgopjhhaaPrimI
import Derived.Outline
namespace Go.Proofs.Ytocndkhgopjhhaa
open Go.RowKit

variable {X : Nat → Prop}

section
variable {B Bp : Nat} {Sp : Nat → Prop} {w : World} {g : Nat} {t : N} {pv : Value} {p : List ByteArray}
theorem TIsX.kind (hB : B ≤ 2199023255552) (h : TIsX X B w g t) (hw : DirW t) (hp : Strs Bp Sp w pv p) : Calls Try.prog 48 #[.pointer (some ⟨g, 0, none⟩), pv] w fun e w' => e = .returned (.int .u8 (t.kindAt p)) ∧ Ext w w' := by
  obtain ⟨d, h, _⟩ := h; exact tkind_any hB h hw.wf hp
theorem TIsX.text (hB : B ≤ 2199023255552) (h : TIsX X B w g t) (hw : DirW t) (hp : Strs Bp Sp w pv p) : Calls Try.prog 49 #[.pointer (some ⟨g, 0, none⟩), pv] w fun e w' => e = .returned (.string ((t.get p).getD N.zero).text) ∧ Ext w w' := by
  obtain ⟨d, h, _⟩ := h; exact ttext_any hB h hw.wf hp
theorem TIsX.empty (hB : B ≤ 2199023255552) (h : TIsX X B w g t) (hw : DirW t) (hp : Strs Bp Sp w pv p) : Calls Try.prog 50 #[.pointer (some ⟨g, 0, none⟩), pv] w fun e w' => e = .returned (.bool (emptyB ((t.get p).getD N.zero))) ∧ Ext w w' := by
  obtain ⟨d, h, _⟩ := h; exact tempty_any hB h hw.wf hp
theorem TIsX.root (hB : B ≤ 2199023255552) (h : TIsX X B w g t) : ∃ d, Calls Try.prog 43 #[.pointer (some ⟨g, 0, none⟩)] w (OwnPost B d t w) := by
  obtain ⟨d, h, _⟩ := h; exact ⟨d, troot_any hB h⟩
theorem TIs.kind (hB : B ≤ 2199023255552) (h : TIs B w g t) (hw : DirW t) (hp : Strs Bp Sp w pv p) : Calls Try.prog 48 #[.pointer (some ⟨g, 0, none⟩), pv] w fun e w' => e = .returned (.int .u8 (t.kindAt p)) ∧ Ext w w' := TIsX.kind hB h hw hp
theorem TIs.text (hB : B ≤ 2199023255552) (h : TIs B w g t) (hw : DirW t) (hp : Strs Bp Sp w pv p) : Calls Try.prog 49 #[.pointer (some ⟨g, 0, none⟩), pv] w fun e w' => e = .returned (.string ((t.get p).getD N.zero).text) ∧ Ext w w' := TIsX.text hB h hw hp
theorem TIs.empty (hB : B ≤ 2199023255552) (h : TIs B w g t) (hw : DirW t) (hp : Strs Bp Sp w pv p) : Calls Try.prog 50 #[.pointer (some ⟨g, 0, none⟩), pv] w fun e w' => e = .returned (.bool (emptyB ((t.get p).getD N.zero))) ∧ Ext w w' := TIsX.empty hB h hw hp
theorem TIs.root (hB : B ≤ 2199023255552) (h : TIs B w g t) : ∃ d, Calls Try.prog 43 #[.pointer (some ⟨g, 0, none⟩)] w (OwnPost B d t w) := TIsX.root hB h
end

abbrev b110 : ByteArray := { data := #[110] }
theorem strs3 (w : World) (a b c : ByteArray) (ha : a.size ≤ maxLen) (hb : b.size ≤ maxLen) (hc : c.size ≤ maxLen) : Strs 16 Any (w.alloc (.cells #[.string a, .string b, .string c] 9)) (.slice (some ⟨w.heap.size, 0, none⟩) 3 3) [a, b, c] := (Strs.new w [a, b, c] (by simp; exact ⟨ha, hb, hc⟩) (by simp) (by simp [maxLen])).any
theorem strs3' (w : World) (o : Obj) (a b c : ByteArray) (ha : a.size ≤ maxLen) (hb : b.size ≤ maxLen) (hc : c.size ≤ maxLen) : Strs 16 Any ((w.alloc o).alloc (.cells #[.string a, .string b, .string c] 9)) (.slice (some ⟨w.heap.size + 1, 0, none⟩) 3 3) [a, b, c] := by
  have := strs3 (w.alloc o) a b c ha hb hc
  rwa [World.size_alloc] at this

set_option maxRecDepth 100000 in
set_option maxHeartbeats 2000000 in
theorem example_any (w : World) : Calls Try.prog 68 #[] w fun e w' => ∃ g, e = .returned (.pointer (some ⟨g, 0, none⟩)) ∧ w.heap.size ≤ g ∧ Ext w w' ∧ TIs 4 w' g exT := by
  obtain ⟨w1, h1⟩ : ∃ w1, w1 = w.alloc (.cells #[.string bA, .string bD] 9) := ⟨_, rfl⟩
  obtain ⟨w2, h2⟩ : ∃ w2, w2 = w1.alloc (.cells #[.string bE] 9) := ⟨_, rfl⟩
  obtain ⟨w3, h3⟩ : ∃ w3, w3 = w2.alloc (.cells #[.int .u8 1, .string bN, .slice none 0 0, .slice none 0 0] 25) := ⟨_, rfl⟩
  have z1 : w1.heap.size = w.heap.size + 1 := by rw [h1]; simp
  have z2 : w2.heap.size = w.heap.size + 1 + 1 := by rw [h2]; simp [z1]
  have z3 : w3.heap.size = w.heap.size + 1 + 1 + 1 := by rw [h3]; simp [z2]
  obtain ⟨w4, h4⟩ : ∃ w4, w4 = w3.alloc (.cells #[.int .u8 1, .string bX, .slice none 0 0, .slice none 0 0, .int .u8 2, .string { data := #[] }, .slice (some ⟨w.heap.size + 1, 0, none⟩) 1 1, .slice (some ⟨w.heap.size + 1 + 1, 0, none⟩) 1 1] 25) := ⟨_, rfl⟩
  have x1 : Ext w w1 := by rw [h1]; exact Ext.alloc' _ _
  have x2 : Ext w1 w2 := by rw [h2]; exact Ext.alloc' _ _
  have x3 : Ext w2 w3 := by rw [h3]; exact Ext.alloc' _ _
  have x4 : Ext w3 w4 := by rw [h4]; exact Ext.alloc' _ _
  have s1 := strs2 w bA bD (by decide) (by decide)
  have s2 := strs1 w1 bE (by decide)
  have k3 := kids1 w2 (d := 1) (t := nFile bN) (rep_file (w := w2) (d := 0) (by decide))
  rw [← h1] at s1
  rw [← h2, z1] at s2
  rw [← h3, z2] at k3
  have r3 := rep_dir (s2.ext x3) k3
  have k4 := kids2 w3 (rep_file (w := w3) (d := 1) (s := bX) (by decide)) r3
  rw [← h4, z3] at k4
  have r4 : Rep 4 Any w4 3 exT _ := rep_dir ((s1.ext (x2.trans' x3)).ext x4) k4
  have R4 := Lib.hid r4
  have X4 := Lib.hid (((x1.trans' x2).trans' x3).trans' x4)
  have H4 := Lib.hid (show w4 = (((w.alloc (.cells #[.string bA, .string bD] 9)).alloc (.cells #[.string bE] 9)).alloc (.cells #[.int .u8 1, .string bN, .slice none 0 0, .slice none 0 0] 25)).alloc (.cells #[.int .u8 1, .string bX, .slice none 0 0, .slice none 0 0, .int .u8 2, .string { data := #[] }, .slice (some ⟨w.heap.size + 1, 0, none⟩) 1 1, .slice (some ⟨w.heap.size + 1 + 1, 0, none⟩) 1 1] 25) by rw [h4, h3, h2, h1])
  clear h1 h2 h3 h4 z1 z2 z3 x1 x2 x3 x4 s1 s2 k3 r3 k4 r4
  go_enter Try.func68, Try.ntmps68
  go_wp2_with fail
  rw [← H4.out]
  refine (tnew_any (by decide) R4.out exT_may).mono ?_
  rintro e w5 ⟨g, rfl, hg, x5, tr⟩
  have TR := Lib.hid (TIs.of tr (Nat.le_refl 4))
  have X5 := Lib.hid (X4.out.trans' x5)
  have HG := Lib.hid (show w.heap.size ≤ g by have := X4.out.size; omega)
  clear tr x5 hg
  go_wp2_with fail
  go_ret
  exact ⟨_, rfl, HG.out, X5.out, TR.out⟩

def aw1 : N := (pMake (nDir [] []) exT [bD, b110]).2
def aw2 : N := (pRename aw1 [bA] [bD, b110, bB]).2
def aw4 : N := (pRemove wLink aw2 [bD, bE]).2
theorem aw_1 : pMake (nDir [] []) exT [bD, b110] = (0, aw1) := by have : (pMake (nDir [] []) exT [bD, b110]).1 = 0 := by decide +kernel
                                                                  exact Prod.ext this rfl
theorem aw_2 : pRename aw1 [bA] [bD, b110, bB] = (0, aw2) := by have : (pRename aw1 [bA] [bD, b110, bB]).1 = 0 := by decide +kernel
                                                                exact Prod.ext this rfl
theorem aw1_dir : DirW aw1 := by have := (pMake_keeps (x := nDir [] []) (p := [bD, b110]) (DirW.of exT_well rfl)).2; exact this
theorem aw2_dir : DirW aw2 := by have := (pRename_keeps (a := [bA]) (b := [bD, b110, bB]) aw1_dir).2; exact this
theorem aw4_dir : DirW aw4 := by have := (pRemove_keeps (f := wLink) (p := [bD, bE]) aw2_dir).2; exact this
theorem aw_3 : pRemove wDir aw2 [bD] = (57, aw2) := by
  have h : (pRemove wDir aw2 [bD]).1 = 57 := by decide +kernel
  exact Prod.ext h ((pRemove_keeps aw2_dir).1 (by rw [h]; decide))
theorem aw_4 : pRemove wLink aw2 [bD, bE] = (0, aw4) := by have : (pRemove wLink aw2 [bD, bE]).1 = 0 := by decide +kernel
                                                           exact Prod.ext this rfl
theorem aw_5 : aw4.kindAt [bD, b110, bB] = 1 := by decide +kernel
theorem aw_6 : ((aw4.get [bD, b110, bB]).getD N.zero).text = bX := by decide +kernel
theorem aw_7 : aw4.kindAt [bA] = 0 := by decide +kernel

/-- behind a call on a tree that was made since w -/
theorem Ext.turnsG {w w1 w2 : World} {g : Nat} (h : Ext w w1) (ht : Turns (fun b => b = g) w1 w2) (hg : w.heap.size ≤ g) : Ext w w2 := h.turns ht (fun b hb => by omega)

set_option maxRecDepth 100000 in
set_option maxHeartbeats 4000000 in
theorem awake10_any (w : World) : Calls Try.prog 60 #[] w fun e w' => e = .returned (.bool true) ∧ Ext w w' := by
  go_enter Try.func60, Try.ntmps60
  go_wp2_with fail
  refine (example_any _).mono ?_
  rintro e w1 ⟨g, rfl, hg, x1, tr⟩
  have HG := Lib.hid hg
  have X := Lib.hid x1
  have TR := Lib.hid tr
  clear hg x1 tr
  go_wp2_with fail
  have e1 := Ext.alloc' w1 (.cells #[.string bD, .string b110] 9)
  refine (makeDir_any (by decide) (TR.out.ext e1) (DirW.of exT_well rfl) (strs2 w1 bD b110 (by decide) (by decide))).mono ?_
  rw [aw_1]
  rintro e w2 ⟨rfl, t2, tr⟩
  have X := Lib.hid ((X.out.trans' e1).turnsG t2 HG.out)
  have TR : Hid (TIs (4 + 2) w2 g aw1) := Lib.hid tr
  clear e1 t2 tr
  go_wp2_with fail
  have e2 : Ext w2 ((w2.alloc (.cells #[.string bA] 9)).alloc (.cells #[.string bD, .string b110, .string bB] 9)) := (Ext.alloc' _ _).trans' (Ext.alloc' _ _)
  refine (rename_any (by decide) (TR.out.ext e2) aw1_dir ((strs1n w2 bA (by decide)).ext (Ext.alloc' _ _)) (strs3' w2 _ bD b110 bB (by decide) (by decide) (by decide)) (fun b hb => by have := TR.out.lt; omega)).mono ?_
  rw [aw_2]
  rintro e w3 ⟨rfl, t3, tr⟩
  have X := Lib.hid ((X.out.trans' e2).turnsG t3 HG.out)
  have TR : Hid (TIs (4 + 2 + 2) w3 g aw2) := Lib.hid tr
  clear e2 t3 tr
  go_wp2_with fail
  have e3 := Ext.alloc' w3 (.cells #[.string bD] 9)
  refine (removeDir_any (by decide) (TR.out.ext e3) aw2_dir (strs1 w3 bD (by decide))).mono ?_
  rw [aw_3]
  rintro e w4 ⟨rfl, t4, tr⟩
  have X := Lib.hid ((X.out.trans' e3).turnsG t4 HG.out)
  have TR : Hid (TIs (4 + 2 + 2 + 2) w4 g aw2) := Lib.hid tr
  clear e3 t4 tr
  go_wp2_with fail
  have e4 := Ext.alloc' w4 (.cells #[.string bD, .string bE] 9)
  refine (unlink_any (by decide) (TR.out.ext e4) aw2_dir (strs2 w4 bD bE (by decide) (by decide))).mono ?_
  rw [aw_4]
  rintro e w5 ⟨rfl, t5, tr⟩
  have X := Lib.hid ((X.out.trans' e4).turnsG t5 HG.out)
  have TR : Hid (TIs (4 + 2 + 2 + 2 + 2) w5 g aw4) := Lib.hid tr
  clear e4 t5 tr
  go_wp2_with fail
  have e5 := Ext.alloc' w5 (.cells #[.string bD, .string b110, .string bB] 9)
  refine ((TR.out.ext e5).kind (by decide) aw4_dir (strs3 w5 bD b110 bB (by decide) (by decide) (by decide))).mono ?_
  rw [aw_5]
  rintro e w6 ⟨rfl, x6⟩
  have X := Lib.hid (X.out.trans' (e5.trans' x6))
  have TR := Lib.hid (TR.out.ext (e5.trans' x6))
  clear e5 x6
  go_wp2_with fail
  have e6 := Ext.alloc' w6 (.cells #[.string bD, .string b110, .string bB] 9)
  refine ((TR.out.ext e6).text (by decide) aw4_dir (strs3 w6 bD b110 bB (by decide) (by decide) (by decide))).mono ?_
  rw [aw_6]
  rintro e w7 ⟨rfl, x7⟩
  have X := Lib.hid (X.out.trans' (e6.trans' x7))
  have TR := Lib.hid (TR.out.ext (e6.trans' x7))
  clear e6 x7
  go_wp2_with fail
  have e7 := Ext.alloc' w7 (.cells #[.string bA] 9)
  refine ((TR.out.ext e7).kind (by decide) aw4_dir (strs1 w7 bA (by decide))).mono ?_
  rw [aw_7]
  rintro e w8 ⟨rfl, x8⟩
  have X := Lib.hid (X.out.trans' (e7.trans' x8))
  clear e7 x8
  go_wp2_with fail
  go_ret
  exact ⟨rfl, X.out⟩
end Go.Proofs.Ytocndkhgopjhhaa
