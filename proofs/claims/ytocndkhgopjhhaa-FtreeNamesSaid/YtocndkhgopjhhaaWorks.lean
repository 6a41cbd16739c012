/- touchstonelaw07.works answers true. -/
import Derived.Test.YtocndkhgopjhhaaProg
import Derived.Test.YtocndkhgopjhhaaMake
import Derived.Test.YtocndkhgopjhhaaTreeB
import Derived.Test.YtocndkhgopjhhaaSame7
import Derived.Outline
namespace Go.Proofs.Ytocndkhgopjhhaa
open Go.RowKit

theorem Ext.turns {w w1 w2 : World} {F : Nat → Prop} (h : Ext w w1) (ht : Turns F w1 w2) (hF : ∀ b, F b → w.heap.size ≤ b) : Ext w w2 :=
  ⟨ht.os.trans h.os, ht.tape.trans h.tape, ht.output.trans h.output, Nat.le_trans h.size ht.size, fun b hb => (ht.block b (Nat.lt_of_lt_of_le hb h.size) fun hf => by have := hF b hf; omega).trans (h.block b hb)⟩
/-- anywhere -/
abbrev Any : Nat → Prop := fun _ => True
theorem Strs.any {B : Nat} {S : Nat → Prop} {w : World} {v : Value} {ns : List ByteArray} (h : Strs B S w v ns) : Strs B Any w v ns := h.wide (Nat.le_refl _) (Below.refl _ _) (fun _ _ _ => trivial)
theorem Kids.any {B : Nat} {S : Nat → Prop} {w : World} {d : Nat} {v : Value} {ks : List N} (h : Kids B S w d v ks) : Kids B Any w d v ks := h.keep (Nat.le_refl _) (fun _ _ _ => rfl) (fun _ _ _ => trivial)
theorem Rep.any {B : Nat} {S : Nat → Prop} {w : World} {d : Nat} {t : N} {v : Value} (h : Rep B S w d t v) : Rep B Any w d t v := h.wide (Nat.le_refl _) (Below.refl _ _) (fun _ _ _ => trivial) (Nat.le_refl _)

/-- the law of a slice of texts that was just built, anywhere -/
theorem strs1 (w : World) (a : ByteArray) (ha : a.size ≤ maxLen) : Strs 16 Any (w.alloc (.cells #[.string a] 9)) (.slice (some ⟨w.heap.size, 0, none⟩) 1 1) [a] := (Strs.new w [a] (by simpa using ha) (by simp) (by simp [maxLen])).any
theorem strs2 (w : World) (a b : ByteArray) (ha : a.size ≤ maxLen) (hb : b.size ≤ maxLen) : Strs 16 Any (w.alloc (.cells #[.string a, .string b] 9)) (.slice (some ⟨w.heap.size, 0, none⟩) 2 2) [a, b] := (Strs.new w [a, b] (by simp; exact ⟨ha, hb⟩) (by simp) (by simp [maxLen])).any
/-- the second of two -/
theorem strs1' (w : World) (o : Obj) (a : ByteArray) (ha : a.size ≤ maxLen) : Strs 16 Any ((w.alloc o).alloc (.cells #[.string a] 9)) (.slice (some ⟨w.heap.size + 1, 0, none⟩) 1 1) [a] := by
  have := strs1 (w.alloc o) a ha
  rwa [World.size_alloc] at this
theorem strs2' (w : World) (o : Obj) (a b : ByteArray) (ha : a.size ≤ maxLen) (hb : b.size ≤ maxLen) : Strs 16 Any ((w.alloc o).alloc (.cells #[.string a, .string b] 9)) (.slice (some ⟨w.heap.size + 1, 0, none⟩) 2 2) [a, b] := by
  have := strs2 (w.alloc o) a b ha hb
  rwa [World.size_alloc] at this
/-- where the slice lies -/
theorem strs1n (w : World) (a : ByteArray) (ha : a.size ≤ maxLen) : Strs 16 (fun b => w.heap.size ≤ b) (w.alloc (.cells #[.string a] 9)) (.slice (some ⟨w.heap.size, 0, none⟩) 1 1) [a] := Strs.new w [a] (by simpa using ha) (by simp) (by simp [maxLen])
theorem kids1 (w : World) {d : Nat} {t : N} {v0 v1 v2 v3 : Value} (h : Rep 4 Any w d t (.agg #[v0, v1, v2, v3])) : Kids 4 Any (w.alloc (.cells #[v0, v1, v2, v3] 25)) d (.slice (some ⟨w.heap.size, 0, none⟩) 1 1) [t] :=
  (Kids.new w (Flat.cons h Flat.nil) (by simp) (by simp [maxLen])).any
theorem kids2 (w : World) {d : Nat} {t u : N} {v0 v1 v2 v3 u0 u1 u2 u3 : Value} (h : Rep 4 Any w d t (.agg #[v0, v1, v2, v3])) (k : Rep 4 Any w d u (.agg #[u0, u1, u2, u3])) : Kids 4 Any (w.alloc (.cells #[v0, v1, v2, v3, u0, u1, u2, u3] 25)) d (.slice (some ⟨w.heap.size, 0, none⟩) 2 2) [t, u] :=
  (Kids.new w (Flat.cons h (Flat.cons k Flat.nil)) (by simp) (by simp [maxLen])).any
theorem rep_dir {w : World} {d : Nat} {nv kv : Value} {ns : List ByteArray} {ks : List N} (hn : Strs 16 Any w nv ns) (hk : Kids 4 Any w d kv ks) : Rep 4 Any w (d + 1) (nDir ns ks) (.agg #[.int .u8 2, .string { data := #[] }, nv, kv]) := Rep.join (by decide) hn hk
theorem rep_file {w : World} {d : Nat} {s : ByteArray} (hs : s.size ≤ maxLen) : Rep 4 Any w (d + 1) (nFile s) (.agg #[.int .u8 1, .string s, .slice none 0 0, .slice none 0 0]) := Rep.leaf hs

set_option maxRecDepth 100000 in
set_option maxHeartbeats 4000000 in
theorem works_any (w : World) : Calls Try.prog 36 #[] w fun e w' => e = .returned (.bool true) ∧ Ext w w' := by
  have hb : bX.size ≤ maxLen ∧ bN.size ≤ maxLen := by decide
  have HBX := Lib.hid hb.1
  have HBN := Lib.hid hb.2
  clear hb
  go_enter Try.func36, Try.ntmps36
  go_wp2_with fail
  have s1 := strs2 w bA bD (by decide) (by decide)
  refine (file_any _ _).mono ?_
  rintro e w2 ⟨rfl, x2⟩
  have S1 := Lib.hid (s1.ext x2)
  have X2 := Lib.hid ((Ext.alloc' w (.cells #[.string bA, .string bD] 9)).trans' x2)
  clear s1 x2
  go_wp2_with fail
  have s3 := strs1 w2 bE (by decide)
  refine (file_any _ _).mono ?_
  rintro e w4 ⟨rfl, x4⟩
  have x24 := (Ext.alloc' w2 (.cells #[.string bE] 9)).trans' x4
  have S1 := Lib.hid (S1.out.ext x24)
  have S3 := Lib.hid (s3.ext x4)
  have X4 := Lib.hid (X2.out.trans' x24)
  clear s3 x4 x24
  go_wp2_with fail
  have k5 := kids1 w4 (d := 1) (t := nFile bN) (rep_file (w := w4) (d := 0) HBN.out)
  refine (dir_any _).mono ?_
  rintro e w6 ⟨rfl, x6⟩
  have x46 := (Ext.alloc' w4 (.cells #[.int .u8 1, .string bN, .slice none 0 0, .slice none 0 0] 25)).trans' x6
  have R6 := Lib.hid (rep_dir (S3.out.ext x46) (k5.ext' x6))
  have S1 := Lib.hid (S1.out.ext x46)
  have X6 := Lib.hid (X4.out.trans' x46)
  clear k5 x6 x46
  go_wp2_with fail
  have k7 := kids2 w6 (rep_file (w := w6) (d := 1) HBX.out) R6.out
  refine (dir_any _).mono ?_
  rintro e w8 ⟨rfl, x8⟩
  have x68 := (Ext.alloc' w6 (.cells #[.int .u8 1, .string bX, .slice none 0 0, .slice none 0 0, .int .u8 2, .string { data := #[] }, .slice (some ⟨w2.heap.size, 0, none⟩) 1 1, .slice (some ⟨w4.heap.size, 0, none⟩) 1 1] 25)).trans' x8
  have R8 := Lib.hid (show Rep 4 Any w8 3 exT _ from rep_dir (S1.out.ext x68) (k7.ext' x8))
  have X8 := Lib.hid (X6.out.trans' x68)
  clear k7 x8 x68 S1 S3 R6
  go_wp2_with fail
  -- New
  refine (tnew_any (by decide) (R8.out.ext (Ext.alloc' _ _)) exT_may).mono ?_
  rintro e w9 ⟨gt, rfl, hgt, x9, tr⟩
  have TR := Lib.hid tr.shrink
  have X9 := Lib.hid (X8.out.trans' ((Ext.alloc' _ _).trans' x9))
  have HGT := Lib.hid (show w.heap.size ≤ gt by have := X8.out.size; simp only [World.size_alloc] at hgt; omega)
  clear tr x9 R8 hgt
  go_wp2_with fail
  refine (tkind_any (by decide) (TR.out.ext (Ext.alloc' _ _)) exT_well (strs2 w9 bD bE (by decide) (by decide))).mono ?_
  rw [exT_1]
  rintro e w10 ⟨rfl, x10⟩
  have x10 := (Ext.alloc' w9 (.cells #[.string bD, .string bE] 9)).trans' x10
  have TR := Lib.hid (TR.out.ext x10)
  have X10 := Lib.hid (X9.out.trans' x10)
  clear x10
  go_wp2_with fail
  refine (tkind_any (by decide) (TR.out.ext (Ext.alloc' _ _)) exT_well (strs2 w10 bA bB (by decide) (by decide))).mono ?_
  rw [exT_2]
  rintro e w11 ⟨rfl, x11⟩
  have x11 := (Ext.alloc' w10 (.cells #[.string bA, .string bB] 9)).trans' x11
  have TR := Lib.hid (TR.out.ext x11)
  have X11 := Lib.hid (X10.out.trans' x11)
  clear x11
  go_wp2_with fail
  -- Clone
  refine (tclone_any (by decide) TR.out).mono ?_
  rintro e w12 ⟨gu, rfl, hgu, x12, tu⟩
  have hlt := TR.out.lt
  have TR := Lib.hid (show TreeAt 4 (fun b => b ≠ gt ∧ b < w11.heap.size) w12 gt 3 exT from (TR.out.keep (Nat.le_refl _) (Nat.le_refl _) (Nat.le_refl _) rfl (fun _ _ _ => rfl) (fun b h hl => ⟨TR.out.ne h, hl⟩) (fun b h => h.1)).ext x12)
  have TU := Lib.hid tu
  have X12 := Lib.hid (X11.out.trans' x12)
  have hul := tu.lt
  have hx12 := x12.size
  have HN := Lib.hid (show gt < w11.heap.size ∧ w11.heap.size ≤ gu ∧ gu < w12.heap.size from ⟨hlt, hgu, hul⟩)
  clear tu x12 hlt hul hx12 hgu
  go_wp2_with fail
  -- u.Move
  have e13 : Ext w12 ((w12.alloc (.cells #[.string bA] 9)).alloc (.cells #[.string bD] 9)) := (Ext.alloc' _ _).trans' (Ext.alloc' _ _)
  with_reducible refine (tmove_any (by decide) (TU.out.ext e13) exT_well ((strs1n w12 bA (by decide)).ext (Ext.alloc' _ _)) (strs1' w12 _ bD (by decide)) (fun b h => by have := HN.out; omega)).mono ?_
  rintro e w13 ⟨rfl, t13, tu⟩
  have z13 := e13.size
  have TU := Lib.hid (show TreeAt 6 (fun b => b ≠ gu ∧ w11.heap.size ≤ b) w13 gu 6 exU from tu.keep (Nat.le_refl _) (Nat.le_refl _) (Nat.le_refl _) rfl (fun _ _ _ => rfl) (fun b h _ => by
    have := HN.out
    rcases h with h | h
    · exact ⟨h.2, h.1⟩
    · exact ⟨by omega, by omega⟩) (fun b h => h.1))
  have TR := Lib.hid ((TR.out.ext e13).turn t13 (by have := HN.out; omega) (fun b h => by have := HN.out; have := h.2; omega))
  have X13 := Lib.hid ((X12.out.trans' e13).turns t13 (fun b h => by have := HN.out; have := HGT.out; omega))
  clear t13 tu e13 z13
  go_wp2_with fail
  -- t.Move
  have e14 : Ext w13 ((w13.alloc (.cells #[.string bD] 9)).alloc (.cells #[.string bD, .string bX] 9)) := (Ext.alloc' _ _).trans' (Ext.alloc' _ _)
  have hg13 := TR.out.lt
  with_reducible refine (tmove_any (by decide) (TR.out.ext e14) exT_well ((strs1n w13 bD (by decide)).ext (Ext.alloc' _ _)) (strs2' w13 _ bD bX (by decide) (by decide)) (fun b h => by omega)).mono ?_
  rintro e w14 ⟨rfl, t14, tr⟩
  have z14 := e14.size
  have TU := Lib.hid ((TU.out.ext e14).turn t14 (by have := HN.out; omega) (fun b h => by have := HN.out; have := h.2; omega))
  have TR := Lib.hid (show TreeAt 6 (fun b => b ≠ gt) w14 gt 6 exT1 from tr.keep (Nat.le_refl _) (Nat.le_refl _) (Nat.le_refl _) rfl (fun _ _ _ => rfl) (fun b h _ => tr.ne h) (fun b h => h))
  have X14 := Lib.hid ((X13.out.trans' e14).turns t14 (fun b h => by have := HGT.out; omega))
  clear t14 tr e14 z14 hg13
  go_wp2_with fail
  -- t.Del
  have e15 : Ext w14 (w14.alloc (.cells #[.string bD, .string bE] 9)) := Ext.alloc' _ _
  with_reducible refine (tdel_any (by decide) (TR.out.ext e15) exT1_well (strs2 w14 bD bE (by decide) (by decide))).mono ?_
  rintro e w15 ⟨rfl, t15, tr⟩
  have TU := Lib.hid ((TU.out.ext e15).turn t15 (by have := HN.out; omega) (fun b h => by have := HN.out; have := h.2; omega))
  have TR := Lib.hid (show TreeAt 7 (fun b => b ≠ gt) w15 gt 6 exT2 from tr.keep (Nat.le_refl _) (Nat.le_refl _) (Nat.le_refl _) rfl (fun _ _ _ => rfl) (fun b h _ => tr.ne h) (fun b h => h))
  have X15 := Lib.hid ((X14.out.trans' e15).turns t15 (fun b h => by have := HGT.out; omega))
  clear t15 tr e15
  go_wp2_with fail
  -- t.Put
  have s16 := strs2 w15 bQ bR (by decide) (by decide)
  refine (file_any _ _).mono ?_
  rintro e w16 ⟨rfl, x16⟩
  have e16 := (Ext.alloc' w15 (.cells #[.string bQ, .string bR] 9)).trans' x16
  have S16 := Lib.hid (s16.ext x16)
  have TU := Lib.hid (TU.out.ext e16)
  have TR := Lib.hid (TR.out.ext e16)
  have X16 := Lib.hid (X15.out.trans' e16)
  clear s16 x16 e16
  go_wp2_with fail
  with_reducible refine (tput_any (B := 7) (dx := 1) (x := nFile bN) (by decide) TR.out exT2_well S16.out (Rep.leaf (S := Any) HBN.out)).mono ?_
  rintro e w17 ⟨rfl, t17, tr⟩
  have TU := Lib.hid (TU.out.turn t17 (by have := HN.out; omega) (fun b h => by have := HN.out; have := h.2; omega))
  have TR := Lib.hid (show TreeAt 8 (fun b => b ≠ gt) w17 gt 7 exT3 from tr.keep (Nat.le_refl _) (Nat.le_refl _) (Nat.le_refl _) rfl (fun _ _ _ => rfl) (fun b h _ => tr.ne h) (fun b h => h))
  have X17 := Lib.hid (X16.out.turns t17 (fun b h => by have := HGT.out; omega))
  clear t17 tr
  go_wp2_with fail
  -- what is told
  with_reducible refine (tkind_any (by decide) (TU.out.ext (Ext.alloc' _ _)) exU_well (strs1 w17 bA (by decide))).mono ?_
  rw [exU_1]
  rintro e w18 ⟨rfl, x18⟩
  have e18 := (Ext.alloc' w17 (.cells #[.string bA] 9)).trans' x18
  have TU := Lib.hid (TU.out.ext e18)
  have TR := Lib.hid (TR.out.ext e18)
  have X18 := Lib.hid (X17.out.trans' e18)
  clear x18 e18
  go_wp2_with fail
  with_reducible refine (ttext_any (by decide) (TU.out.ext (Ext.alloc' _ _)) exU_well (strs1 w18 bD (by decide))).mono ?_
  rw [exU_2]
  rintro e w19 ⟨rfl, x19⟩
  have e19 := (Ext.alloc' w18 (.cells #[.string bD] 9)).trans' x19
  have TR := Lib.hid (TR.out.ext e19)
  have X19 := Lib.hid (X18.out.trans' e19)
  clear x19 e19
  go_wp2_with fail
  with_reducible refine (tempty_any (by decide) (TR.out.ext (Ext.alloc' _ _)) exT3_well (strs1 w19 bD (by decide))).mono ?_
  rw [exT_3]
  rintro e w20 ⟨rfl, x20⟩
  have e20 := (Ext.alloc' w19 (.cells #[.string bD] 9)).trans' x20
  have TR := Lib.hid (TR.out.ext e20)
  have X20 := Lib.hid (X19.out.trans' e20)
  clear x20 e20
  go_wp2_with fail
  with_reducible refine (troot_any (by decide) TR.out).mono ?_
  rintro e w21 ⟨A1, c1, A1', c1', rfl, x21, r21⟩
  have R21 := Lib.hid r21.any
  have X21 := Lib.hid (X20.out.trans' x21)
  clear x21 r21
  go_wp2_with fail
  have s22 := strs2 w21 bA bD (by decide) (by decide)
  refine (file_any _ _).mono ?_
  rintro e w22 ⟨rfl, x22⟩
  have e22 := (Ext.alloc' w21 (.cells #[.string bA, .string bD] 9)).trans' x22
  have S22 := Lib.hid (s22.ext x22)
  have R21 := Lib.hid (R21.out.ext e22)
  have X22 := Lib.hid (X21.out.trans' e22)
  clear x22 e22 s22
  go_wp2_with fail
  refine (dir_any _).mono ?_
  rintro e w23 ⟨rfl, x23⟩
  have S22 := Lib.hid (S22.out.ext x23)
  have R21 := Lib.hid (R21.out.ext x23)
  have X23 := Lib.hid (X22.out.trans' x23)
  clear x23
  go_wp2_with fail
  have k24 := kids2 w23 (rep_file (w := w23) (d := 1) HBX.out) (rep_dir (w := w23) (d := 1) Strs.nil0 Kids.nil)
  refine (dir_any _).mono ?_
  rintro e w24 ⟨rfl, x24⟩
  have e24 := (Ext.alloc' w23 (.cells #[.int .u8 1, .string bX, .slice none 0 0, .slice none 0 0, .int .u8 2, .string { data := #[] }, .slice none 0 0, .slice none 0 0] 25)).trans' x24
  have R24 := Lib.hid (rep_dir (S22.out.ext e24) (k24.ext' x24))
  have R21 := Lib.hid (R21.out.ext e24)
  have X24 := Lib.hid (X23.out.trans' e24)
  clear x24 k24 e24
  go_wp2_with fail
  refine (same7_any _ _ _ _ _ _ exT3 (nDir [bA, bD] [nFile bX, nDir [] []]) _ _ _ R21.out R24.out).mono ?_
  rw [exT_4]
  rintro e w25 ⟨rfl, x25⟩
  have X25 := Lib.hid (X24.out.trans' x25)
  clear x25
  go_wp2_with fail
  go_ret
  exact ⟨rfl, X25.out⟩
end Go.Proofs.Ytocndkhgopjhhaa
