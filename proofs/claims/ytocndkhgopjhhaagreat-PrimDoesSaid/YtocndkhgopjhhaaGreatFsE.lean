/- touchstoneref07's file system over a term that is made whole: apart, and the store into it. -/
import Derived.Test.YtocndkhgopjhhaaGreatProg
import Derived.Test.YtocndkhgopjhhaaGreatMade
import Derived.Outline
namespace Go.Proofs.YtocndkhgopjhhaaGreat
open Go.RowKit

def FSIs (B : Nat) (S : Nat → Prop) (w : World) (g : Nat) (t : N) : Prop := ∃ d, FSAt B S w g (d + 1) t
theorem FSIs.ext {B : Nat} {S : Nat → Prop} {w w' : World} {g : Nat} {t : N} (h : FSIs B S w g t) (hx : Ext w w') : FSIs B S w' g t := by
  obtain ⟨d, h⟩ := h; exact ⟨d, h.ext hx⟩
theorem FSIs.zero {B : Nat} {S : Nat → Prop} {w : World} {g : Nat} {t : N} (h : FSIs B S w g t) : FS0 w g := by
  obtain ⟨d, h⟩ := h; exact h.zero
section
variable {B Bp : Nat} {S Sp : Nat → Prop} {w : World} {g : Nat} {t : N} {pv : Value} {p : List ByteArray}
theorem FSIs.kind (h : FSIs B S w g t) (hS : ∀ b, S b → b < w.heap.size) (hw : Wz t) (hp : Strs Bp Sp w pv p) : Calls Tryz.prog 59 #[.pointer (some ⟨g, 0, none⟩), pv] w fun e w' => e = .returned (.int .u8 (t.kindAt p)) ∧ Ext w w' := by
  obtain ⟨d, h⟩ := h; exact fKind_any hS h hw hp
theorem FSIs.open (h : FSIs B S w g t) (hS : ∀ b, S b → b < w.heap.size) (hw : Wz t) (hp : Strs Bp Sp w pv p) : Calls Tryz.prog 78 #[.pointer (some ⟨g, 0, none⟩), pv] w fun e w' => e = .returned (.bool (openB t p)) ∧ Ext w w' := by
  obtain ⟨d, h⟩ := h; exact fopen_any hS h hw hp
theorem FSIs.empty (h : FSIs B S w g t) (hS : ∀ b, S b → b < w.heap.size) (hw : Wz t) (hp : Strs Bp Sp w pv p) : Calls Tryz.prog 62 #[.pointer (some ⟨g, 0, none⟩), pv] w fun e w' => e = .returned (.bool (emptyB ((t.get p).getD N.zero))) ∧ Ext w w' := by
  obtain ⟨d, h⟩ := h; exact isEmpty_any hS h hw hp
theorem FSIs.at_ (h : FSIs B S w g t) (hS : ∀ b, S b → b < w.heap.size) (hw : Wz t) (hp : Strs Bp Sp w pv p) : Calls Tryz.prog 76 #[.pointer (some ⟨g, 0, none⟩), pv] w fun e w' => ∃ A c A' c', e = .returned (termV ((t.get p).getD N.zero) A c A' c') ∧ Ext w w' ∧ TM B S w' ((t.get p).getD N.zero) (termV ((t.get p).getD N.zero) A c A' c') := by
  obtain ⟨d, h⟩ := h
  refine (fat_any hS h hw hp).mono ?_
  rintro e w' ⟨A, c, A', c', he, hx, hr⟩
  exact ⟨A, c, A', c', he, hx, TM.of hr⟩
end
theorem apartB_flip (t : N) (a b : List ByteArray) : apartB t a b = (decide (0 < a.length) && decide (t.kindAt a ≠ 0) && openB t b && !underL a b && !underL b a) := by
  unfold apartB
  cases underL a b <;> cases underL b a <;> simp

set_option maxRecDepth 100000 in
set_option maxHeartbeats 4000000 in
theorem fapart_any {B B1 B2 : Nat} {S S1 S2 : Nat → Prop} {w : World} {g : Nat} {t : N} {v1 v2 : Value} {a b : List ByteArray} (hS : ∀ b, S b → b < w.heap.size) (h : FSIs B S w g t) (hw : Wz t) (h1 : Strs B1 S1 w v1 a) (h2 : Strs B2 S2 w v2 b) :
    Calls Tryz.prog 83 #[.pointer (some ⟨g, 0, none⟩), v1, v2] w fun e w' => e = .returned (.bool (apartB t a b)) ∧ Ext w w' := by
  obtain ⟨o, ho⟩ : ∃ o, o = apartB t a b := ⟨_, rfl⟩
  rw [← ho]
  have HO : Hid (o = (decide (0 < a.length) && decide (t.kindAt a ≠ 0) && openB t b && !underL a b && !underL b a)) := Lib.hid (ho.trans (apartB_flip t a b))
  have HA := Lib.hid h1
  have HB := Lib.hid h2
  have HF := Lib.hid h
  have KA := Lib.hid (fun w1 (x : Ext w w1) => (h.ext x).kind (fun b hb => Nat.lt_of_lt_of_le (hS b hb) x.size) hw (h1.ext x))
  have KO := Lib.hid (fun w1 (x : Ext w w1) => (h.ext x).open (fun b hb => Nat.lt_of_lt_of_le (hS b hb) x.size) hw (h2.ext x))
  have U1 := Lib.hid (fun w1 (x : Ext w w1) => under6_any (h1.ext x) (h2.ext x))
  have U2 := Lib.hid (fun w1 (x : Ext w w1) => under6_any (h2.ext x) (h1.ext x))
  obtain ⟨A1, c1, rfl, _⟩ := h1
  obtain ⟨A2, c2, rfl, _⟩ := h2
  have X : Hid (Ext w w) := Lib.hid (Below.refl _ _)
  have HZ := Lib.hid h.zero
  clear h hS hw ho
  by_cases ha : 0 < a.length
  · have ha' : (0 : Int) < (a.length : Int) := by omega
    have HO : Hid (o = (decide (t.kindAt a ≠ 0) && openB t b && !underL a b && !underL b a)) := Lib.hid (by rw [HO.out, decide_eq_true ha]; rfl)
    generalize t.kindAt a = ka at HO KA
    by_cases hk : ka = 0
    · have hk' : (ka != 0) = false := by simpa using hk
      have HR : Hid (o = false) := Lib.hid (by rw [HO.out]; simp [hk])
      clear hk HO
      go_enter Tryz.func83, Tryz.ntmps83
      go_wp2_with fail
      refine (KA.out _ X.out).mono ?_
      rintro e w1 ⟨rfl, x1⟩
      have X := Lib.hid (X.out.trans' x1)
      clear x1
      go_wp2_with fail
      go_ret
      exact ⟨ret_bool HR.out.symm, X.out⟩
    have hk' : (ka != 0) = true := by simpa using hk
    have HO : Hid (o = (openB t b && !underL a b && !underL b a)) := Lib.hid (by rw [HO.out]; simp [hk])
    clear hk
    generalize openB t b = ob at HO KO
    generalize underL a b = ua at HO U1
    generalize underL b a = ub at HO U2
    cases ob
    · have HR : Hid (o = false) := Lib.hid (by rw [HO.out]; rfl)
      clear HO
      go_enter Tryz.func83, Tryz.ntmps83
      go_wp2_with fail
      refine (KA.out _ X.out).mono ?_
      rintro e w1 ⟨rfl, x1⟩
      have X := Lib.hid (X.out.trans' x1)
      obtain ⟨z7, z9, zl⟩ := HZ.out.ext X.out
      clear x1
      go_wp2_with fail
      refine (KO.out _ X.out).mono ?_
      rintro e w2 ⟨rfl, x2⟩
      have X := Lib.hid (X.out.trans' x2)
      clear x2
      go_wp2_with fail
      go_ret
      exact ⟨ret_bool HR.out.symm, X.out⟩
    cases ua
    · cases ub
      · have HR : Hid (o = true) := Lib.hid (by rw [HO.out]; rfl)
        clear HO
        go_enter Tryz.func83, Tryz.ntmps83
        go_wp2_with fail
        refine (KA.out _ X.out).mono ?_
        rintro e w1 ⟨rfl, x1⟩
        have X := Lib.hid (X.out.trans' x1)
        obtain ⟨z7, z9, zl⟩ := HZ.out.ext X.out
        clear x1
        go_wp2_with fail
        refine (KO.out _ X.out).mono ?_
        rintro e w2 ⟨rfl, x2⟩
        have X := Lib.hid (X.out.trans' x2)
        clear x2
        go_wp2_with fail
        refine (U1.out _ X.out).mono ?_
        rintro e w3 ⟨rfl, x3⟩
        have X := Lib.hid (X.out.trans' x3)
        clear x3
        go_wp2_with fail
        refine (U2.out _ X.out).mono ?_
        rintro e w4 ⟨rfl, x4⟩
        have X := Lib.hid (X.out.trans' x4)
        clear x4
        go_wp2_with fail
        go_ret
        exact ⟨ret_bool HR.out.symm, X.out⟩
      · have HR : Hid (o = false) := Lib.hid (by rw [HO.out]; rfl)
        clear HO
        go_enter Tryz.func83, Tryz.ntmps83
        go_wp2_with fail
        refine (KA.out _ X.out).mono ?_
        rintro e w1 ⟨rfl, x1⟩
        have X := Lib.hid (X.out.trans' x1)
        obtain ⟨z7, z9, zl⟩ := HZ.out.ext X.out
        clear x1
        go_wp2_with fail
        refine (KO.out _ X.out).mono ?_
        rintro e w2 ⟨rfl, x2⟩
        have X := Lib.hid (X.out.trans' x2)
        clear x2
        go_wp2_with fail
        refine (U1.out _ X.out).mono ?_
        rintro e w3 ⟨rfl, x3⟩
        have X := Lib.hid (X.out.trans' x3)
        clear x3
        go_wp2_with fail
        refine (U2.out _ X.out).mono ?_
        rintro e w4 ⟨rfl, x4⟩
        have X := Lib.hid (X.out.trans' x4)
        clear x4
        go_wp2_with fail
        go_ret
        exact ⟨ret_bool HR.out.symm, X.out⟩
    · have HR : Hid (o = false) := Lib.hid (by rw [HO.out]; simp)
      clear HO
      go_enter Tryz.func83, Tryz.ntmps83
      go_wp2_with fail
      refine (KA.out _ X.out).mono ?_
      rintro e w1 ⟨rfl, x1⟩
      have X := Lib.hid (X.out.trans' x1)
      obtain ⟨z7, z9, zl⟩ := HZ.out.ext X.out
      clear x1
      go_wp2_with fail
      refine (KO.out _ X.out).mono ?_
      rintro e w2 ⟨rfl, x2⟩
      have X := Lib.hid (X.out.trans' x2)
      clear x2
      go_wp2_with fail
      refine (U1.out _ X.out).mono ?_
      rintro e w3 ⟨rfl, x3⟩
      have X := Lib.hid (X.out.trans' x3)
      clear x3
      go_wp2_with fail
      go_ret
      exact ⟨ret_bool HR.out.symm, X.out⟩
  · have ha' : ¬ (0 : Int) < (a.length : Int) := by omega
    have ha2 : a.length = 0 := by omega
    have HR : Hid (o = false) := Lib.hid (by rw [HO.out, decide_eq_false ha]; rfl)
    clear ha HO
    rw [ha2]
    go_enter Tryz.func83, Tryz.ntmps83
    go_wp2_with fail
    go_ret
    exact ⟨ret_bool HR.out.symm, X.out⟩

/-- What is done to the file system: block g alone is written over; new blocks. -/
def FDone (B : Nat) (S : Nat → Prop) (g : Nat) (t : N) (w : World) (e : Ending) (w' : World) : Prop := e = .returned (.tuple #[]) ∧ Turns (fun b => b = g) w w' ∧ FSIs B (fun b => S b ∨ w.heap.size ≤ b) w' g t
/-- the tree of a file system is stored. -/
def setF (w : World) (g : Nat) (v0 v1 v2 v3 v4 v5 : Value) : World := (((((w.setCell ⟨g, 1, none⟩ v0).setCell ⟨g, 2, none⟩ v1).setCell ⟨g, 3, none⟩ v2).setCell ⟨g, 4, none⟩ v3).setCell ⟨g, 5, none⟩ v4).setCell ⟨g, 6, none⟩ v5
theorem heap_setF (w : World) (g : Nat) (v0 v1 v2 v3 v4 v5 : Value) {b : Nat} (hb : b ≠ g) : (setF w g v0 v1 v2 v3 v4 v5).heap[b]? = w.heap[b]? := by
  unfold setF
  rw [Below.heap_setCell _ _ _ _ (by exact hb), Below.heap_setCell _ _ _ _ (by exact hb), Below.heap_setCell _ _ _ _ (by exact hb), Below.heap_setCell _ _ _ _ (by exact hb), Below.heap_setCell _ _ _ _ (by exact hb), Below.heap_setCell _ _ _ _ (by exact hb)]
theorem size_setF (w : World) (g : Nat) (v0 v1 v2 v3 v4 v5 : Value) : (setF w g v0 v1 v2 v3 v4 v5).heap.size = w.heap.size := by simp [setF, World.setCell]
theorem Blk.setF {w : World} {g : Nat} {t : TypeId} {a b c d e f x y z u : Value} (h : Blk w g t #[x, a, b, c, d, e, f, y, z, u]) (v0 v1 v2 v3 v4 v5 : Value) : Blk (Go.Proofs.YtocndkhgopjhhaaGreat.setF w g v0 v1 v2 v3 v4 v5) g t #[x, v0, v1, v2, v3, v4, v5, y, z, u] := by
  have h1 : Blk (w.setCell ⟨g, 1, none⟩ v0) g t #[x, v0, b, c, d, e, f, y, z, u] := h.set_ 1 v0
  have h2 : Blk _ g t #[x, v0, v1, c, d, e, f, y, z, u] := h1.set_ 2 v1
  have h3 : Blk _ g t #[x, v0, v1, v2, d, e, f, y, z, u] := h2.set_ 3 v2
  have h4 : Blk _ g t #[x, v0, v1, v2, v3, e, f, y, z, u] := h3.set_ 4 v3
  have h5 : Blk _ g t #[x, v0, v1, v2, v3, v4, f, y, z, u] := h4.set_ 5 v4
  exact h5.set_ 6 v5
theorem Blk.cellsF {w : World} {g : Nat} {t : TypeId} {a b c d e f x y z u : Value} (h : Blk w g t #[x, a, b, c, d, e, f, y, z, u]) :
    (w.cell? ⟨g, 1, none⟩ = some a ∧ w.cell? ⟨g, 2, none⟩ = some b ∧ w.cell? ⟨g, 3, none⟩ = some c ∧ w.cell? ⟨g, 4, none⟩ = some d ∧ w.cell? ⟨g, 5, none⟩ = some e ∧ w.cell? ⟨g, 6, none⟩ = some f) ∧
      w.frozen? ⟨g, 1, none⟩ = false ∧ w.frozen? ⟨g, 2, none⟩ = false ∧ w.frozen? ⟨g, 3, none⟩ = false ∧ w.frozen? ⟨g, 4, none⟩ = false ∧ w.frozen? ⟨g, 5, none⟩ = false ∧ w.frozen? ⟨g, 6, none⟩ = false :=
  ⟨⟨h.cell 1, h.cell 2, h.cell 3, h.cell 4, h.cell 5, h.cell 6⟩, h.frozen 1, h.frozen 2, h.frozen 3, h.frozen 4, h.frozen 5, h.frozen 6⟩
theorem FDone.store {B : Nat} {S : Nat → Prop} {w w5 : World} {g : Nat} {t t' : N} {A0 : Option Addr} {c0 : Nat} {A0' : Option Addr} {c0' : Nat} {A : Option Addr} {c : Nat} {A' : Option Addr} {c' : Nat} (hx : Ext w w5) (hb : Blk w g 47 (fsC t A0 c0 A0' c0')) (hS : ∀ b, S b → b ≠ g)
    (h : TM B (fun b => S b ∨ w.heap.size ≤ b) w5 t' (termV t' A c A' c')) : FDone B S g t' w (.returned (.tuple #[])) (setF w5 g (.int .i64 (-1)) (.int .u8 t'.kind) (.string t'.text) (.int .i64 (-1)) (.slice A t'.names.length c) (.slice A' t'.kids.length c')) := by
  have hl := hb.lt
  obtain ⟨d, hr⟩ := h
  have hne : ∀ b, (S b ∨ w.heap.size ≤ b) → b ≠ g := fun b hb => by
    rcases hb with hb | hb
    · exact hS b hb
    · omega
  have hB := (hb.ext hx).setF (.int .i64 (-1)) (.int .u8 t'.kind) (.string t'.text) (.int .i64 (-1)) (.slice A t'.names.length c) (.slice A' t'.kids.length c')
  have hT : Turns (fun b => b = g) w5 (setF w5 g (.int .i64 (-1)) (.int .u8 t'.kind) (.string t'.text) (.int .i64 (-1)) (.slice A t'.names.length c) (.slice A' t'.kids.length c')) := by
    have s1 : ∀ (w : World) (k : Nat) (u : Value), Turns (fun b => b = g) w (w.setCell ⟨g, k, none⟩ u) := fun w k u => Turns.ofSet w ⟨g, k, none⟩ u
    have tt : ∀ x : Nat, x = g → x < w5.heap.size → x = g := fun _ h _ => h
    unfold setF
    exact Turns.trans (Turns.trans (Turns.trans (Turns.trans (Turns.trans (s1 _ _ _) (s1 _ _ _) tt) (s1 _ _ _) tt) (s1 _ _ _) tt) (s1 _ _ _) tt) (s1 _ _ _) tt
  have hR := TRep.keep (B' := B) (S' := fun b => S b ∨ w.heap.size ≤ b) (Nat.le_refl _) hT.size (fun b hb hl => hT.block b hl (hne b hb)) (fun _ h _ => h) (Nat.le_refl _) _ _ hr
  generalize setF w5 g (.int .i64 (-1)) (.int .u8 t'.kind) (.string t'.text) (.int .i64 (-1)) (.slice A t'.names.length c) (.slice A' t'.kids.length c') = w6 at *
  exact ⟨rfl, Turns.trans (Turns.ofExt hx) hT (fun _ h _ => h), d, A, c, A', c', hB, hR, hne⟩
theorem FDone.none {B B' : Nat} {S : Nat → Prop} {w w' : World} {g : Nat} {t : N} (h : FSIs B S w g t) (hB : B ≤ B') (hx : Ext w w') : FDone B' S g t w (.returned (.tuple #[])) w' := by
  obtain ⟨d, hf⟩ := h
  have hl := hf.lt
  refine ⟨rfl, Turns.ofExt hx, d, hf.keep hB (Nat.le_refl _) hx.size (hx.block g hl) (fun b _ hb => hx.block b hb) (fun b hb _ => .inl hb) (fun b hb => ?_)⟩
  rcases hb with hb | hb
  · exact hf.ne hb
  · omega
end Go.Proofs.YtocndkhgopjhhaaGreat
