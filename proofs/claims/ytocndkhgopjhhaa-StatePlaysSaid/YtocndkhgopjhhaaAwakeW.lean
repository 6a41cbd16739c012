/- touchstonelaw28.awake, walked: it answers yes. -/
import Derived.Test.YtocndkhgopjhhaaProg
import Derived.Test.YtocndkhgopjhhaaAwake28
import Derived.Outline
namespace Go.Proofs.Ytocndkhgopjhhaa
open Go.RowKit

/-- One of the three pops. -/
def AwkPop (T M : Nat → Prop) (w0 wr : World) (q n : Nat) (t : Td) (rest : List Td) (e : Ending) (w' : World) : Prop :=
  ∃ A c A' c', e = .returned (.tuple #[.agg #[.slice A n c, .slice A' 1 c'], .int .i64 0]) ∧ QSt T M w0 w' q 9 rest ∧ Turns M wr w' ∧ Tdv 128 T w' t (.agg #[.slice A n c, .slice A' 1 c'])
theorem pop_a3 {T M : Nat → Prop} {w0 wr : World} {q : Nat} (h : QSt T M w0 wr q 9 [tA [0], tA [0, 1], tA [1]]) : Calls Try.prog 31 #[.pointer (some ⟨q, 0, none⟩)] wr (AwkPop T M w0 wr q 1 (tA [0]) [tA [0, 1], tA [1]]) := by
  refine (h.pop (by simp) (by simp)).mono ?_
  rintro e w1 ⟨A, c, A', c', r, rest, rfl, hp, hmin, hq1, ht1, htd1⟩
  obtain ⟨rfl, hpr⟩ := awk3 hp hmin
  exact ⟨A, c, A', c', rfl, hq1.perm hpr, ht1, htd1⟩
theorem pop_a2 {T M : Nat → Prop} {w0 wr : World} {q : Nat} (h : QSt T M w0 wr q 9 [tA [0, 1], tA [1]]) : Calls Try.prog 31 #[.pointer (some ⟨q, 0, none⟩)] wr (AwkPop T M w0 wr q 2 (tA [0, 1]) [tA [1]]) := by
  refine (h.pop (by simp) (by simp)).mono ?_
  rintro e w1 ⟨A, c, A', c', r, rest, rfl, hp, hmin, hq1, ht1, htd1⟩
  obtain ⟨rfl, hpr⟩ := awk2 hp hmin
  exact ⟨A, c, A', c', rfl, hq1.perm hpr, ht1, htd1⟩
theorem pop_a1 {T M : Nat → Prop} {w0 wr : World} {q : Nat} (h : QSt T M w0 wr q 9 [tA [1]]) : Calls Try.prog 31 #[.pointer (some ⟨q, 0, none⟩)] wr (AwkPop T M w0 wr q 1 (tA [1]) []) := by
  refine (h.pop (by simp) (by simp)).mono ?_
  rintro e w1 ⟨A, c, A', c', r, rest, rfl, hp, hmin, hq1, ht1, htd1⟩
  obtain ⟨rfl, hpr⟩ := awk1 hp
  exact ⟨A, c, A', c', rfl, hq1.perm hpr, ht1, htd1⟩
theorem first_cell {T : Nat → Prop} {w : World} {A : Option Addr} {n c : Nat} {z : Int} {zs : List Int} {fs : List Fc} {fv : Value} (h : Tdv 128 T w ⟨z :: zs, fs⟩ (.agg #[.slice A n c, fv])) : ∃ b o, A = some ⟨b, o, none⟩ ∧ T b ∧ b < w.heap.size ∧ w.cell? ⟨b, o, none⟩ = some (.int .i64 z) := by
  obtain ⟨_, _, e, ⟨A', c', e1, _, _, _, _, h1⟩, _⟩ := h
  injection e with e
  simp only [Array.mk.injEq, List.cons.injEq, and_true] at e
  obtain ⟨e2, _⟩ := e
  rw [e1] at e2
  injection e2 with e3 _ _
  obtain ⟨b, o, e4, hT, hl, hc⟩ := h1 (by simp)
  exact ⟨b, o, by rw [e3]; exact e4, hT, hl, by have := hc 0 z (by simp); simpa using this⟩

set_option maxRecDepth 100000 in
set_option maxHeartbeats 4000000 in
theorem awake28_any (w : World) : Calls Try.prog 27 #[] w fun e w' => e = .returned (.bool true) ∧ Ext w w' := by
  have hq0 := QSt.new w 9
  have HQ0 := Lib.hid hq0
  clear hq0
  go_enter Try.func27, Try.ntmps27
  go_wp2_with (go_at_call 28; refine (qnew_any 9 _ (by decide) (by decide)).mono ?_; rintro e w1 ⟨rfl, rfl⟩)
  obtain ⟨W4, hW⟩ : ∃ W4, W4 = ((((w.alloc (.cells #[.slice none 0 0, .int .i64 9] 116)).alloc (.cells #[.int .i64 1] 3)).alloc (.cells #[.int .i64 0, .int .i64 1] 3)).alloc (.cells #[.int .i64 0] 3)).alloc
    (.cells #[.slice (some ⟨w.heap.size + 1, 0, none⟩) 1 1, .slice (some ⟨w.heap.size + 1 + 1, 0, none⟩) 2 2, .slice (some ⟨w.heap.size + 1 + 1 + 1, 0, none⟩) 1 1] 35) := ⟨_, rfl⟩
  have hX : Ext (w.alloc (.cells #[.slice none 0 0, .int .i64 9] 116)) W4 := by rw [hW]; exact (((Ext.alloc' _ _).trans' (Ext.alloc' _ _)).trans' (Ext.alloc' _ _)).trans' (Ext.alloc' _ _)
  have b1 : Blk W4 (w.heap.size + 1) 3 #[.int .i64 1] := by rw [hW]; exact (((Blk.new' _ _ _ (by simp)).alloc _).alloc _).alloc _
  have b2 : Blk W4 (w.heap.size + 1 + 1) 3 #[.int .i64 0, .int .i64 1] := by rw [hW]; exact ((Blk.new' _ _ _ (by simp)).alloc _).alloc _
  have b3 : Blk W4 (w.heap.size + 1 + 1 + 1) 3 #[.int .i64 0] := by rw [hW]; exact (Blk.new' _ _ _ (by simp)).alloc _
  have b4 : Blk W4 (w.heap.size + 1 + 1 + 1 + 1) 35 #[.slice (some ⟨w.heap.size + 1, 0, none⟩) 1 1, .slice (some ⟨w.heap.size + 1 + 1, 0, none⟩) 2 2, .slice (some ⟨w.heap.size + 1 + 1 + 1, 0, none⟩) 1 1] := by rw [hW]; exact Blk.new' _ _ _ (by simp)
  have R1 := Lib.hid (Ints.lit (zs := [1]) b1 (by simp) (by simp) (by intro z hz; simp at hz; subst hz; decide))
  have R2 := Lib.hid (Ints.lit (zs := [0, 1]) b2 (by simp) (by simp) (by intro z hz; simp at hz; rcases hz with rfl | rfl <;> decide))
  have R3 := Lib.hid (Ints.lit (zs := [0]) b3 (by simp) (by simp) (by intro z hz; simp at hz; subst hz; decide))
  have B4 := Lib.hid b4
  have hL : AwkL w W4 W4 [] := ⟨_, _, HQ0.out.ext hX, ⟨rfl, rfl, rfl, Nat.le_refl _, fun _ _ _ => rfl⟩, fun b hb => .inl hb⟩
  have HL := Lib.hid hL
  have HXw := Lib.hid ((Ext.alloc' w _).trans' hX)
  rw [← hW]
  clear hW hX b1 b2 b3 b4 hL
  go_loopw [22] (fun i wr => ∃ k : Int, i = .int .i64 k ∧ (k = 0 ∧ AwkL w W4 wr [] ∨ k = 1 ∧ AwkL w W4 wr [tA [1]] ∨ k = 2 ∧ AwkL w W4 wr [tA [0, 1], tA [1]] ∨ k = 3 ∧ AwkL w W4 wr [tA [0], tA [0, 1], tA [1]])) (fun i _ => (3 - intOf i).toNat)
  case atStart => exact ⟨0, rfl, .inl ⟨rfl, HL.out⟩⟩
  case round =>
    obtain ⟨k, rfl, hk⟩ := hrel
    have hcell : ∀ ts, AwkL w W4 wr ts → ∀ o, wr.cell? ⟨w.heap.size + 1 + 1 + 1 + 1, o, none⟩ = W4.cell? ⟨w.heap.size + 1 + 1 + 1 + 1, o, none⟩ := by
      rintro ts ⟨_, _, _, ht, _⟩ o
      exact World.cell?_of_block (ht.block _ B4.out.lt (fun e => by have e' : w.heap.size + 1 + 1 + 1 + 1 = w.heap.size := e; omega))
    have HCell := Lib.hid hcell
    clear hcell
    rcases hk with ⟨rfl, ha⟩ | ⟨rfl, ha⟩ | ⟨rfl, ha⟩ | ⟨rfl, ha⟩
    · have hc : wr.cell? ⟨w.heap.size + 1 + 1 + 1 + 1, 0, none⟩ = some (.slice (some ⟨w.heap.size + 1, 0, none⟩) 1 1) := (HCell.out _ ha 0).trans (B4.out.cell 0)
      have HA := Lib.hid ha
      clear ha
      go_wp2_with (first
        | (go_at_call 35; refine (root28_any _).mono ?_; rintro e w1 ⟨rfl, rfl⟩)
        | (go_at_call 29; refine (HA.out.push (by simp) push_a1 R1.out (by omega)).mono ?_; rintro e w2 ⟨rfl, ha⟩; have HA2 := Lib.hid ha; clear ha))
      go_roundw
      case rel => exact ⟨1, rfl, .inr (.inl ⟨rfl, HA2.out⟩)⟩
      case measure => simp [intOf]
    · have hc : wr.cell? ⟨w.heap.size + 1 + 1 + 1 + 1, 1, none⟩ = some (.slice (some ⟨w.heap.size + 1 + 1, 0, none⟩) 2 2) := (HCell.out _ ha 1).trans (B4.out.cell 1)
      have HA := Lib.hid ha
      clear ha
      go_wp2_with (first
        | (go_at_call 35; refine (root28_any _).mono ?_; rintro e w1 ⟨rfl, rfl⟩)
        | (go_at_call 29; refine (HA.out.push (by simp) push_a2 R2.out (by omega)).mono ?_; rintro e w2 ⟨rfl, ha⟩; have HA2 := Lib.hid ha; clear ha))
      go_roundw
      case rel => exact ⟨2, rfl, .inr (.inr (.inl ⟨rfl, HA2.out⟩))⟩
      case measure => simp [intOf]
    · have hc : wr.cell? ⟨w.heap.size + 1 + 1 + 1 + 1, 2, none⟩ = some (.slice (some ⟨w.heap.size + 1 + 1 + 1, 0, none⟩) 1 1) := (HCell.out _ ha 2).trans (B4.out.cell 2)
      have HA := Lib.hid ha
      clear ha
      go_wp2_with (first
        | (go_at_call 35; refine (root28_any _).mono ?_; rintro e w1 ⟨rfl, rfl⟩)
        | (go_at_call 29; refine (HA.out.push (by simp) push_a3 R3.out (by omega)).mono ?_; rintro e w2 ⟨rfl, ha⟩; have HA2 := Lib.hid ha; clear ha))
      go_roundw
      case rel => exact ⟨3, rfl, .inr (.inr (.inr ⟨rfl, HA2.out⟩))⟩
      case measure => simp [intOf]
    · obtain ⟨T, M, hq, htn, hM⟩ := ha
      have HQ := Lib.hid hq
      have HTN := Lib.hid htn
      have HM := Lib.hid hM
      clear hq htn hM
      go_wp2_with fail
      refine (pop_a3 HQ.out).mono ?_
      rintro e w1 ⟨A1, c1, A1', c1', rfl, hq1, ht1, htd1⟩
      have HQ1 := Lib.hid hq1
      have HT1 := Lib.hid ht1
      have HD1 := Lib.hid htd1
      clear hq1 ht1 htd1
      go_wp2_with fail
      refine (pop_a2 (HQ1.out.ext (Ext.alloc' _ _))).mono ?_
      rintro e w2 ⟨A2, c2, A2', c2', rfl, hq2, ht2, htd2⟩
      have HQ2 := Lib.hid hq2
      have HT2 := Lib.hid ht2
      clear hq2 ht2 htd2
      go_wp2_with fail
      refine (pop_a1 (HQ2.out.ext (Ext.alloc' _ _))).mono ?_
      rintro e w3 ⟨A3, c3, A3', c3', rfl, hq3, ht3, htd3⟩
      have HQ3 := Lib.hid hq3
      have HT3 := Lib.hid ht3
      have HD3 := Lib.hid htd3
      clear hq3 ht3 htd3
      have hap := HQ.out.apart
      have z1 := HT1.out.size
      have z2 := HT2.out.size
      have z3 := HT3.out.size
      simp only [World.size_alloc] at z2 z3
      have t13 : Turns M (w1.alloc (.cells #[.slice A1 1 c1, .slice A1' 1 c1'] 48)) w3 := Turns.trans HT2.out (Turns.trans (Turns.ofExt (Ext.alloc' w2 (.cells #[.slice A2 2 c2, .slice A2' 1 c2'] 48)) (F := M)) HT3.out (fun _ h _ => h)) (fun _ h _ => h)
      have hb1 : Blk w3 w1.heap.size 48 #[.slice A1 1 c1, .slice A1' 1 c1'] := (t13.block w1.heap.size (by simp) (fun h => by have := (hap.2 _ h).1; omega)).trans (Blk.new _ _ _)
      have hb2 : Blk w3 w2.heap.size 48 #[.slice A2 2 c2, .slice A2' 1 c2'] := (HT3.out.block w2.heap.size (by simp) (fun h => by have := (hap.2 _ h).1; omega)).trans (Blk.new _ _ _)
      obtain ⟨ba, oa, rfl, hTa, hla, ha⟩ := first_cell HD1.out
      obtain ⟨bc, oc, rfl, hTc, hlc, hc⟩ := first_cell HD3.out
      have y1 : w3.cell? ⟨ba, oa, none⟩ = some (.int .i64 0) := by
        refine (World.cell?_of_block (w := w1) ?_).trans ha
        exact (t13.block ba (by simp; omega) (hap.1 ba hTa).2.2).trans ((Ext.alloc' w1 _).block ba hla)
      have x1 : w3.cell? ⟨w1.heap.size, 0, none⟩ = some (.slice (some ⟨ba, oa, none⟩) 1 c1) := hb1.cell 0
      have x2 : w3.cell? ⟨w2.heap.size, 0, none⟩ = some (.slice A2 2 c2) := hb2.cell 0
      have s1 : w1.heap.size < w3.heap.size := by omega
      have s2 : w2.heap.size < w3.heap.size := by omega
      have s3 : ba < w3.heap.size := by omega
      have hE : Ext w w3 := by
        have e0 : Ext w wr := Ext.turn HXw.out HTN.out (fun b hb => by have e : b = w.heap.size := hb; omega)
        have e1 := Ext.turn e0 HT1.out (fun b hb => (hap.2 b hb).2)
        exact Ext.turn (e1.trans' (Ext.alloc' _ _)) t13 (fun b hb => (hap.2 b hb).2)
      have HE := Lib.hid hE
      have HQF := Lib.hid (HQ3.out.ext (Ext.alloc' w3 (.cells #[.slice (some ⟨bc, oc, none⟩) 1 c3, .slice A3' 1 c3'] 48)))
      clear hap t13 hb1 hb2 hTa hTc ha hE z1 z2 z3 hla
      go_wp2_with (go_at_call 34; refine HQF.out.len.mono ?_; rintro e w5 ⟨rfl, rfl⟩)
      go_ret
      exact ⟨rfl, HE.out.trans' (Ext.alloc' _ _)⟩
end Go.Proofs.Ytocndkhgopjhhaa
