/- touchstonelaw07: many, tower. -/
import Derived.Test.YtocndkhgopjhhaaProg
import Derived.Test.YtocndkhgopjhhaaWorks
import Derived.Laws.BytesArg
import Derived.Laws.OwnMore
import Derived.Outline
namespace Go.Proofs.Ytocndkhgopjhhaa
open Go.RowKit

theorem u8_info : (Try.prog.info? 5).map (fun i => (i.zero, i.size, i.bytes)) = some (some (.int .u8 0), 1, 1) := by kernel_rfl
/-- n bytes, the first j of them 'a' -/
def mA (n j : Nat) : Array Value := ((List.range n).map fun i => Value.int .u8 (if i < j then 97 else 0)).toArray
theorem mA_size (n j : Nat) : (mA n j).size = n := by simp [mA]
theorem mA_get {n j i : Nat} (h : i < n) : (mA n j)[i]? = some (.int .u8 (if i < j then 97 else 0)) := by simp [mA, h]
theorem mA_zero (n : Nat) : mA n 0 = madeCells #[.int .u8 0] n := by
  apply Array.ext
  · simp [mA, madeCells]
  · intro i h1 h2
    rw [mA_size] at h1
    simp [mA, madeCells, Nat.mod_one]
theorem mA_set {n j : Nat} (h : j < n) : (mA n j).setIfInBounds j (.int .u8 97) = mA n (j + 1) := by
  apply Array.ext
  · simp [mA]
  · intro i h1 h2
    rw [mA_size] at h2
    have e : ∀ k, (mA n k)[i]? = some (.int .u8 (if i < k then 97 else 0)) := fun k => mA_get h2
    have g : ((mA n j).setIfInBounds j (.int .u8 97))[i]? = (mA n (j + 1))[i]? := by
      rw [Array.getElem?_setIfInBounds, e, e, mA_size]
      by_cases hij : j = i
      · subst hij; simp [h]
      · rw [if_neg hij]
        congr 2
        by_cases q : i < j
        · rw [if_pos q, if_pos (by omega)]
        · rw [if_neg q, if_neg (by omega)]
    rw [Array.getElem?_eq_getElem h1, Array.getElem?_eq_getElem (by rw [mA_size]; exact h2)] at g
    injection g
theorem make_bytes (n : Nat) (hn : n ≤ 1000000) (W : World) : (Instr.makeSlice 56 (.int .i64 n) (.int .i64 n)).run Try.prog W = .ok (.slice (some ⟨W.heap.size, 0, none⟩) n n) (W.alloc (.cells (mA n 0) 5)) := by
  obtain ⟨i, hi, hz, hs, hb⟩ := info_parts u8_info
  have := run_makeSlice (P := Try.prog) W 56 5 i (.int .u8 0) Try.underlying56 hi hz .i64 .i64 n n (by omega) (Int.le_refl _) (by rw [hs]; omega) (by rw [hb]; omega) (by omega)
  rw [mA_zero]
  simp only [hs, Int.toNat_natCast, Nat.mul_one] at this
  exact this
/-- n times 'a' -/
def aStr (n : Nat) : ByteArray := strOfNums (List.replicate n 97)

set_option maxRecDepth 100000 in
set_option maxHeartbeats 1000000 in
theorem many_any (n : Nat) (hn : n ≤ 1000) (w : World) : Calls Try.prog 38 #[.int .i64 n] w fun e w' => e = .returned (.string (aStr n)) ∧ Ext w w' := by
  have hmk := make_bytes n (by omega) w
  have HX0 := Lib.hid (Ext.alloc' w (.cells (mA n 0) 5))
  have HB0 := Lib.hid (Blk.new w 5 (mA n 0))
  go_enter Try.func38, Try.ntmps38
  go_wp2_with fail
  go_loopw [4] (fun i wr => ∃ j : Nat, j ≤ n ∧ i = .int .i64 j ∧ Ext w wr ∧ Blk wr w.heap.size 5 (mA n j)) (fun i _ => n - (intOf i).toNat)
  case atStart => exact ⟨0, Nat.zero_le _, rfl, HX0.out, HB0.out⟩
  case round =>
    obtain ⟨j, hj, rfl, hx, hb⟩ := hrel
    have HX := Lib.hid hx
    have HB := Lib.hid hb
    have hl := hb.lt
    by_cases hlt : j < n
    · have c0 : wr.cell? ⟨w.heap.size, j, none⟩ = some (.int .u8 0) := by rw [hb.cell, mA_get hlt, if_neg (by omega)]
      have c1 := hb.frozen j
      have hi : (j : Int) < (n : Int) := by omega
      clear hx hb hmk
      go_wp2_with fail
      go_roundw
      case rel => exact ⟨j + 1, by omega, by go_num, HX.out.setCell (p := ⟨w.heap.size, j, none⟩) (Nat.le_refl _) _, by rw [← mA_set hlt]; exact HB.out.set_ j _⟩
      case measure => simp [intOf]; omega
    · have hjn : j = n := by omega
      subst hjn
      have hcv := run_convert_bytes_arg (P := Try.prog) wr 56 5 Try.underlying56 Try.underlying5 w.heap.size 0 j j (List.replicate j 97) (by simp) (fun i hi => by
        rw [Nat.zero_add, hb.cell, mA_get hi, if_pos hi]
        simp [List.getD, hi]) 9 Try.underlying9
      have hi : ¬ (j : Int) < (j : Int) := by omega
      clear hx hb hmk
      go_wp2_with fail
      go_ret
      exact ⟨rfl, HX.out⟩

/-- a directory in a directory -/
def towerN : Nat → N
  | 0 => nDir [] []
  | n + 1 => nDir [bA] [towerN n]
theorem towerN_dir (n : Nat) : ∃ ns ks, towerN n = nDir ns ks := by cases n <;> exact ⟨_, _, rfl⟩

set_option maxRecDepth 100000 in
set_option maxHeartbeats 2000000 in
theorem tower_any (n : Nat) (hn : n ≤ 1000) (w : World) : Calls Try.prog 40 #[.int .i64 n] w fun e w' => ∃ A c A' c', e = .returned (.agg #[.int .u8 (towerN n).kind, .string (towerN n).text, .slice A (towerN n).names.length c, .slice A' (towerN n).kids.length c']) ∧ Ext w w' ∧ Rep 4 Any w' (n + 1) (towerN n) (.agg #[.int .u8 (towerN n).kind, .string (towerN n).text, .slice A (towerN n).names.length c, .slice A' (towerN n).kids.length c']) := by
  have HB0 := Lib.hid (Blk.new w 25 #[.int .u8 0, .string { data := #[] }, .slice none 0 0, .slice none 0 0])
  go_enter Try.func40, Try.ntmps40
  go_wp2_with fail
  refine (dir_any _).mono ?_
  rintro e w1 ⟨rfl, x1⟩
  have hx1 := x1.size
  rw [World.size_alloc] at hx1
  have HB0 := Lib.hid ((HB0.out.ext x1).alloc (.cells #[.int .u8 2, .string { data := #[] }, .slice none 0 0, .slice none 0 0] 25))
  have HB1 := Lib.hid (Blk.new w1 25 #[.int .u8 2, .string { data := #[] }, .slice none 0 0, .slice none 0 0])
  have X1 := Lib.hid (((Ext.alloc' _ _).trans' x1).trans' (Ext.alloc' w1 (.cells #[.int .u8 2, .string { data := #[] }, .slice none 0 0, .slice none 0 0] 25)))
  clear x1
  go_wp2_with fail
  go_loopw [4] (fun i wr => ∃ (j : Nat) (A : Option Addr) (c : Nat) (A' : Option Addr) (c' : Nat), j ≤ n ∧ i = .int .i64 j ∧ Ext w wr ∧ Blk wr w.heap.size 25 #[.int .u8 0, .string { data := #[] }, .slice none 0 0, .slice none 0 0] ∧
      Blk wr w1.heap.size 25 #[.int .u8 (towerN j).kind, .string (towerN j).text, .slice A (towerN j).names.length c, .slice A' (towerN j).kids.length c'] ∧ Rep 4 (fun b => b ≠ w1.heap.size ∧ b ≠ w.heap.size) wr (j + 1) (towerN j) (.agg #[.int .u8 (towerN j).kind, .string (towerN j).text, .slice A (towerN j).names.length c, .slice A' (towerN j).kids.length c'])) (fun i _ => n - (intOf i).toNat)
  case atStart => exact ⟨0, none, 0, none, 0, Nat.zero_le _, rfl, X1.out, HB0.out, HB1.out, Rep.leaf (by decide)⟩
  case round =>
    obtain ⟨j, A, c, A', c', hj, rfl, hx, hb0, hb1, hr⟩ := hrel
    have HX := Lib.hid hx
    have HB0 := Lib.hid hb0
    have HB1 := Lib.hid hb1
    have HR := Lib.hid hr
    obtain ⟨p0, p1, p2, p3, f0, f1, f2, f3⟩ := hb1.cells4
    have hl := hb1.lt
    by_cases hlt : j < n
    · have hi : (j : Int) < (n : Int) := by omega
      clear hx hb0 hb1 hr
      go_wp2_with fail
      have e1 := Ext.alloc' wr (.cells #[.string bA] 9)
      have e2 := Ext.alloc' (wr.alloc (.cells #[.string bA] 9)) (.cells #[.int .u8 (towerN j).kind, .string (towerN j).text, .slice A (towerN j).names.length c, .slice A' (towerN j).kids.length c'] 25)
      have s1 := (strs1n wr bA (by decide)).ext e2
      have k2 := Kids.new (wr.alloc (.cells #[.string bA] 9)) (S := fun b => b ≠ w1.heap.size ∧ b ≠ w.heap.size) (B := 4) (d := j + 1) (ks := [towerN j]) (Flat.cons (HR.out.ext e1) Flat.nil) (by simp) (by simp [maxLen])
      rw [World.size_alloc] at k2
      refine (dir_any _).mono ?_
      rintro e w2 ⟨rfl, x2⟩
      have hz2 := x2.size
      simp only [World.size_alloc] at hz2
      have hr2 : Rep 4 (fun b => b ≠ w1.heap.size ∧ b ≠ w.heap.size) w2 (j + 1 + 1) (towerN (j + 1)) (.agg #[.int .u8 2, .string { data := #[] }, .slice (some ⟨wr.heap.size, 0, none⟩) 1 1, .slice (some ⟨wr.heap.size + 1, 0, none⟩) 1 1]) := by
        refine Rep.join (by decide) ((s1.ext x2).keep (Nat.le_refl _) (fun _ _ _ => rfl) (fun b hb _ => ?_)) ((k2.ext' x2).keep (Nat.le_refl _) (fun _ _ _ => rfl) (fun b hb _ => ?_))
        · omega
        · rcases hb with hb | hb
          · exact hb
          · omega
      have HR2 := Lib.hid hr2
      have HX2 := Lib.hid ((HX.out.trans' (e1.trans' e2)).trans' x2)
      have HB0 := Lib.hid (((HB0.out.ext e1).ext e2).ext x2)
      have HB1 := Lib.hid (((HB1.out.ext e1).ext e2).ext x2)
      obtain ⟨q0, q1, q2, q3, g0, g1, g2, g3⟩ := HB1.out.cells4
      have hl2 : w1.heap.size < w2.heap.size := by omega
      clear e1 e2 s1 k2 x2 hr2 p0 p1 p2 p3 f0 f1 f2 f3
      go_wp2_with fail
      go_roundw
      case rel =>
        refine ⟨j + 1, _, _, _, _, by omega, by go_num, HX2.out.set4 (g := w1.heap.size) (by omega) _ _ _ _, HB0.out.far4 (by omega) _ _ _ _, HB1.out.set4 _ _ _ _, ?_⟩
        exact Rep.keep (by rw [size_set4]; exact Nat.le_refl _) (fun b hb _ => heap_set4 _ _ _ _ _ _ hb.1) (fun _ h _ => h) _ _ _ HR2.out
      case measure => simp [intOf]; omega
    · have hjn : j = n := by omega
      subst hjn
      have hi : ¬ (j : Int) < (j : Int) := by omega
      obtain ⟨q0, q1, q2, q3, g0, g1, g2, g3⟩ := hb0.cells4
      have hl0 := hb0.lt
      clear hx hb0 hb1 hr
      go_wp2_with fail
      refine bodyPost_ret (results_cell rfl _ _ _ _ _ _ _ rfl (HB0.out.set4 _ _ _ _)) rfl ?_
      exact ⟨_, _, _, _, rfl, HX.out.set4 (Nat.le_refl _) _ _ _ _, Rep.keep (by rw [size_set4]; exact Nat.le_refl _) (fun b hb _ => heap_set4 _ _ _ _ _ _ hb.2) (fun _ _ _ => trivial) _ _ _ HR.out⟩
end Go.Proofs.Ytocndkhgopjhhaa
