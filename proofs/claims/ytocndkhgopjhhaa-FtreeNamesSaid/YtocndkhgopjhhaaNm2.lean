/- touchstonelaw07.wide. -/
import Derived.Test.YtocndkhgopjhhaaProg
import Derived.Test.YtocndkhgopjhhaaNm1
import Derived.Test.YtocndkhgopjhhaaBase
import Derived.Test.YtocndkhgopjhhaaStepA
import Derived.Deep.DeepCutAuto
import Derived.Deep.RegionLaw
import Derived.Outline
namespace Go.Proofs.Ytocndkhgopjhhaa
open Go.RowKit

/-- the name of number i -/
def wName (i : Nat) : ByteArray := strOfNums [97 + (i : Int) / 676, 97 + (i : Int) / 26 % 26, 97 + (i : Int) % 26]
def wNames' (n : Nat) : List ByteArray := (List.range n).map wName
def wideN (n : Nat) : N := nDir (wNames' n) (List.replicate n (nFile bN))
theorem wNames_succ (n : Nat) : wNames' (n + 1) = wNames' n ++ [wName n] := by simp [wNames', List.range_succ]
/-- the cells of n empty files -/
def fCells (n : Nat) : List Value := (List.replicate n [Value.int .u8 1, .string bN, .slice none 0 0, .slice none 0 0]).flatten
theorem fCells_succ (n : Nat) : fCells (n + 1) = fCells n ++ [Value.int .u8 1, .string bN, .slice none 0 0, .slice none 0 0] := by
  unfold fCells
  rw [List.replicate_succ']
  simp
theorem fCells_len (n : Nat) : (fCells n).length = n * 4 := by
  induction n with
  | zero => rfl
  | succ n ih => rw [fCells_succ]; simp [ih]; omega

theorem fCells_get (n : Nat) : ∀ (i : Nat), i < n → (fCells n)[i * 4]? = some (.int .u8 1) ∧ (fCells n)[i * 4 + 1]? = some (.string bN) ∧ (fCells n)[i * 4 + 2]? = some (.slice none 0 0) ∧ (fCells n)[i * 4 + 3]? = some (.slice none 0 0) := by
  induction n with
  | zero => intro i h; omega
  | succ n ih =>
    intro i h
    rw [fCells_succ]
    have hl := fCells_len n
    by_cases hi : i < n
    · obtain ⟨a, b, c, d⟩ := ih i hi
      refine ⟨?_, ?_, ?_, ?_⟩ <;> (rw [List.getElem?_append_left (by omega)]; assumption)
    · have e : i = n := by omega
      subst e
      refine ⟨?_, ?_, ?_, ?_⟩ <;> (rw [List.getElem?_append_right (by omega), hl])
      · rw [show i * 4 - i * 4 = 0 by omega]; rfl
      · rw [show i * 4 + 1 - i * 4 = 1 by omega]; rfl
      · rw [show i * 4 + 2 - i * 4 = 2 by omega]; rfl
      · rw [show i * 4 + 3 - i * 4 = 3 by omega]; rfl

theorem wName_size (i : Nat) : (wName i).size ≤ maxLen := by unfold wName strOfNums; simp [maxLen, ByteArray.size]
/-- an owned row of names and one of empty files read as the wide directory. -/
theorem wide_rep {w : World} {base n : Nat} {A A' : Option Addr} {c c' : Nat} (hn : n ≤ 2000) (ho : w.ownsRow base 9 1 (.slice A n c) n ((wNames' n).map Value.string)) (hk : w.ownsRow base 25 4 (.slice A' n c') n (fCells n)) : Rep 2000 (fun b => base ≤ b) w 2 (wideN n) (.agg #[.int .u8 2, .string { data := #[] }, .slice A n c, .slice A' n c']) := by
  have hl : (wNames' n).length = n := by simp [wNames']
  have h1 : OwnStrs w base (.slice A n c) (wNames' n) := by unfold OwnStrs; rw [hl]; exact ho
  have h2 : OwnKids 2000 (fun _ => False) w 1 base (.slice A' n c') (List.replicate n (nFile bN)) := by
    refine ⟨fCells n, by rw [List.length_replicate]; exact hk, fun _ _ h => h, fun i t hi => ?_⟩
    have hin : i < n := by have := (List.getElem?_eq_some_iff.1 hi).1; simpa using this
    obtain ⟨a, b, c, d⟩ := fCells_get n i hin
    rw [List.getElem?_replicate, if_pos hin] at hi
    injection hi with hi
    subst hi
    exact ⟨_, _, _, _, a, b, c, d, Rep.leaf (by decide)⟩
  refine Rep.join (by decide) ((h1.strs (by omega) (fun s hs => ?_)).wide (Nat.le_refl _) (Below.refl _ _) (fun b hb _ => (ownsRow_lt ho hb).1)) ((h2.kids (by simpa using hn)).keep (Nat.le_refl _) (fun _ _ _ => rfl) (fun b hb _ => ?_))
  · unfold wNames' at hs
    obtain ⟨i, _, rfl⟩ := List.mem_map.1 hs
    exact wName_size i
  · rcases hb with hb | hb
    · exact hb.elim
    · exact (ownsRow_lt hk hb).1

set_option maxRecDepth 100000 in
set_option maxHeartbeats 4000000 in
theorem wide_any (n : Nat) (hn : n ≤ 2000) (w : World) : Calls Try.prog 41 #[.int .i64 n] w fun e w' => ∃ A c A' c', e = .returned (.agg #[.int .u8 2, .string { data := #[] }, .slice A n c, .slice A' n c']) ∧ Ext w w' ∧ Rep 2000 Any w' 2 (wideN n) (.agg #[.int .u8 2, .string { data := #[] }, .slice A n c, .slice A' n c']) := by
  obtain ⟨i1, hi1, hy1, hy2, hy3⟩ := info_parts string_info
  obtain ⟨i4, hi4, hz1, hz2, hz3⟩ := info_parts node_info
  have HI1 := Lib.hid hi1
  have HY1 := Lib.hid hy1
  have HY2 := Lib.hid hy2
  have HY3 := Lib.hid hy3
  have HI4 := Lib.hid hi4
  have HZ1 := Lib.hid hz1
  have HZ2 := Lib.hid hz2
  have HZ3 := Lib.hid hz3
  have HB0 := Lib.hid ((Blk.new w 25 #[.int .u8 0, .string { data := #[] }, .slice none 0 0, .slice none 0 0]).alloc (.cells #[.int .u8 2, .string { data := #[] }, .slice none 0 0, .slice none 0 0] 25))
  have HB1 := Lib.hid (Blk.new' (w.alloc (.cells #[.int .u8 0, .string { data := #[] }, .slice none 0 0, .slice none 0 0] 25)) 25 #[.int .u8 2, .string { data := #[] }, .slice none 0 0, .slice none 0 0] (n := w.heap.size + 1) (by simp))
  have HX0 := Lib.hid ((Ext.alloc' w (.cells #[.int .u8 0, .string { data := #[] }, .slice none 0 0, .slice none 0 0] 25)).trans' (Ext.alloc' _ (.cells #[.int .u8 2, .string { data := #[] }, .slice none 0 0, .slice none 0 0] 25)))
  clear hi1 hy1 hy2 hy3 hi4 hz1 hz2 hz3
  go_enter Try.func41, Try.ntmps41
  go_wp2_with fail
  go_loopw [4] (fun i wr => ∃ (j : Nat) (A : Option Addr) (c : Nat) (A' : Option Addr) (c' : Nat), j ≤ n ∧ i = .int .i64 j ∧ Ext w wr ∧ Blk wr w.heap.size 25 #[.int .u8 0, .string { data := #[] }, .slice none 0 0, .slice none 0 0] ∧
      Blk wr (w.heap.size + 1) 25 #[.int .u8 2, .string { data := #[] }, .slice A j c, .slice A' j c'] ∧ wr.ownsRow (w.heap.size + 2) 9 1 (.slice A j c) j ((wNames' j).map Value.string) ∧ wr.ownsRow (w.heap.size + 2) 25 4 (.slice A' j c') j (fCells j)) (fun i _ => n - (intOf i).toNat)
  case atStart => exact ⟨0, none, 0, none, 0, Nat.zero_le _, rfl, HX0.out, HB0.out, HB1.out, World.ownsRow_nil _ _ _ _, World.ownsRow_nil _ _ _ _⟩
  case round =>
    obtain ⟨j, A, c, A', c', hj, rfl, hx, hb0, hb1, ho, hk⟩ := hrel
    have HX := Lib.hid hx
    have HB0 := Lib.hid hb0
    have HB1 := Lib.hid hb1
    have HO := Lib.hid ho
    have HK := Lib.hid hk
    obtain ⟨p0, p1, p2, p3, f0, f1, f2, f3⟩ := hb1.cells4
    have hl := hb1.lt
    by_cases hlt : j < n
    · have hi : (j : Int) < (n : Int) := by omega
      clear hx hb0 hb1 ho hk
      have hcv := run_convert_bytes_arg (P := Try.prog) (wr.alloc (.cells #[.int .u8 (97 + (j : Int) / 676), .int .u8 (97 + (j : Int) / 26 % 26), .int .u8 (97 + (j : Int) % 26)] 5)) 56 5 Try.underlying56 Try.underlying5 wr.heap.size 0 3 3 [97 + (j : Int) / 676, 97 + (j : Int) / 26 % 26, 97 + (j : Int) % 26] rfl (fun i hi => by
        rw [Nat.zero_add, (Blk.new wr 5 _).cell]
        have : i = 0 ∨ i = 1 ∨ i = 2 := by omega
        rcases this with rfl | rfl | rfl <;> rfl) 9 Try.underlying9
      have hcv' : (convert 56 9 (.slice (some ⟨wr.heap.size, 0, none⟩) 3 3)).run Try.prog (wr.alloc (.cells #[.int .u8 (97 + (j : Int) / 676), .int .u8 (97 + (j : Int) / 26 % 26), .int .u8 (97 + (j : Int) % 26)] 5)) = .ok (.string (wName j)) (wr.alloc (.cells #[.int .u8 (97 + (j : Int) / 676), .int .u8 (97 + (j : Int) / 26 % 26), .int .u8 (97 + (j : Int) % 26)] 5)) := hcv
      clear hcv
      have HO2 : Hid (∀ X Y, ((wr.alloc X).alloc Y).ownsRow (w.heap.size + 2) 9 1 (.slice A j c) j ((wNames' j).map Value.string)) := Lib.hid fun X Y => ownsRow_ext HO.out fun g hg => by
        have hl := (ownsRow_lt HO.out hg).2
        rw [Below.heap_alloc _ _ _ (by simp; omega), Below.heap_alloc _ _ _ hl]
      go_upto_region 6 with (at_builtin; refine wpList_app _ rfl (.tmp 12) (.tmp 28) _ rfl (w.heap.size + 2) 9 i1 _ 1 16 Try.underlying22 HI1.out HY1.out HY2.out HY3.out rfl (by omega) (.slice A j c) j _ rfl (HO2.out _ _) (some ⟨wr.heap.size + 1, 0, none⟩) 1 1 [_] rfl rfl (fun _ => ⟨_, rfl, cells1_new (by simp) _ _⟩) (by simp [Value.oneCell']) (by simp only [maxLen]; omega) (by omega) (by simp; omega) ?_; intro v' w3 ho' hg' hat'; obtain ⟨A3, c3, rfl⟩ := ownsRow_form ho'; have hb3 := ((HB1.out.alloc (.cells #[.int .u8 (97 + (j : Int) / 676), .int .u8 (97 + (j : Int) / 26 % 26), .int .u8 (97 + (j : Int) % 26)] 5)).alloc (.cells #[.string (wName j)] 9)).grown hg' (fun e => by have := (ownsRow_lt HO.out e.symm).1; omega); have HB3 := Lib.hid hb3; obtain ⟨q0, q1, q2, q3, g0, g1, g2, g3⟩ := hb3.cells4; have hl3 := hb3.lt; clear hb3)
      obtain ⟨W6, hW6⟩ : ∃ W6, W6 = w3.setCell ⟨w.heap.size + 1, 2, none⟩ (.slice A3 (j + 1) c3) := ⟨_, rfl⟩
      have HB6 := Lib.hid (show Blk W6 (w.heap.size + 1) 25 #[.int .u8 2, .string { data := #[] }, .slice A3 (j + 1) c3, .slice A' j c'] by rw [hW6]; exact HB3.out.set2 _)
      have hx3 : Ext w w3 := Ext.grown ((HX.out.trans' (Ext.alloc' wr _)).trans' (Ext.alloc' _ _)) hg' (fun g hg => by have := (ownsRow_lt HO.out hg).1; omega)
      have HX6 := Lib.hid (show Ext w W6 by rw [hW6]; exact hx3.setCell (p := ⟨w.heap.size + 1, 2, none⟩) (by simp) _)
      have HZ6 := Lib.hid (show Blk W6 w.heap.size 25 #[.int .u8 0, .string { data := #[] }, .slice none 0 0, .slice none 0 0] by
        rw [hW6]
        exact (((HB0.out.alloc _).alloc _).grown hg' (fun e => by have := (ownsRow_lt HO.out e.symm).1; omega)).far (by simp) _)
      have HO6 := Lib.hid (show W6.ownsRow (w.heap.size + 2) 9 1 (.slice A3 (j + 1) c3) (j + 1) ((wNames' (j + 1)).map Value.string) by
        rw [wNames_succ, List.map_append, hW6]
        exact ownsRow_ext ho' fun g hg => Below.heap_setCell _ _ _ _ (by have := (ownsRow_lt ho' hg).1; simp; omega))
      have HK6 := Lib.hid (show W6.ownsRow (w.heap.size + 2) 25 4 (.slice A' j c') j (fCells j) by
        rw [hW6]
        refine ownsRow_ext HK.out fun g hg => ?_
        have hgl := ownsRow_lt HK.out hg
        rw [Below.heap_setCell _ _ _ _ (by simp; omega), hg'.block g (by simp; omega) (fun e => ownsRow_ne HK.out HO.out (by decide) hg e.symm), Below.heap_alloc _ _ _ (by simp; omega), Below.heap_alloc _ _ _ hgl.2])
      rw [← hW6]
      have r3 : W6.cell? ⟨w.heap.size + 1, 3, none⟩ = some (.slice A' j c') := HB6.out.cell 3
      have rl := HB6.out.lt
      clear hW6 hx3 ho' hg' hat' q0 q1 q2 q3 g0 g1 g2 g3 hl3 p0 p1 p2 p3 f0 f1 f2 f3 hcv'
      go_region_law (first
        | (refine stepCall rfl 37 #[.const (.string { data := #[] })] #[9] rfl #[.string { data := #[] }] (by simp [Act.eval]) (fun _ _ => by kernel_rfl) (file_any _ _) ?_
           rintro e w7 ⟨rfl, x7⟩
           refine ⟨_, rfl, ?_⟩
           have hx7 := Ext.trans' (Below.drew (Below.refl _ W6)) x7
           have HB7 := Lib.hid (HB6.out.ext hx7)
           have HK7 : Hid (∀ Y, (w7.alloc Y).ownsRow (w.heap.size + 2) 25 4 (.slice A' j c') j (fCells j)) := Lib.hid fun Y => ownsRow_ext HK6.out fun g hg => by
             have hl := (ownsRow_lt HK6.out hg).2
             rw [Below.heap_alloc _ _ _ (by have := hx7.size; omega), hx7.block g hl]
           have r7 : w7.cell? ⟨w.heap.size + 1, 3, none⟩ = some (.slice A' j c') := HB7.out.cell 3
           have rl7 := HB7.out.lt
           have HX7 := Lib.hid hx7
           have hz7 := hx7.size
           clear x7 hx7)
        | (refine stepAH rfl (.tmp 32) (.tmp 34) 23 rfl (w.heap.size + 2) 25 i4 _ 4 72 Try.underlying23 HI4.out HZ1.out HZ2.out HZ3.out rfl (by omega) (.slice A' j c') j _ rfl (HK7.out _) (some ⟨w7.heap.size, 0, none⟩) 1 1 [_, _, _, _] rfl rfl (fun _ => ⟨_, rfl, cells4_new _ _ _ _ _ _⟩) (by simp [Value.oneCell']) (by simp only [maxLen]; omega) (by omega) (by simp; omega) ?_
           intro v8 w8 ho8 hg8 _
           obtain ⟨A8, c8, rfl⟩ := ownsRow_form ho8
           have HO8 := Lib.hid ho8
           have HG8 := Lib.hid hg8
           have hb8 := (HB7.out.alloc (.cells #[.int .u8 1, .string { data := #[] }, .slice none 0 0, .slice none 0 0] 25)).grown hg8 (fun e => by have := (ownsRow_lt HK6.out e.symm).1; omega)
           have HB8 := Lib.hid hb8
           obtain ⟨q0, q1, q2, q3, g0, g1, g2, g3⟩ := hb8.cells4
           have hl8 := hb8.lt
           clear hb8 ho8 hg8))
      all_goals
        go_wp2_with fail
        go_roundw
        case rel =>
          refine ⟨j + 1, A3, c3, A8, c8, by omega, by go_num, ?_, ?_, HB8.out.set3 _, ?_, ?_⟩
          · exact (Ext.grown (((HX6.out.trans' HX7.out).trans' (Ext.alloc' _ _))) HG8.out (fun g hg => by have := (ownsRow_lt HK6.out hg).1; omega)).setCell (p := ⟨w.heap.size + 1, 3, none⟩) (by simp) _
          · exact (((HZ6.out.ext HX7.out).alloc _).grown HG8.out (fun e => by have := (ownsRow_lt HK6.out e.symm).1; omega)).far (by simp) _
          · refine ownsRow_ext HO6.out fun g hg => ?_
            have hgl := ownsRow_lt HO6.out hg
            rw [Below.heap_setCell _ _ _ _ (by simp; omega), HG8.out.block g (by simp; omega) (fun e => ownsRow_ne HO6.out HK6.out (by decide) hg e.symm), Below.heap_alloc _ _ _ (by omega), HX7.out.block g hgl.2]
          · rw [fCells_succ]
            exact ownsRow_ext HO8.out fun g hg => Below.heap_setCell _ _ _ _ (by have := (ownsRow_lt HO8.out hg).1; simp; omega)
        case measure => simp [intOf]; omega
    · have hjn : j = n := by omega
      subst hjn
      have hi : ¬ (j : Int) < (j : Int) := by omega
      obtain ⟨q0, q1, q2, q3, g0, g1, g2, g3⟩ := hb0.cells4
      have hl0 := hb0.lt
      clear hx hb0 hb1 ho hk
      go_wp2_with fail
      refine bodyPost_ret (results_cell rfl _ _ _ _ _ _ _ rfl (HB0.out.set4 _ _ _ _)) rfl ?_
      refine ⟨_, _, _, _, rfl, HX.out.set4 (Nat.le_refl _) _ _ _ _, ?_⟩
      exact Rep.keep (by rw [size_set4]; exact Nat.le_refl _) (fun b hb _ => heap_set4 _ _ _ _ _ _ (by omega)) (fun _ _ _ => trivial) _ _ _ (wide_rep (by omega) HO.out HK.out)
end Go.Proofs.Ytocndkhgopjhhaa
