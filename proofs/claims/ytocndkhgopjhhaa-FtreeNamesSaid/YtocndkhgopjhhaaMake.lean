/- Nodes and places that a text lays by itself: slices just built, file, dir. -/
import Derived.Test.YtocndkhgopjhhaaProg
import Derived.Test.YtocndkhgopjhhaaFlat
import Derived.Test.YtocndkhgopjhhaaTAt
import Derived.Test.YtocndkhgopjhhaaTMove
namespace Go.Proofs.Ytocndkhgopjhhaa
open Go.RowKit

/-- names in a slice that was just built -/
theorem Strs.new {B : Nat} (w : World) (ns : List ByteArray) (hs : ∀ s ∈ ns, s.size ≤ maxLen) (hB : ns.length ≤ B) (hm : ns.length ≤ maxLen) : Strs B (fun b => w.heap.size ≤ b) (w.alloc (.cells (ns.map Value.string).toArray 9)) (.slice (some ⟨w.heap.size, 0, none⟩) ns.length ns.length) ns := by
  refine ⟨_, _, rfl, Nat.le_refl _, hm, hB, hs, fun _ => ⟨w.heap.size, 0, rfl, Nat.le_refl _, by simp, fun i s hi => ?_⟩⟩
  have := (Blk.new w 9 (ns.map Value.string).toArray).cell i
  rw [Nat.zero_add, this]
  simp [hi]

/-- nodes in a slice that was just built -/
theorem Kids.new {B : Nat} (w : World) {S : Nat → Prop} {d : Nat} {ks : List N} {xs : List Value} (hf : Flat (Rep B S w d) xs ks) (hB : ks.length ≤ B) (hm : ks.length ≤ maxLen) : Kids B (fun b => S b ∨ w.heap.size ≤ b) (w.alloc (.cells xs.toArray 25)) d (.slice (some ⟨w.heap.size, 0, none⟩) ks.length ks.length) ks := by
  refine ⟨_, _, rfl, Nat.le_refl _, hm, hB, fun _ => ⟨w.heap.size, 0, rfl, .inr (Nat.le_refl _), by simp, fun i t hi => ?_⟩⟩
  obtain ⟨v0, v1, v2, v3, a, b, c, d, e⟩ := hf.at_ i t hi
  have hb := Blk.new w 25 xs.toArray
  refine ⟨v0, v1, v2, v3, ?_, ?_, ?_, ?_, e.wide (Nat.le_refl _) (Ext.alloc' _ _) (fun b h _ => .inl h) (Nat.le_refl _)⟩ <;> (rw [Nat.zero_add, hb.cell]; simpa)

theorem Flat.nil {R : N → Value → Prop} : Flat R [] [] := ⟨rfl, fun i t h => by simp at h⟩
theorem Flat.cons {R : N → Value → Prop} {xs : List Value} {ks : List N} {t : N} {v0 v1 v2 v3 : Value} (h : R t (.agg #[v0, v1, v2, v3])) (hf : Flat R xs ks) : Flat R (v0 :: v1 :: v2 :: v3 :: xs) (t :: ks) := by
  refine ⟨by simp [hf.len]; omega, fun i t' hi => ?_⟩
  cases i with
  | zero => simp at hi; subst hi; exact ⟨v0, v1, v2, v3, rfl, rfl, rfl, rfl, h⟩
  | succ i =>
    obtain ⟨u0, u1, u2, u3, a, b, c, d, e⟩ := hf.at_ i t' (by simpa using hi)
    refine ⟨u0, u1, u2, u3, ?_, ?_, ?_, ?_, e⟩
    · rw [show (i + 1) * 4 = i * 4 + 1 + 1 + 1 + 1 by omega]; simpa using a
    · rw [show (i + 1) * 4 + 1 = i * 4 + 1 + 1 + 1 + 1 + 1 by omega]; simpa using b
    · rw [show (i + 1) * 4 + 2 = i * 4 + 2 + 1 + 1 + 1 + 1 by omega]; simpa using c
    · rw [show (i + 1) * 4 + 3 = i * 4 + 3 + 1 + 1 + 1 + 1 by omega]; simpa using d

theorem Rep.leaf {B : Nat} {S : Nat → Prop} {w : World} {d : Nat} {k : Int} {tx : ByteArray} (htx : tx.size ≤ maxLen) : Rep B S w (d + 1) (.mk k tx [] []) (.agg #[.int .u8 k, .string tx, .slice none 0 0, .slice none 0 0]) :=
  Rep.join htx ⟨none, 0, rfl, Nat.le_refl _, by simp [maxLen], by simp, by simp, by simp⟩ ⟨none, 0, rfl, Nat.le_refl _, by simp [maxLen], by simp, by simp⟩
theorem Strs.nil0 {B : Nat} {S : Nat → Prop} {w : World} : Strs B S w (.slice none 0 0) [] := ⟨none, 0, rfl, Nat.le_refl _, by simp [maxLen], by simp, by simp, by simp⟩
theorem Kids.nil {B : Nat} {S : Nat → Prop} {w : World} {d : Nat} : Kids B S w d (.slice none 0 0) [] := ⟨none, 0, rfl, Nat.le_refl _, by simp [maxLen], by simp, by simp⟩

theorem file_any (s : ByteArray) (w : World) : Calls Try.prog 37 #[.string s] w fun e w' => e = .returned (.agg #[.int .u8 1, .string s, .slice none 0 0, .slice none 0 0]) ∧ Ext w w' := by
  go_enter Try.func37, Try.ntmps37
  go_wp2_with fail
  have hbr := Blk.new w 25 #[.int .u8 1, .string s, .slice none 0 0, .slice none 0 0]
  exact bodyPost_ret (results_cell rfl _ _ _ _ _ _ _ rfl hbr) rfl ⟨rfl, Ext.alloc' _ _⟩
theorem dir_any {A A' : Option Addr} {n c n' c' : Nat} (w : World) : Calls Try.prog 39 #[.slice A n c, .slice A' n' c'] w fun e w' => e = .returned (.agg #[.int .u8 2, .string { data := #[] }, .slice A n c, .slice A' n' c']) ∧ Ext w w' := by
  go_enter Try.func39, Try.ntmps39
  go_wp2_with fail
  have hbr := Blk.new w 25 #[.int .u8 2, .string { data := #[] }, .slice A n c, .slice A' n' c']
  exact bodyPost_ret (results_cell rfl _ _ _ _ _ _ _ rfl hbr) rfl ⟨rfl, Ext.alloc' _ _⟩

/-- another tree, while one is changed -/
theorem TreeAt.turn {B : Nat} {S : Nat → Prop} {w w' : World} {g g' d : Nat} {t : N} (h : TreeAt B S w g d t) (ht : Turns (fun b => b = g') w w') (hg : g ≠ g') (hS : ∀ b, S b → b ≠ g') : TreeAt B S w' g d t := by
  have hgl := h.lt
  obtain ⟨_, _, _, _, _, _, hS0⟩ := id h
  exact h.keep (Nat.le_refl _) (Nat.le_refl _) ht.size (ht.block g hgl hg) (fun b hb hl => ht.block b hl (hS b hb)) (fun b hb _ => hb) hS0
/-- its blocks are there already -/
theorem TreeAt.shrink {B : Nat} {S : Nat → Prop} {w : World} {g d : Nat} {t : N} (h : TreeAt B S w g d t) : TreeAt B (fun b => S b ∧ b < w.heap.size) w g d t := by
  obtain ⟨_, _, _, _, _, _, hS0⟩ := id h
  exact h.keep (Nat.le_refl _) (Nat.le_refl _) (Nat.le_refl _) rfl (fun _ _ _ => rfl) (fun b hb hl => ⟨hb, hl⟩) (fun b hb => hS0 b hb.1)
end Go.Proofs.Ytocndkhgopjhhaa
