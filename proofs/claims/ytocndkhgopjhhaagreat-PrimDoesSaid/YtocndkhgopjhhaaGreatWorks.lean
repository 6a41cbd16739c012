/- touchstonelaw07.works answers true. -/
import Derived.Test.YtocndkhgopjhhaaGreatProg
import Derived.Test.YtocndkhgopjhhaaGreatMake
import Derived.Test.YtocndkhgopjhhaaGreatTreeB
import Derived.Test.YtocndkhgopjhhaaGreatSame7
import Derived.Outline
namespace Go.Proofs.YtocndkhgopjhhaaGreat
open Go.RowKit

theorem Ext.turns {w w1 w2 : World} {F : Nat → Prop} (h : Ext w w1) (ht : Turns F w1 w2) (hF : ∀ b, F b → w.heap.size ≤ b) : Ext w w2 :=
  ⟨ht.os.trans h.os, ht.tape.trans h.tape, ht.output.trans h.output, Nat.le_trans h.size ht.size, fun b hb => (ht.block b (Nat.lt_of_lt_of_le hb h.size) fun hf => by have := hF b hf; omega).trans (h.block b hb)⟩
/-- anywhere -/
abbrev Any : Nat → Prop := fun _ => True
theorem Strs.any {B : Nat} {S : Nat → Prop} {w : World} {v : Value} {ns : List ByteArray} (h : Strs B S w v ns) : Strs B Any w v ns := h.wide (Nat.le_refl _) (Below.refl _ _) (fun _ _ _ => trivial)
theorem Kids.any {B : Nat} {S : Nat → Prop} {w : World} {d : Nat} {v : Value} {ks : List N} (h : Kids B S w d v ks) : Kids B Any w d v ks := h.keep (Nat.le_refl _) (fun _ _ _ => rfl) (fun _ _ _ => trivial)
theorem Rep.any {B : Nat} {S : Nat → Prop} {w : World} {d : Nat} {t : N} {v : Value} (h : Rep B S w d t v) : Rep B Any w d t v := h.wide (Nat.le_refl _) (Below.refl _ _) (fun _ _ _ => trivial) (Nat.le_refl _)

/-- the law of a slice of texts that was just built, anywhere -/
theorem strs1 (w : World) (a : ByteArray) (ha : a.size ≤ maxLen) : Strs 16 Any (w.alloc (.cells #[.string a] 9)) (.slice (some ⟨w.heap.size, 0, none⟩) 1 1) [a] := (Strs.new w [a] (by simpa using ha) (by simp) (by simp [maxLen])).any
theorem strs2 (w : World) (a b : ByteArray) (ha : a.size ≤ maxLen) (hb : b.size ≤ maxLen) : Strs 16 Any (w.alloc (.cells #[.string a, .string b] 9)) (.slice (some ⟨w.heap.size, 0, none⟩) 2 2) [a, b] := (Strs.new w [a, b] (by simp; exact ⟨ha, hb⟩) (by simp) (by simp [maxLen])).any
/-- the second of two -/
theorem strs1' (w : World) (o : Obj) (a : ByteArray) (ha : a.size ≤ maxLen) : Strs 16 Any ((w.alloc o).alloc (.cells #[.string a] 9)) (.slice (some ⟨w.heap.size + 1, 0, none⟩) 1 1) [a] := by
  have := strs1 (w.alloc o) a ha
  rwa [World.size_alloc] at this
theorem strs2' (w : World) (o : Obj) (a b : ByteArray) (ha : a.size ≤ maxLen) (hb : b.size ≤ maxLen) : Strs 16 Any ((w.alloc o).alloc (.cells #[.string a, .string b] 9)) (.slice (some ⟨w.heap.size + 1, 0, none⟩) 2 2) [a, b] := by
  have := strs2 (w.alloc o) a b ha hb
  rwa [World.size_alloc] at this
/-- where the slice lies -/
theorem strs1n (w : World) (a : ByteArray) (ha : a.size ≤ maxLen) : Strs 16 (fun b => w.heap.size ≤ b) (w.alloc (.cells #[.string a] 9)) (.slice (some ⟨w.heap.size, 0, none⟩) 1 1) [a] := Strs.new w [a] (by simpa using ha) (by simp) (by simp [maxLen])
theorem kids1 (w : World) {d : Nat} {t : N} {v0 v1 v2 v3 : Value} (h : Rep 4 Any w d t (.agg #[v0, v1, v2, v3])) : Kids 4 Any (w.alloc (.cells #[v0, v1, v2, v3] 25)) d (.slice (some ⟨w.heap.size, 0, none⟩) 1 1) [t] :=
  (Kids.new w (Flat.cons h Flat.nil) (by simp) (by simp [maxLen])).any
theorem kids2 (w : World) {d : Nat} {t u : N} {v0 v1 v2 v3 u0 u1 u2 u3 : Value} (h : Rep 4 Any w d t (.agg #[v0, v1, v2, v3])) (k : Rep 4 Any w d u (.agg #[u0, u1, u2, u3])) : Kids 4 Any (w.alloc (.cells #[v0, v1, v2, v3, u0, u1, u2, u3] 25)) d (.slice (some ⟨w.heap.size, 0, none⟩) 2 2) [t, u] :=
  (Kids.new w (Flat.cons h (Flat.cons k Flat.nil)) (by simp) (by simp [maxLen])).any
theorem rep_dir {w : World} {d : Nat} {nv kv : Value} {ns : List ByteArray} {ks : List N} (hn : Strs 16 Any w nv ns) (hk : Kids 4 Any w d kv ks) : Rep 4 Any w (d + 1) (nDir ns ks) (.agg #[.int .u8 2, .string { data := #[] }, nv, kv]) := Rep.join (by decide) hn hk
theorem rep_file {w : World} {d : Nat} {s : ByteArray} (hs : s.size ≤ maxLen) : Rep 4 Any w (d + 1) (nFile s) (.agg #[.int .u8 1, .string s, .slice none 0 0, .slice none 0 0]) := Rep.leaf hs

end Go.Proofs.YtocndkhgopjhhaaGreat
