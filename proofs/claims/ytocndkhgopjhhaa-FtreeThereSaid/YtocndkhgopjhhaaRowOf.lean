/- Rows of the call's own, beside other blocks. -/
import Derived.Test.YtocndkhgopjhhaaProg
import Derived.Test.YtocndkhgopjhhaaOwnB
namespace Go.Proofs.Ytocndkhgopjhhaa
open Go.RowKit

/-- A row of the call's own: of n elements, the cells xs. -/
abbrev RowOf (W1 : World) (w : World) (t : TypeId) (size n : Nat) (v : Value) (xs : List Value) : Prop := (∃ A c, v = .slice A n c) ∧ w.ownsRow W1.heap.size t size v n xs
section
variable {W1 w w' : World} {t t' : TypeId} {size size' n n' g : Nat} {v u : Value} {xs ys : List Value} {cs : Array Value}
theorem RowOf.ext (h : RowOf W1 w t size n v xs) (hx : Ext w w') : RowOf W1 w' t size n v xs := ⟨h.1, ownsRow_ext h.2 fun g hg => hx.block g (ownsRow_lt h.2 hg).2⟩
theorem RowOf.typed (h : RowOf W1 w t size n v xs) (hg : v.ownBlock = some g) : ∃ cur, w.heap[g]? = some (.cells cur t (0, 0)) := by
  rcases h.2.2 with ⟨rfl, _⟩ | ⟨g', cap, cur, rfl, _, h4, _⟩
  · cases hg
  · simp [Value.ownBlock] at hg
    subst hg; exact ⟨cur, h4⟩
theorem RowOf.blkNe (h : RowOf W1 w t size n v xs) (hb : Blk w g t' cs) (ht : t ≠ t') : v.ownBlock ≠ some g := fun e => by
  obtain ⟨cur, hc⟩ := h.typed e
  unfold Blk at hb
  rw [hc] at hb
  injection hb with hb
  injection hb with _ hb
  exact ht hb
theorem RowOf.rowNe (h : RowOf W1 w t size n v xs) (hu : RowOf W1 w t' size' n' u ys) (ht : t ≠ t') (hg : v.ownBlock = some g) : u.ownBlock ≠ some g := fun e => by
  obtain ⟨cur, hc⟩ := h.typed hg
  obtain ⟨cur', hc'⟩ := hu.typed e
  rw [hc] at hc'
  injection hc' with hb
  injection hb with _ hb
  exact ht hb
theorem RowOf.grown (h : RowOf W1 w t size n v xs) (hu : RowOf W1 w t' size' n' u ys) (ht : t ≠ t') (hg : w.grownBy w' u.ownBlock) : RowOf W1 w' t size n v xs :=
  ⟨h.1, ownsRow_ext h.2 fun g hv => hg.block g (ownsRow_lt h.2 hv).2 fun e => h.rowNe hu ht hv e.symm⟩
theorem Blk.grownT (h : Blk w g t cs) (hu : RowOf W1 w t' size' n' u ys) (ht : t' ≠ t) (hg : w.grownBy w' u.ownBlock) : Blk w' g t cs := h.grown hg fun e => hu.blkNe h ht e.symm
theorem RowOf.set01 (h : RowOf W1 w t size n v xs) (hb : Blk w g t' cs) (ht : t ≠ t') (x y : Value) : RowOf W1 ((w.setCell ⟨g, 0, none⟩ x).setCell ⟨g, 1, none⟩ y) t size n v xs :=
  ⟨h.1, ownsRow_ext h.2 fun k hv => (Below.heap_setCell _ _ _ _ (fun e => h.blkNe hb ht (by have e' : k = g := e; rw [← e']; exact hv))).trans (Below.heap_setCell _ _ _ _ (fun e => h.blkNe hb ht (by have e' : k = g := e; rw [← e']; exact hv)))⟩
theorem RowOf.fresh (w : World) (h : Ext W1 w) (t : TypeId) (size : Nat) : RowOf W1 (w.alloc (.cells #[] t)) t size 0 (.slice (some ⟨w.heap.size, 0, none⟩) 0 0) [] :=
  ⟨⟨_, _, rfl⟩, by simp, .inr ⟨w.heap.size, 0, #[], rfl, h.size, heap_alloc_new w _, Nat.le_refl _, Nat.zero_le _, by simp, by simp⟩⟩
end
end Go.Proofs.Ytocndkhgopjhhaa
