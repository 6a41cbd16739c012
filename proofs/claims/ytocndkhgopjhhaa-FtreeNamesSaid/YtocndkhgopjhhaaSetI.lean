/- '(*Tree).set': what one of its drawn statements (n.Names = slices.Insert(slices.Clone(n.Names), i, s); the same at the kids) comes to, operation by operation. -/
import Derived.Test.YtocndkhgopjhhaaProg
import Derived.Test.YtocndkhgopjhhaaBase
namespace Go.Proofs.Ytocndkhgopjhhaa
open Go.RowKit

/-- What is known when the operations of L have come up, the store not yet. t, size: the element's type; p: the field's address; src: what it holds; is: its cells; ci: the place; sv: the element, xs: its cells; res: the cells behind the insertion. -/
def SA (W : World) (t : TypeId) (size n : Nat) (p src : Value) (is : List Value) (ci sv : Value) (xs res : List Value) (L : Nat → Bool) (w : World) (x0 x1 x2 x3 x4 x5 x6 x7 : Value) : Prop :=
  Ext W w ∧ (L 0 = true → x0 = p) ∧ (L 1 = true → x1 = src) ∧ (L 2 = true → L 6 = false → RowOf W w t size n x2 is) ∧ (L 3 = true → x3 = ci) ∧ (L 4 = true → x4 = sv) ∧
    (L 5 = true → L 6 = false → ∃ b, x5 = .slice (some ⟨b, 0, none⟩) 1 1 ∧ Blk w b t xs.toArray ∧ (L 2 = true → x2.ownBlock ≠ some b)) ∧
    (L 6 = true → RowOf W w t size (n + 1) x6 res) ∧ (L 7 = true → x7 = p) ∧ (L 6 = true → L 2 = true ∧ L 5 = true) ∧ L 8 = false

section
variable {W : World} {t : TypeId} {size n : Nat} {p src : Value} {is : List Value} {ci sv : Value} {xs res : List Value} {L : Nat → Bool} {w w' : World} {x0 x1 x2 x3 x4 x5 x6 x7 : Value}
theorem SA.start (W : World) : SA W t size n p src is ci sv xs res (fun _ => false) W.drew x0 x1 x2 x3 x4 x5 x6 x7 := by
  refine ⟨⟨rfl, rfl, rfl, Nat.le_refl _, fun _ _ => rfl⟩, ?_, ?_, ?_, ?_, ?_, ?_, ?_, ?_, ?_, rfl⟩ <;> (intro h; cases h)
theorem SA.s0 (h : SA W t size n p src is ci sv xs res L w x0 x1 x2 x3 x4 x5 x6 x7) : SA W t size n p src is ci sv xs res (fun j => if j = 0 then true else L j) w p x1 x2 x3 x4 x5 x6 x7 := by
  obtain ⟨e, a0, a1, a2, a3, a4, a5, a6, a7, b0, b1⟩ := h
  exact ⟨e, fun _ => rfl, a1, a2, a3, a4, a5, a6, a7, b0, b1⟩
theorem SA.s1 (h : SA W t size n p src is ci sv xs res L w x0 x1 x2 x3 x4 x5 x6 x7) : SA W t size n p src is ci sv xs res (fun j => if j = 1 then true else L j) w x0 src x2 x3 x4 x5 x6 x7 := by
  obtain ⟨e, a0, a1, a2, a3, a4, a5, a6, a7, b0, b1⟩ := h
  exact ⟨e, a0, fun _ => rfl, a2, a3, a4, a5, a6, a7, b0, b1⟩
theorem SA.s2 (h : SA W t size n p src is ci sv xs res L w x0 x1 x2 x3 x4 x5 x6 x7) (l2 : L 2 = false) {v : Value} (hx : Ext w w') (hv : RowOf W w' t size n v is) (hnew : ∀ b, v.ownBlock = some b → w.heap.size ≤ b) :
    SA W t size n p src is ci sv xs res (fun j => if j = 2 then true else L j) w' x0 x1 v x3 x4 x5 x6 x7 := by
  obtain ⟨e, a0, a1, a2, a3, a4, a5, a6, a7, b0, b1⟩ := h
  have l6 : L 6 = false := by
    cases h : L 6
    · rfl
    · have := (b0 h).1; rw [l2] at this; cases this
  refine ⟨e.trans' hx, a0, a1, fun _ _ => hv, a3, a4, fun h h' => ?_, fun h => (a6 h).ext hx, a7, fun h => ⟨rfl, (b0 h).2⟩, b1⟩
  obtain ⟨b, h1, h2, _⟩ := a5 h h'
  refine ⟨b, h1, h2.ext hx, fun _ e => ?_⟩
  have := hnew b e
  have := h2.lt
  omega
theorem SA.s3 (h : SA W t size n p src is ci sv xs res L w x0 x1 x2 x3 x4 x5 x6 x7) : SA W t size n p src is ci sv xs res (fun j => if j = 3 then true else L j) w x0 x1 x2 ci x4 x5 x6 x7 := by
  obtain ⟨e, a0, a1, a2, a3, a4, a5, a6, a7, b0, b1⟩ := h
  exact ⟨e, a0, a1, a2, fun _ => rfl, a4, a5, a6, a7, b0, b1⟩
theorem SA.s4 (h : SA W t size n p src is ci sv xs res L w x0 x1 x2 x3 x4 x5 x6 x7) : SA W t size n p src is ci sv xs res (fun j => if j = 4 then true else L j) w x0 x1 x2 x3 sv x5 x6 x7 := by
  obtain ⟨e, a0, a1, a2, a3, a4, a5, a6, a7, b0, b1⟩ := h
  exact ⟨e, a0, a1, a2, a3, fun _ => rfl, a5, a6, a7, b0, b1⟩
theorem SA.s5 (h : SA W t size n p src is ci sv xs res L w x0 x1 x2 x3 x4 x5 x6 x7) (l5 : L 5 = false) : SA W t size n p src is ci sv xs res (fun j => if j = 5 then true else L j) (w.alloc (.cells xs.toArray t)) x0 x1 x2 x3 x4 (.slice (some ⟨w.heap.size, 0, none⟩) 1 1) x6 x7 := by
  obtain ⟨e, a0, a1, a2, a3, a4, a5, a6, a7, b0, b1⟩ := h
  have hx := Ext.alloc' w (.cells xs.toArray t)
  have l6 : L 6 = false := by
    cases h : L 6
    · rfl
    · have := (b0 h).2; rw [l5] at this; cases this
  refine ⟨e.trans' hx, a0, a1, fun h h' => (a2 h h').ext hx, a3, a4, fun h h' => ⟨w.heap.size, rfl, Blk.new w _ _, fun h2 e => ?_⟩, fun h => (a6 h).ext hx, a7, fun h => ⟨(b0 h).1, rfl⟩, b1⟩
  have := (ownsRow_lt (a2 h2 l6).2 e).2
  omega
theorem SA.s6 (h : SA W t size n p src is ci sv xs res L w x0 x1 x2 x3 x4 x5 x6 x7) (l2 : L 2 = true) (l5 : L 5 = true) (l6 : L 6 = false) {v : Value} (hv : RowOf W w' t size (n + 1) v res) (hg : w.grownBy w' x2.ownBlock) :
    SA W t size n p src is ci sv xs res (fun j => if j = 6 then true else L j) w' x0 x1 x2 x3 x4 x5 v x7 := by
  obtain ⟨e, a0, a1, a2, a3, a4, a5, a6, a7, b0, b1⟩ := h
  have r := a2 l2 l6
  have hx : Ext W w' := e.grown hg fun g hg' => (ownsRow_lt r.2 hg').1
  exact ⟨hx, a0, a1, fun _ h => by simp at h, a3, a4, fun _ h' => by simp at h', fun _ => hv, a7, fun _ => ⟨l2, l5⟩, b1⟩
theorem SA.s7 (h : SA W t size n p src is ci sv xs res L w x0 x1 x2 x3 x4 x5 x6 x7) : SA W t size n p src is ci sv xs res (fun j => if j = 7 then true else L j) w x0 x1 x2 x3 x4 x5 x6 p := by
  obtain ⟨e, a0, a1, a2, a3, a4, a5, a6, a7, b0, b1⟩ := h
  exact ⟨e, a0, a1, a2, a3, a4, a5, a6, fun _ => rfl, b0, b1⟩
end
end Go.Proofs.Ytocndkhgopjhhaa
