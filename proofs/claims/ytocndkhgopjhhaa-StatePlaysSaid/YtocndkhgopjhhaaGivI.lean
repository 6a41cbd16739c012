/- touchstonelaw28.given: what its first statement comes to, operation by operation. -/
import Derived.Test.YtocndkhgopjhhaaProg
import Derived.Test.YtocndkhgopjhhaaTOwnV
import Derived.Test.YtocndkhgopjhhaaBase
import Derived.Deep.DeepCutAuto
import Derived.Deep.CutBlock
import Derived.Outline
namespace Go.Proofs.Ytocndkhgopjhhaa
open Go.RowKit

/-- What is known when the operations of L have come up. -/
def GI (W1 : World) (p n m : Nat) (rv fv : Value) (is fs : List Value) (L : Nat → Bool) (w : World) (x3 x5 x6 x7 x8 x9 x10 x11 x12 x13 : Value) : Prop :=
  Ext W1 w ∧ (L 0 = true → L 3 = false → RowOf W1 w 3 1 0 x5 []) ∧ (L 1 = true → x6 = .pointer (some ⟨p, 0, none⟩)) ∧ (L 2 = true → x7 = rv) ∧ (L 3 = true → RowOf W1 w 3 1 n x8 is) ∧
    (L 4 = true → L 7 = false → RowOf W1 w 106 6 0 x9 []) ∧ (L 5 = true → x10 = .pointer (some ⟨p, 1, none⟩)) ∧ (L 6 = true → x11 = fv) ∧ (L 7 = true → RowOf W1 w 106 6 m x12 fs) ∧
    (L 8 = true → x13 = .agg #[x8, x12]) ∧ (L 9 = true → ∃ gz, x3 = .pointer (some ⟨gz, 0, none⟩) ∧ W1.heap.size ≤ gz ∧ Blk w gz 48 (if L 10 = true then #[x8, x12] else #[.slice none 0 0, .slice none 0 0])) ∧
    (L 8 = true → L 3 = true ∧ L 7 = true) ∧ (L 10 = true → L 9 = true ∧ L 8 = true)

section
variable {W1 : World} {p n m : Nat} {rv fv : Value} {is fs : List Value} {L : Nat → Bool} {w w' : World} {x3 x5 x6 x7 x8 x9 x10 x11 x12 x13 : Value}
theorem GI.start (W1 : World) : GI W1 p n m rv fv is fs (fun _ => false) W1.drew x3 x5 x6 x7 x8 x9 x10 x11 x12 x13 := by
  refine ⟨⟨rfl, rfl, rfl, Nat.le_refl _, fun _ _ => rfl⟩, ?_, ?_, ?_, ?_, ?_, ?_, ?_, ?_, ?_, ?_, ?_, ?_⟩ <;> (intro h; cases h)
theorem GI.s0 (h : GI W1 p n m rv fv is fs L w x3 x5 x6 x7 x8 x9 x10 x11 x12 x13) : GI W1 p n m rv fv is fs (fun j => if j = 0 then true else L j) (w.alloc (.cells #[] 3)) x3 (.slice (some ⟨w.heap.size, 0, none⟩) 0 0) x6 x7 x8 x9 x10 x11 x12 x13 := by
  obtain ⟨e, a0, a1, a2, a3, a4, a5, a6, a7, a8, a9, b1, b2⟩ := h
  have hx := Ext.alloc' w (.cells #[] 3)
  refine ⟨e.trans' hx, fun _ _ => RowOf.fresh w e _ _, a1, a2, fun h => (a3 h).ext hx, fun h h' => (a4 h h').ext hx, a5, a6, fun h => (a7 h).ext hx, a8, fun h => ?_, b1, b2⟩
  obtain ⟨gz, h1, h2, h3⟩ := a9 h
  exact ⟨gz, h1, h2, h3.ext hx⟩
theorem GI.s1 (h : GI W1 p n m rv fv is fs L w x3 x5 x6 x7 x8 x9 x10 x11 x12 x13) : GI W1 p n m rv fv is fs (fun j => if j = 1 then true else L j) w x3 x5 (.pointer (some ⟨p, 0, none⟩)) x7 x8 x9 x10 x11 x12 x13 := by
  obtain ⟨e, a0, a1, a2, a3, a4, a5, a6, a7, a8, a9, b1, b2⟩ := h
  exact ⟨e, a0, fun _ => rfl, a2, a3, a4, a5, a6, a7, a8, a9, b1, b2⟩
theorem GI.s2 (h : GI W1 p n m rv fv is fs L w x3 x5 x6 x7 x8 x9 x10 x11 x12 x13) : GI W1 p n m rv fv is fs (fun j => if j = 2 then true else L j) w x3 x5 x6 rv x8 x9 x10 x11 x12 x13 := by
  obtain ⟨e, a0, a1, a2, a3, a4, a5, a6, a7, a8, a9, b1, b2⟩ := h
  exact ⟨e, a0, a1, fun _ => rfl, a3, a4, a5, a6, a7, a8, a9, b1, b2⟩
theorem GI.s3 (h : GI W1 p n m rv fv is fs L w x3 x5 x6 x7 x8 x9 x10 x11 x12 x13) (l0 : L 0 = true) (l3 : L 3 = false) {v : Value} (hv : RowOf W1 w' 3 1 n v is) (hg : w.grownBy w' x5.ownBlock) :
    GI W1 p n m rv fv is fs (fun j => if j = 3 then true else L j) w' x3 x5 x6 x7 v x9 x10 x11 x12 x13 := by
  obtain ⟨e, a0, a1, a2, a3, a4, a5, a6, a7, a8, a9, b1, b2⟩ := h
  have r5 := a0 l0 l3
  have l8 : L 8 = false := by
    cases h : L 8
    · rfl
    · have := (b1 h).1; rw [l3] at this; cases this
  have l10 : L 10 = false := by
    cases h : L 10
    · rfl
    · have := (b2 h).2; rw [l8] at this; cases this
  have hx : Ext W1 w' := e.grown hg fun g hg' => (ownsRow_lt r5.2 hg').1
  refine ⟨hx, fun _ h => by simp at h, a1, a2, fun _ => hv, fun h h' => (a4 h h').grown r5 (by decide) hg, a5, a6, fun h => (a7 h).grown r5 (by decide) hg, fun h => ?_, fun h => ?_, fun h => ?_, fun h => ?_⟩
  · have h' : L 8 = true := h
    rw [l8] at h'; cases h'
  · obtain ⟨gz, h1, h2, h3⟩ := a9 h
    refine ⟨gz, h1, h2, ?_⟩
    have h4 := h3.grownT r5 (by decide) hg
    simpa [l10] using h4
  · have h' : L 8 = true := h
    rw [l8] at h'; cases h'
  · have h' : L 10 = true := h
    rw [l10] at h'; cases h'
theorem GI.s4 (h : GI W1 p n m rv fv is fs L w x3 x5 x6 x7 x8 x9 x10 x11 x12 x13) : GI W1 p n m rv fv is fs (fun j => if j = 4 then true else L j) (w.alloc (.cells #[] 106)) x3 x5 x6 x7 x8 (.slice (some ⟨w.heap.size, 0, none⟩) 0 0) x10 x11 x12 x13 := by
  obtain ⟨e, a0, a1, a2, a3, a4, a5, a6, a7, a8, a9, b1, b2⟩ := h
  have hx := Ext.alloc' w (.cells #[] 106)
  refine ⟨e.trans' hx, fun h h' => (a0 h h').ext hx, a1, a2, fun h => (a3 h).ext hx, fun _ _ => RowOf.fresh w e _ _, a5, a6, fun h => (a7 h).ext hx, a8, fun h => ?_, b1, b2⟩
  obtain ⟨gz, h1, h2, h3⟩ := a9 h
  exact ⟨gz, h1, h2, h3.ext hx⟩
theorem GI.s5 (h : GI W1 p n m rv fv is fs L w x3 x5 x6 x7 x8 x9 x10 x11 x12 x13) : GI W1 p n m rv fv is fs (fun j => if j = 5 then true else L j) w x3 x5 x6 x7 x8 x9 (.pointer (some ⟨p, 1, none⟩)) x11 x12 x13 := by
  obtain ⟨e, a0, a1, a2, a3, a4, a5, a6, a7, a8, a9, b1, b2⟩ := h
  exact ⟨e, a0, a1, a2, a3, a4, fun _ => rfl, a6, a7, a8, a9, b1, b2⟩
theorem GI.s6 (h : GI W1 p n m rv fv is fs L w x3 x5 x6 x7 x8 x9 x10 x11 x12 x13) : GI W1 p n m rv fv is fs (fun j => if j = 6 then true else L j) w x3 x5 x6 x7 x8 x9 x10 fv x12 x13 := by
  obtain ⟨e, a0, a1, a2, a3, a4, a5, a6, a7, a8, a9, b1, b2⟩ := h
  exact ⟨e, a0, a1, a2, a3, a4, a5, fun _ => rfl, a7, a8, a9, b1, b2⟩
theorem GI.s7 (h : GI W1 p n m rv fv is fs L w x3 x5 x6 x7 x8 x9 x10 x11 x12 x13) (l4 : L 4 = true) (l7 : L 7 = false) {v : Value} (hv : RowOf W1 w' 106 6 m v fs) (hg : w.grownBy w' x9.ownBlock) :
    GI W1 p n m rv fv is fs (fun j => if j = 7 then true else L j) w' x3 x5 x6 x7 x8 x9 x10 x11 v x13 := by
  obtain ⟨e, a0, a1, a2, a3, a4, a5, a6, a7, a8, a9, b1, b2⟩ := h
  have r9 := a4 l4 l7
  have l8 : L 8 = false := by
    cases h : L 8
    · rfl
    · have := (b1 h).2; rw [l7] at this; cases this
  have l10 : L 10 = false := by
    cases h : L 10
    · rfl
    · have := (b2 h).2; rw [l8] at this; cases this
  have hx : Ext W1 w' := e.grown hg fun g hg' => (ownsRow_lt r9.2 hg').1
  refine ⟨hx, fun h h' => (a0 h h').grown r9 (by decide) hg, a1, a2, fun h => (a3 h).grown r9 (by decide) hg, fun _ h => by simp at h, a5, a6, fun _ => hv, fun h => ?_, fun h => ?_, fun h => ?_, fun h => ?_⟩
  · have h' : L 8 = true := h
    rw [l8] at h'; cases h'
  · obtain ⟨gz, h1, h2, h3⟩ := a9 h
    refine ⟨gz, h1, h2, ?_⟩
    have h4 := h3.grownT r9 (by decide) hg
    simpa [l10] using h4
  · have h' : L 8 = true := h
    rw [l8] at h'; cases h'
  · have h' : L 10 = true := h
    rw [l10] at h'; cases h'
theorem GI.s8 (h : GI W1 p n m rv fv is fs L w x3 x5 x6 x7 x8 x9 x10 x11 x12 x13) (l3 : L 3 = true) (l7 : L 7 = true) : GI W1 p n m rv fv is fs (fun j => if j = 8 then true else L j) w x3 x5 x6 x7 x8 x9 x10 x11 x12 (.agg #[x8, x12]) := by
  obtain ⟨e, a0, a1, a2, a3, a4, a5, a6, a7, a8, a9, b1, b2⟩ := h
  exact ⟨e, a0, a1, a2, a3, a4, a5, a6, a7, fun _ => rfl, a9, fun _ => ⟨l3, l7⟩, fun h => ⟨(b2 h).1, rfl⟩⟩
theorem GI.s9 (h : GI W1 p n m rv fv is fs L w x3 x5 x6 x7 x8 x9 x10 x11 x12 x13) (l9 : L 9 = false) : GI W1 p n m rv fv is fs (fun j => if j = 9 then true else L j) (w.alloc (.cells #[.slice none 0 0, .slice none 0 0] 48)) (.pointer (some ⟨w.heap.size, 0, none⟩)) x5 x6 x7 x8 x9 x10 x11 x12 x13 := by
  obtain ⟨e, a0, a1, a2, a3, a4, a5, a6, a7, a8, a9, b1, b2⟩ := h
  have hx := Ext.alloc' w (.cells #[.slice none 0 0, .slice none 0 0] 48)
  have l10 : L 10 = false := by
    cases h : L 10
    · rfl
    · have := (b2 h).1; rw [l9] at this; cases this
  refine ⟨e.trans' hx, fun h h' => (a0 h h').ext hx, a1, a2, fun h => (a3 h).ext hx, fun h h' => (a4 h h').ext hx, a5, a6, fun h => (a7 h).ext hx, a8, fun h => ⟨_, rfl, e.size, ?_⟩, b1, fun h => ?_⟩
  · simpa [l10] using Blk.new w 48 #[.slice none 0 0, .slice none 0 0]
  · have h' : L 10 = true := h
    rw [l10] at h'; cases h'
theorem GI.s10 (h : GI W1 p n m rv fv is fs L w x3 x5 x6 x7 x8 x9 x10 x11 x12 x13) (l8 : L 8 = true) (l9 : L 9 = true) {gz : Nat} (hx3 : x3 = .pointer (some ⟨gz, 0, none⟩)) :
    GI W1 p n m rv fv is fs (fun j => if j = 10 then true else L j) ((w.setCell ⟨gz, 0, none⟩ x8).setCell ⟨gz, 1, none⟩ x12) x3 x5 x6 x7 x8 x9 x10 x11 x12 x13 := by
  obtain ⟨e, a0, a1, a2, a3, a4, a5, a6, a7, a8, a9, b1, b2⟩ := h
  obtain ⟨gz', h1, h2, h3⟩ := a9 l9
  rw [hx3] at h1
  simp only [Value.pointer.injEq, Option.some.injEq, Addr.mk.injEq, and_true] at h1
  subst h1
  obtain ⟨c0, c1, hc⟩ : ∃ c0 c1, Blk w gz 48 #[c0, c1] := by
    split at h3 <;> exact ⟨_, _, h3⟩
  refine ⟨(e.setCell (p := ⟨gz, 0, none⟩) h2 _).setCell (p := ⟨gz, 1, none⟩) h2 _, fun h h' => (a0 h h').set01 hc (by decide) _ _, a1, a2, fun h => (a3 h).set01 hc (by decide) _ _, fun h h' => (a4 h h').set01 hc (by decide) _ _, a5, a6, fun h => (a7 h).set01 hc (by decide) _ _, a8, fun h => ⟨gz, hx3, h2, ?_⟩, b1, fun _ => ⟨l9, l8⟩⟩
  simpa using hc.set01
end

end Go.Proofs.Ytocndkhgopjhhaa
