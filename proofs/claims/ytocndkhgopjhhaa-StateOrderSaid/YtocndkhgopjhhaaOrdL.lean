/- StateOrder's second loop: what holds at its head. -/
import Derived.Test.YtocndkhgopjhhaaProg
import Derived.Test.YtocndkhgopjhhaaOrdP
namespace Go.Proofs.Ytocndkhgopjhhaa
open Go.RowKit

theorem sz_le {T M : Nat → Prop} {w2 wr w3 : World} {q : Nat} {ins : List Td} (h : QSt T M w2 wr q 256 ins) (hx : Ext wr w3) : w2.heap.size ≤ w3.heap.size := by
  obtain ⟨_, _, _, _, _, h1, h2, _⟩ := h
  have := hx.size; omega

def OrdL (S : Nat → Prop) (w w2 wr : World) (j : Nat) (s : Value) : Prop :=
  ∃ (T M : Nat → Prop) (ins : List Td) (iA : Option Addr) (ic : Nat) (cells : List Value), s = .slice iA ins.length ic ∧ Ext w wr ∧ QSt T M w2 wr w2.heap.size 256 ins ∧ ins.length ≤ j ∧ Distinct ins ∧
    wr.ownsRow w2.heap.size 38 2 (.slice iA ins.length ic) ins.length cells ∧ TdCells 128 S w ins cells ∧ (∀ g, (Value.slice iA ins.length ic).ownBlock = some g → ¬ T g ∧ ¬ M g)

theorem OrdL.start {S : Nat → Prop} {w w2 : World} (hx : Ext w w2) : OrdL S w w2 (w2.alloc (.cells #[.slice none 0 0, .int .i64 256] 116)) 0 (.slice none 0 0) :=
  ⟨_, _, [], none, 0, [], rfl, hx.trans' (Ext.alloc' _ _), QSt.new w2 256, Nat.le_refl _, List.Pairwise.nil, World.ownsRow_nil _ _ _ _, TdCells.nil, fun g h => by cases h⟩

theorem pushed_ext {w w2 wr w1 w3 : World} {T M : Nat → Prop} {ins ts : List Td} (hw2 : Ext w w2) (hx : Ext w wr) (hq : QSt T M w2 wr w2.heap.size 256 ins) (hx1 : Ext wr w1) (hp : PushedTo T M w2 w2.heap.size 256 ts w1 w3) : Ext w w3 := by
  obtain ⟨_, _, _, _, _, _, ht⟩ := hp
  have hap := hq.apart
  have hz := hw2.size
  exact Ext.turn (hx.trans' hx1) ht (fun b hb => by have := (hap.2 b hb).2; omega)
/-- the row of what went in, behind Push. -/
theorem pushed_row {w2 wr w1 w3 : World} {T M : Nat → Prop} {ts : List Td} {iA : Option Addr} {ic n : Nat} {cells : List Value} (hx1 : Ext wr w1) (hp : PushedTo T M w2 w2.heap.size 256 ts w1 w3)
    (ho : wr.ownsRow w2.heap.size 38 2 (.slice iA n ic) n cells) (ha : ∀ g, (Value.slice iA n ic).ownBlock = some g → ¬ T g ∧ ¬ M g) : w3.ownsRow w2.heap.size 38 2 (.slice iA n ic) n cells := by
  obtain ⟨_, _, _, _, _, _, ht⟩ := hp
  refine ownsRow_ext ho fun g h => ?_
  have h1 := ownsRow_lt ho h
  have hz1 := hx1.size
  rw [ht.block g (by omega) (ha g h).2, hx1.block g h1.2]

theorem ordl_keep {S : Nat → Prop} {w w2 wr w1 w3 : World} {j : Nat} {T M : Nat → Prop} {ins : List Td} {iA : Option Addr} {ic : Nat} {cells : List Value} (hw2 : Ext w w2) (hx : Ext w wr) (hq : QSt T M w2 wr w2.heap.size 256 ins) (hl : ins.length ≤ j) (hd : Distinct ins)
    (ho : wr.ownsRow w2.heap.size 38 2 (.slice iA ins.length ic) ins.length cells) (hc : TdCells 128 S w ins cells) (ha : ∀ g, (Value.slice iA ins.length ic).ownBlock = some g → ¬ T g ∧ ¬ M g)
    (hx1 : Ext wr w1) (hp : PushedTo T M w2 w2.heap.size 256 ins w1 w3) : OrdL S w w2 w3 (j + 1) (.slice iA ins.length ic) := by
  obtain ⟨T', M', hq', hTT, hT, hM, ht⟩ := hp
  have hap := hq.apart
  have hz1 := hx1.size
  have hz := hw2.size
  have hg : ∀ g, (Value.slice iA ins.length ic).ownBlock = some g → w2.heap.size ≤ g ∧ g < wr.heap.size := fun g h => ownsRow_lt ho h
  refine ⟨T', M', ins, iA, ic, cells, rfl, Ext.turn (hx.trans' hx1) ht (fun b hb => by have := (hap.2 b hb).2; omega), hq', by omega, hd, ?_, hc, fun g h => ?_⟩
  · refine ownsRow_ext ho fun g h => ?_
    have h1 := hg g h
    rw [ht.block g (by omega) (ha g h).2, hx1.block g h1.2]
  · have h1 := hg g h
    refine ⟨fun hb => ?_, fun hb => ?_⟩
    · rcases hT g hb with e | e
      · exact (ha g h).1 e
      · omega
    · rcases hM g hb with e | e
      · exact (ha g h).2 e
      · omega

theorem ordl_push {S : Nat → Prop} {w w2 wr w1 w3 w5 : World} {j : Nat} {T M : Nat → Prop} {ins : List Td} {iA : Option Addr} {ic : Nat} {cells : List Value} (hw2 : Ext w w2) (hx : Ext w wr) (hq : QSt T M w2 wr w2.heap.size 256 ins) (hl : ins.length ≤ j) (hd : Distinct ins)
    (ho : wr.ownsRow w2.heap.size 38 2 (.slice iA ins.length ic) ins.length cells) (hc : TdCells 128 S w ins cells) (ha : ∀ g, (Value.slice iA ins.length ic).ownBlock = some g → ¬ T g ∧ ¬ M g)
    (hx1 : Ext wr w1) {t : Td} (hnew : pushC t 256 ins = 0) (hp : PushedTo T M w2 w2.heap.size 256 (t :: ins) w1 w3) {X : Obj} {A' : Option Addr} {c' : Nat} {rv fv : Value} (ht : Tdv 128 S w t (.agg #[rv, fv]))
    (ho' : w5.ownsRow w2.heap.size 38 2 (.slice A' (ins.length + 1) c') (ins.length + 1) (cells ++ [rv, fv])) (hg' : (w3.alloc X).grownBy w5 (Value.slice iA ins.length ic).ownBlock) (hat : At (w3.alloc X) (.slice iA ins.length ic) (.slice A' (ins.length + 1) c')) :
    OrdL S w w2 w5 (j + 1) (.slice A' (ins.length + 1) c') := by
  obtain ⟨T', M', hq', hTT, hT, hM, ht'⟩ := hp
  have hap := hq.apart
  have hz1 := hx1.size
  have hz3 := ht'.size
  have hz := hw2.size
  have hg : ∀ g, (Value.slice iA ins.length ic).ownBlock = some g → w2.heap.size ≤ g ∧ g < wr.heap.size := fun g h => ownsRow_lt ho h
  have hF : ∀ g, (Value.slice iA ins.length ic).ownBlock = some g → ¬ T' g ∧ ¬ M' g := fun g h => by
    have h1 := hg g h
    refine ⟨fun hb => ?_, fun hb => ?_⟩
    · rcases hT g hb with e | e
      · exact (ha g h).1 e
      · omega
    · rcases hM g hb with e | e
      · exact (ha g h).2 e
      · omega
  have hx3 : Ext w w3 := Ext.turn (hx.trans' hx1) ht' (fun b hb => by have := (hap.2 b hb).2; omega)
  have hqa := hq'.ext (Ext.alloc' w3 X)
  have hqb := hqa.turn (Turns.ofGrown hg') (fun b hb => hF b hb)
  have hqp := hqb.perm (perm_rot t ins)
  refine ⟨T', M', ins ++ [t], A', c', _, by simp, Ext.grown (hx3.trans' (Ext.alloc' _ _)) hg' (fun g h => by have := (hg g h).1; omega), hqp, by simp; omega, hd.push (pushC_new hnew), by simpa using ho', hc.push ht, fun g h => ?_⟩
  have h' : (Value.slice A' (ins.length + 1) c').ownBlock = some g := by
    cases A' with
    | none => cases h
    | some a => exact h
  rcases hat with e | e
  · rw [e] at h'; exact hF g h'
  · have h1 := e g h'
    have hq1 := hqa.apart
    exact ⟨fun hb => by have := (hq1.1 g hb).1; omega, fun hb => by have := (hq1.2 g hb).1; omega⟩
where
  perm_rot (t : Td) (ins : List Td) : List.Perm (t :: ins) (ins ++ [t]) := by
    have := List.perm_append_comm (l₁ := [t]) (l₂ := ins)
    simpa using this
end Go.Proofs.Ytocndkhgopjhhaa
