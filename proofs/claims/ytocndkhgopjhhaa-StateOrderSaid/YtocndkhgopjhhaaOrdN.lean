/- StateOrder's third loop: what holds at its head. -/
import Derived.Test.YtocndkhgopjhhaaProg
import Derived.Test.YtocndkhgopjhhaaOrdL
namespace Go.Proofs.Ytocndkhgopjhhaa
open Go.RowKit

def OrdN (T M : Nat → Prop) (w w2 wx : World) (ins : List Td) (iA : Option Addr) (ic : Nat) (cells : List Value) (m : Nat) (last : Int) : Prop :=
  ∃ ts pop : List Td, QSt T M w2 wx w2.heap.size 256 ts ∧ List.Perm (pop ++ ts) ins ∧ pop.length = m ∧ Ext w wx ∧ wx.ownsRow w2.heap.size 38 2 (.slice iA ins.length ic) ins.length cells ∧
    ((m = 0 ∧ last = -1) ∨ ∃ (p : Nat) (tl : Td), last = p ∧ p < ins.length ∧ ins[p]? = some tl ∧ tl ∈ pop ∧ ∀ x ∈ ts, lessR x.row tl.row = false)

theorem ordn_len {ins ts pop : List Td} {m : Nat} (hp : List.Perm (pop ++ ts) ins) (hm : pop.length = m) : ts.length + m = ins.length := by
  have := hp.length_eq
  rw [List.length_append] at this
  omega

theorem ordn_find {ins ts pop rest : List Td} {r : Td} (hp : List.Perm (pop ++ ts) ins) (hr : List.Perm (r :: rest) ts) : ∃ p, p < ins.length ∧ ins[p]? = some r := by
  have hm : r ∈ ins := hp.mem_iff.1 (List.mem_append_right _ (hr.mem_iff.1 (List.mem_cons_self ..)))
  obtain ⟨p, hp⟩ := List.mem_iff_getElem?.1 hm
  exact ⟨p, (List.getElem?_eq_some_iff.1 hp).1, hp⟩

/-- Rows that went in and stand in two places at once are two: what was popped before stands ahead. -/
theorem ordn_less {ins ts pop rest : List Td} {r tl : Td} (hd : Distinct ins) (hp : List.Perm (pop ++ ts) ins) (hr : List.Perm (r :: rest) ts) (htl : tl ∈ pop) (hmin : ∀ x ∈ ts, lessR x.row tl.row = false) : lessR tl.row r.row = true := by
  have hrt : r ∈ ts := hr.mem_iff.1 (List.mem_cons_self ..)
  have h1 := hmin r hrt
  have hne : tl.row ≠ r.row := by
    have hd' : (pop ++ ts).Pairwise fun a b => a.row ≠ b.row := (hp.pairwise_iff (fun h => Ne.symm h)).2 hd
    rw [List.pairwise_append] at hd'
    exact hd'.2.2 tl htl r hrt
  cases h2 : lessR tl.row r.row
  · exact absurd (lessR_eq h2 h1) hne
  · rfl

theorem ordn_step {T M : Nat → Prop} {w w2 wx w6 wz : World} {ins : List Td} {iA : Option Addr} {ic : Nat} {cells : List Value} {m : Nat} {ts pop rest : List Td} {r : Td} {p : Nat} {X : Obj} (hw2 : Ext w w2) (hq0 : QSt T M w2 wx w2.heap.size 256 ts)
    (hp : List.Perm (pop ++ ts) ins) (hm : pop.length = m) (hx : Ext w wx) (ho : wx.ownsRow w2.heap.size 38 2 (.slice iA ins.length ic) ins.length cells) (hap : ∀ g, (Value.slice iA ins.length ic).ownBlock = some g → ¬ M g)
    (hr : List.Perm (r :: rest) ts) (hmin : ∀ x ∈ ts, lessR x.row r.row = false) (hq : QSt T M w2 w6 w2.heap.size 256 rest) (ht : Turns M wx w6) (hz : Ext (w6.alloc X) wz) (hpl : p < ins.length) (hpr : ins[p]? = some r) : OrdN T M w w2 wz ins iA ic cells (m + 1) p := by
  have hap0 := hq0.apart
  have hzz := hw2.size
  refine ⟨rest, pop ++ [r], (hq.ext (Ext.alloc' _ _)).ext hz, ?_, by simp [hm], ((Ext.turn hx ht (fun b hb => by have := (hap0.2 b hb).2; omega)).trans' (Ext.alloc' _ _)).trans' hz, ?_, .inr ⟨p, r, rfl, hpl, hpr, by simp, fun x hxr => hmin x (hr.mem_iff.1 (List.mem_cons_of_mem _ hxr))⟩⟩
  · rw [List.append_assoc]
    exact (List.Perm.append_left pop hr).trans hp
  · refine ownsRow_ext ho fun g hg => ?_
    have h1 := ownsRow_lt ho hg
    have hz6 := ht.size
    rw [hz.block g (by simp; omega), Below.heap_alloc _ _ _ (by omega), ht.block g h1.2 (hap g hg)]
theorem ordn_row {M : Nat → Prop} {w2 wx w6 : World} {n : Nat} {iA : Option Addr} {ic : Nat} {cells : List Value} {X : Obj} (ho : wx.ownsRow w2.heap.size 38 2 (.slice iA n ic) n cells) (hap : ∀ g, (Value.slice iA n ic).ownBlock = some g → ¬ M g)
    (ht : Turns M wx w6) : (w6.alloc X).ownsRow w2.heap.size 38 2 (.slice iA n ic) n cells := by
  refine ownsRow_ext ho fun g hg => ?_
  have h1 := ownsRow_lt ho hg
  have hz6 := ht.size
  rw [Below.heap_alloc _ _ _ (by omega), ht.block g h1.2 (hap g hg)]
theorem ordn_ext {T M : Nat → Prop} {w w2 wx w6 : World} {ts : List Td} (hw2 : Ext w w2) (hq0 : QSt T M w2 wx w2.heap.size 256 ts) (hx : Ext w wx) (ht : Turns M wx w6) (X : Obj) : Ext w (w6.alloc X) := by
  have hap0 := hq0.apart
  have hzz := hw2.size
  exact (Ext.turn hx ht (fun b hb => by have := (hap0.2 b hb).2; omega)).trans' (Ext.alloc' _ _)
theorem same28_val {B1 B2 : Nat} {S1 S2 : Nat → Prop} {w : World} {v1 v2 : Value} {a b : Td} {c : Bool} (hc : decide (a = b) = c) (h1 : Tdv B1 S1 w a v1) (h2 : Tdv B2 S2 w b v2) :
    Calls Try.prog 32 #[v1, v2] w fun e w' => e = .returned (.bool c) ∧ Ext w w' := by
  subst hc; exact same28_any h1 h2
theorem less28_val {B1 B2 : Nat} {S1 S2 : Nat → Prop} {w : World} {v1 v2 : Value} {a b : List Int} {c : Bool} (hc : lessR a b = c) (h1 : Ints B1 S1 w v1 a) (h2 : Ints B2 S2 w v2 b) :
    Calls Try.prog 33 #[v1, v2] w fun e w' => e = .returned (.bool c) ∧ Ext w w' := by
  subst hc; exact less_any h1 h2
theorem Tdv.row {B : Nat} {S : Nat → Prop} {w : World} {t : Td} {rv fv : Value} (h : Tdv B S w t (.agg #[rv, fv])) : Ints B S w rv t.row := by
  obtain ⟨_, _, e, h1, _⟩ := h
  injection e with e
  simp only [Array.mk.injEq, List.cons.injEq, and_true] at e
  obtain ⟨rfl, rfl⟩ := e
  exact h1
/-- Where the search stands behind k looks. -/
def atI (p k : Nat) : Int := if p < k then (p : Int) else -1
theorem atI_yes {p k : Nat} (h : k = p) : atI p (k + 1) = (k : Int) := by unfold atI; rw [if_pos (by omega), h]
theorem atI_no {p k : Nat} (h : k ≠ p) : atI p (k + 1) = atI p k := by
  unfold atI
  by_cases h1 : p < k
  · rw [if_pos (by omega), if_pos h1]
  · rw [if_neg (by omega), if_neg h1]
theorem atI_end {p n : Nat} (h : p < n) : atI p n = (p : Int) := by unfold atI; rw [if_pos h]
theorem atI_start (p : Nat) : atI p 0 = -1 := by unfold atI; rw [if_neg (by omega)]
theorem atI_wf (p k : Nat) : -1 ≤ atI p k := by unfold atI; split <;> omega
end Go.Proofs.Ytocndkhgopjhhaa
