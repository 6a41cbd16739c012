/- The queue as a whole: what is in it, whatever its row. -/
import Derived.Test.YtocndkhgopjhhaaProg
import Derived.Test.YtocndkhgopjhhaaQPop
import Derived.Test.YtocndkhgopjhhaaSame28
namespace Go.Proofs.Ytocndkhgopjhhaa
open Go.RowKit

theorem Ext.turn {w0 w w' : World} {F : Nat → Prop} (h : Ext w0 w) (k : Turns F w w') (hF : ∀ b, F b → w0.heap.size ≤ b) : Ext w0 w' :=
  ⟨k.os.trans h.os, k.tape.trans h.tape, k.output.trans h.output, Nat.le_trans h.size k.size, fun b hb => (k.block b (Nat.lt_of_lt_of_le hb h.size) fun hf => by have := hF b hf; omega).trans (h.block b hb)⟩

/-- The queue at block q holds the things ts (in some order); its things' memory lies in T; all of it was made since w0. M: the blocks that Push and Pop may write. -/
def QSt (T M : Nat → Prop) (w0 w : World) (q : Nat) (most : Int) (ts : List Td) : Prop :=
  ∃ v ys, Qu T w q (q + 1) most v ys ∧ Heap ltI ys.length ys ∧ List.Perm (ys.map (·.td)) ts ∧ w0.heap.size ≤ q ∧ q < w.heap.size ∧ (∀ b, T b → w0.heap.size ≤ b) ∧ (∀ b, M b ↔ (b = q ∨ v.ownBlock = some b))

theorem QSt.new (w : World) (most : Int) : QSt (fun _ => False) (fun b => b = w.heap.size) w (w.alloc (.cells #[.slice none 0 0, .int .i64 most] 116)) w.heap.size most [] := by
  refine ⟨_, [], Qu.new w most, ?_, List.Perm.refl _, Nat.le_refl _, by simp, fun _ h => h.elim, fun b => by simp [Value.ownBlock]⟩
  intro k a p _ hk
  simp at hk

section
variable {T M : Nat → Prop} {w0 w : World} {q : Nat} {most : Int} {ts : List Td}
theorem QSt.apart (h : QSt T M w0 w q most ts) : (∀ b, T b → b < w.heap.size ∧ w0.heap.size ≤ b ∧ ¬ M b) ∧ (∀ b, M b → b < w.heap.size ∧ w0.heap.size ≤ b) := by
  obtain ⟨v, ys, hq, _, _, h1, h2, h3, h4⟩ := h
  refine ⟨fun b hb => ⟨(hq.apart b hb).1, h3 b hb, fun hm => ?_⟩, fun b hm => ?_⟩
  · rcases (h4 b).1 hm with e | e
    · exact (hq.apart b hb).2.1 e
    · exact (hq.apart b hb).2.2 e
  · rcases (h4 b).1 hm with e | e
    · subst e; exact ⟨h2, h1⟩
    · have := hq.row.lt e; exact ⟨this.2, by omega⟩
theorem QSt.turn (h : QSt T M w0 w q most ts) {w' : World} {F : Nat → Prop} (ht : Turns F w w') (hF : ∀ b, F b → ¬ T b ∧ ¬ M b) : QSt T M w0 w' q most ts := by
  obtain ⟨v, ys, hq, hh, hp, h1, h2, h3, h4⟩ := h
  refine ⟨v, ys, hq.turn ht (fun b hb => ?_), hh, hp, h1, Nat.lt_of_lt_of_le h2 ht.size, h3, h4⟩
  have := hF b hb
  exact ⟨this.1, fun e => this.2 ((h4 b).2 (.inl e)), fun e => this.2 ((h4 b).2 (.inr e))⟩
theorem QSt.ext (h : QSt T M w0 w q most ts) {w' : World} (hx : Ext w w') : QSt T M w0 w' q most ts := h.turn (F := fun _ => False) (Turns.ofExt hx) (fun _ h => h.elim)

theorem rowIs_any {ys : List It} {ts : List Td} (hp : List.Perm (ys.map (·.td)) ts) (row : List Int) : ys.any (rowIs row) = ts.any fun t => decide (t.row = row) := by
  rw [Bool.eq_iff_iff, List.any_eq_true, List.any_eq_true]
  constructor
  · rintro ⟨x, hx, hr⟩
    exact ⟨x.td, hp.mem_iff.1 (List.mem_map_of_mem hx), hr⟩
  · rintro ⟨t, ht, hr⟩
    obtain ⟨x, hx, rfl⟩ := List.mem_map.1 (hp.mem_iff.2 ht)
    exact ⟨x, hx, hr⟩

/-- What Push answers, of what is in the queue. -/
def pushC (t : Td) (most : Int) (ts : List Td) : Int :=
  if mayF t.facts = false then 4 else if (ts.any fun x => decide (x.row = t.row)) = true then 6 else if most ≤ (ts.length : Int) then 67 else 0
theorem pushC_eq {ys : List It} (hp : List.Perm (ys.map (·.td)) ts) (t : Td) : pushCode t most ys = pushC t most ts := by
  unfold pushCode pushC
  rw [rowIs_any hp, ← hp.length_eq, List.length_map]

def PushedTo (T M : Nat → Prop) (w0 : World) (q : Nat) (most : Int) (ts : List Td) (w w' : World) : Prop :=
  ∃ T' M' : Nat → Prop, QSt T' M' w0 w' q most ts ∧ (∀ b, T b → T' b) ∧ (∀ b, T' b → T b ∨ w.heap.size ≤ b) ∧ (∀ b, M' b → M b ∨ w.heap.size ≤ b) ∧ Turns M w w'
theorem QSt.push (h : QSt T M w0 w q most ts) (hn : ts.length ≤ 1000) (hbw : w0.heap.size ≤ w.heap.size) {S : Nat → Prop} {t : Td} {tv : Value} (ht : Tdv 128 S w t tv) :
    Calls Try.prog 29 #[.pointer (some ⟨q, 0, none⟩), tv] w fun e w' => e = .returned (.int .i64 (pushC t most ts)) ∧ PushedTo T M w0 q most (if pushC t most ts = 0 then t :: ts else ts) w w' := by
  have h0 := h
  obtain ⟨v, ys, hq, hh, hp, h1, h2, h3, h4⟩ := h
  have hyl : ys.length ≤ 1000 := by have := hp.length_eq; rw [List.length_map] at this; omega
  refine (qpush_any hq hh hyl h2 ht).mono ?_
  rintro e w' ⟨he, hno, hyes⟩
  have hc := pushC_eq (most := most) hp t
  rw [hc] at he hno hyes
  refine ⟨he, ?_⟩
  by_cases h0' : pushC t most ts = 0
  · rw [if_pos h0']
    obtain ⟨T', v', zs, x, hpz, hxt, hz, hq', htn, ho, hT, hTT, _⟩ := hyes h0'
    have htM : Turns M w w' := htn.mono fun b hb => (h4 b).2 hb
    have hzz := htn.size
    refine ⟨T', fun b => b = q ∨ v'.ownBlock = some b, ⟨v', zs, hq', hz, ?_, h1, Nat.lt_of_lt_of_le h2 hzz, fun b hb => ?_, fun b => Iff.rfl⟩, hTT, hT, fun b hb => ?_, htM⟩
    · have := hpz.map (·.td)
      rw [List.map_cons, hxt] at this
      exact this.trans (hp.cons t)
    · rcases hT b hb with e | e
      · exact h3 b e
      · omega
    · rcases hb with e | e
      · exact .inl ((h4 b).2 (.inl e))
      · rcases ho with ho | ⟨g, hg, hgl⟩
        · rw [ho] at e; exact .inl ((h4 b).2 (.inr e))
        · rw [hg] at e; injection e with e; exact .inr (by omega)
  · rw [if_neg h0']
    exact ⟨T, M, h0.ext (hno h0'), fun _ h => h, fun _ h => .inl h, fun _ h => .inl h, Turns.ofExt (hno h0')⟩

def PoppedTo (T M : Nat → Prop) (w0 : World) (q : Nat) (most : Int) (ts : List Td) (w : World) (e : Ending) (w' : World) : Prop :=
  ∃ (A : Option Addr) (c : Nat) (A' : Option Addr) (c' : Nat) (r : Td) (rest : List Td), e = .returned (.tuple #[.agg #[.slice A r.row.length c, .slice A' r.facts.length c'], .int .i64 0]) ∧ List.Perm (r :: rest) ts ∧ (∀ x ∈ ts, lessR x.row r.row = false) ∧ QSt T M w0 w' q most rest ∧ Turns M w w' ∧
    Tdv 128 T w' r (.agg #[.slice A r.row.length c, .slice A' r.facts.length c'])
theorem QSt.pop (h : QSt T M w0 w q most ts) (hn : ts.length ≤ 1000) (h0 : 0 < ts.length) :
    Calls Try.prog 31 #[.pointer (some ⟨q, 0, none⟩)] w (PoppedTo T M w0 q most ts w) := by
  obtain ⟨v, ys, hq, hh, hp, h1, h2, h3, h4⟩ := h
  have hl := hp.length_eq
  rw [List.length_map] at hl
  refine (qpop_any hq hh (by omega) (by omega)).mono ?_
  rintro e w' ⟨r, v', zs, rfl, hpz, hmin, hz, hq', ht, ho, htd⟩
  obtain ⟨rv, fv, td⟩ := r
  have htd0 := htd
  obtain ⟨_, _, e, ⟨A, c, e1, _⟩, ⟨A', c', e2, _⟩⟩ := htd0
  injection e with e
  simp only [Array.mk.injEq, List.cons.injEq, and_true] at e
  obtain ⟨e3, e4⟩ := e
  rw [e1] at e3
  rw [e2] at e4
  simp only at e3 e4
  subst e3 e4
  have hzz := ht.size
  refine ⟨A, c, A', c', td, zs.map (·.td), rfl, ?_, fun x hx => ?_, ⟨v', zs, hq', hz, List.Perm.refl _, h1, Nat.lt_of_lt_of_le h2 hzz, h3, fun b => by rw [h4 b, ho]⟩, ht.mono fun b hb => (h4 b).2 hb, htd⟩
  · have := hpz.map (·.td)
    rw [List.map_cons] at this
    exact this.trans hp
  · obtain ⟨y, hy, rfl⟩ := List.mem_map.1 (hp.mem_iff.2 hx)
    exact hmin y hy
theorem QSt.len (h : QSt T M w0 w q most ts) : Calls Try.prog 34 #[.pointer (some ⟨q, 0, none⟩)] w fun e w' => e = .returned (.int .i64 ts.length) ∧ w' = w := by
  obtain ⟨v, ys, hq, hh, hp, _⟩ := h
  have hl := hp.length_eq
  rw [List.length_map] at hl
  rw [← hl]
  exact qlen_any hq
end
end Go.Proofs.Ytocndkhgopjhhaa
