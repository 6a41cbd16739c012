/- state.Todo.own: what its statements come to. -/
import Derived.Test.YtocndkhgopjhhaaProg
import Derived.Test.YtocndkhgopjhhaaTOwn
import Derived.Test.YtocndkhgopjhhaaPushPop
import Derived.Deep.RegionHeld3
import Derived.Deep.DeepCutAuto
import Derived.Deep.CutBlock
import Derived.Outline
namespace Go.Proofs.Ytocndkhgopjhhaa
open Go.RowKit

theorem zero_todo : ∀ W : World, (zeroValue 48).run Try.prog W = .ok (.agg #[.slice none 0 0, .slice none 0 0]) W := fun _ => by kernel_rfl

/-- What the first statement comes to. -/
def TCut (B : Nat) (t : Td) (w1 : World) (A A' : Option Addr) (c c' gz : Nat) (wx : World) : Prop :=
  Ext w1 wx ∧ w1.heap.size ≤ gz ∧ Blk wx gz 48 #[.slice A t.row.length c, .slice A' t.facts.length c'] ∧
  Ints B (fun b => (Value.slice A t.row.length c).ownBlock = some b) wx (.slice A t.row.length c) t.row ∧ (∃ xs, wx.ownsRow w1.heap.size 106 6 (.slice A' t.facts.length c') t.facts.length xs ∧ CellsF B (fun _ => False) wx 0 t.facts xs) ∧
  (∀ b, (Value.slice A t.row.length c).ownBlock = some b → w1.heap.size ≤ b ∧ b < wx.heap.size ∧ b ≠ gz ∧ (Value.slice A' t.facts.length c').ownBlock ≠ some b ∧ Nfz wx b) ∧ (Value.slice A' t.facts.length c').ownBlock ≠ some gz

theorem keepA {w1 w w' : World} {a b : Addr} {x y : Value} (h : w.cell? a = some x ∧ w.cell? b = some y ∧ Ext w1 w) (ha : a.block < w1.heap.size) (hb : b.block < w1.heap.size) (hx : Ext w w') : w'.cell? a = some x ∧ w'.cell? b = some y ∧ Ext w1 w' := by
  obtain ⟨h1, h2, h3⟩ := h
  have := h3.size
  exact ⟨(hx.cell (p := a) (by omega)).trans h1, (hx.cell (p := b) (by omega)).trans h2, h3.trans' hx⟩
theorem keepB {w1 w : World} {a b p q : Addr} {x y u v : Value} (h : w.cell? a = some x ∧ w.cell? b = some y ∧ Ext w1 w) (ha : a.block < w1.heap.size) (hb : b.block < w1.heap.size) (hp : w1.heap.size ≤ p.block) (hq : w1.heap.size ≤ q.block) :
    ((w.setCell p u).setCell q v).cell? a = some x ∧ ((w.setCell p u).setCell q v).cell? b = some y ∧ Ext w1 ((w.setCell p u).setCell q v) := by
  obtain ⟨h1, h2, h3⟩ := h
  have hx : Ext w1 ((w.setCell p u).setCell q v) := (h3.setCell hp u).setCell hq v
  exact ⟨by rw [hx.cell (p := a) ha, ← h3.cell (p := a) ha]; exact h1, by rw [hx.cell (p := b) hb, ← h3.cell (p := b) hb]; exact h2, hx⟩
theorem keepC {w1 w : World} {a b : Addr} {x y : Value} {o o' : Obj} (h : (w.alloc o).cell? a = some x ∧ (w.alloc o).cell? b = some y ∧ Ext w1 (w.alloc o)) (ha : a.block < w1.heap.size) (hb : b.block < w1.heap.size) (hs : w1.heap.size ≤ w.heap.size) :
    (w.alloc o').cell? a = some x ∧ (w.alloc o').cell? b = some y ∧ Ext w1 (w.alloc o') := by
  obtain ⟨h1, h2, h3⟩ := h
  have hx : Ext w1 (w.alloc o') := ⟨h3.os, h3.tape, h3.output, by simp; omega, fun k hk => by rw [Below.heap_alloc _ _ _ (by omega), ← h3.block k hk, Below.heap_alloc _ _ _ (by omega)]⟩
  exact ⟨by rw [hx.cell (p := a) ha, ← h3.cell (p := a) ha]; exact h1, by rw [hx.cell (p := b) hb, ← h3.cell (p := b) hb]; exact h2, hx⟩
theorem Blk.newD (w : World) (t : TypeId) (cs : Array Value) : Blk (w.alloc (.cells cs t)).drew w.heap.size t cs := Blk.new w t cs
theorem Ext.ofDrew {w w' : World} (h : Ext w.drew w') : Ext w w' := ⟨h.os, h.tape, h.output, h.size, h.block⟩
theorem extOf {w1 w : World} {a b : Addr} {x y : Value} (h : w.cell? a = some x ∧ w.cell? b = some y ∧ Ext w1 w) : Ext w1 w := h.2.2

theorem tcut_of {B : Nat} {t : Td} {W1 w8 w9 F : World} {A8 A9 : Option Addr} {c8 c9 gz b8 b9 : Nat} {xs9 : List Value} (hi8 : Ints B (fun b => (Value.slice A8 t.row.length c8).ownBlock = some b) w8 (.slice A8 t.row.length c8) t.row)
    (hb8 : ∀ b, (Value.slice A8 t.row.length c8).ownBlock = some b → b8 ≤ b ∧ b < w8.heap.size ∧ Nfz w8 b) (hx9 : Ext w8 w9) (ho9 : w9.ownsRow b9 106 6 (.slice A9 t.facts.length c9) t.facts.length xs9) (hxs9 : CellsF B (fun _ => False) w9 0 t.facts xs9)
    (h1 : W1.heap.size ≤ b8) (h2 : w8.heap.size ≤ b9) (h3 : W1.heap.size ≤ w8.heap.size) (g0 : W1.heap.size ≤ gz) (g1 : gz < b8 ∨ w8.heap.size ≤ gz) (g2 : gz < b9 ∨ w9.heap.size ≤ gz)
    (hXF : Ext W1 F) (hF : ∀ b, b < w9.heap.size → b ≠ gz → F.heap[b]? = w9.heap[b]?) (hFz : w9.heap.size ≤ F.heap.size) (hFB : Blk F gz 48 #[.slice A8 t.row.length c8, .slice A9 t.facts.length c9]) : TCut B t W1 A8 A9 c8 c9 gz F := by
  have hz9 := hx9.size
  have hf : ∀ g, (Value.slice A9 t.facts.length c9).ownBlock = some g → b9 ≤ g ∧ g < w9.heap.size := fun g hg => ownsRow_lt ho9 hg
  refine ⟨hXF, g0, hFB, ?_, ⟨xs9, ?_, ?_⟩, fun b hb => ?_, fun h => ?_⟩
  · refine hi8.keep (by omega) (fun b hb hl => ?_) (fun _ h _ => h)
    have := hb8 b hb
    rw [hF b (by omega) (by omega)]; exact hx9.block b hl
  · exact ownsRow_mono (ownsRow_ext ho9 fun g hg => by have := hf g hg; exact hF g this.2 (by omega)) (by omega)
  · exact hxs9.keep (by omega) (fun _ h _ => h.elim) (fun _ h _ => h)
  · have := hb8 b hb
    exact ⟨by omega, by omega, by omega, fun h => by have := hf b h; omega, this.2.2.same ((hF b (by omega) (by omega)).trans (hx9.block b (by omega)))⟩
  · have := hf gz h; omega

theorem Blk.set01 {w : World} {g : Nat} {t : TypeId} {a b u v : Value} (h : Blk w g t #[a, b]) : Blk ((w.setCell ⟨g, 0, none⟩ u).setCell ⟨g, 1, none⟩ v) g t #[u, v] := by
  simpa using (h.set_ 0 u).set_ 1 v

theorem own_row {w : World} {base n c : Nat} {A : Option Addr} {xs : List Value} (h : w.ownsRow base 106 6 (.slice A n c) n xs) (hp : 0 < n) :
    ∃ gF cur, A = some ⟨gF, 0, none⟩ ∧ base ≤ gF ∧ w.heap[gF]? = some (.cells cur 106 (0, 0)) ∧ n * 6 ≤ cur.size ∧ n ≤ c ∧ c ≤ maxLen := by
  rcases h.2 with ⟨e, h0⟩ | ⟨g, cap, cur, e, hb, hg, hnc, hcm, hcs, _⟩
  · omega
  · injection e with e1 _ e3
    subst e1 e3
    exact ⟨g, cur, rfl, hb, hg, by omega, hnc, hcm⟩
/-- What holds at the head of the loop. -/
def TLoop (B : Nat) (t : Td) (W1 : World) (A A' : Option Addr) (c c' gz j : Nat) (wr : World) : Prop :=
  ∃ (xs : List Value) (T : Nat → Prop), Ext W1 wr ∧ Blk wr gz 48 #[.slice A t.row.length c, .slice A' t.facts.length c'] ∧ Ints B T wr (.slice A t.row.length c) t.row ∧
    wr.ownsRow W1.heap.size 106 6 (.slice A' t.facts.length c') t.facts.length xs ∧ CellsF B T wr j t.facts xs ∧ (∀ b, T b → W1.heap.size ≤ b ∧ b < wr.heap.size ∧ b ≠ gz ∧ (Value.slice A' t.facts.length c').ownBlock ≠ some b ∧ Nfz wr b)
/-- Block g may be stored into, as far as cell n. -/
def StoOK (g n : Nat) (w : World) : Prop := ∃ cur, w.heap[g]? = some (.cells cur 106 (0, 0)) ∧ n ≤ cur.size
def cellOf (w : World) (a : Addr) : Value := (w.cell? a).getD undef
theorem StoOK.cell {g n : Nat} {w : World} (h : StoOK g n w) {k : Nat} (hk : k < n) : w.cell? ⟨g, k, none⟩ = some (cellOf w ⟨g, k, none⟩) ∧ w.frozen? ⟨g, k, none⟩ = false := by
  obtain ⟨cur, h1, h2⟩ := h
  have hc := cell_of_row w g k cur _ (0, 0) h1
  refine ⟨?_, frozen_of_row w g k cur _ h1⟩
  unfold cellOf
  rw [hc, Array.getElem?_eq_getElem (by omega)]; rfl
theorem StoOK.ext {g n : Nat} {w w' : World} (h : StoOK g n w) (hx : Ext w w') : StoOK g n w' := by
  obtain ⟨cur, h1, h2⟩ := h
  exact ⟨cur, (hx.block g (by
    rcases Nat.lt_or_ge g w.heap.size with hlt | hge
    · exact hlt
    · rw [Array.getElem?_eq_none hge] at h1; cases h1)).trans h1, h2⟩
theorem StoOK.set {g n : Nat} {w : World} (h : StoOK g n w) (k : Nat) (u : Value) : StoOK g n (w.setCell ⟨g, k, none⟩ u) := by
  obtain ⟨cur, h1, h2⟩ := h
  exact ⟨_, heap_setCell_same w g k cur _ u h1, by simpa using h2⟩

theorem keepT {w1 w w' : World} {a b e : Addr} {x y z : Value} {g n : Nat} (h : w.cell? a = some x ∧ w.cell? b = some y ∧ w.cell? e = some z ∧ StoOK g n w ∧ Turns (fun k => k = g) w1 w) (ha : a.block < w1.heap.size) (hb : b.block < w1.heap.size) (he : e.block < w1.heap.size) (hx : Ext w w') :
    w'.cell? a = some x ∧ w'.cell? b = some y ∧ w'.cell? e = some z ∧ StoOK g n w' ∧ Turns (fun k => k = g) w1 w' := by
  obtain ⟨h1, h2, h3, h4, h5⟩ := h
  have := h5.size
  exact ⟨(hx.cell (p := a) (by omega)).trans h1, (hx.cell (p := b) (by omega)).trans h2, (hx.cell (p := e) (by omega)).trans h3, h4.ext hx, Turns.trans h5 (Turns.ofExt hx (F := fun k => k = g)) (fun _ h _ => h)⟩
theorem keepU {w1 w : World} {a b e : Addr} {x y z u : Value} {g n k : Nat} (h : w.cell? a = some x ∧ w.cell? b = some y ∧ w.cell? e = some z ∧ StoOK g n w ∧ Turns (fun k => k = g) w1 w) (ha : a.block ≠ g) (hb : b.block ≠ g) (he : e.block ≠ g) :
    (w.setCell ⟨g, k, none⟩ u).cell? a = some x ∧ (w.setCell ⟨g, k, none⟩ u).cell? b = some y ∧ (w.setCell ⟨g, k, none⟩ u).cell? e = some z ∧ StoOK g n (w.setCell ⟨g, k, none⟩ u) ∧ Turns (fun k => k = g) w1 (w.setCell ⟨g, k, none⟩ u) := by
  obtain ⟨h1, h2, h3, h4, h5⟩ := h
  have hc : ∀ p : Addr, p.block ≠ g → (w.setCell ⟨g, k, none⟩ u).cell? p = w.cell? p := fun p hp => World.cell?_of_block (Below.heap_setCell w ⟨g, k, none⟩ u p.block hp)
  exact ⟨(hc a ha).trans h1, (hc b hb).trans h2, (hc e he).trans h3, h4.set k u, Turns.trans h5 (Turns.ofSet w ⟨g, k, none⟩ u) (fun _ h _ => h)⟩
theorem turnsOf {w1 w : World} {a b e : Addr} {x y z : Value} {g n : Nat} (h : w.cell? a = some x ∧ w.cell? b = some y ∧ w.cell? e = some z ∧ StoOK g n w ∧ Turns (fun k => k = g) w1 w) : Turns (fun k => k = g) w1 w := h.2.2.2.2

/-- One round of the loop. -/
theorem tloop_step {B : Nat} {t : Td} {W1 wr wr1 w8 w9 : World} {A A' : Option Addr} {c c' gz j gF : Nat} (hA' : A' = some ⟨gF, 0, none⟩) (h : TLoop B t W1 A A' c c' gz j wr) {f : Fc} (hf : t.facts[j]? = some f)
    (hx1 : Ext wr wr1) {An Ak : Option Addr} {cn ck : Nat} (hx8 : Ext wr1 w8) (hn : OwnStrs w8 wr1.heap.size (.slice An f.names.length cn) f.names) (hnB : f.names.length ≤ B) (hns : ∀ s ∈ f.names, s.size ≤ maxLen)
    (hx9 : Ext w8 w9) (hk : Ints B (fun b => (Value.slice Ak f.kids.length ck).ownBlock = some b) w9 (.slice Ak f.kids.length ck) f.kids) (hkb : ∀ b, (Value.slice Ak f.kids.length ck).ownBlock = some b → w8.heap.size ≤ b ∧ b < w9.heap.size ∧ Nfz w9 b) :
    TLoop B t W1 A A' c c' gz (j + 1) ((w9.setCell ⟨gF, j * 6 + 2, none⟩ (.slice An f.names.length cn)).setCell ⟨gF, j * 6 + 3, none⟩ (.slice Ak f.kids.length ck)) := by
  subst hA'
  obtain ⟨xs, T, h1, h2, h3, h4, h5, h6⟩ := h
  have hx : Ext wr w9 := (hx1.trans' hx8).trans' hx9
  have hz1 := hx1.size
  have hz8 := hx8.size
  have hz9 := hx9.size
  have hgF := ownsRow_lt h4 (g := gF) rfl
  have ho9 := ownsRow_ext h4 (w' := w9) fun g hg => by
    simp [Value.ownBlock] at hg; subst hg; exact hx.block _ hgF.2
  obtain ⟨ho10, _⟩ := ho9.stored (j * 6 + 2) (.slice An f.names.length cn)
  obtain ⟨ho11, _⟩ := ho10.stored (j * 6 + 3) (.slice Ak f.kids.length ck)
  have hF : ∀ b, b ≠ gF → ((w9.setCell ⟨gF, j * 6 + 2, none⟩ (.slice An f.names.length cn)).setCell ⟨gF, j * 6 + 3, none⟩ (.slice Ak f.kids.length ck)).heap[b]? = w9.heap[b]? := fun b hb => (Below.heap_setCell _ _ _ _ hb).trans (Below.heap_setCell _ _ _ _ hb)
  have hFz : ((w9.setCell ⟨gF, j * 6 + 2, none⟩ (.slice An f.names.length cn)).setCell ⟨gF, j * 6 + 3, none⟩ (.slice Ak f.kids.length ck)).heap.size = w9.heap.size := by simp [World.setCell]
  have hnb : ∀ b, (Value.slice An f.names.length cn).ownBlock = some b → wr1.heap.size ≤ b ∧ b < w8.heap.size := fun b hb => ownsRow_lt hn hb
  have hzgz := h2.lt
  have hgzF : gz ≠ gF := by
    intro e
    have hb := h2
    subst e
    rcases h4.2 with ⟨e, _⟩ | ⟨g, cap, cur, e, _, hg, _⟩
    · cases e
    · simp only [Value.slice.injEq, Option.some.injEq, Addr.mk.injEq, and_true, true_and] at e
      obtain ⟨rfl, _⟩ := e
      unfold Blk at hb
      rw [hg] at hb
      injection hb with hb
      injection hb with _ hb
      cases hb
  refine ⟨_, fun b => T b ∨ (Value.slice An f.names.length cn).ownBlock = some b ∨ (Value.slice Ak f.kids.length ck).ownBlock = some b, ((h1.trans' hx).setCell (p := ⟨gF, j * 6 + 2, none⟩) hgF.1 _).setCell (p := ⟨gF, j * 6 + 3, none⟩) hgF.1 _, ?_, ?_, ho11, ?_, ?_⟩
  · exact ((h2.ext hx).far (p := ⟨gF, j * 6 + 2, none⟩) hgzF _).far (p := ⟨gF, j * 6 + 3, none⟩) hgzF _
  · refine h3.keep (by omega) (fun b hb hl => ?_) (fun _ h _ => .inl h)
    rw [hF b (fun e => (h6 b hb).2.2.2.1 (by rw [e]; rfl)), hx.block b hl]
  · refine h5.step hf (by omega) (fun b hb hl => ?_) (fun _ h _ => .inl h) ?_ ?_
    · rw [hF b (fun e => (h6 b hb).2.2.2.1 (by rw [e]; rfl)), hx.block b hl]
    · refine (hn.strs hnB hns).keep (by omega) (fun b hb hl => ?_) (fun _ h _ => .inr (.inl h))
      have := hnb b hb
      rw [hF b (by omega), hx9.block b hl]
    · refine hk.keep (by omega) (fun b hb hl => ?_) (fun _ h _ => .inr (.inr h))
      have := hkb b hb
      rw [hF b (by omega)]
  · have hown : (Value.slice (some ⟨gF, 0, none⟩) t.facts.length c').ownBlock = some gF := rfl
    have hz := h1.size
    rintro b (hb | hb | hb)
    · obtain ⟨a1, a2, a3, a4, a5⟩ := h6 b hb
      exact ⟨a1, by omega, a3, a4, a5.same (by rw [hF b (fun e => a4 (by rw [e]; rfl)), hx.block b a2])⟩
    · have := hnb b hb
      exact ⟨by omega, by omega, by omega, fun e => by (rw [hown] at e; injection e with e; omega), (ownsRow_nfz hn hb).same (by rw [hF b (by omega), hx9.block b (by omega)])⟩
    · have := hkb b hb
      exact ⟨by omega, by omega, by omega, fun e => by (rw [hown] at e; injection e with e; omega), this.2.2.same (hF b (by omega))⟩

/-- What a copy comes to. -/
def TOwnPost (B : Nat) (t : Td) (w : World) (e : Ending) (w' : World) : Prop :=
  ∃ A c A' c', e = .returned (.agg #[.slice A t.row.length c, .slice A' t.facts.length c']) ∧ Ext w w' ∧ Tdv B (fun b => w.heap.size ≤ b ∧ Nfz w' b) w' t (.agg #[.slice A t.row.length c, .slice A' t.facts.length c'])

theorem results_td {fn : Func} {k : Nat} (h : fn.results = #[.cell k 48]) (tmps : Array Value) (w : World) (g : Nat) (v0 v1 : Value)
    (ht : tmps.getD k undef = .pointer (some ⟨g, 0, none⟩)) (hB : Blk w g 48 #[v0, v1]) :
    (results fn tmps).run Try.prog w = .ok (.agg #[v0, v1]) w := by
  have c0 := hB.cell 0
  have c1 := hB.cell 1
  have ht' : tmps[k]?.getD undef = .pointer (some ⟨g, 0, none⟩) := by simpa using ht
  simp at c0 c1
  simp [results, h, ht', go_sem, c0, c1]

end Go.Proofs.Ytocndkhgopjhhaa
