/- The loop of touchstonelaw28.given: its two statements. -/
import Derived.Test.YtocndkhgopjhhaaProg
import Derived.Test.YtocndkhgopjhhaaGivI
namespace Go.Proofs.Ytocndkhgopjhhaa
open Go.RowKit

theorem CellsF.half {B : Nat} {T T' : Nat → Prop} {w w' : World} {j : Nat} {fs : List Fc} {xs : List Value} (h : CellsF B T w j fs xs) (hz : w.heap.size ≤ w'.heap.size)
    (hT : ∀ b, T b → b < w.heap.size → w'.heap[b]? = w.heap[b]?) (hTT : ∀ b, T b → b < w.heap.size → T' b) {nv : Value} :
    CellsF B T' w' j fs (xs.set (j * 6 + 2) nv) := by
  refine ⟨by simpa using h.1, fun i f' hi => ?_⟩
  obtain ⟨nv0, kv0, c0, c1, c2, c3, c4, c5, w1, w2, w3, hs⟩ := h.2 i f' hi
  have hl := (List.getElem?_eq_some_iff.1 hi).1
  have hxl := h.1
  by_cases e : i = j
  · subst e
    refine ⟨nv, kv0, ?_, ?_, ?_, ?_, ?_, ?_, w1, w2, w3, fun h => by omega⟩
    · rw [List.getElem?_set_ne (by omega)]; exact c0
    · rw [List.getElem?_set_ne (by omega)]; exact c1
    · rw [List.getElem?_set_self (by omega)]
    · rw [List.getElem?_set_ne (by omega)]; exact c3
    · rw [List.getElem?_set_ne (by omega)]; exact c4
    · rw [List.getElem?_set_ne (by omega)]; exact c5
  · refine ⟨nv0, kv0, ?_, ?_, ?_, ?_, ?_, ?_, w1, w2, w3, fun hij => ?_⟩
    · rw [List.getElem?_set_ne (by omega)]; exact c0
    · rw [List.getElem?_set_ne (by omega)]; exact c1
    · rw [List.getElem?_set_ne (by omega)]; exact c2
    · rw [List.getElem?_set_ne (by omega)]; exact c3
    · rw [List.getElem?_set_ne (by omega)]; exact c4
    · rw [List.getElem?_set_ne (by omega)]; exact c5
    · obtain ⟨h1, h2⟩ := hs (by omega)
      exact ⟨h1.keep hz hT hTT, h2.keep hz hT hTT⟩
theorem CellsF.half2 {B : Nat} {T T' : Nat → Prop} {w w' : World} {j : Nat} {fs : List Fc} {xs : List Value} (h : CellsF B T w j fs xs) {f : Fc} (hf : fs[j]? = some f) {nv : Value} (hnv : xs[j * 6 + 2]? = some nv) (hn : Strs B T w nv f.names) (hz : w.heap.size ≤ w'.heap.size)
    (hT : ∀ b, T b → b < w.heap.size → w'.heap[b]? = w.heap[b]?) (hTT : ∀ b, T b → b < w.heap.size → T' b) {kv : Value} (hk : Ints B T' w' kv f.kids) :
    CellsF B T' w' (j + 1) fs (xs.set (j * 6 + 3) kv) := by
  refine ⟨by simpa using h.1, fun i f' hi => ?_⟩
  obtain ⟨nv0, kv0, c0, c1, c2, c3, c4, c5, w1, w2, w3, hs⟩ := h.2 i f' hi
  have hl := (List.getElem?_eq_some_iff.1 hi).1
  have hxl := h.1
  by_cases e : i = j
  · subst e
    rw [hf] at hi
    injection hi with hi
    subst hi
    refine ⟨nv, kv, ?_, ?_, ?_, ?_, ?_, ?_, w1, w2, w3, fun _ => ⟨hn.keep hz hT hTT, hk⟩⟩
    · rw [List.getElem?_set_ne (by omega)]; exact c0
    · rw [List.getElem?_set_ne (by omega)]; exact c1
    · rw [List.getElem?_set_ne (by omega)]; exact hnv
    · rw [List.getElem?_set_self (by omega)]
    · rw [List.getElem?_set_ne (by omega)]; exact c4
    · rw [List.getElem?_set_ne (by omega)]; exact c5
  · refine ⟨nv0, kv0, ?_, ?_, ?_, ?_, ?_, ?_, w1, w2, w3, fun hij => ?_⟩
    · rw [List.getElem?_set_ne (by omega)]; exact c0
    · rw [List.getElem?_set_ne (by omega)]; exact c1
    · rw [List.getElem?_set_ne (by omega)]; exact c2
    · rw [List.getElem?_set_ne (by omega)]; exact c3
    · rw [List.getElem?_set_ne (by omega)]; exact c4
    · rw [List.getElem?_set_ne (by omega)]; exact c5
    · obtain ⟨h1, h2⟩ := hs (by omega)
      exact ⟨h1.keep hz hT hTT, h2.keep hz hT hTT⟩

/-- Between the round's two statements: the names of fact j are there. -/
def TMid (B : Nat) (t : Td) (W1 : World) (A A' : Option Addr) (c c' gz j : Nat) (f : Fc) (wr : World) : Prop :=
  ∃ (xs : List Value) (T : Nat → Prop) (nv : Value), Ext W1 wr ∧ Blk wr gz 48 #[.slice A t.row.length c, .slice A' t.facts.length c'] ∧ Ints B T wr (.slice A t.row.length c) t.row ∧
    wr.ownsRow W1.heap.size 106 6 (.slice A' t.facts.length c') t.facts.length xs ∧ CellsF B T wr j t.facts xs ∧ (∀ b, T b → W1.heap.size ≤ b ∧ b < wr.heap.size ∧ b ≠ gz ∧ (Value.slice A' t.facts.length c').ownBlock ≠ some b ∧ Nfz wr b) ∧
    xs[j * 6 + 2]? = some nv ∧ Strs B T wr nv f.names

theorem tloop_gzF {w : World} {W1 : World} {A A' : Option Addr} {n m c c' gz gF : Nat} {xs : List Value} (hb : Blk w gz 48 #[.slice A n c, .slice A' m c']) (ho : w.ownsRow W1.heap.size 106 6 (.slice A' m c') m xs) (hA' : A' = some ⟨gF, 0, none⟩) : gz ≠ gF := by
  subst hA'
  rintro rfl
  exact RowOf.blkNe (W1 := W1) ⟨⟨_, _, rfl⟩, ho⟩ hb (by decide) rfl

theorem tloop_mid {B : Nat} {t : Td} {W1 wr w2 : World} {A A' : Option Addr} {c c' gz j gF : Nat} (hA' : A' = some ⟨gF, 0, none⟩) (h : TLoop B t W1 A A' c c' gz j wr) {f : Fc} (hf : t.facts[j]? = some f)
    (hx : Ext wr w2) {An : Option Addr} {cn : Nat} (hn : w2.ownsRow wr.heap.size 9 1 (.slice An f.names.length cn) f.names.length (f.names.map Value.string)) (hnB : f.names.length ≤ B) (hns : ∀ s ∈ f.names, s.size ≤ maxLen) :
    TMid B t W1 A A' c c' gz j f (w2.setCell ⟨gF, j * 6 + 2, none⟩ (.slice An f.names.length cn)) := by
  subst hA'
  obtain ⟨xs, T, h1, h2, h3, h4, h5, h6⟩ := h
  have hzx := hx.size
  have hgF := ownsRow_lt h4 (g := gF) rfl
  have ho9 := ownsRow_ext h4 (w' := w2) fun g hg => by
    simp [Value.ownBlock] at hg; subst hg; exact hx.block _ hgF.2
  obtain ⟨ho10, _⟩ := ho9.stored (j * 6 + 2) (.slice An f.names.length cn)
  have hF : ∀ b, b ≠ gF → (w2.setCell ⟨gF, j * 6 + 2, none⟩ (.slice An f.names.length cn)).heap[b]? = w2.heap[b]? := fun b hb => Below.heap_setCell _ _ _ _ hb
  have hFz : (w2.setCell ⟨gF, j * 6 + 2, none⟩ (.slice An f.names.length cn)).heap.size = w2.heap.size := by simp [World.setCell]
  have hnb : ∀ b, (Value.slice An f.names.length cn).ownBlock = some b → wr.heap.size ≤ b ∧ b < w2.heap.size := fun b hb => ownsRow_lt hn hb
  have hzgz := h2.lt
  have hgzF := tloop_gzF h2 h4 rfl
  have hl := (List.getElem?_eq_some_iff.1 hf).1
  have hz := h1.size
  have hown : (Value.slice (some ⟨gF, 0, none⟩) t.facts.length c').ownBlock = some gF := rfl
  refine ⟨_, fun b => T b ∨ (Value.slice An f.names.length cn).ownBlock = some b, .slice An f.names.length cn, (h1.trans' hx).setCell (p := ⟨gF, j * 6 + 2, none⟩) hgF.1 _, ?_, ?_, ho10, ?_, ?_, ?_, ?_⟩
  · exact (h2.ext hx).far (p := ⟨gF, j * 6 + 2, none⟩) hgzF _
  · refine h3.keep (by omega) (fun b hb hl => ?_) (fun _ h _ => .inl h)
    rw [hF b (fun e => (h6 b hb).2.2.2.1 (by rw [e]; rfl)), hx.block b hl]
  · refine h5.half (by omega) (fun b hb hl => ?_) (fun _ h _ => .inl h)
    rw [hF b (fun e => (h6 b hb).2.2.2.1 (by rw [e]; rfl)), hx.block b hl]
  · rintro b (hb | hb)
    · obtain ⟨a1, a2, a3, a4, a5⟩ := h6 b hb
      exact ⟨a1, by omega, a3, a4, a5.same (by rw [hF b (fun e => a4 (by rw [e]; rfl)), hx.block b a2])⟩
    · have := hnb b hb
      exact ⟨by omega, by omega, by omega, fun e => by (rw [hown] at e; injection e with e; omega), (ownsRow_nfz hn hb).same (hF b (by omega))⟩
  · have := h5.1
    rw [List.getElem?_set_self (by omega)]
  · have hs : Strs B (fun b => (Value.slice An f.names.length cn).ownBlock = some b) w2 (.slice An f.names.length cn) f.names := OwnStrs.strs hn hnB hns
    refine hs.keep (by omega) (fun b hb hl => ?_) (fun _ h _ => .inr h)
    have := hnb b hb
    rw [hF b (by omega)]

theorem tmid_step {B : Nat} {t : Td} {W1 wr w2 : World} {A A' : Option Addr} {c c' gz j gF : Nat} (hA' : A' = some ⟨gF, 0, none⟩) {f : Fc} (h : TMid B t W1 A A' c c' gz j f wr) (hf : t.facts[j]? = some f)
    (hx : Ext wr w2) {Ak : Option Addr} {ck : Nat} (hn : w2.ownsRow wr.heap.size 3 1 (.slice Ak f.kids.length ck) f.kids.length (f.kids.map (Value.int .i64))) (hnB : f.kids.length ≤ B) (hns : ∀ z ∈ f.kids, (Lit.int .i64 z).wf = true) :
    TLoop B t W1 A A' c c' gz (j + 1) (w2.setCell ⟨gF, j * 6 + 3, none⟩ (.slice Ak f.kids.length ck)) := by
  subst hA'
  obtain ⟨xs, T, nv, h1, h2, h3, h4, h5, h6, h7, h8⟩ := h
  have hzx := hx.size
  have hgF := ownsRow_lt h4 (g := gF) rfl
  have ho9 := ownsRow_ext h4 (w' := w2) fun g hg => by
    simp [Value.ownBlock] at hg; subst hg; exact hx.block _ hgF.2
  obtain ⟨ho10, _⟩ := ho9.stored (j * 6 + 3) (.slice Ak f.kids.length ck)
  have hF : ∀ b, b ≠ gF → (w2.setCell ⟨gF, j * 6 + 3, none⟩ (.slice Ak f.kids.length ck)).heap[b]? = w2.heap[b]? := fun b hb => Below.heap_setCell _ _ _ _ hb
  have hFz : (w2.setCell ⟨gF, j * 6 + 3, none⟩ (.slice Ak f.kids.length ck)).heap.size = w2.heap.size := by simp [World.setCell]
  have hnb : ∀ b, (Value.slice Ak f.kids.length ck).ownBlock = some b → wr.heap.size ≤ b ∧ b < w2.heap.size := fun b hb => ownsRow_lt hn hb
  have hzgz := h2.lt
  have hgzF := tloop_gzF h2 h4 rfl
  have hl := (List.getElem?_eq_some_iff.1 hf).1
  have hz := h1.size
  have hown : (Value.slice (some ⟨gF, 0, none⟩) t.facts.length c').ownBlock = some gF := rfl
  refine ⟨_, fun b => T b ∨ (Value.slice Ak f.kids.length ck).ownBlock = some b, (h1.trans' hx).setCell (p := ⟨gF, j * 6 + 3, none⟩) hgF.1 _, ?_, ?_, ho10, ?_, ?_⟩
  · exact (h2.ext hx).far (p := ⟨gF, j * 6 + 3, none⟩) hgzF _
  · refine h3.keep (by omega) (fun b hb hl => ?_) (fun _ h _ => .inl h)
    rw [hF b (fun e => (h6 b hb).2.2.2.1 (by rw [e]; rfl)), hx.block b hl]
  · refine h5.half2 hf h7 h8 (by omega) (fun b hb hl => ?_) (fun _ h _ => .inl h) ?_
    · rw [hF b (fun e => (h6 b hb).2.2.2.1 (by rw [e]; rfl)), hx.block b hl]
    · refine (own_ints hn rfl hnB hns).keep (by omega) (fun b hb hl => ?_) (fun _ h _ => .inr h)
      have := hnb b hb
      rw [hF b (by omega)]
  · rintro b (hb | hb)
    · obtain ⟨a1, a2, a3, a4, a5⟩ := h6 b hb
      exact ⟨a1, by omega, a3, a4, a5.same (by rw [hF b (fun e => a4 (by rw [e]; rfl)), hx.block b a2])⟩
    · have := hnb b hb
      exact ⟨by omega, by omega, by omega, fun e => by (rw [hown] at e; injection e with e; omega), (ownsRow_nfz hn hb).same (hF b (by omega))⟩

/-- The first statement's outcome is the loop's beginning. -/
theorem tloop_start {B : Nat} {t : Td} {W1 wx : World} {A A' : Option Addr} {c c' gz : Nat} {news : List Value} (hx : Ext W1 wx) (hb : Blk wx gz 48 #[.slice A t.row.length c, .slice A' t.facts.length c'])
    (r8 : RowOf W1 wx 3 1 t.row.length (.slice A t.row.length c) (t.row.map (Value.int .i64))) (r12 : RowOf W1 wx 106 6 t.facts.length (.slice A' t.facts.length c') news) {S : Nat → Prop} {w : World} (hc : CellsF B S w 0 t.facts news) (hB : t.row.length ≤ B) (hs : ∀ z ∈ t.row, (Lit.int .i64 z).wf = true) :
    TLoop B t W1 A A' c c' gz 0 wx := by
  refine ⟨news, _, hx, hb, own_ints r8.2 rfl hB hs, r12.2, ⟨hc.1, fun i f hi => ?_⟩, fun b hb' => ?_⟩
  · obtain ⟨nv, kv, c0, c1, c2, c3, c4, c5, w1, w2, w3, _⟩ := hc.2 i f hi
    exact ⟨nv, kv, c0, c1, c2, c3, c4, c5, w1, w2, w3, fun h => by omega⟩
  · have := ownsRow_lt r8.2 hb'
    exact ⟨this.1, this.2, fun e => r8.blkNe hb (by decide) (by rw [← e]; exact hb'), r8.rowNe r12 (by decide) hb', ownsRow_nfz r8.2 hb'⟩

theorem keepG {w1 w w' : World} {a b e : Addr} {x y z : Value} {g n : Nat} (h : w.cell? a = some x ∧ w.cell? b = some y ∧ w.cell? e = some z ∧ StoOK g n w ∧ Turns (fun k => k = g) w1 w) (ha : a.block < w1.heap.size) (hb : b.block < w1.heap.size) (he : e.block < w1.heap.size) (hg : g < w1.heap.size)
    {r : Option Nat} (hx : w.grownBy w' r) (hr : ∀ k, r = some k → w1.heap.size ≤ k) :
    w'.cell? a = some x ∧ w'.cell? b = some y ∧ w'.cell? e = some z ∧ StoOK g n w' ∧ Turns (fun k => k = g) w1 w' := by
  obtain ⟨h1, h2, h3, h4, h5⟩ := h
  have hz := h5.size
  have hb' : ∀ k, k < w1.heap.size → w'.heap[k]? = w.heap[k]? := fun k hk => hx.block k (by omega) fun e => by have := hr k e.symm; omega
  have hc : ∀ p : Addr, p.block < w1.heap.size → w'.cell? p = w.cell? p := fun p hp => World.cell?_of_block (hb' p.block hp)
  refine ⟨(hc a ha).trans h1, (hc b hb).trans h2, (hc e he).trans h3, ?_, ?_⟩
  · obtain ⟨cur, k1, k2⟩ := h4
    exact ⟨cur, (hb' g hg).trans k1, k2⟩
  · exact ⟨hx.os.trans h5.os, hx.tape.trans h5.tape, hx.output.trans h5.output, Nat.le_trans h5.size hx.size, fun k hk hn => (hb' k hk).trans (h5.block k hk hn)⟩
end Go.Proofs.Ytocndkhgopjhhaa
