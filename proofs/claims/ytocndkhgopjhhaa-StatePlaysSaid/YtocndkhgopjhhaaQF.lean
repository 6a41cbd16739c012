/- The queue as a whole, with the memory of each one that is in it. -/
import Derived.Test.YtocndkhgopjhhaaProg
import Derived.Test.YtocndkhgopjhhaaQSt
import Derived.Test.YtocndkhgopjhhaaPlQ
import Derived.Test.YtocndkhgopjhhaaRQ
import Derived.Test.YtocndkhgopjhhaaStepA
import Derived.Test.YtocndkhgopjhhaaTOwnV
import Derived.Test.YtocndkhgopjhhaaSt
import Derived.Test.YtocndkhgopjhhaaTOwnW
import Derived.Outline
import Derived.Deep.RegionLaw
namespace Go.Proofs.Ytocndkhgopjhhaa
open Go.RowKit

/-- what the one with row r reads lies in F r; the memory of different ones is apart. -/
structure Fam (F : List Int → Nat → Prop) (T : Nat → Prop) (w : World) (ys : List It) : Prop where
  item : ∀ x ∈ ys, Tdv 128 (F x.td.row) w x.td (.agg #[x.rv, x.fv])
  sub : ∀ r b, F r b → T b ∧ Nfz w b
  one : ∀ r r' b, F r b → F r' b → r = r'
  rows : (ys.map (·.td)).Pairwise fun a b => a.row ≠ b.row
/-- The queue at block q holds ts (in some order): see QSt; the memory of each of them is its own. -/
def QF (F : List Int → Nat → Prop) (T M : Nat → Prop) (w0 w : World) (q : Nat) (most : Int) (ts : List Td) : Prop :=
  ∃ v ys, Qu T w q (q + 1) most v ys ∧ Heap ltI ys.length ys ∧ List.Perm (ys.map (·.td)) ts ∧ w0.heap.size ≤ q ∧ q < w.heap.size ∧ (∀ b, T b → w0.heap.size ≤ b) ∧ (∀ b, M b ↔ (b = q ∨ v.ownBlock = some b)) ∧ Fam F T w ys

theorem QF.new (w0 w : World) (hw : w0.heap.size ≤ w.heap.size) (most : Int) : QF (fun _ _ => False) (fun _ => False) (fun b => b = w.heap.size) w0 (w.alloc (.cells #[.slice none 0 0, .int .i64 most] 116)) w.heap.size most [] := by
  refine ⟨_, [], Qu.new w most, ?_, List.Perm.refl _, hw, by simp, fun _ h => h.elim, fun b => by simp [Value.ownBlock], by simp, fun _ _ h => h.elim, fun _ _ _ h => h.elim, by simp⟩
  intro k a p _ hk
  simp at hk

section
variable {F : List Int → Nat → Prop} {T M : Nat → Prop} {w0 w : World} {q : Nat} {most : Int} {ts : List Td}
theorem Fam.turn {ys : List It} (h : Fam F T w ys) {w' : World} {G : Nat → Prop} (ht : Turns G w w') (hT : ∀ b, T b → b < w.heap.size) (hG : ∀ b, G b → ¬ T b) : Fam F T w' ys where
  item := fun x hx => (h.item x hx).keep ht.size (fun b hb hl => ht.block b hl fun hg => hG b hg (h.sub _ _ hb).1) (fun _ h _ => h)
  sub := fun r b hb => ⟨(h.sub r b hb).1, (h.sub r b hb).2.same (ht.block b (hT b (h.sub r b hb).1) fun hg => hG b hg (h.sub r b hb).1)⟩
  one := h.one
  rows := h.rows
theorem QF.st (h : QF F T M w0 w q most ts) : QSt T M w0 w q most ts := by
  obtain ⟨v, ys, h1, h2, h3, h4, h5, h6, h7, _⟩ := h
  exact ⟨v, ys, h1, h2, h3, h4, h5, h6, h7⟩
theorem QF.apart (h : QF F T M w0 w q most ts) : (∀ b, T b → b < w.heap.size ∧ w0.heap.size ≤ b ∧ ¬ M b) ∧ (∀ b, M b → b < w.heap.size ∧ w0.heap.size ≤ b) := h.st.apart
theorem QF.turn (h : QF F T M w0 w q most ts) {w' : World} {G : Nat → Prop} (ht : Turns G w w') (hG : ∀ b, G b → ¬ T b ∧ ¬ M b) : QF F T M w0 w' q most ts := by
  obtain ⟨v, ys, hq, hh, hp, h1, h2, h3, h4, h5⟩ := h
  refine ⟨v, ys, hq.turn ht (fun b hb => ?_), hh, hp, h1, Nat.lt_of_lt_of_le h2 ht.size, h3, h4, h5.turn ht (fun b hb => (hq.apart b hb).1) fun b hb => (hG b hb).1⟩
  have := hG b hb
  exact ⟨this.1, fun e => this.2 ((h4 b).2 (.inl e)), fun e => this.2 ((h4 b).2 (.inr e))⟩
theorem QF.ext (h : QF F T M w0 w q most ts) {w' : World} (hx : Ext w w') : QF F T M w0 w' q most ts := h.turn (G := fun _ => False) (Turns.ofExt hx) (fun _ h => h.elim)
theorem QF.len (h : QF F T M w0 w q most ts) : Calls Try.prog 34 #[.pointer (some ⟨q, 0, none⟩)] w fun e w' => e = .returned (.int .i64 ts.length) ∧ w' = w := h.st.len

/-- What Push comes to. -/
def QFPushed (T M : Nat → Prop) (w0 : World) (q : Nat) (most : Int) (ts : List Td) (w w' : World) : Prop :=
  ∃ F' T' M', QF F' T' M' w0 w' q most ts ∧ (∀ b, T' b → T b ∨ w.heap.size ≤ b) ∧ (∀ b, M' b → M b ∨ w.heap.size ≤ b) ∧ Turns M w w'
theorem pushC_zero {t : Td} (h : pushC t most ts = 0) : ∀ x ∈ ts, t.row ≠ x.row := by
  unfold pushC at h
  split at h
  · cases h
  · split at h
    · cases h
    · next hn =>
      intro x hx e
      exact hn (List.any_eq_true.2 ⟨x, hx, by simp [e]⟩)
theorem QF.push (h : QF F T M w0 w q most ts) (hn : ts.length ≤ 1000) (hbw : w0.heap.size ≤ w.heap.size) {S : Nat → Prop} {t : Td} {tv : Value} (ht : Tdv 128 S w t tv) :
    Calls Try.prog 29 #[.pointer (some ⟨q, 0, none⟩), tv] w fun e w' => e = .returned (.int .i64 (pushC t most ts)) ∧ QFPushed T M w0 q most (if pushC t most ts = 0 then t :: ts else ts) w w' := by
  have h0 := h
  obtain ⟨v, ys, hq, hh, hp, h1, h2, h3, h4, hf⟩ := h
  have hyl : ys.length ≤ 1000 := by have := hp.length_eq; rw [List.length_map] at this; omega
  refine (qpush_any hq hh hyl h2 ht).mono ?_
  rintro e w' ⟨he, hno, hyes⟩
  have hc := pushC_eq (most := most) hp t
  rw [hc] at he hno hyes
  refine ⟨he, ?_⟩
  by_cases h0' : pushC t most ts = 0
  · rw [if_pos h0']
    obtain ⟨T', v', zs, x, hpz, hxt, hz, hq', htn, ho, hT, hTT, hxd⟩ := hyes h0'
    have htM : Turns M w w' := htn.mono fun b hb => (h4 b).2 hb
    have hzz := htn.size
    have hrow := pushC_zero h0'
    have hne : ∀ y ∈ ys, y.td.row ≠ t.row := fun y hy e => hrow y.td (hp.mem_iff.1 (List.mem_map_of_mem hy)) e.symm
    have hkeep : ∀ b, T b → w'.heap[b]? = w.heap[b]? := fun b hb => htM.block b (hq.apart b hb).1 fun hm => by
      rcases (h4 b).1 hm with e | e
      · exact (hq.apart b hb).2.1 e
      · exact (hq.apart b hb).2.2 e
    have hnew : ∀ b, T b → b < w.heap.size := fun b hb => (hq.apart b hb).1
    have hpz' : List.Perm (zs.map (·.td)) (t :: ys.map (·.td)) := by
      have := hpz.map (·.td)
      rwa [List.map_cons, hxt] at this
    refine ⟨fun r b => (r = t.row ∧ T' b ∧ w.heap.size ≤ b ∧ Nfz w' b) ∨ (r ≠ t.row ∧ F r b), T', fun b => b = q ∨ v'.ownBlock = some b, ⟨v', zs, hq', hz, hpz'.trans (hp.cons t), h1, Nat.lt_of_lt_of_le h2 hzz, fun b hb => ?_, fun b => Iff.rfl, ?_⟩, hT, fun b hb => ?_, htM⟩
    · rcases hT b hb with e | e
      · exact h3 b e
      · omega
    · refine ⟨fun y hy => ?_, fun r b hb => ?_, fun r r' b hr hr' => ?_, ?_⟩
      · rcases List.mem_cons.1 (hpz.mem_iff.1 hy) with rfl | hy
        · refine hxd.keep (Nat.le_refl _) (fun _ _ _ => rfl) fun b hb _ => .inl ⟨by rw [hxt], hb⟩
        · exact (hf.item y hy).keep hzz (fun b hb _ => hkeep b (hf.sub _ _ hb).1) fun b hb _ => .inr ⟨hne y hy, hb⟩
      · rcases hb with ⟨_, h, _, h'⟩ | ⟨_, h⟩
        · exact ⟨h, h'⟩
        · exact ⟨hTT b (hf.sub _ _ h).1, (hf.sub _ _ h).2.same (hkeep b (hf.sub _ _ h).1)⟩
      · rcases hr with ⟨e, _, h, _⟩ | ⟨_, h⟩ <;> rcases hr' with ⟨e', _, h', _⟩ | ⟨_, h'⟩
        · rw [e, e']
        · have := hnew b (hf.sub _ _ h').1; omega
        · have := hnew b (hf.sub _ _ h).1; omega
        · exact hf.one r r' b h h'
      · refine (hpz'.pairwise_iff (R := fun a b : Td => a.row ≠ b.row) fun h e => h e.symm).2 (List.pairwise_cons.2 ⟨fun a ha => ?_, hf.rows⟩)
        exact hrow a (hp.mem_iff.1 ha)
    · rcases hb with e | e
      · exact .inl ((h4 b).2 (.inl e))
      · rcases ho with ho | ⟨g, hg, hgl⟩
        · rw [ho] at e; exact .inl ((h4 b).2 (.inr e))
        · rw [hg] at e; injection e with e; exact .inr (by omega)
  · rw [if_neg h0']
    exact ⟨F, T, M, h0.ext (hno h0'), fun _ h => .inl h, fun _ h => .inl h, Turns.ofExt (hno h0')⟩

/-- What Pop comes to where something is in the queue: what is popped lies in memory Q that is the queue's no more. -/
def QFPopped (T M : Nat → Prop) (w0 : World) (q : Nat) (most : Int) (ts : List Td) (w : World) (e : Ending) (w' : World) : Prop :=
  ∃ (A : Option Addr) (c : Nat) (A' : Option Addr) (c' : Nat) (r : Td) (rest : List Td) (F' : List Int → Nat → Prop) (T' Q : Nat → Prop), e = .returned (.tuple #[.agg #[.slice A r.row.length c, .slice A' r.facts.length c'], .int .i64 0]) ∧ List.Perm (r :: rest) ts ∧ (∀ x ∈ ts, lessR x.row r.row = false) ∧ QF F' T' M w0 w' q most rest ∧ Turns M w w' ∧
    Tdv 128 Q w' r (.agg #[.slice A r.row.length c, .slice A' r.facts.length c']) ∧ (∀ b, T' b → T b ∧ ¬ Q b) ∧ ∀ b, Q b → T b ∧ Nfz w' b
theorem QF.pop (h : QF F T M w0 w q most ts) (hn : ts.length ≤ 1000) (h0 : 0 < ts.length) :
    Calls Try.prog 31 #[.pointer (some ⟨q, 0, none⟩)] w (QFPopped T M w0 q most ts w) := by
  obtain ⟨v, ys, hq, hh, hp, h1, h2, h3, h4, hf⟩ := h
  have hl := hp.length_eq
  rw [List.length_map] at hl
  refine (qpop_any hq hh (by omega) (by omega)).mono ?_
  rintro e w' ⟨r, v', zs, rfl, hpz, hmin, hz, hq', ht, ho, htd⟩
  have htM : Turns M w w' := ht.mono fun b hb => (h4 b).2 hb
  have hzz := ht.size
  have hrm : r ∈ ys := hpz.mem_iff.1 (List.mem_cons_self ..)
  have hkeep : ∀ b, T b → w'.heap[b]? = w.heap[b]? := fun b hb => htM.block b (hq.apart b hb).1 fun hm => by
    rcases (h4 b).1 hm with e | e
    · exact (hq.apart b hb).2.1 e
    · exact (hq.apart b hb).2.2 e
  have hpt : List.Perm (r.td :: zs.map (·.td)) (ys.map (·.td)) := by
    have := hpz.map (·.td)
    rwa [List.map_cons] at this
  have hpw : (r.td :: zs.map (·.td)).Pairwise fun a b => a.row ≠ b.row := (hpt.pairwise_iff (R := fun a b : Td => a.row ≠ b.row) fun h e => h e.symm).2 hf.rows
  have hpc := List.pairwise_cons.1 hpw
  have hitem : ∀ x ∈ zs, Tdv 128 (fun b => x.td.row ≠ r.td.row ∧ F x.td.row b) w' x.td (.agg #[x.rv, x.fv]) := fun x hx => by
    refine (hf.item x (hpz.mem_iff.1 (List.mem_cons_of_mem _ hx))).keep hzz (fun b hb _ => hkeep b (hf.sub _ _ hb).1) fun b hb _ => ⟨fun e => hpc.1 x.td (List.mem_map_of_mem hx) e.symm, hb⟩
  have htr : Tdv 128 (F r.td.row) w' r.td (.agg #[r.rv, r.fv]) := (hf.item r hrm).keep hzz (fun b hb _ => hkeep b (hf.sub _ _ hb).1) fun b hb _ => hb
  have hsub : ∀ x b, x ≠ r.td.row → F x b → T b ∧ ¬ F r.td.row b := fun x b hx hb => ⟨(hf.sub _ _ hb).1, fun h => hx (hf.one _ _ b hb h)⟩
  obtain ⟨rv, fv, td⟩ := r
  have htd0 := htd
  obtain ⟨_, _, e, ⟨A, c, e1, _⟩, ⟨A', c', e2, _⟩⟩ := htd0
  injection e with e
  simp only [Array.mk.injEq, List.cons.injEq, and_true] at e
  obtain ⟨e3, e4⟩ := e
  rw [e1] at e3
  rw [e2] at e4
  simp only at e3 e4
  subst e3 e4
  have hq2 : Qu (fun b => T b ∧ ¬ F td.row b) w' q (q + 1) most v' zs :=
    { blk := hq'.blk
      row := hq'.row
      item := fun x hx => by
        obtain ⟨rv, fv, e, ha, hb⟩ := (hitem x hx).keep (S' := fun b => T b ∧ ¬ F td.row b) (Nat.le_refl _) (fun _ _ _ => rfl) fun b hb _ => hsub _ b hb.1 hb.2
        injection e with e
        simp only [Array.mk.injEq, List.cons.injEq, and_true] at e
        obtain ⟨rfl, rfl⟩ := e
        exact ⟨ha, hb⟩
      apart := fun b hb => hq'.apart b hb.1
      low := hq'.low }
  refine ⟨A, c, A', c', td, zs.map (·.td), fun s b => s ≠ td.row ∧ F s b, fun b => T b ∧ ¬ F td.row b, F td.row, rfl, hpt.trans hp, fun x hx => ?_, ⟨v', zs, hq2, hz, List.Perm.refl _, h1, Nat.lt_of_lt_of_le h2 hzz, fun b hb => h3 b hb.1, fun b => by rw [h4 b, ho], ⟨hitem, fun s b hb => ⟨hsub s b hb.1 hb.2, (hf.sub _ _ hb.2).2.same (hkeep b (hf.sub _ _ hb.2).1)⟩, fun s s' b hs hs' => hf.one s s' b hs.2 hs'.2, hpc.2⟩⟩, htM, htr, fun _ h => h, fun b hb => ⟨(hf.sub _ _ hb).1, (hf.sub _ _ hb).2.same (hkeep b (hf.sub _ _ hb).1)⟩⟩
  obtain ⟨y, hy, rfl⟩ := List.mem_map.1 (hp.mem_iff.2 hx)
  exact hmin y hy
end

set_option maxRecDepth 100000 in
set_option maxHeartbeats 2000000 in
/-- of no one, none is popped. -/
theorem qpop_nil {T : Nat → Prop} {w : World} {q base : Nat} {most : Int} {v : Value} (h : Qu T w q base most v []) :
    Calls Try.prog 31 #[.pointer (some ⟨q, 0, none⟩)] w fun e w' => e = .returned (.tuple #[.agg #[.slice none 0 0, .slice none 0 0], .int .i64 5]) ∧ Ext w w' := by
  have hc : w.cell? ⟨q, 0, none⟩ = some v := h.blk.cell 0
  have hql := h.blk.lt
  obtain ⟨Av, cv, rfl⟩ := h.row.form
  simp only [List.length_nil] at hc
  have hx := Ext.alloc' w (.cells #[.slice none 0 0, .slice none 0 0] 48)
  have HX := Lib.hid hx
  have HB := Lib.hid (Blk.new w 48 #[.slice none 0 0, .slice none 0 0])
  clear h hx
  go_enter Try.func31, Try.ntmps31
  go_wp2_with fail
  refine bodyPost_ret (results_td_tmp rfl _ _ _ _ _ rfl HB.out) rfl ?_
  exact ⟨rfl, HX.out⟩
theorem QF.popNil {F : List Int → Nat → Prop} {T M : Nat → Prop} {w0 w : World} {q : Nat} {most : Int} (h : QF F T M w0 w q most []) :
    Calls Try.prog 31 #[.pointer (some ⟨q, 0, none⟩)] w fun e w' => e = .returned (.tuple #[.agg #[.slice none 0 0, .slice none 0 0], .int .i64 5]) ∧ Ext w w' := by
  obtain ⟨v, ys, hq, _, hp, _⟩ := h
  have : ys = [] := by simpa using hp
  subst this
  exact qpop_nil hq
end Go.Proofs.Ytocndkhgopjhhaa
/- state.Copy: the plain part: a queue under way, copied one by one. -/
namespace Go.Proofs.Ytocndkhgopjhhaa
open Go.RowKit

theorem heap_td {ys zs : List It} (h : zs.map (·.td) = ys.map (·.td)) (hh : Heap ltI ys.length ys) : Heap ltI zs.length zs := by
  have hl : zs.length = ys.length := by have := congrArg List.length h; simpa using this
  have get : ∀ (k : Nat) a, zs[k]? = some a → ∃ b, ys[k]? = some b ∧ b.td = a.td := fun k a ha => by
    have h1 : (zs.map (·.td))[k]? = some a.td := by rw [List.getElem?_map, ha]; rfl
    rw [h, List.getElem?_map] at h1
    cases hy : ys[k]? with
    | none => rw [hy] at h1; cases h1
    | some b => rw [hy] at h1; injection h1 with h1; exact ⟨b, rfl, h1⟩
  intro k a p h0 hk ha hp
  obtain ⟨a', ha', ea⟩ := get _ _ ha
  obtain ⟨p', hp', ep⟩ := get _ _ hp
  have := hh k a' p' h0 (by omega) ha' hp'
  simp only [ltI] at this ⊢
  rw [← ea, ← ep]; exact this

/-- The copy under way: the queue at block g holds zs; their memory is new since w. -/
structure CpI (F : List Int → Nat → Prop) (w wr : World) (g : Nat) (most : Int) (v : Value) (zs : List It) : Prop where
  ext : Ext w wr
  blk : Blk wr g 116 #[v, .int .i64 most]
  new : w.heap.size ≤ g
  row : wr.ownsRow (g + 1) 48 2 v zs.length (flat zs)
  item : ∀ x ∈ zs, Tdv 128 (F x.td.row) wr x.td (.agg #[x.rv, x.fv])
  sub : ∀ r b, F r b → g < b ∧ b < wr.heap.size ∧ v.ownBlock ≠ some b ∧ Nfz wr b
  one : ∀ r r' b, F r b → F r' b → r = r'
theorem CpI.start {w : World} {X : World} {g : Nat} {most : Int} (hx : Ext w X) (hg : w.heap.size ≤ g) (hb : Blk X g 116 #[.slice none 0 0, .int .i64 most]) : CpI (fun _ _ => False) w X g most (.slice none 0 0) [] where
  ext := hx
  blk := hb
  new := hg
  row := World.ownsRow_nil _ _ _ _
  item := by simp
  sub := fun _ _ h => h.elim
  one := fun _ _ _ h => h.elim
theorem CpI.step {F : List Int → Nat → Prop} {w wr wa wb : World} {g : Nat} {most : Int} {v v' : Value} {zs : List It} (h : CpI F w wr g most v zs) {t : Td} {rv fv : Value} (hne : ∀ x ∈ zs, x.td.row ≠ t.row) {wo : World} (ho : Ext wr wo)
    (ht : Tdv 128 (fun b => wr.heap.size ≤ b ∧ Nfz wo b) wo t (.agg #[rv, fv])) (hx : Ext wo wa) (hrow : wb.ownsRow (g + 1) 48 2 v' (zs.length + 1) (flat zs ++ [rv, fv])) (hgr : wa.grownBy wb v.ownBlock) (hat : At wa v v') :
    ∃ F', CpI F' w (wb.setCell ⟨g, 0, none⟩ v') g most v' (zs ++ [⟨rv, fv, t⟩]) := by
  have hz := ho.size
  have hz2 := hx.size
  have hzg := hgr.size
  have hgl := h.blk.lt
  have hvg : ∀ b, v.ownBlock = some b → g < b ∧ b < wr.heap.size := fun b hb => by
    have := ownsRow_lt h.row hb
    exact ⟨by omega, this.2⟩
  have hxa : Ext wr wa := ho.trans' hx
  have hkb : ∀ b, b < wa.heap.size → v.ownBlock ≠ some b → b ≠ g → (wb.setCell ⟨g, 0, none⟩ v').heap[b]? = wa.heap[b]? := fun b hl hn hg => by
    rw [Below.heap_setCell wb ⟨g, 0, none⟩ v' b hg, hgr.block b hl fun e => hn e.symm]
  have hsz : (wb.setCell ⟨g, 0, none⟩ v').heap.size = wb.heap.size := by simp [World.setCell]
  have hv' : ∀ b, v'.ownBlock = some b → (v.ownBlock = some b) ∨ wa.heap.size ≤ b := fun b hb => by
    rcases hat with e | e
    · rw [e] at hb; exact .inl hb
    · exact .inr (e b hb)
  have hxb : Ext w (wb.setCell ⟨g, 0, none⟩ v') := by
    refine Ext.set1 (p := ⟨g, 0, none⟩) (Ext.grown (h.ext.trans' hxa) hgr fun b hb => ?_) h.new _
    have := (hvg b hb).1
    have := h.new
    omega
  have hblk : Blk (wb.setCell ⟨g, 0, none⟩ v') g 116 #[v', .int .i64 most] := by
    have h1 : Blk wb g 116 #[v, .int .i64 most] := (h.blk.ext hxa).grown hgr fun e => by
      have := (hvg g e.symm).1; omega
    exact h1.set_ 0 v'
  refine ⟨fun r b => (r = t.row ∧ wr.heap.size ≤ b ∧ b < wo.heap.size ∧ Nfz wo b) ∨ (r ≠ t.row ∧ F r b), ⟨hxb, hblk, h.new, ?_, fun x hx' => ?_, fun r b hb => ?_, fun r r' b hr hr' => ?_⟩⟩
  · rw [flat_app, List.length_append]
    refine ownsRow_ext hrow fun b hb => Below.heap_setCell wb ⟨g, 0, none⟩ v' b fun e => ?_
    rcases hv' b hb with e' | e'
    · have := (hvg b e').1; simp at e; omega
    · simp at e; omega
  · rcases List.mem_append.1 hx' with hx' | hx'
    · refine (h.item x hx').keep (by omega) (fun b hb hl => ?_) fun b hb _ => .inr ⟨hne x hx', hb⟩
      have hs := h.sub _ _ hb
      rw [hkb b (by omega) hs.2.2.1 (by omega), hxa.block b hs.2.1]
    · have : x = ⟨rv, fv, t⟩ := by simpa using hx'
      subst this
      refine ht.keep (by omega) (fun b hb hl => ?_) fun b hb hl => .inl ⟨rfl, hb.1, hl, hb.2⟩
      rw [hkb b (by omega) (fun e => by have := (hvg b e).2; have := hb.1; omega) (by have := hb.1; omega), hx.block b hl]
  · rcases hb with ⟨_, h1, h2, h3⟩ | ⟨_, hb⟩
    · have hnv : v.ownBlock ≠ some b := fun e => by have := (hvg b e).2; omega
      refine ⟨by omega, by omega, fun e => ?_, h3.same ?_⟩
      · rcases hv' b e with e' | e'
        · exact hnv e'
        · omega
      · rw [hkb b (by omega) hnv (by omega), hx.block b h2]
    · have hs := h.sub _ _ hb
      refine ⟨hs.1, by omega, fun e => ?_, hs.2.2.2.same ?_⟩
      · rcases hv' b e with e' | e'
        · exact hs.2.2.1 e'
        · omega
      · rw [hkb b (by omega) hs.2.2.1 (by omega), hxa.block b hs.2.1]
  · rcases hr with ⟨e, h1, _⟩ | ⟨_, h1⟩ <;> rcases hr' with ⟨e', h2, _⟩ | ⟨_, h2⟩
    · rw [e, e']
    · have := (h.sub _ _ h2).2.1; omega
    · have := (h.sub _ _ h1).2.1; omega
    · exact h.one r r' b h1 h2
/-- The copy, done. -/
theorem CpI.done {F : List Int → Nat → Prop} {w0 w wr : World} {g : Nat} {most : Int} {v : Value} {ys zs : List It} {ts : List Td} (h : CpI F w wr g most v zs) (hw : w0.heap.size ≤ w.heap.size) (hz : zs.map (·.td) = ys.map (·.td)) (hh : Heap ltI ys.length ys) (hp : List.Perm (ys.map (·.td)) ts) (hr : (ys.map (·.td)).Pairwise fun a b => a.row ≠ b.row) :
    ∃ T M, QF F T M w0 wr g most ts ∧ (∀ b, T b ∨ M b → w.heap.size ≤ b) := by
  have hn := h.new
  have hq : Qu (fun b => ∃ r, F r b) wr g (g + 1) most v zs :=
    { blk := h.blk
      row := Row.of h.row
      item := fun x hx => by
        obtain ⟨rv, fv, e, ha, hb⟩ := (h.item x hx).keep (S' := fun b => ∃ r, F r b) (Nat.le_refl _) (fun _ _ _ => rfl) fun b hb _ => ⟨_, hb⟩
        injection e with e
        simp only [Array.mk.injEq, List.cons.injEq, and_true] at e
        obtain ⟨rfl, rfl⟩ := e
        exact ⟨ha, hb⟩
      apart := fun b ⟨r, hb⟩ => by
        have := h.sub r b hb
        exact ⟨this.2.1, by omega, this.2.2.1⟩
      low := Nat.lt_succ_self _ }
  refine ⟨fun b => ∃ r, F r b, fun b => b = g ∨ v.ownBlock = some b, ⟨v, zs, hq, heap_td hz hh, by rw [hz]; exact hp, by omega, h.blk.lt, fun b ⟨r, hb⟩ => ?_, fun b => Iff.rfl, ⟨h.item, fun r b hb => ⟨⟨r, hb⟩, (h.sub r b hb).2.2.2⟩, h.one, by rw [hz]; exact hr⟩⟩, fun b hb => ?_⟩
  · have := (h.sub r b hb).1; omega
  · rcases hb with ⟨r, hb⟩ | hb | hb
    · have := (h.sub r b hb).1; omega
    · omega
    · have := (ownsRow_lt h.row hb).1; omega
end Go.Proofs.Ytocndkhgopjhhaa
/- state.Copy, walked. -/
namespace Go.Proofs.Ytocndkhgopjhhaa
open Go.RowKit

theorem cells2_of (w : World) (t : TypeId) (v0 v1 : Value) : ∀ j u, [v0, v1][j]? = some u → (w.alloc (.cells #[v0, v1] t)).cell? ((⟨w.heap.size, 0, none⟩ : Addr).add j) = some u := by
  intro j u hj
  match j, hj with
  | 0, hj => simp at hj; subst hj; simp [Addr.add]
  | 1, hj => simp at hj; subst hj; simp [Addr.add]
  | j + 2, hj => simp at hj
theorem rows_ne {ys : List It} (h : (ys.map (·.td)).Pairwise fun a b => a.row ≠ b.row) {j : Nat} {x : It} (hx : ys[j]? = some x) {zs : List It} (hz : zs.map (·.td) = (ys.map (·.td)).take j) : ∀ z ∈ zs, z.td.row ≠ x.td.row := by
  intro z hm e
  have h1 : z.td ∈ (ys.map (·.td)).take j := by rw [← hz]; exact List.mem_map_of_mem hm
  obtain ⟨i, hi⟩ := List.mem_iff_getElem?.1 h1
  have hil : i < j := by have := (List.getElem?_eq_some_iff.1 hi).1; rw [List.length_take] at this; omega
  rw [List.getElem?_take_of_lt hil] at hi
  have hj : (ys.map (·.td))[j]? = some x.td := by rw [List.getElem?_map, hx]; rfl
  obtain ⟨hi1, hi2⟩ := List.getElem?_eq_some_iff.1 hi
  obtain ⟨hj1, hj2⟩ := List.getElem?_eq_some_iff.1 hj
  have := List.pairwise_iff_getElem.1 h i j hi1 hj1 hil
  rw [hi2, hj2] at this
  exact this e
theorem take_snoc {ys : List It} {j : Nat} {x : It} (hx : ys[j]? = some x) {zs : List It} (hz : zs.map (·.td) = (ys.map (·.td)).take j) (rv fv : Value) : (zs ++ [(⟨rv, fv, x.td⟩ : It)]).map (·.td) = (ys.map (·.td)).take (j + 1) := by
  rw [List.map_append, hz, List.take_add_one, List.getElem?_map, hx]; rfl
theorem td_wr {wr W wo : World} {t : Td} {v : Value} (hz : wr.heap.size ≤ W.heap.size) (h : Tdv 128 (fun b => W.heap.size ≤ b ∧ Nfz wo b) wo t v) : Tdv 128 (fun b => wr.heap.size ≤ b ∧ Nfz wo b) wo t v :=
  h.keep (Nat.le_refl _) (fun _ _ _ => rfl) fun _ hb _ => ⟨by omega, hb.2⟩

set_option maxRecDepth 100000 in
set_option maxHeartbeats 4000000 in
theorem qcopy_any {F : List Int → Nat → Prop} {T M : Nat → Prop} {w0 w : World} {q : Nat} {most : Int} {ts : List Td} (h : QF F T M w0 w q most ts) (hn : ts.length ≤ 1000) (hw : w0.heap.size ≤ w.heap.size) :
    Calls Try.prog 74 #[.pointer (some ⟨q, 0, none⟩)] w fun e w' => ∃ c F' T' M', e = .returned (.pointer (some ⟨c, 0, none⟩)) ∧ Ext w w' ∧ QF F' T' M' w0 w' c most ts ∧ ∀ b, T' b ∨ M' b → w.heap.size ≤ b := by
  obtain ⟨v, ys, hq, hh, hp, h1, h2, h3, h4, hf⟩ := h
  have hyl : ys.length ≤ 1000 := by have := hp.length_eq; rw [List.length_map] at this; omega
  obtain ⟨i0, hi0, hz0, hz1, hz2⟩ := info_parts todo_info
  have HI := Lib.hid hi0
  have HZ0 := Lib.hid hz0
  have HZ1 := Lib.hid hz1
  have HZ2 := Lib.hid hz2
  have HQ := Lib.hid hq
  have HH := Lib.hid hh
  have HP := Lib.hid hp
  have HF := Lib.hid hf
  have q0 : w.cell? ⟨q, 0, none⟩ = some v := hq.blk.cell 0
  have q1 : w.cell? ⟨q, 1, none⟩ = some (.int .i64 most) := hq.blk.cell 1
  obtain ⟨Av, cv, rfl⟩ := hq.row.form
  have HS := Lib.hid (CpI.start (w := w) (most := most) (Ext.alloc' w (.cells #[.slice none 0 0, .int .i64 most] 116)) (Nat.le_refl _) (Blk.new _ _ _))
  clear hq hh hp hf h3 h4 hi0 hz0 hz1 hz2
  go_enter Try.func74, Try.ntmps74
  go_wp2_with fail
  go_loopw [19] (fun i wr => ∃ (j : Nat) (F : List Int → Nat → Prop) (v : Value) (zs : List It), j ≤ ys.length ∧ i = .int .i64 j ∧ CpI F w wr w.heap.size most v zs ∧ zs.map (·.td) = (ys.map (·.td)).take j) (fun i _ => ys.length - (intOf i).toNat)
  case atStart => exact ⟨0, _, _, [], Nat.zero_le _, rfl, HS.out, by simp⟩
  case round =>
    obtain ⟨j, F', v, zs, hj, rfl, hc, hz⟩ := hrel
    have HC := Lib.hid hc
    have HZ := Lib.hid hz
    have hzl : zs.length = j := by have := congrArg List.length hz; rw [List.length_map, List.length_take, List.length_map] at this; omega
    have HX := Lib.hid hc.ext
    clear hc hz
    by_cases hlt : j < ys.length
    · obtain ⟨x, hx⟩ : ∃ x, ys[j]? = some x := ⟨_, List.getElem?_eq_getElem hlt⟩
      have hq' := HQ.out.ext HX.out
      obtain ⟨gr, cr, e, _, hcm, _, hgl, p0, p1, _, _⟩ := row_cells hq'.row hx
      injection e with e1 _ e3
      subst e1 e3
      have hit := hq'.item x (List.mem_of_getElem? hx)
      obtain ⟨X1, X2, X3, X4, X5, X6, e1, e2⟩ := hq'.form x (List.mem_of_getElem? hx)
      have htd : Tdv 128 T wr x.td (.agg #[x.rv, x.fv]) := ⟨_, _, rfl, hit.1, hit.2⟩
      rw [e1, e2] at htd
      rw [e1] at p0
      rw [e2] at p1
      have HTD := Lib.hid htd
      have HXX := Lib.hid hx
      have hij : (j : Int) < (ys.length : Int) := by omega
      have hj0 : (0 : Int) ≤ (j : Int) := by omega
      unfold maxLen at hcm
      obtain ⟨W2, hW2⟩ : ∃ W2, W2 = wr.alloc (.cells #[.slice X1 X2 X3, .slice X4 X5 X6] 48) := ⟨_, rfl⟩
      have hx2 : Ext wr W2 := by rw [hW2]; exact Ext.alloc' _ _
      have hb2 : Blk W2 wr.heap.size 48 #[.slice X1 X2 X3, .slice X4 X5 X6] := by rw [hW2]; exact Blk.new _ _ _
      have HX2 := Lib.hid hx2
      have HB2 := Lib.hid hb2
      clear hq' hit htd hx e1 e2
      go_upto_region 7 with fail
      rw [← hW2]
      clear hW2 p0 p1 hx2 hb2
      obtain ⟨t0, t1, tz⟩ := HB2.out.cells2
      obtain ⟨g0, g1, gz⟩ := (HC.out.blk.ext HX2.out).cells2
      go_region_law (first
        | (refine stepCall rfl 95 #[.tmp 28] #[48] rfl #[.agg #[.slice X1 X2 X3, .slice X4 X5 X6]] (by simp [Act.eval]) (fun _ _ => by kernel_rfl) (town_any (B := 128) (by omega) (HTD.out.ext (HX2.out.trans' (Below.drew (Below.refl _ W2))))) ?_
           rintro e w4 ⟨A4, c4, A4', c4', rfl, x4, ht4⟩
           refine ⟨_, rfl, ?_⟩
           have hx4 := HX2.out.trans' (Ext.trans' (Below.drew (Below.refl _ W2)) x4)
           have HX4 := Lib.hid hx4
           have HT4 := Lib.hid (td_wr (wr := wr) HX2.out.size ht4)
           have HR4 : Hid (∀ X, (w4.alloc X).ownsRow (w.heap.size + 1) 48 2 v zs.length (flat zs)) := Lib.hid (fun X => ownsRow_ext HC.out.row fun b hb => (hx4.trans' (Ext.alloc' w4 X)).block b (ownsRow_lt HC.out.row hb).2)
           obtain ⟨g0, g1, gz⟩ := (HC.out.blk.ext hx4).cells2
           have hz4 := hx4.size
           clear x4 ht4 hx4)
        | (refine stepAH rfl (.tmp 27) (.tmp 30) 114 rfl (w.heap.size + 1) 48 i0 _ 2 48 Try.underlying114 HI.out HZ0.out HZ1.out HZ2.out rfl (by omega) v zs.length (flat zs) rfl (HR4.out _) (some ⟨w4.heap.size, 0, none⟩) 1 1 [_, _] rfl rfl (fun _ => ⟨_, rfl, cells2_of _ _ _ _⟩) (by simp [Value.oneCell']) (by simp only [maxLen]; omega) (by omega) (by have := HX.out.size; simp; omega) ?_
           intro v' w5 ho hg hat
           obtain ⟨A5, c5, rfl⟩ := ownsRow_form ho
           obtain ⟨F5, hc5⟩ := HC.out.step (rows_ne HF.out.rows HXX.out HZ.out) HX4.out HT4.out (Ext.alloc' w4 _) ho hg hat
           have HC5 := Lib.hid hc5
           have b5 := ((HC.out.blk.ext HX4.out).alloc _).grown hg (fun e => by have := (ownsRow_lt HC.out.row e.symm).1; omega)
           obtain ⟨g0, g1, gz⟩ := b5.cells2
           have gf := b5.frozen 0
           clear ho hg hat hc5 b5))
      all_goals
        go_wp2_with fail
        go_roundw
        case rel => exact ⟨j + 1, F5, _, _, by omega, by go_num, by have h := HC5.out; rw [hzl] at h; exact h, take_snoc HXX.out HZ.out _ _⟩
        case measure => simp [intOf]; omega
    · have hij : ¬ (j : Int) < (ys.length : Int) := by omega
      have hjl : j = ys.length := by omega
      subst hjl
      have hze : zs.map (·.td) = ys.map (·.td) := by rw [HZ.out, List.take_of_length_le (by simp)]
      obtain ⟨T', M', hqf, hnew⟩ := HC.out.done hw hze HH.out HP.out HF.out.rows
      have HQF := Lib.hid hqf
      have HNW := Lib.hid hnew
      clear hqf hnew
      go_wp2_with fail
      go_ret
      exact ⟨w.heap.size, rfl, HX.out, F', T', M', HQF.out, HNW.out⟩
end Go.Proofs.Ytocndkhgopjhhaa
