/- slices.SortFunc at rows of numbers, by slices.Compare. -/
import Derived.Test.YtocndkhgopjhhaaProg
import Derived.Test.YtocndkhgopjhhaaShelfSort
import Derived.Test.YtocndkhgopjhhaaPlQ
import Derived.Test.YtocndkhgopjhhaaQF
import Derived.Test.YtocndkhgopjhhaaStepA
import Derived.Test.YtocndkhgopjhhaaClone
import Derived.Shelf.SlSortCmp.NoneTotal
import Derived.Outline
namespace Go.Proofs.Ytocndkhgopjhhaa
open Go.RowKit Go.Sort

/-- a row in memory that is not block blk: its value, and the numbers that it reads as. -/
def RowV (w : World) (blk : Nat) : Type := { p : Value × List Int // Ints 128 (fun b => b ≠ blk) w p.1 p.2 }
instance (w : World) (blk : Nat) : Inhabited (RowV w blk) := ⟨⟨(.slice none 0 0, []), Ints.nil⟩⟩
def encR {w : World} {blk : Nat} (x : RowV w blk) : Value := x.1.1
def cfR {w : World} {blk : Nat} (x y : RowV w blk) : Int := cmpR x.1.2 y.1.2
section
variable {w : World} {blk : Nat}
theorem encR_one : OneCell (encR (w := w) (blk := blk)) := by
  rintro ⟨⟨v, l⟩, A, c, e, _⟩
  simp only at e
  subst e
  rfl
theorem cfR_lt (x y : RowV w blk) : ltOf cfR x y = lessR x.1.2 y.1.2 := cmpR_neg _ _
theorem cfR_swo : SWO (ltOf (cfR (w := w) (blk := blk))) where
  irrefl := fun x => by rw [cfR_lt]; exact lessR_irrefl _
  trans := fun x y z h1 h2 => by rw [cfR_lt] at h1 h2 ⊢; exact lessR_trans h1 h2
  ntrans := fun x y z h1 h2 => by rw [cfR_lt] at h1 h2 ⊢; exact lessR_ord.trans _ _ _ h2 h1
theorem sortWorld_at {α : Type} [Inhabited α] (enc : α → Value) (w : World) (blk off m : Nat) (dk : Array α) (os : Array Obj) {b : Nat} (hb : b ≠ blk) (hl : b < w.heap.size) : (sortWorld enc w blk off m dk os).heap[b]? = w.heap[b]? := by
  unfold sortWorld
  rw [Sort.heap_grow_old _ _ (by simpa [putRow, mapBlock, Sort.ahead] using hl)]
  simp [putRow, mapBlock, Sort.ahead, Array.getElem?_modify, Ne.symm hb]
theorem sortWorld_turns {α : Type} [Inhabited α] (enc : α → Value) (w : World) (blk off m : Nat) (dk : Array α) (os : Array Obj) : Turns (fun b => b = blk) w (sortWorld enc w blk off m dk os) where
  os := rfl
  tape := rfl
  output := rfl
  size := by simp [sortWorld, Sort.grow, putRow, mapBlock, Sort.ahead]
  block := fun b hl hb => sortWorld_at enc w blk off m dk os hb hl
theorem cmp_lays (size : Nat) : CmpLays1 Try.prog 126 #[] (encR (w := w) (blk := blk)) cfR blk 0 size w := by
  intro m os dk _ x y
  have ht := sortWorld_turns encR w blk 0 m dk os
  have hk : ∀ z : RowV w blk, Ints 128 (fun b => b ≠ blk) (sortWorld encR w blk 0 m dk os) (encR z) z.1.2 := fun z => z.2.keep ht.size (fun b hb hl => ht.block b hl hb) (fun _ h _ => h)
  refine (compare_eq (hk x) (hk y)).mono ?_
  rintro e w' ⟨rfl, rfl⟩
  exact ⟨rfl, 0, #[], by rw [grow_empty]; rfl⟩
theorem compare_enters (args : Array Value) (w : World) : (callFunc 126 args).run Try.prog w = .ok (.enter 126 args) w := by kernel_rfl

theorem sortRows_any (d : Array (RowV w blk)) {c : Nat} (hH : Holds encR w blk 0 d) (hblk : blk < w.heap.size) (hsz : d.size < 4611686018427387904) :
    Calls Try.prog 125 #[.slice (some ⟨blk, 0, none⟩) d.size c, .func (.func 126) #[] #[]] w fun e w' => e = .returned (.tuple #[]) ∧ Turns (fun b => b = blk) w w' ∧
      ∃ d' : Array (RowV w blk), d'.toList.Perm d.toList ∧ (d'.toList.Pairwise fun a b => lessR b.1.2 a.1.2 = false) ∧ Holds encR w' blk 0 d' := by
  refine (Try.slices_SortFunc encR encR_one cfR cfR_swo 126 #[] blk 0 c d w (compare_enters · ·) (cmp_lays d.size) hH hblk hsz).mono ?_
  rintro e w' ⟨rfl, d', n, os, hp, hs, rfl⟩
  have hsize := hp.1
  refine ⟨rfl, sortWorld_turns _ _ _ _ _ _ _, d', ?_, ?_, ?_⟩
  · have h := hp.2.2
    have e1 : d'.extract 0 d.size = d' := by rw [← hsize]; exact Array.extract_size
    have e2 : d.extract 0 d.size = d := Array.extract_size
    rwa [e1, e2] at h
  · rw [List.pairwise_iff_getElem]
    intro i j hi hj hij
    have hi' : i < d'.size := by simpa using hi
    have hj' : j < d'.size := by simpa using hj
    have h := hs i j (Nat.zero_le _) hij (by omega)
    rw [cfR_lt, getElem!_pos d' j hj', getElem!_pos d' i hi'] at h
    simpa using h
  · unfold sortWorld
    refine holds_grow encR _ _ blk 0 d' (by simpa [putRow, mapBlock, Sort.ahead] using hblk) (holds_putRow encR _ blk 0 d d' (holds_ahead _ _ _ _ _ _ hH) hsize)
theorem sortNone_any (p : Option Addr) (c : Nat) (fv : Value) (w : World) : Calls Try.prog 125 #[.slice p 0 c, fv] w fun e w' => e = .returned (.tuple #[]) ∧ w' = w :=
  AnyF.slices_SortFunc_none { Try.laysSlF6_f125 with } p c fv w
end
end Go.Proofs.Ytocndkhgopjhhaa
/- state.Rows: the plain part: rows of a call's own. -/
namespace Go.Proofs.Ytocndkhgopjhhaa
open Go.RowKit

/-- The rows under way: v holds the cells us, which read as the rows R; what the row r reads lies in G r, all of it new since w. -/
structure RwI (G : List Int → Nat → Prop) (w wr : World) (v : Value) (us : List Value) (R : List (List Int)) : Prop where
  ext : Ext w wr
  row : wr.ownsRow w.heap.size 35 1 v us.length us
  len : us.length = R.length
  item : ∀ (i : Nat) u r, us[i]? = some u → R[i]? = some r → Ints 128 (G r) wr u r
  sub : ∀ r b, G r b → w.heap.size ≤ b ∧ b < wr.heap.size ∧ v.ownBlock ≠ some b ∧ Nfz wr b
  one : ∀ r r' b, G r b → G r' b → r = r'
theorem RwI.start (w : World) : RwI (fun _ _ => False) w w (.slice none 0 0) [] [] where
  ext := Below.refl _ _
  row := World.ownsRow_nil _ _ _ _
  len := rfl
  item := by simp
  sub := fun _ _ h => h.elim
  one := fun _ _ _ h => h.elim
theorem RwI.step {G : List Int → Nat → Prop} {w wr wo wa wb : World} {v v' : Value} {us : List Value} {R : List (List Int)} (h : RwI G w wr v us R) {r : List Int} {u : Value} (hne : ∀ x ∈ R, x ≠ r) (ho : Ext wr wo)
    (ht : Ints 128 (fun b => u.ownBlock = some b) wo u r) (hu : ∀ b, u.ownBlock = some b → wr.heap.size ≤ b ∧ b < wo.heap.size ∧ Nfz wo b) (hx : Ext wo wa) (hrow : wb.ownsRow w.heap.size 35 1 v' (us.length + 1) (us ++ [u])) (hgr : wa.grownBy wb v.ownBlock) (hat : At wa v v') :
    ∃ G', RwI G' w wb v' (us ++ [u]) (R ++ [r]) := by
  have hz := ho.size
  have hz2 := hx.size
  have hzg := hgr.size
  have hvg : ∀ b, v.ownBlock = some b → w.heap.size ≤ b ∧ b < wr.heap.size := fun b hb => ownsRow_lt h.row hb
  have hxa : Ext wr wa := ho.trans' hx
  have hkb : ∀ b, b < wa.heap.size → v.ownBlock ≠ some b → wb.heap[b]? = wa.heap[b]? := fun b hl hn => hgr.block b hl fun e => hn e.symm
  have hv' : ∀ b, v'.ownBlock = some b → (v.ownBlock = some b) ∨ wa.heap.size ≤ b := fun b hb => by
    rcases hat with e | e
    · rw [e] at hb; exact .inl hb
    · exact .inr (e b hb)
  have hxw := h.ext.size
  refine ⟨fun x b => (x = r ∧ u.ownBlock = some b) ∨ (x ≠ r ∧ G x b), ⟨Ext.grown (h.ext.trans' hxa) hgr fun b hb => (hvg b hb).1, by rw [List.length_append]; exact hrow, by simp [h.len], fun i y x hi hj => ?_, fun x b hb => ?_, fun x x' b hb hb' => ?_⟩⟩
  · rcases Nat.lt_or_ge i us.length with hl | hl
    · rw [List.getElem?_append_left hl] at hi
      rw [List.getElem?_append_left (by rw [← h.len]; exact hl)] at hj
      refine (h.item i y x hi hj).keep (by omega) (fun b hb hl => ?_) fun b hb _ => .inr ⟨hne x (List.mem_of_getElem? hj), hb⟩
      have hs := h.sub _ _ hb
      rw [hkb b (by omega) hs.2.2.1, hxa.block b hs.2.1]
    · have hlen := (List.getElem?_eq_some_iff.1 hi).1
      have hil : i = us.length := by simp at hlen; omega
      subst hil
      simp at hi
      rw [h.len] at hj
      simp at hj
      subst hi hj
      refine ht.keep (by omega) (fun b hb hl => ?_) fun b hb hl => .inl ⟨rfl, hb⟩
      have := hu b hb
      rw [hkb b (by omega) (fun e => by have := (hvg b e).2; omega), hx.block b hl]
  · rcases hb with ⟨_, hb⟩ | ⟨_, hb⟩
    · have hs := hu b hb
      have hnv : v.ownBlock ≠ some b := fun e => by have := (hvg b e).2; omega
      refine ⟨by omega, by omega, fun e => ?_, hs.2.2.same ?_⟩
      · rcases hv' b e with e' | e'
        · exact hnv e'
        · omega
      · rw [hkb b (by omega) hnv, hx.block b hs.2.1]
    · have hs := h.sub _ _ hb
      refine ⟨hs.1, by omega, fun e => ?_, hs.2.2.2.same ?_⟩
      · rcases hv' b e with e' | e'
        · exact hs.2.2.1 e'
        · omega
      · rw [hkb b (by omega) hs.2.2.1, hxa.block b hs.2.1]
  · rcases hb with ⟨e, h1⟩ | ⟨_, h1⟩ <;> rcases hb' with ⟨e', h2⟩ | ⟨_, h2⟩
    · rw [e, e']
    · have := (hu b h1).1; have := (h.sub _ _ h2).2.1; omega
    · have := (hu b h2).1; have := (h.sub _ _ h1).2.1; omega
    · exact h.one x x' b h1 h2

/-- 'The slice value v holds the rows R, each in memory of its own, all of it new since block lo'. -/
def RowsV (w : World) (lo : Nat) (v : Value) (R : List (List Int)) : Prop :=
  ∃ (A : Option Addr) (c : Nat) (G : List Int → Nat → Prop) (us : List Value), v = .slice A R.length c ∧ R.length ≤ c ∧ c ≤ maxLen ∧ us.length = R.length ∧ (0 < R.length → ∃ b, A = some ⟨b, 0, none⟩ ∧ lo ≤ b ∧ b < w.heap.size ∧ (∀ r x, G r x → x ≠ b) ∧ ∀ (i : Nat) u, us[i]? = some u → w.cell? ⟨b, i, none⟩ = some u) ∧
    (∀ (i : Nat) u r, us[i]? = some u → R[i]? = some r → Ints 128 (G r) w u r) ∧ (∀ r x, G r x → lo ≤ x ∧ x < w.heap.size ∧ Nfz w x) ∧ ∀ r r' x, G r x → G r' x → r = r'

/-- The rows, sorted. -/
theorem RwI.sort {G : List Int → Nat → Prop} {w wr : World} {v : Value} {us : List Value} {R : List (List Int)} (h : RwI G w wr v us R) (hl : us.length ≤ 1000000) :
    Calls Try.prog 125 #[v, .func (.func 126) #[] #[]] wr fun e w' => e = .returned (.tuple #[]) ∧ Ext w w' ∧ ∃ R', RowsV w' w.heap.size v R' ∧ List.Perm R' R ∧ R'.Pairwise fun a b => lessR b a = false := by
  rcases h.row.2 with ⟨rfl, h0⟩ | ⟨g, cap, cur, rfl, hb, hg, hnc, hcm, hcs, htk⟩
  · have hR : R = [] := List.eq_nil_of_length_eq_zero (by rw [← h.len, h0])
    subst hR
    (try rw [h0])
    refine (sortNone_any none 0 _ wr).mono ?_
    rintro e w' ⟨rfl, rfl⟩
    exact ⟨rfl, h.ext, [], ⟨none, 0, G, [], rfl, Nat.le_refl _, by simp [maxLen], rfl, by simp, by simp, fun r x hx => ⟨(h.sub r x hx).1, (h.sub r x hx).2.1, (h.sub r x hx).2.2.2⟩, h.one⟩, List.Perm.refl _, List.Pairwise.nil⟩
  · have hgl : g < wr.heap.size := (ownsRow_lt h.row (g := g) rfl).2
    have hgG : ∀ r x, G r x → x ≠ g := fun r x hx e => (h.sub r x hx).2.2.1 (by subst e; rfl)
    have hlen := h.len
    -- the rows as elements of the sort's type
    have hd : ∀ i, i < us.length → ∃ x : RowV wr g, us[i]? = some (encR x) ∧ R[i]? = some x.1.2 ∧ Ints 128 (G x.1.2) wr x.1.1 x.1.2 := fun i hi => by
      have h1 := List.getElem?_eq_getElem hi
      have h2 := List.getElem?_eq_getElem (l := R) (i := i) (by omega)
      have h3 := h.item i _ _ h1 h2
      exact ⟨⟨(us[i], R[i]), h3.keep (Nat.le_refl _) (fun _ _ _ => rfl) fun b hb _ => hgG _ b hb⟩, h1, h2, h3⟩
    obtain ⟨d, hdl, hdq⟩ := Facts.src.list_of' (Q := fun i (x : RowV wr g) => us[i]? = some (encR x) ∧ R[i]? = some x.1.2 ∧ Ints 128 (G x.1.2) wr x.1.1 x.1.2) us.length hd
    have hdR : d.map (fun x => x.1.2) = R := by
      apply List.ext_getElem?
      intro i
      rw [List.getElem?_map]
      cases hx : d[i]? with
      | none =>
        have := List.getElem?_eq_none_iff.1 hx
        rw [List.getElem?_eq_none (by omega)]; rfl
      | some x => exact (hdq i x hx).2.1.symm
    have hds : d.toArray.size = us.length := by simp [hdl]
    have hget : ∀ i, i < d.length → us[i]? = some (encR (d.toArray)[i]!) := fun i hi => by
      have h1 := List.getElem?_eq_getElem hi
      rw [(hdq i _ h1).1]
      rw [getElem!_pos d.toArray i (by simpa using hi)]
      simp
    have hH : Sort.Holds encR wr g 0 d.toArray := fun j hj => by
      have hj' : j < d.length := by simpa using hj
      exact ⟨ownsRow_cell h.row (hget j hj'), frozen_of_row wr g _ cur _ hg⟩
    have hc := sortRows_any (c := cap) d.toArray hH hgl (by omega)
    rw [hds] at hc
    refine hc.mono ?_
    rintro e w' ⟨rfl, ht, d', hp, hs, hH'⟩
    have hxw : Ext w w' := h.ext.turn ht fun b hb => by subst hb; exact hb
    have hzz := ht.size
    have hpl := hp.length_eq
    have hsz' : d'.size = us.length := by simpa [hdl] using hpl
    have hR'len : (d'.toList.map fun x => x.1.2).length = us.length := by simp [hsz']
    have hmem : ∀ x ∈ d'.toList, Ints 128 (G x.1.2) wr x.1.1 x.1.2 := fun x hx => by
      have hx' := hp.mem_iff.1 hx
      obtain ⟨i, hi⟩ := List.mem_iff_getElem?.1 (show x ∈ d by simpa using hx')
      exact (hdq i x hi).2.2
    have hkeep : ∀ r b, G r b → b < wr.heap.size → w'.heap[b]? = wr.heap[b]? := fun r b hb hl => ht.block b hl (hgG r b hb)
    refine ⟨rfl, hxw, d'.toList.map (fun x => x.1.2), ⟨some ⟨g, 0, none⟩, cap, G, d'.toList.map encR, ?_, by omega, hcm, by simp, fun _ => ⟨g, rfl, hb, by omega, hgG, fun i u hi => ?_⟩, fun i u r hi hj => ?_, fun r x hx => ⟨(h.sub r x hx).1, by have := (h.sub r x hx).2.1; omega, (h.sub r x hx).2.2.2.same (hkeep r x hx (h.sub r x hx).2.1)⟩, h.one⟩, ?_, ?_⟩
    · rw [hR'len]
    · rw [List.getElem?_map] at hi
      cases hx : d'.toList[i]? with
      | none => rw [hx] at hi; cases hi
      | some x =>
        rw [hx] at hi
        injection hi with hi
        have hil : i < d'.size := by simpa using (List.getElem?_eq_some_iff.1 hx).1
        have h1 := (hH' i hil).1
        rw [Nat.zero_add, getElem!_pos d' i hil] at h1
        have h2 : d'[i] = x := by simpa using (List.getElem?_eq_some_iff.1 hx).2
        rw [h2, hi] at h1
        exact h1
    · rw [List.getElem?_map] at hi hj
      cases hx : d'.toList[i]? with
      | none => rw [hx] at hi; cases hi
      | some x =>
        rw [hx] at hi hj
        injection hi with hi
        injection hj with hj
        subst hi hj
        exact (hmem x (List.mem_of_getElem? hx)).keep hzz (fun b hb hl => hkeep _ b hb hl) fun _ h _ => h
    · have := hp.map (fun x => x.1.2)
      rw [show d.toArray.toList = d from by simp, hdR] at this
      exact this
    · rw [List.pairwise_map]
      exact hs
end Go.Proofs.Ytocndkhgopjhhaa
/- state.Rows, walked. -/
namespace Go.Proofs.Ytocndkhgopjhhaa
open Go.RowKit

theorem intsl_info : (Try.prog.info? 35).map (fun i => (i.zero, i.size, i.bytes)) = some (some (.slice none 0 0), 1, 24) := by kernel_rfl
theorem rowl_ne {ys : List It} (h : (ys.map (·.td)).Pairwise fun a b => a.row ≠ b.row) {j : Nat} {x : It} (hx : ys[j]? = some x) : ∀ r ∈ (ys.map (·.td.row)).take j, r ≠ x.td.row := by
  intro r hr e
  obtain ⟨i, hi⟩ := List.mem_iff_getElem?.1 hr
  have hil : i < j := by have := (List.getElem?_eq_some_iff.1 hi).1; rw [List.length_take] at this; omega
  rw [List.getElem?_take_of_lt hil, List.getElem?_map] at hi
  cases hy : ys[i]? with
  | none => rw [hy] at hi; cases hi
  | some y =>
    rw [hy] at hi
    injection hi with hi
    have h1 : (ys.map (·.td))[i]? = some y.td := by rw [List.getElem?_map, hy]; rfl
    have h2 : (ys.map (·.td))[j]? = some x.td := by rw [List.getElem?_map, hx]; rfl
    obtain ⟨hi1, hi2⟩ := List.getElem?_eq_some_iff.1 h1
    obtain ⟨hj1, hj2⟩ := List.getElem?_eq_some_iff.1 h2
    have := List.pairwise_iff_getElem.1 h i j hi1 hj1 hil
    rw [hi2, hj2] at this
    exact this (hi.trans e)

set_option maxRecDepth 100000 in
set_option maxHeartbeats 4000000 in
theorem qrows_any {F : List Int → Nat → Prop} {T M : Nat → Prop} {w0 w : World} {q : Nat} {most : Int} {ts : List Td} (h : QF F T M w0 w q most ts) (hn : ts.length ≤ 1000) :
    Calls Try.prog 78 #[.pointer (some ⟨q, 0, none⟩)] w fun e w' => ∃ v R, e = .returned v ∧ Ext w w' ∧ RowsV w' w.heap.size v R ∧ List.Perm R (ts.map (·.row)) ∧ R.Pairwise fun a b => lessR b a = false := by
  obtain ⟨v, ys, hq, hh, hp, h1, h2, h3, h4, hf⟩ := h
  have hyl : ys.length ≤ 1000 := by have := hp.length_eq; rw [List.length_map] at this; omega
  obtain ⟨i0, hi0, hz0, hz1, hz2⟩ := info_parts intsl_info
  have HI := Lib.hid hi0
  have HZ0 := Lib.hid hz0
  have HZ1 := Lib.hid hz1
  have HZ2 := Lib.hid hz2
  have HQ := Lib.hid hq
  have HP := Lib.hid hp
  have HF := Lib.hid hf
  have q0 : w.cell? ⟨q, 0, none⟩ = some v := hq.blk.cell 0
  obtain ⟨Av, cv, rfl⟩ := hq.row.form
  clear hq hh hp hf h3 h4 hi0 hz0 hz1 hz2
  go_enter Try.func78, Try.ntmps78
  go_wp2_with fail
  go_loopw [3, 13] (fun s i wr => ∃ (j : Nat) (G : List Int → Nat → Prop) (us : List Value) (A : Option Addr) (c : Nat), j ≤ ys.length ∧ i = .int .i64 j ∧ s = .slice A j c ∧ us.length = j ∧ RwI G w wr (.slice A j c) us ((ys.map (·.td.row)).take j)) (fun _ i _ => ys.length - (intOf i).toNat)
  case atStart => exact ⟨0, _, [], none, 0, Nat.zero_le _, rfl, rfl, rfl, RwI.start w⟩
  case round =>
    obtain ⟨j, G, us, A, c, hj, rfl, rfl, hul, hr⟩ := hrel
    have HUL := Lib.hid hul
    have HR := Lib.hid hr
    have HX := Lib.hid hr.ext
    clear hr
    by_cases hlt : j < ys.length
    · obtain ⟨x, hx⟩ : ∃ x, ys[j]? = some x := ⟨_, List.getElem?_eq_getElem hlt⟩
      have hq' := HQ.out.ext HX.out
      obtain ⟨gr, cr, e, _, hcm, _, hgl, p0, p1, _, _⟩ := row_cells hq'.row hx
      injection e with e1 _ e3
      subst e1 e3
      have hit := (hq'.item x (List.mem_of_getElem? hx)).1
      obtain ⟨X1, X2, X3, X4, X5, X6, e1, e2⟩ := hq'.form x (List.mem_of_getElem? hx)
      rw [e1] at p0 hit
      rw [e2] at p1
      have HIT := Lib.hid hit
      have HXX := Lib.hid hx
      have hij : (j : Int) < (ys.length : Int) := by omega
      have hj0 : (0 : Int) ≤ (j : Int) := by omega
      unfold maxLen at hcm
      clear hq' hit hx e1 e2
      have HRA : Hid (∀ wo X, Ext wr wo → (wo.alloc X).ownsRow w.heap.size 35 1 (.slice A j c) j us) := Lib.hid (fun wo X hx => ownsRow_ext (by have h := HR.out.row; rw [hul] at h; exact h) fun b hb => (hx.trans' (Ext.alloc' wo X)).block b (ownsRow_lt HR.out.row hb).2)
      clear hul
      go_wp2_with (first
        | (go_at_call 124; refine (cloneI_any (B := 128) (by omega) (HIT.out.ext (Ext.alloc' wr _))).mono ?_; rintro e w2 ⟨A2, c2, rfl, hi2, hb2, hx2⟩; have HI2 := Lib.hid hi2; have HB2 := Lib.hid hb2; have HX2 := Lib.hid ((Ext.alloc' wr _).trans' hx2); have hz2 := HX2.out.size; have hzw := HX.out.size; clear hi2 hb2 hx2)
        | (at_builtin; refine wpList_app _ rfl (.tmp 17) (.tmp 21) _ rfl w.heap.size 35 i0 _ 1 24 Try.underlying107 HI.out HZ0.out HZ1.out HZ2.out rfl (by omega) (.slice A j c) j us rfl (HRA.out _ _ HX2.out) (some ⟨w2.heap.size, 0, none⟩) 1 1 [_] rfl rfl (fun _ => ⟨_, rfl, cells1_new rfl _ _⟩) (by simp [Value.oneCell']) (by simp only [maxLen]; omega) (by omega) (by simp; omega) ?_; intro v' w3 ho hg hat))
      obtain ⟨A3, c3, rfl⟩ := ownsRow_form ho
      obtain ⟨G', hr'⟩ := HR.out.step (rowl_ne HF.out.rows HXX.out) HX2.out HI2.out (fun b hb => by have := HB2.out b hb; exact ⟨Nat.le_trans (Ext.alloc' wr _).size this.1, this.2⟩) (Ext.alloc' w2 _) (by rw [HUL.out]; exact ho) hg hat
      have HR' := Lib.hid hr'
      go_roundw
      case rel =>
        refine ⟨j + 1, G', us ++ [.slice A2 x.td.row.length c2], A3, c3, by omega, by go_num, rfl, by simp [HUL.out], ?_⟩
        have := HR'.out
        rw [List.take_add_one, List.getElem?_map, HXX.out]
        exact this
      case measure => simp [intOf]; omega
    · have hij : ¬ (j : Int) < (ys.length : Int) := by omega
      have hjl : j = ys.length := by omega
      subst hjl
      go_wp2_with (go_at_call 125; refine (HR.out.sort (by omega)).mono ?_; rintro e w5 ⟨rfl, hx5, R', hv5, hp5, hs5⟩)
      go_ret
      refine ⟨_, R', rfl, hx5, hv5, ?_, hs5⟩
      rw [List.take_of_length_le (by simp)] at hp5
      have := HP.out.map (·.row)
      rw [List.map_map] at this
      exact hp5.trans this
end Go.Proofs.Ytocndkhgopjhhaa
