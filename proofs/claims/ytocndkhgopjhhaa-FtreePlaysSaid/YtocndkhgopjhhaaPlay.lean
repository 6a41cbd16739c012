/- FtreePlays: the tree and the document's node side by side, apart in memory; what is done to each. -/
import Derived.Test.YtocndkhgopjhhaaProg
import Derived.Test.YtocndkhgopjhhaaRef7P
import Derived.Test.YtocndkhgopjhhaaSpoil
import Derived.Test.YtocndkhgopjhhaaTMove
import Derived.Test.YtocndkhgopjhhaaStep
import Derived.Test.YtocndkhgopjhhaaMake
import Derived.Outline
namespace Go.Proofs.Ytocndkhgopjhhaa
open Go.RowKit

/-- blocks that are there, but for the tree's own and the variable n's. -/
def Sn (w wr : World) (g : Nat) (b : Nat) : Prop := b < wr.heap.size ∧ b ≠ g ∧ b ≠ w.heap.size
/-- the tree stands at block g. -/
structure TB (B : Nat) (w wr : World) (g : Nat) (t : N) : Prop where
  gt : w.heap.size < g
  tr : ∃ d, TreeAt B (Sn w wr g) wr g d t
/-- the variable n holds the node. -/
structure NB (B : Nat) (w wr : World) (g : Nat) (t : N) : Prop where
  gt : w.heap.size < g
  gl : g < wr.heap.size
  box : ∃ A c A' c', Blk wr w.heap.size 25 #[.int .u8 t.kind, .string t.text, .slice A t.names.length c, .slice A' t.kids.length c'] ∧ NIs B (Sn w wr g) wr t (.agg #[.int .u8 t.kind, .string t.text, .slice A t.names.length c, .slice A' t.kids.length c'])
section
variable {B B' : Nat} {w wr w1 : World} {g : Nat} {t t' : N}
theorem Sn.mono {b : Nat} (hz : wr.heap.size ≤ w1.heap.size) (h : Sn w wr g b) : Sn w w1 g b := ⟨Nat.lt_of_lt_of_le h.1 hz, h.2⟩
theorem TB.lt (h : TB B w wr g t) : g < wr.heap.size := by obtain ⟨d, h⟩ := h.tr; exact h.lt
theorem TB.ext (h : TB B w wr g t) (hx : Ext wr w1) : TB B w w1 g t := by
  refine ⟨h.gt, ?_⟩
  have hl := h.lt
  obtain ⟨d, h⟩ := h.tr
  exact ⟨d, h.keep (Nat.le_refl _) (Nat.le_refl _) hx.size (hx.block g hl) (fun b _ hb => hx.block b hb) (fun b hb _ => hb.mono hx.size) (fun b hb => hb.2.1)⟩
theorem TB.wideB (h : TB B w wr g t) (hB : B ≤ B') : TB B' w wr g t := by
  refine ⟨h.gt, ?_⟩
  obtain ⟨d, h⟩ := h.tr
  exact ⟨d, h.keep hB (Nat.le_refl _) (Nat.le_refl _) rfl (fun _ _ _ => rfl) (fun b hb _ => hb) (fun b hb => hb.2.1)⟩
/-- beside a change of other blocks. -/
theorem TB.turns (h : TB B w wr g t) {F : Nat → Prop} (ht : Turns F wr w1) (hF : ∀ b, F b → b ≠ g ∧ ¬ Sn w wr g b) : TB B w w1 g t := by
  refine ⟨h.gt, ?_⟩
  have hl := h.lt
  obtain ⟨d, h⟩ := h.tr
  exact ⟨d, h.keep (Nat.le_refl _) (Nat.le_refl _) ht.size (ht.block g hl fun hf => (hF g hf).1 rfl) (fun b hb hl => ht.block b hl fun hf => (hF b hf).2 hb) (fun b hb _ => hb.mono ht.size) (fun b hb => hb.2.1)⟩
theorem NB.ext (h : NB B w wr g t) (hx : Ext wr w1) : NB B w w1 g t := by
  obtain ⟨A, c, A', c', hb, hr⟩ := h.box
  exact ⟨h.gt, Nat.lt_of_lt_of_le h.gl hx.size, A, c, A', c', hb.ext hx, (hr.ext hx).imp fun b hb _ => hb.mono hx.size⟩
theorem NB.wideB (h : NB B w wr g t) (hB : B ≤ B') : NB B' w wr g t := by
  obtain ⟨A, c, A', c', hb, hr⟩ := h.box
  exact ⟨h.gt, h.gl, A, c, A', c', hb, hr.wideB hB⟩
theorem NB.turn (h : NB B w wr g t) (ht : Turns (fun b => b = g) wr w1) : NB B w w1 g t := by
  obtain ⟨A, c, A', c', hb, d, hr⟩ := h.box
  have hg := h.gt
  exact ⟨h.gt, Nat.lt_of_lt_of_le h.gl ht.size, A, c, A', c', (ht.block _ hb.lt (by omega)).trans hb, d, Rep.keep ht.size (fun b hb hl => ht.block b hl hb.2.1) (fun b hb _ => hb.mono ht.size) _ _ _ hr⟩
/-- a new tree at another block. -/
theorem NB.other {g' : Nat} (h : NB B w wr g t) (hg : wr.heap.size ≤ g') (hx : Ext wr w1) (hl : g' < w1.heap.size) : NB B w w1 g' t := by
  obtain ⟨A, c, A', c', hb, hr⟩ := h.box
  have h1 := h.gt
  have h2 := h.gl
  refine ⟨by omega, hl, A, c, A', c', hb.ext hx, (hr.ext hx).imp fun b hb hl => ⟨hl, ?_, hb.2.2⟩⟩
  have := hb.1
  omega
/-- the variable n is written. -/
theorem NB.store {wc w5 : World} (hgt : w.heap.size < g) (hgl : g < wc.heap.size) (hx : Ext wc w5) {cs : Array Value} (hb : Blk w5 w.heap.size 25 cs) (hcs : ∃ a b c d, cs = #[a, b, c, d]) {A A' : Option Addr} {c c' : Nat} (h : NIs B (fun b => Sn w wc g b ∨ wc.heap.size ≤ b) w5 t (.agg #[.int .u8 t.kind, .string t.text, .slice A t.names.length c, .slice A' t.kids.length c'])) :
    NB B w (set4 w5 w.heap.size (.int .u8 t.kind) (.string t.text) (.slice A t.names.length c) (.slice A' t.kids.length c')) g t := by
  obtain ⟨x0, x1, x2, x3, rfl⟩ := hcs
  have hz := hx.size
  obtain ⟨d, h⟩ := h
  refine ⟨hgt, by rw [size_set4]; omega, A, c, A', c', hb.set4 _ _ _ _, d, Rep.keep (by rw [size_set4]; exact Nat.le_refl _) (fun b hb _ => heap_set4 _ _ _ _ _ _ ?_) (fun b hb hl => ⟨by rw [size_set4]; exact hl, ?_, ?_⟩) _ _ _ h⟩
  · rcases hb with hb | hb
    · exact hb.2.2
    · omega
  · rcases hb with hb | hb
    · exact hb.2.1
    · omega
  · rcases hb with hb | hb
    · exact hb.2.2
    · omega
theorem TB.store (h : TB B w wr g t) (v0 v1 v2 v3 : Value) : TB B w (set4 wr w.heap.size v0 v1 v2 v3) g t := by
  have hg := h.gt
  refine h.turns (F := fun b => b = w.heap.size) ⟨rfl, rfl, rfl, by rw [size_set4]; exact Nat.le_refl _, fun b _ hn => heap_set4 _ _ _ _ _ _ hn⟩ fun b hb => ?_
  subst hb
  exact ⟨by omega, fun hs => hs.2.2 rfl⟩
theorem TB.done {d : Nat} {e : Ending} (h : TB B w wr g t) {B2 : Nat} (hB : B2 ≤ B') (hp : DonePost B2 (Sn w wr g) g d t' wr e w1) : e = .returned (.tuple #[]) ∧ Turns (fun b => b = g) wr w1 ∧ TB B' w w1 g t' := by
  obtain ⟨he, ht, hr⟩ := hp
  have hl := h.lt
  have hg := h.gt
  refine ⟨he, ht, hg, d, hr.keep hB (Nat.le_refl _) (Nat.le_refl _) rfl (fun _ _ _ => rfl) (fun b hb hl => ?_) (fun b hb => hb.2.1)⟩
  rcases hb with hb | hb
  · exact hb.mono ht.size
  · exact ⟨hl, by omega, by omega⟩
theorem TB.new {d : Nat} {wc : World} (hw : w.heap.size < wc.heap.size) (h : NewTree B d t wc w1 g) : TB B w w1 g t := by
  obtain ⟨hg, hx, hr⟩ := h
  exact ⟨by omega, d, hr.keep (Nat.le_refl _) (Nat.le_refl _) (Nat.le_refl _) rfl (fun _ _ _ => rfl) (fun b hb hl => ⟨hl, hb.2, by omega⟩) (fun b hb => hb.2.1)⟩

/-- what is done to the tree. -/
def TDone (B : Nat) (w : World) (g : Nat) (t : N) (wr : World) (e : Ending) (w1 : World) : Prop := e = .returned (.tuple #[]) ∧ Turns (fun b => b = g) wr w1 ∧ TB B w w1 g t
variable {B1 B2 : Nat} {S1 S2 : Nat → Prop} {v1 v2 : Value} {a b : List ByteArray}
theorem TB.put {dx : Nat} {Bx : Nat} {Sx : Nat → Prop} {x : N} {xv : Value} (hB : B + 2 ≤ 2199023255552) (hBx : Bx ≤ 2199023255552) (h : TB B w wr g t) (hd : DirW t) (h1 : Strs B1 S1 wr v1 a) (hx : Rep Bx Sx wr dx x xv) (hxn : x.well = true → Rep B Sx wr dx x xv) :
    Calls Try.prog 44 #[.pointer (some ⟨g, 0, none⟩), v1, xv] wr (TDone (B + 2) w g (t.tput a x) wr) := by
  obtain ⟨d, hr⟩ := h.tr
  exact (tput_any' (by omega) hBx hr hd.wf h1 hx hxn).mono fun e w' hp => h.done (by omega) hp
theorem TB.del (hB : B + 2 ≤ 2199023255552) (h : TB B w wr g t) (hd : DirW t) (h1 : Strs B1 S1 wr v1 a) : Calls Try.prog 45 #[.pointer (some ⟨g, 0, none⟩), v1] wr (TDone (B + 2) w g (t.tdel a) wr) := by
  obtain ⟨d, hr⟩ := h.tr
  exact (tdel_any (by omega) hr hd.wf h1).mono fun e w' hp => h.done (by omega) hp
theorem TB.move (hB : B + 2 ≤ 2199023255552) (h : TB B w wr g t) (hd : DirW t) (h1 : Strs B1 S1 wr v1 a) (h2 : Strs B2 S2 wr v2 b) (hS : ∀ b, S1 b → b ≠ g) : Calls Try.prog 46 #[.pointer (some ⟨g, 0, none⟩), v1, v2] wr (TDone (B + 2) w g (t.tmove a b) wr) := by
  obtain ⟨d, hr⟩ := h.tr
  exact (tmove_any hB hr hd.wf h1 h2 hS).mono fun e w' hp => h.done (by omega) hp
theorem TB.copy (hB : B + 2 ≤ 2199023255552) (h : TB B w wr g t) (hd : DirW t) (h1 : Strs B1 S1 wr v1 a) (h2 : Strs B2 S2 wr v2 b) : Calls Try.prog 47 #[.pointer (some ⟨g, 0, none⟩), v1, v2] wr (TDone (B + 2) w g (t.tcopy a b) wr) := by
  obtain ⟨d, hr⟩ := h.tr
  exact (tcopy_any (by omega) hr hd.wf h1 h2).mono fun e w' hp => h.done (by omega) hp
theorem TB.kind (hB : B ≤ 2199023255552) (h : TB B w wr g t) (hd : DirW t) (h1 : Strs B1 S1 wr v1 a) : Calls Try.prog 48 #[.pointer (some ⟨g, 0, none⟩), v1] wr fun e w' => e = .returned (.int .u8 (t.kindAt a)) ∧ Ext wr w' := by
  obtain ⟨d, hr⟩ := h.tr
  exact tkind_any hB hr hd.wf h1
theorem TB.text (hB : B ≤ 2199023255552) (h : TB B w wr g t) (hd : DirW t) (h1 : Strs B1 S1 wr v1 a) : Calls Try.prog 49 #[.pointer (some ⟨g, 0, none⟩), v1] wr fun e w' => e = .returned (.string ((t.get a).getD N.zero).text) ∧ Ext wr w' := by
  obtain ⟨d, hr⟩ := h.tr
  exact ttext_any hB hr hd.wf h1
theorem TB.empty (hB : B ≤ 2199023255552) (h : TB B w wr g t) (hd : DirW t) (h1 : Strs B1 S1 wr v1 a) : Calls Try.prog 50 #[.pointer (some ⟨g, 0, none⟩), v1] wr fun e w' => e = .returned (.bool (emptyB ((t.get a).getD N.zero))) ∧ Ext wr w' := by
  obtain ⟨d, hr⟩ := h.tr
  exact tempty_any hB hr hd.wf h1
theorem TB.root (hB : B ≤ 2199023255552) (h : TB B w wr g t) : ∃ d, Calls Try.prog 43 #[.pointer (some ⟨g, 0, none⟩)] wr (OwnPost B d t wr) := by
  obtain ⟨d, hr⟩ := h.tr
  exact ⟨d, troot_any hB hr⟩
theorem TB.clone (hB : B ≤ 2199023255552) (h : TB B w wr g t) (hw : w.heap.size < wr.heap.size) : Calls Try.prog 51 #[.pointer (some ⟨g, 0, none⟩)] wr fun e w1 => ∃ g', e = .returned (.pointer (some ⟨g', 0, none⟩)) ∧ wr.heap.size ≤ g' ∧ Ext wr w1 ∧ TB B w w1 g' t ∧ ∀ b, Sn w w1 g' b → True := by
  obtain ⟨d, hr⟩ := h.tr
  exact (tclone_any hB hr).mono fun e w' ⟨g', he, hn⟩ => ⟨g', he, hn.1, hn.2.1, TB.new hw hn, fun _ _ => trivial⟩
end

/-- a tree that was made of a copy, and the copy is written over. -/
theorem TB.newSpoil {B d : Nat} {w wc w1 w2 : World} {g : Nat} {t : N} {F : Nat → Prop} (hw : w.heap.size < wc.heap.size) (h : NewTree B d t wc w1 g) (ht : Turns F w1 w2) (hF : ∀ b, F b → b < wc.heap.size) : TB B w w2 g t := by
  obtain ⟨hg, hx, hr⟩ := h
  have hl := hr.lt
  have hz := ht.size
  exact ⟨by omega, d, hr.keep (Nat.le_refl _) (Nat.le_refl _) ht.size (ht.block g hl fun hf => by have := hF g hf; omega) (fun b hb hl => ht.block b hl fun hf => by have := hF b hf; have := hb.1; omega) (fun b hb hl => ⟨by omega, hb.2, by omega⟩) (fun b hb => hb.2.1)⟩
/-- what stands behind Put and a spoil of what was put. -/
theorem TB.putSpoil {B B' B2 d : Nat} {w wr wp w2 w3 : World} {g : Nat} {t t' : N} {e : Ending} {F : Nat → Prop} (h : TB B w wr g t) (hx : Ext wr wp) (hB : B2 ≤ B') (hp : DonePost B2 (Sn w wr g) g d t' wp e w2) (ht : Turns F w2 w3) (hF : ∀ b, F b → wr.heap.size ≤ b ∧ b < wp.heap.size) : Turns (fun b => b = g) wr w3 ∧ TB B' w w3 g t' := by
  obtain ⟨_, ht2, hr⟩ := hp
  have hl := h.lt
  have hg := h.gt
  have hz := ht.size
  have hz1 := hx.size
  refine ⟨((Turns.ofExt hx).trans ht2 fun _ h _ => h).trans ht fun b hb hl => by have := (hF b hb).1; omega, hg, d, hr.keep hB (Nat.le_refl _) ht.size (ht.block g hr.lt fun hf => by have := (hF g hf).1; omega) (fun b hb hl => ht.block b hl fun hf => ?_) (fun b hb hl => ?_) (fun b hb => hb.2.1)⟩
  · have h1 := hF b hf
    rcases hb with hb | hb
    · have := hb.1; omega
    · omega
  · rcases hb with hb | hb
    · exact ⟨by omega, hb.2⟩
    · exact ⟨by omega, by omega, by omega⟩
/-- a copy is written over: all that was there ahead of the copy stands. -/
theorem spoil_back {F : Nat → Prop} {wa wb w' : World} (hx : Ext wa wb) (ht : Turns F wb w') (hF : ∀ b, F b → wa.heap.size ≤ b) : Ext wa w' :=
  ⟨ht.os.trans hx.os, ht.tape.trans hx.tape, ht.output.trans hx.output, Nat.le_trans hx.size ht.size, fun b hb => (ht.block b (Nat.lt_of_lt_of_le hb hx.size) fun hf => by have := hF b hf; omega).trans (hx.block b hb)⟩
theorem Nfz.ext {w w' : World} {b : Nat} (h : Nfz w b) (hx : Ext w w') (hb : b < w.heap.size) : Nfz w' b := h.same (hx.block b hb)

theorem Ext.onF {w w1 w2 : World} {F : Nat → Prop} (h : Ext w w1) (ht : Turns F w1 w2) (hF : ∀ b, F b → w.heap.size ≤ b) : Ext w w2 := spoil_back h ht hF
theorem Ext.onG {w w1 w2 : World} {g : Nat} (h : Ext w w1) (ht : Turns (fun b => b = g) w1 w2) (hg : w.heap.size < g) : Ext w w2 := h.onF ht fun b hb => by omega
/-- the tree is given up for its clone. -/
theorem NB.clone {B : Nat} {w wr w1 w3 : World} {g g' : Nat} {t : N} (h : NB B w wr g t) (hx : Ext wr w1) (ht : Turns (fun b => b = g) w1 w3) (hg : wr.heap.size ≤ g') (hl : g' < w3.heap.size) : NB B w w3 g' t := by
  obtain ⟨A, c, A', c', hb, d, hr⟩ := h.box
  have h1 := h.gt
  have h2 := h.gl
  have ht2 : Turns (fun b => b = g) wr w3 := (Turns.ofExt hx).trans ht fun _ h _ => h
  have hz := ht2.size
  exact ⟨by omega, hl, A, c, A', c', (ht2.block _ hb.lt (by omega)).trans hb, d, Rep.keep hz (fun b hb hl => ht2.block b hl hb.2.1) (fun b hb hl => ⟨by omega, by omega, hb.2.2⟩) _ _ _ hr⟩

/-- what a step of FtreePlays comes to. -/
def playN (s : Stp) (t : N) : N :=
  if s.kind = 0 then t.tput s.a s.n else if s.kind = 1 then t.tdel s.a else if s.kind = 2 then t.tmove s.a s.b else if s.kind = 3 then t.tcopy s.a s.b else t
theorem playN_dir {s : Stp} {t : N} (h : DirW t) : DirW (playN s t) := by
  unfold playN
  split
  · exact N.tput_dir h
  · split
    · exact N.tdel_dir h
    · split
      · exact N.tmove_dir h
      · split
        · exact N.tcopy_dir h
        · exact h
end Go.Proofs.Ytocndkhgopjhhaa
