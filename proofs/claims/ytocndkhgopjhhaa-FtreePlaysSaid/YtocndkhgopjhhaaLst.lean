/- The state of touchstoneref07.With's loop: four variables of the call's own, and the two rows of what goes out. -/
import Derived.Test.YtocndkhgopjhhaaProg
import Derived.Test.YtocndkhgopjhhaaWst
import Derived.Test.YtocndkhgopjhhaaWithN
import Derived.Test.YtocndkhgopjhhaaSet1
namespace Go.Proofs.Ytocndkhgopjhhaa
open Go.RowKit

theorem ownsRow_same {w : World} {base : Nat} {e : TypeId} {size n : Nat} {v : Value} {xs ys : List Value} (h : w.ownsRow base e size v n ys) (k : w.ownsRow base e size v n xs) : ys = xs := by
  rcases h.2 with ⟨rfl, hn⟩ | ⟨g, cap, cur, rfl, _⟩
  · subst hn
    have e1 : ys = [] := List.eq_nil_of_length_eq_zero (by simpa using h.1)
    have e2 : xs = [] := List.eq_nil_of_length_eq_zero (by simpa using k.1)
    rw [e1, e2]
  · refine List.ext_getElem (h.1.trans k.1.symm) fun i h1 h2 => ?_
    have a := h.cells (g := g) rfl i _ (List.getElem?_eq_getElem h1)
    have b := k.cells (g := g) rfl i _ (List.getElem?_eq_getElem h2)
    rw [a] at b
    injection b

/-- block w + 0 the node, w + 1 what is laid, w + 2 the result, w + 3 what goes out. -/
structure LSt (B D : Nat) (S : Nat → Prop) (w wr : World) (T : Nat → Prop) (c0 c1 : Array Value) (k : Int) (mN mK : Nat) (A : Option Addr) (c : Nat) (A' : Option Addr) (c' : Nat) (pN : List ByteArray) (pK : List N) : Prop where
  st : WSt B D 4 S w wr T (.slice A mN c) (.slice A' mK c') pN pK
  b0 : Blk wr w.heap.size 25 c0
  b1 : Blk wr (w.heap.size + 1) 25 c1
  b2 : Blk wr (w.heap.size + 2) 25 #[.int .u8 0, .string { data := #[] }, .slice none 0 0, .slice none 0 0]
  b3 : Blk wr (w.heap.size + 3) 25 #[.int .u8 k, .string { data := #[] }, .slice A mN c, .slice A' mK c']
  lN : pN.length = mN
  lK : pK.length = mK
section
variable {x : N} {s n : ByteArray} {f : N → N} {kk : N} {ns : List ByteArray} {ks : List N} {bd : Bool}
theorem withA (h : ltS s n = true) (hx : x.kind ≠ 0) : withLN x true s f false (n :: ns) (kk :: ks) = (s :: n :: (withLN x true s f true ns ks).1, x :: kk :: (withLN x true s f true ns ks).2) := by
  rw [withLN, if_pos (by simp [h, hx]), if_neg (ltS_ne h)]
theorem withB : withLN x true s f bd (s :: ns) (kk :: ks) = withLN x true s f bd ns ks := by
  rw [withLN, if_neg (by simp [ltS_irrefl]), if_pos rfl, if_pos rfl]
theorem withC (h : n ≠ s) (hi : (ltS s n && !bd && decide (x.kind ≠ 0)) = false) : withLN x true s f bd (n :: ns) (kk :: ks) = (n :: (withLN x true s f bd ns ks).1, kk :: (withLN x true s f bd ns ks).2) := by
  rw [withLN, if_neg (by simpa [Bool.and_comm, Bool.and_assoc] using hi), if_neg h]
theorem withE (hi : (!bd && decide (x.kind ≠ 0)) = true) : withLN x true s f bd [] [] = ([s], [x]) := by
  rw [withLN, if_pos (by simpa using hi)]
  intros
  simp_all
theorem withE' (hi : (!bd && decide (x.kind ≠ 0)) = false) : withLN x true s f bd [] [] = ([], []) := by
  rw [withLN, if_neg (by simpa using hi)]
  intros
  simp_all
end

section
variable {x : N} {s n : ByteArray} {f : N → N} {kk : N} {ns : List ByteArray} {ks : List N}
theorem withI : withLN x false s f false (s :: ns) (kk :: ks) = (s :: (withLN x false s f false ns ks).1, f kk :: (withLN x false s f false ns ks).2) := by
  rw [withLN, if_neg (by simp), if_pos rfl, if_neg (by simp)]
theorem withJ (h : n ≠ s) : withLN x false s f false (n :: ns) (kk :: ks) = (n :: (withLN x false s f false ns ks).1, kk :: (withLN x false s f false ns ks).2) := by
  rw [withLN, if_neg (by simp), if_neg h]
theorem withK : withLN x false s f false [] [] = ([], []) := by
  rw [withLN, if_neg (by simp)]
  intros
  simp_all
end

section
variable {B D : Nat} {S : Nat → Prop} {w wr w1 : World} {T : Nat → Prop} {c0 c1 : Array Value} {k : Int} {mN mK : Nat} {A : Option Addr} {c : Nat} {A' : Option Addr} {c' : Nat} {pN : List ByteArray} {pK : List N}

theorem LSt.grow (h : LSt B D S w wr T c0 c1 k mN mK A c A' c' pN pK) (hx : Ext wr w1) : LSt B D S w w1 T c0 c1 k mN mK A c A' c' pN pK :=
  ⟨h.st.grow hx, h.b0.ext hx, h.b1.ext hx, h.b2.ext hx, h.b3.ext hx, h.lN, h.lK⟩
theorem LSt.nrow (h : LSt B D S w wr T c0 c1 k mN mK A c A' c' pN pK) : wr.ownsRow (w.heap.size + 4) 9 1 (.slice A mN c) mN (pN.map Value.string) := by
  have := h.st.nrow
  unfold OwnStrs at this
  rw [h.lN] at this
  exact this
theorem LSt.size (h : LSt B D S w wr T c0 c1 k mN mK A c A' c' pN pK) : w.heap.size + 4 ≤ wr.heap.size := by
  have := h.b3.lt
  omega
theorem LSt.cells (h : LSt B D S w wr T c0 c1 k mN mK A c A' c' pN pK) : wr.cell? ⟨w.heap.size + 3, 2, none⟩ = some (.slice A mN c) ∧ wr.cell? ⟨w.heap.size + 3, 3, none⟩ = some (.slice A' mK c') ∧ wr.frozen? ⟨w.heap.size + 3, 2, none⟩ = false ∧ wr.frozen? ⟨w.heap.size + 3, 3, none⟩ = false ∧ w.heap.size + 3 < wr.heap.size :=
  ⟨h.b3.cell 2, h.b3.cell 3, h.b3.frozen 2, h.b3.frozen 3, h.b3.lt⟩
theorem LSt.n4 (h : LSt B D S w wr T c0 c1 k mN mK A c A' c' pN pK) {g : Nat} (e : (Value.slice A mN c).ownBlock = some g) : w.heap.size + 4 ≤ g := (h.st.nlt e).1
theorem LSt.k4 (h : LSt B D S w wr T c0 c1 k mN mK A c A' c' pN pK) {g : Nat} (e : (Value.slice A' mK c').ownBlock = some g) : w.heap.size + 4 ≤ g := (h.st.klt e).1

theorem LSt.pushN (h : LSt B D S w wr T c0 c1 k mN mK A c A' c' pN pK) (hS : ∀ b, S b → b < w.heap.size) {s : ByteArray} {A3 : Option Addr} {c3 : Nat} (ho : w1.ownsRow (w.heap.size + 4) 9 1 (.slice A3 (mN + 1) c3) (mN + 1) (pN.map Value.string ++ [.string s])) (hg : wr.grownBy w1 (Value.slice A mN c).ownBlock) (hat : At wr (.slice A mN c) (.slice A3 (mN + 1) c3)) :
    LSt B D S w (w1.setCell ⟨w.heap.size + 3, 2, none⟩ (.slice A3 (mN + 1) c3)) T c0 c1 k (mN + 1) mK A3 c3 A' c' (pN ++ [s]) pK := by
  have hl := h.lN
  have hst := h.st.pushN (s := s) (by rw [hl]; exact ho) hg hat
  have far : ∀ g, g < w.heap.size + 4 → some g ≠ (Value.slice A mN c).ownBlock := fun g hgl e => by have := h.n4 e.symm; omega
  refine ⟨hst.set hS _ (by simp) (by simp) _, ?_, ?_, ?_, ?_, by simp [hl], h.lK⟩
  · exact (h.b0.grown hg (far _ (by omega))).far (by simp) _
  · exact (h.b1.grown hg (far _ (by omega))).far (by simp) _
  · exact (h.b2.grown hg (far _ (by omega))).far (by simp) _
  · exact (h.b3.grown hg (far _ (by omega))).set2 _
theorem LSt.midN (h : LSt B D S w wr T c0 c1 k mN mK A c A' c' pN pK) (hg : wr.grownBy w1 (Value.slice A mN c).ownBlock) : w1.frozen? ⟨w.heap.size + 3, 2, none⟩ = false ∧ w1.cell? ⟨w.heap.size + 3, 2, none⟩ = some (.slice A mN c) ∧ w.heap.size + 3 < w1.heap.size := by
  have hb := h.b3.grown hg (fun e => by have := h.n4 e.symm; omega)
  exact ⟨hb.frozen 2, hb.cell 2, hb.lt⟩
theorem LSt.midK (h : LSt B D S w wr T c0 c1 k mN mK A c A' c' pN pK) (hg : wr.grownBy w1 (Value.slice A' mK c').ownBlock) : w1.frozen? ⟨w.heap.size + 3, 3, none⟩ = false ∧ w1.cell? ⟨w.heap.size + 3, 3, none⟩ = some (.slice A' mK c') ∧ w.heap.size + 3 < w1.heap.size := by
  have hb := h.b3.grown hg (fun e => by have := h.k4 e.symm; omega)
  exact ⟨hb.frozen 3, hb.cell 3, hb.lt⟩
theorem LSt.nBlk (h : LSt B D S w wr T c0 c1 k mN mK A c A' c' pN pK) {g : Nat} {cs : Array Value} (hb : Blk wr g 25 cs) : some g ≠ (Value.slice A mN c).ownBlock := fun e => by
  obtain ⟨cur, hc⟩ := ownsRow_typed h.nrow e.symm
  unfold Blk at hb
  rw [hb] at hc
  injection hc with hc
  injection hc with _ hc
  exact absurd hc (by decide)
theorem Ext.allocDrew (w : World) (o : Obj) : Ext w (w.alloc o).drew := (Ext.alloc' w o).trans' (Below.drew (Below.refl _ _))
theorem LSt.pushK (h : LSt B D S w wr T c0 c1 k mN mK A c A' c' pN pK) (hS : ∀ b, S b → b < w.heap.size) {t : N} {v0 v1 v2 v3 : Value} {S2 : Nat → Prop} (hS2 : ∀ b, S2 b → (S b ∨ w.heap.size + 4 ≤ b) ∧ (Value.slice A mN c).ownBlock ≠ some b ∧ (Value.slice A' mK c').ownBlock ≠ some b) (hr : Rep B S2 wr D t (.agg #[v0, v1, v2, v3])) {A3 : Option Addr} {c3 : Nat}
    {xs : List Value} (hxs : wr.ownsRow (w.heap.size + 4) 25 4 (.slice A' mK c') mK xs) (ho : w1.ownsRow (w.heap.size + 4) 25 4 (.slice A3 (mK + 1) c3) (mK + 1) (xs ++ [v0, v1, v2, v3])) (hg : wr.grownBy w1 (Value.slice A' mK c').ownBlock) (hat : At wr (.slice A' mK c') (.slice A3 (mK + 1) c3)) :
    ∃ T', LSt B D S w (w1.setCell ⟨w.heap.size + 3, 3, none⟩ (.slice A3 (mK + 1) c3)) T' c0 c1 k mN (mK + 1) A c A3 c3 pN (pK ++ [t]) := by
  have hl := h.lK
  obtain ⟨T', hst⟩ := h.st.pushK (t := t) hS2 hr (kv' := .slice A3 (mK + 1) c3) (fun ys hys => by
    rw [hl] at hys ⊢
    rw [ownsRow_same hys hxs]
    exact ho) hg hat
  have far : ∀ g, g < w.heap.size + 4 → some g ≠ (Value.slice A' mK c').ownBlock := fun g hgl e => by have := h.k4 e.symm; omega
  refine ⟨T', hst.set hS _ (by simp) (by simp) _, ?_, ?_, ?_, ?_, h.lN, by simp [hl]⟩
  · exact (h.b0.grown hg (far _ (by omega))).far (by simp) _
  · exact (h.b1.grown hg (far _ (by omega))).far (by simp) _
  · exact (h.b2.grown hg (far _ (by omega))).far (by simp) _
  · exact (h.b3.grown hg (far _ (by omega))).set3 _
theorem LSt.krow (h : LSt B D S w wr T c0 c1 k mN mK A c A' c' pN pK) : ∃ xs, wr.ownsRow (w.heap.size + 4) 25 4 (.slice A' mK c') mK xs := by
  obtain ⟨xs, ho, _⟩ := h.st.krow
  rw [h.lK] at ho
  exact ⟨xs, ho⟩
theorem LSt.sS (h : LSt B D S w wr T c0 c1 k mN mK A c A' c' pN pK) (hS : ∀ b, S b → b < w.heap.size) : ∀ b, S b → (S b ∨ w.heap.size + 4 ≤ b) ∧ (Value.slice A mN c).ownBlock ≠ some b ∧ (Value.slice A' mK c').ownBlock ≠ some b := fun b hb =>
  ⟨.inl hb, fun e => by have := h.n4 e; have := hS b hb; omega, fun e => by have := h.k4 e; have := hS b hb; omega⟩
/-- what goes out at the end. -/
theorem LSt.fin (h : LSt B D S w wr T c0 c1 k mN mK A c A' c' pN pK) (h1 : mN ≤ 4 * B) (h2 : mK ≤ B) (h3 : ∀ s ∈ pN, s.size ≤ maxLen) (hSfar : ∀ b, w.heap.size ≤ b → ¬ S b) {t : N} (ht : t = .mk k { data := #[] } pN pK) : ChgPost B S (D + 1) t w (.returned (.agg #[.int .u8 k, .string { data := #[] }, .slice A mN c, .slice A' mK c'])) (set4 wr (w.heap.size + 2) (.int .u8 k) (.string { data := #[] }) (.slice A mN c) (.slice A' mK c')) := by
  subst ht
  have hx := h.st.ext.set4 (g := w.heap.size + 2) (by omega) (.int .u8 k) (.string { data := #[] }) (.slice A mN c) (.slice A' mK c')
  have hr := h.st.rep (k := k) (by rw [h.lN]; exact h1) (by rw [h.lK]; exact h2) h3
  refine ⟨A, c, A', c', ?_, hx, ?_⟩
  · show _ = Ending.returned (.agg #[.int .u8 k, .string { data := #[] }, .slice A pN.length c, .slice A' pK.length c'])
    rw [h.lN, h.lK]
  · show Rep _ _ _ _ _ (.agg #[.int .u8 k, .string { data := #[] }, .slice A pN.length c, .slice A' pK.length c'])
    rw [h.lN, h.lK]
    refine Rep.keep (by rw [size_set4]; exact Nat.le_refl _) (fun b hb _ => heap_set4 _ _ _ _ _ _ ?_) (fun b hb _ => ?_) _ _ _ hr
    · rcases hb with hb | hb
      · have := h.st.ext.size
        intro e
        subst e
        exact absurd hb (hSfar _ (by omega))
      · omega
    · rcases hb with hb | hb
      · exact .inl hb
      · exact .inr (by omega)
/-- what is known of a node beside the two rows: it lies in none of them, nor in the call's own variables. -/
def Beside (S2 S : Nat → Prop) (m : Nat) (wr : World) (A : Option Addr) (mN c : Nat) (A' : Option Addr) (mK c' : Nat) : Prop :=
  ∀ b, S2 b → (S b ∨ m + 4 ≤ b) ∧ b < wr.heap.size ∧ (Value.slice A mN c).ownBlock ≠ some b ∧ (Value.slice A' mK c').ownBlock ≠ some b
theorem LSt.aside (h : LSt B D S w wr T c0 c1 k mN mK A c A' c' pN pK) (hS : ∀ b, S b → b < w.heap.size) {S2 : Nat → Prop} (hS2 : Beside S2 S w.heap.size wr A mN c A' mK c') {B2 d2 : Nat} {t : N} {v : Value} (hr : Rep B2 S2 wr d2 t v) {A3 : Option Addr} {c3 : Nat} (hg : wr.grownBy w1 (Value.slice A mN c).ownBlock) (hat : At wr (.slice A mN c) (.slice A3 (mN + 1) c3)) :
    Rep B2 S2 (w1.setCell ⟨w.heap.size + 3, 2, none⟩ (.slice A3 (mN + 1) c3)) d2 t v ∧ Beside S2 S w.heap.size (w1.setCell ⟨w.heap.size + 3, 2, none⟩ (.slice A3 (mN + 1) c3)) A3 (mN + 1) c3 A' mK c' := by
  have hz : (w1.setCell ⟨w.heap.size + 3, 2, none⟩ (.slice A3 (mN + 1) c3)).heap.size = w1.heap.size := by simp [World.setCell]
  have hz1 := hg.size
  refine ⟨Rep.keep (by rw [hz]; exact hz1) (fun b hb hl => ?_) (fun _ h _ => h) _ _ _ hr, fun b hb => ?_⟩
  · obtain ⟨h1, h2, h3, h4⟩ := hS2 b hb
    have hwz := h.size
    refine (Below.heap_setCell _ _ _ _ ?_).trans (hg.block b hl fun e => h3 e.symm)
    rcases h1 with h1 | h1
    · have := hS b h1
      simp; omega
    · simp; omega
  · obtain ⟨h1, h2, h3, h4⟩ := hS2 b hb
    refine ⟨h1, by omega, fun e => ?_, h4⟩
    rcases hat with e2 | e2
    · exact h3 (by rw [← e2]; exact e)
    · have := e2 b e; omega
theorem Beside.mono {S2 S : Nat → Prop} {m : Nat} {wr w1 : World} {A : Option Addr} {mN c : Nat} {A' : Option Addr} {mK c' : Nat} (h : Beside S2 S m wr A mN c A' mK c') (hz : wr.heap.size ≤ w1.heap.size) : Beside S2 S m w1 A mN c A' mK c' := fun b hb => by
  obtain ⟨h1, h2, h3, h4⟩ := h b hb
  exact ⟨h1, by omega, h3, h4⟩
theorem Beside.three {S2 S : Nat → Prop} {m : Nat} {wr : World} {A : Option Addr} {mN c : Nat} {A' : Option Addr} {mK c' : Nat} (h : Beside S2 S m wr A mN c A' mK c') : ∀ b, S2 b → (S b ∨ m + 4 ≤ b) ∧ (Value.slice A mN c).ownBlock ≠ some b ∧ (Value.slice A' mK c').ownBlock ≠ some b := fun b hb => by
  obtain ⟨h1, _, h3, h4⟩ := h b hb
  exact ⟨h1, h3, h4⟩
/-- a node of the blocks that were there ahead of the call, or that were made behind the world wc. -/
theorem LSt.beside {wc : World} (h : LSt B D S w wc T c0 c1 k mN mK A c A' c' pN pK) (hS : ∀ b, S b → b < w.heap.size) {B2 d2 : Nat} {t : N} {v : Value} (hr : Rep B2 (fun b => S b ∨ wc.heap.size ≤ b) w1 d2 t v) :
    Beside (fun b => (S b ∨ wc.heap.size ≤ b) ∧ b < w1.heap.size) S w.heap.size w1 A mN c A' mK c' ∧ Rep B2 (fun b => (S b ∨ wc.heap.size ≤ b) ∧ b < w1.heap.size) w1 d2 t v := by
  have hwz := h.size
  refine ⟨fun b hb => ⟨?_, hb.2, fun e => ?_, fun e => ?_⟩, Rep.keep (Nat.le_refl _) (fun _ _ _ => rfl) (fun b hb hl => ⟨hb, hl⟩) _ _ _ hr⟩
  · rcases hb.1 with h1 | h1
    · exact .inl h1
    · exact .inr (by omega)
  · have := h.st.nlt e
    rcases hb.1 with h1 | h1
    · have := hS b h1; omega
    · omega
  · have := h.st.klt e
    rcases hb.1 with h1 | h1
    · have := hS b h1; omega
    · omega
/-- a store of a node into a block of its own beside. -/
theorem LSt.box (h : LSt B D S w wr T c0 c1 k mN mK A c A' c' pN pK) {g : Nat} (hg : w.heap.size + 4 ≤ g) (hT : ¬ T g) (hA : (Value.slice A mN c).ownBlock ≠ some g) (hA' : (Value.slice A' mK c').ownBlock ≠ some g) (v0 v1 v2 v3 : Value) :
    LSt B D S w (set4 wr g v0 v1 v2 v3) T c0 c1 k mN mK A c A' c' pN pK := by
  have ht : Turns (fun b => b = g) wr (set4 wr g v0 v1 v2 v3) := ⟨rfl, rfl, rfl, by rw [size_set4]; exact Nat.le_refl _, fun b _ hn => heap_set4 _ _ _ _ _ _ hn⟩
  refine ⟨h.st.turn ht (fun b hb => ?_), h.b0.far4 (by omega) _ _ _ _, h.b1.far4 (by omega) _ _ _ _, h.b2.far4 (by omega) _ _ _ _, h.b3.far4 (by omega) _ _ _ _, h.lN, h.lK⟩
  subst hb
  exact ⟨by omega, hT, hA, hA'⟩
end
end Go.Proofs.Ytocndkhgopjhhaa
