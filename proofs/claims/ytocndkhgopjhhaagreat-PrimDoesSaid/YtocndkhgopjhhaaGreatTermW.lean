/- Rows of terms of the call's own; the state of touchstoneref07.with's loop; over, absent. -/
import Derived.Test.YtocndkhgopjhhaaGreatProg
import Derived.Test.YtocndkhgopjhhaaGreatTerm
import Derived.Test.YtocndkhgopjhhaaGreatTermP
import Derived.Test.YtocndkhgopjhhaaGreatStepA
import Derived.Test.YtocndkhgopjhhaaGreatOwn
import Derived.Outline
namespace Go.Proofs.YtocndkhgopjhhaaGreat
open Go.RowKit

theorem term_info : (Tryz.prog.info? 45).map (fun i => (i.zero, i.size, i.bytes)) = some (some (.agg #[.int .i64 0, .int .u8 0, .string { data := #[] }, .int .i64 0, .slice none 0 0, .slice none 0 0]), 6, 88) := by kernel_rfl
/-- the cells of an unset term. -/
abbrev tz6 : Array Value := #[.int .i64 0, .int .u8 0, .string { data := #[] }, .int .i64 0, .slice none 0 0, .slice none 0 0]

/-- a struct of six cells is stored. -/
def set6 (w : World) (g : Nat) (v0 v1 v2 v3 v4 v5 : Value) : World := (((((w.setCell ⟨g, 0, none⟩ v0).setCell ⟨g, 1, none⟩ v1).setCell ⟨g, 2, none⟩ v2).setCell ⟨g, 3, none⟩ v3).setCell ⟨g, 4, none⟩ v4).setCell ⟨g, 5, none⟩ v5
theorem heap_set6 (w : World) (g : Nat) (v0 v1 v2 v3 v4 v5 : Value) {b : Nat} (hb : b ≠ g) : (set6 w g v0 v1 v2 v3 v4 v5).heap[b]? = w.heap[b]? := by
  unfold set6
  rw [Below.heap_setCell _ _ _ _ (by exact hb), Below.heap_setCell _ _ _ _ (by exact hb), Below.heap_setCell _ _ _ _ (by exact hb), Below.heap_setCell _ _ _ _ (by exact hb), Below.heap_setCell _ _ _ _ (by exact hb), Below.heap_setCell _ _ _ _ (by exact hb)]
theorem size_set6 (w : World) (g : Nat) (v0 v1 v2 v3 v4 v5 : Value) : (set6 w g v0 v1 v2 v3 v4 v5).heap.size = w.heap.size := by simp [set6, World.setCell]
theorem Ext.set6 {w w1 : World} (h : Ext w w1) {g : Nat} (hg : w.heap.size ≤ g) (v0 v1 v2 v3 v4 v5 : Value) : Ext w (set6 w1 g v0 v1 v2 v3 v4 v5) :=
  (((((h.setCell (p := ⟨g, 0, none⟩) hg v0).setCell (p := ⟨g, 1, none⟩) hg v1).setCell (p := ⟨g, 2, none⟩) hg v2).setCell (p := ⟨g, 3, none⟩) hg v3).setCell (p := ⟨g, 4, none⟩) hg v4).setCell (p := ⟨g, 5, none⟩) hg v5
theorem Blk.set6 {w : World} {g : Nat} {t : TypeId} {a b c d e f : Value} (h : Blk w g t #[a, b, c, d, e, f]) (v0 v1 v2 v3 v4 v5 : Value) : Blk (Go.Proofs.YtocndkhgopjhhaaGreat.set6 w g v0 v1 v2 v3 v4 v5) g t #[v0, v1, v2, v3, v4, v5] := by
  have := (((((h.set_ 0 v0).set_ 1 v1).set_ 2 v2).set_ 3 v3).set_ 4 v4).set_ 5 v5
  simpa [Go.Proofs.YtocndkhgopjhhaaGreat.set6] using this
theorem Blk.cells6 {w : World} {g : Nat} {t : TypeId} {a b c d e f : Value} (h : Blk w g t #[a, b, c, d, e, f]) :
    (w.cell? ⟨g, 0, none⟩ = some a ∧ w.cell? ⟨g, 1, none⟩ = some b ∧ w.cell? ⟨g, 2, none⟩ = some c ∧ w.cell? ⟨g, 3, none⟩ = some d ∧ w.cell? ⟨g, 4, none⟩ = some e ∧ w.cell? ⟨g, 5, none⟩ = some f) ∧
      w.frozen? ⟨g, 0, none⟩ = false ∧ w.frozen? ⟨g, 1, none⟩ = false ∧ w.frozen? ⟨g, 2, none⟩ = false ∧ w.frozen? ⟨g, 3, none⟩ = false ∧ w.frozen? ⟨g, 4, none⟩ = false ∧ w.frozen? ⟨g, 5, none⟩ = false :=
  ⟨⟨h.cell 0, h.cell 1, h.cell 2, h.cell 3, h.cell 4, h.cell 5⟩, h.frozen 0, h.frozen 1, h.frozen 2, h.frozen 3, h.frozen 4, h.frozen 5⟩
theorem results_tcell {fn : Func} {t : Nat} (h : fn.results = #[.cell t 45]) (tmps : Array Value) (w : World) (g : Nat) (v0 v1 v2 v3 v4 v5 : Value)
    (ht : tmps.getD t undef = .pointer (some ⟨g, 0, none⟩)) (hB : Blk w g 45 #[v0, v1, v2, v3, v4, v5]) :
    (results fn tmps).run Tryz.prog w = .ok (.agg #[v0, v1, v2, v3, v4, v5]) w := by
  obtain ⟨⟨c0, c1, c2, c3, c4, c5⟩, _⟩ := hB.cells6
  have ht' : tmps[t]?.getD undef = .pointer (some ⟨g, 0, none⟩) := by simpa using ht
  simp [results, h, ht', go_sem, c0, c1, c2, c3, c4, c5]
theorem cells6_new {w : World} {g : Nat} (hg : g = w.heap.size) (t : TypeId) (v0 v1 v2 v3 v4 v5 : Value) : ∀ j u, [v0, v1, v2, v3, v4, v5][j]? = some u → (w.alloc (.cells #[v0, v1, v2, v3, v4, v5] t)).cell? ((⟨g, 0, none⟩ : Addr).add j) = some u := by
  intro j u hj
  subst hg
  have hb := (Blk.new w t #[v0, v1, v2, v3, v4, v5]).cell j
  have hj6 : j < 6 := by have := (List.getElem?_eq_some_iff.1 hj).1; simpa using this
  have he : (⟨w.heap.size, 0, none⟩ : Addr).add j = ⟨w.heap.size, j, none⟩ := by
    rcases Nat.eq_zero_or_pos j with rfl | h0
    · rfl
    · rw [Addr.add, if_neg (by omega)]; simp
  rw [he, hb]
  simpa using hj

/-- The cells xs are those of the terms of ks, one by one. -/
structure TFlat (R : N → Value → Prop) (xs : List Value) (ks : List N) : Prop where
  len : xs.length = ks.length * 6
  at_ : ∀ (i : Nat) t, ks[i]? = some t → ∃ v0 v1 v2 v3 v4 v5, xs[i * 6]? = some v0 ∧ xs[i * 6 + 1]? = some v1 ∧ xs[i * 6 + 2]? = some v2 ∧ xs[i * 6 + 3]? = some v3 ∧ xs[i * 6 + 4]? = some v4 ∧ xs[i * 6 + 5]? = some v5 ∧ R t (.agg #[v0, v1, v2, v3, v4, v5])
section
variable {R R' : N → Value → Prop} {xs : List Value} {ks : List N}
theorem TFlat.nil : TFlat R [] [] := ⟨rfl, fun i t h => by simp at h⟩
theorem TFlat.mono (h : TFlat R xs ks) (hR : ∀ t v, R t v → R' t v) : TFlat R' xs ks := ⟨h.len, fun i t hi => by
  obtain ⟨v0, v1, v2, v3, v4, v5, a, b, c, d, e, f, g⟩ := h.at_ i t hi
  exact ⟨v0, v1, v2, v3, v4, v5, a, b, c, d, e, f, hR _ _ g⟩⟩
theorem TFlat.push (h : TFlat R xs ks) {t : N} {v0 v1 v2 v3 v4 v5 : Value} (hr : R t (.agg #[v0, v1, v2, v3, v4, v5])) : TFlat R (xs ++ [v0, v1, v2, v3, v4, v5]) (ks ++ [t]) := by
  have hl := h.len
  refine ⟨by simp [hl]; omega, fun i t' hi => ?_⟩
  rcases Nat.lt_or_ge i ks.length with hlt | hge
  · rw [List.getElem?_append_left hlt] at hi
    obtain ⟨u0, u1, u2, u3, u4, u5, a, b, c, d, e, f, g⟩ := h.at_ i t' hi
    exact ⟨u0, u1, u2, u3, u4, u5, by rwa [List.getElem?_append_left (by omega)], by rwa [List.getElem?_append_left (by omega)], by rwa [List.getElem?_append_left (by omega)], by rwa [List.getElem?_append_left (by omega)], by rwa [List.getElem?_append_left (by omega)], by rwa [List.getElem?_append_left (by omega)], g⟩
  · have hi2 := (List.getElem?_eq_some_iff.1 hi).1
    simp only [List.length_append, List.length_cons, List.length_nil] at hi2
    have hie : i = ks.length := by omega
    subst hie
    rw [List.getElem?_append_right (Nat.le_refl _)] at hi
    simp at hi
    subst hi
    refine ⟨v0, v1, v2, v3, v4, v5, ?_, ?_, ?_, ?_, ?_, ?_, hr⟩ <;> (rw [List.getElem?_append_right (by omega), hl]; simp)
end
/-- A row of the call's own that holds terms reads as terms. -/
theorem own_tkids {w : World} {base B d n : Nat} {S : Nat → Prop} {v : Value} {ks : List N} {xs : List Value} (h : w.ownsRow base 45 6 v n xs) (hn : ks.length = n) (hB : n ≤ B) (hf : TFlat (TRep B S w d) xs ks) : TKids B (fun b => S b ∨ v.ownBlock = some b) w d v ks := by
  subst hn
  rcases h.2 with ⟨rfl, hn⟩ | ⟨g, cap, cur, rfl, h3, h4, hnc, hcm, h5⟩
  · have := List.eq_nil_of_length_eq_zero hn
    subst this
    exact ⟨none, 0, rfl, Nat.le_refl _, Nat.zero_le _, hB, by simp⟩
  · refine ⟨_, cap, rfl, hnc, hcm, hB, fun _ => ⟨g, 0, rfl, .inr rfl, (ownsRow_lt h (g := g) rfl).2, fun i t hi => ?_⟩⟩
    obtain ⟨v0, v1, v2, v3, v4, v5, x0, x1, x2, x3, x4, x5, hr⟩ := hf.at_ i t hi
    exact ⟨v0, v1, v2, v3, v4, v5, ownsRow_cell h x0, ownsRow_cell h x1, ownsRow_cell h x2, ownsRow_cell h x3, ownsRow_cell h x4, ownsRow_cell h x5, TRep.keep (Nat.le_refl _) (Nat.le_refl _) (fun _ _ _ => rfl) (fun _ h _ => .inl h) (Nat.le_refl _) _ _ hr⟩

/-- What a call that hands a term out comes to. -/
def TPostW (B : Nat) (S : Nat → Prop) (d : Nat) (t : N) (w : World) (e : Ending) (w' : World) : Prop :=
  ∃ A c A' c', e = .returned (termV t A c A' c') ∧ Ext w w' ∧ TRep B (fun b => S b ∨ w.heap.size ≤ b) w' d t (termV t A c A' c')

set_option maxRecDepth 100000 in
set_option maxHeartbeats 400000 in
theorem over_any {k : Int} {tx : ByteArray} {A : Option Addr} {n c : Nat} {A' : Option Addr} {n' c' : Nat} (w : World) :
    Calls Tryz.prog 94 #[.agg #[.int .i64 (-1), .int .u8 k, .string tx, .int .i64 (-1), .slice A n c, .slice A' n' c']] w fun e w' => e = .returned (.agg #[.int .i64 (-1), .int .u8 k, .string tx, .int .i64 (-1), .slice A n c, .slice A' n' c']) ∧ Ext w w' := by
  have hb := Blk.new' (w.alloc (.cells #[.int .i64 (-1), .int .u8 k, .string tx, .int .i64 (-1), .slice A n c, .slice A' n' c'] 45)) 45 #[.int .i64 (-1), .int .u8 k, .string tx, .int .i64 (-1), .slice A n c, .slice A' n' c'] (n := w.heap.size + 1) (by simp)
  have HB := Lib.hid hb
  clear hb
  go_enter Tryz.func94, Tryz.ntmps94
  go_wp2_with fail
  exact bodyPost_ret (results_tcell rfl _ _ _ _ _ _ _ _ _ rfl HB.out) rfl ⟨rfl, (Ext.alloc' _ _).trans' (Ext.alloc' _ _)⟩
set_option maxRecDepth 100000 in
theorem absent_any (w : World) : Calls Tryz.prog 82 #[] w fun e w' => e = .returned tzAgg ∧ Ext w w' := by
  have HB := Lib.hid (Blk.new w 45 #[.int .i64 (-1), .int .u8 0, .string { data := #[] }, .int .i64 (-1), .slice none 0 0, .slice none 0 0])
  go_enter Tryz.func82, Tryz.ntmps82
  go_wp2_with fail
  exact bodyPost_ret (results_tcell rfl _ _ _ _ _ _ _ _ _ rfl HB.out) rfl ⟨rfl, Ext.alloc' _ _⟩

/-- g5: what is put in, g6: the result, g7: what goes out, g8: what is laid; base: from where on the call's own rows lie. -/
structure TW (B D : Nat) (S : Nat → Prop) (w wr : World) (base g5 g6 g7 g8 : Nat) (xc lc : Array Value) (k : Int) (tx : ByteArray) (mN mK : Nat) (A : Option Addr) (c : Nat) (A' : Option Addr) (c' : Nat) (pN : List ByteArray) (pK : List N) : Prop where
  ext : Ext w wr
  lo : w.heap.size ≤ g6 ∧ w.heap.size ≤ g7 ∧ g5 < base ∧ g6 < base ∧ g7 < base ∧ g8 < base ∧ g5 ≠ g7 ∧ g6 ≠ g7 ∧ g8 ≠ g7 ∧ w.heap.size ≤ base
  b5 : Blk wr g5 45 xc
  b6 : Blk wr g6 45 tz6
  b7 : Blk wr g7 45 #[.int .i64 (-1), .int .u8 k, .string tx, .int .i64 (-1), .slice A mN c, .slice A' mK c']
  b8 : Blk wr g8 45 lc
  nrow : wr.ownsRow base 9 1 (.slice A mN c) mN (pN.map Value.string)
  krow : ∃ xs, wr.ownsRow base 45 6 (.slice A' mK c') mK xs ∧ TFlat (TRep B S w D) xs pK
  lN : pN.length = mN
  lK : pK.length = mK
section
variable {B D : Nat} {S : Nat → Prop} {w wr w1 : World} {base g5 g6 g7 g8 : Nat} {xc lc : Array Value} {k : Int} {tx : ByteArray} {mN mK : Nat} {A : Option Addr} {c : Nat} {A' : Option Addr} {c' : Nat} {pN : List ByteArray} {pK : List N}
theorem TW.grow (h : TW B D S w wr base g5 g6 g7 g8 xc lc k tx mN mK A c A' c' pN pK) (hx : Ext wr w1) : TW B D S w w1 base g5 g6 g7 g8 xc lc k tx mN mK A c A' c' pN pK := by
  obtain ⟨xs, hk, hf⟩ := h.krow
  exact ⟨h.ext.trans' hx, h.lo, h.b5.ext hx, h.b6.ext hx, h.b7.ext hx, h.b8.ext hx, ownsRow_ext h.nrow fun g hg => hx.block g (ownsRow_lt h.nrow hg).2, ⟨xs, ownsRow_ext hk fun g hg => hx.block g (ownsRow_lt hk hg).2, hf⟩, h.lN, h.lK⟩
theorem TW.size (h : TW B D S w wr base g5 g6 g7 g8 xc lc k tx mN mK A c A' c' pN pK) : w.heap.size ≤ wr.heap.size ∧ g5 < wr.heap.size ∧ g6 < wr.heap.size ∧ g7 < wr.heap.size ∧ g8 < wr.heap.size := ⟨h.ext.size, h.b5.lt, h.b6.lt, h.b7.lt, h.b8.lt⟩
theorem TW.cells (h : TW B D S w wr base g5 g6 g7 g8 xc lc k tx mN mK A c A' c' pN pK) : wr.cell? ⟨g7, 4, none⟩ = some (.slice A mN c) ∧ wr.cell? ⟨g7, 5, none⟩ = some (.slice A' mK c') ∧ wr.frozen? ⟨g7, 4, none⟩ = false ∧ wr.frozen? ⟨g7, 5, none⟩ = false ∧ g7 < wr.heap.size :=
  ⟨h.b7.cell 4, h.b7.cell 5, h.b7.frozen 4, h.b7.frozen 5, h.b7.lt⟩
theorem TW.farN (h : TW B D S w wr base g5 g6 g7 g8 xc lc k tx mN mK A c A' c' pN pK) {g : Nat} (hg : g < base) : some g ≠ (Value.slice A mN c).ownBlock := fun e => by have := (ownsRow_lt h.nrow e.symm).1; omega
theorem TW.farK (h : TW B D S w wr base g5 g6 g7 g8 xc lc k tx mN mK A c A' c' pN pK) {g : Nat} (hg : g < base) : some g ≠ (Value.slice A' mK c').ownBlock := fun e => by
  obtain ⟨xs, hk, _⟩ := h.krow
  have := (ownsRow_lt hk e.symm).1
  omega
theorem TW.midN (h : TW B D S w wr base g5 g6 g7 g8 xc lc k tx mN mK A c A' c' pN pK) (hg : wr.grownBy w1 (Value.slice A mN c).ownBlock) : w1.frozen? ⟨g7, 4, none⟩ = false ∧ w1.cell? ⟨g7, 4, none⟩ = some (.slice A mN c) ∧ g7 < w1.heap.size := by
  have hb := h.b7.grown hg (h.farN h.lo.2.2.2.2.1)
  exact ⟨hb.frozen 4, hb.cell 4, hb.lt⟩
theorem TW.midK (h : TW B D S w wr base g5 g6 g7 g8 xc lc k tx mN mK A c A' c' pN pK) (hg : wr.grownBy w1 (Value.slice A' mK c').ownBlock) : w1.frozen? ⟨g7, 5, none⟩ = false ∧ w1.cell? ⟨g7, 5, none⟩ = some (.slice A' mK c') ∧ g7 < w1.heap.size := by
  have hb := h.b7.grown hg (h.farK h.lo.2.2.2.2.1)
  exact ⟨hb.frozen 5, hb.cell 5, hb.lt⟩
theorem TW.pushN (h : TW B D S w wr base g5 g6 g7 g8 xc lc k tx mN mK A c A' c' pN pK) {s : ByteArray} {A3 : Option Addr} {c3 : Nat} (ho : w1.ownsRow base 9 1 (.slice A3 (mN + 1) c3) (mN + 1) (pN.map Value.string ++ [.string s])) (hg : wr.grownBy w1 (Value.slice A mN c).ownBlock) :
    TW B D S w (w1.setCell ⟨g7, 4, none⟩ (.slice A3 (mN + 1) c3)) base g5 g6 g7 g8 xc lc k tx (mN + 1) mK A3 c3 A' c' (pN ++ [s]) pK := by
  obtain ⟨l6, l7, h5b, h6b, h7b, h8b, h57, h67, h87, hb⟩ := h.lo
  obtain ⟨xs, hk, hf⟩ := h.krow
  have hkn : ∀ g, (Value.slice A' mK c').ownBlock = some g → some g ≠ (Value.slice A mN c).ownBlock := fun g hg' e => ownsRow_ne h.nrow hk (by decide) e.symm hg'
  refine ⟨(Ext.grown h.ext hg fun g e => by have := (ownsRow_lt h.nrow e).1; omega).setCell (p := ⟨g7, 4, none⟩) l7 _, h.lo, ?_, ?_, ?_, ?_, ?_, ⟨xs, ?_, hf⟩, by simp [h.lN], h.lK⟩
  · exact (h.b5.grown hg (h.farN h5b)).far (p := ⟨g7, 4, none⟩) h57 _
  · exact (h.b6.grown hg (h.farN h6b)).far (p := ⟨g7, 4, none⟩) h67 _
  · have := (h.b7.grown hg (h.farN h7b)).set_ 4 (.slice A3 (mN + 1) c3)
    simpa using this
  · exact (h.b8.grown hg (h.farN h8b)).far (p := ⟨g7, 4, none⟩) h87 _
  · rw [List.map_append]
    refine ownsRow_ext ho fun g e => Below.heap_setCell _ _ _ _ ?_
    have := (ownsRow_lt ho e).1
    show g ≠ g7
    omega
  · refine ownsRow_ext hk fun g e => (Below.heap_setCell _ _ _ _ ?_).trans (hg.block g (ownsRow_lt hk e).2 (hkn g e))
    have := (ownsRow_lt hk e).1
    show g ≠ g7
    omega
theorem TW.pushK (h : TW B D S w wr base g5 g6 g7 g8 xc lc k tx mN mK A c A' c' pN pK) {t : N} {v0 v1 v2 v3 v4 v5 : Value} (hr : TRep B S w D t (.agg #[v0, v1, v2, v3, v4, v5])) {A3 : Option Addr} {c3 : Nat}
    {xs : List Value} (hxs : TFlat (TRep B S w D) xs pK) (ho : w1.ownsRow base 45 6 (.slice A3 (mK + 1) c3) (mK + 1) (xs ++ [v0, v1, v2, v3, v4, v5])) (hg : wr.grownBy w1 (Value.slice A' mK c').ownBlock) :
    TW B D S w (w1.setCell ⟨g7, 5, none⟩ (.slice A3 (mK + 1) c3)) base g5 g6 g7 g8 xc lc k tx mN (mK + 1) A c A3 c3 pN (pK ++ [t]) := by
  obtain ⟨l6, l7, h5b, h6b, h7b, h8b, h57, h67, h87, hb⟩ := h.lo
  obtain ⟨ys, hk, _⟩ := h.krow
  have hkn : ∀ g, (Value.slice A mN c).ownBlock = some g → some g ≠ (Value.slice A' mK c').ownBlock := fun g hg' e => ownsRow_ne h.nrow hk (by decide) hg' e.symm
  refine ⟨(Ext.grown h.ext hg fun g e => by have := (ownsRow_lt hk e).1; omega).setCell (p := ⟨g7, 5, none⟩) l7 _, h.lo, ?_, ?_, ?_, ?_, ?_, ⟨_, ?_, hxs.push hr⟩, h.lN, by simp [h.lK]⟩
  · exact (h.b5.grown hg (h.farK h5b)).far (p := ⟨g7, 5, none⟩) h57 _
  · exact (h.b6.grown hg (h.farK h6b)).far (p := ⟨g7, 5, none⟩) h67 _
  · have := (h.b7.grown hg (h.farK h7b)).set_ 5 (.slice A3 (mK + 1) c3)
    simpa using this
  · exact (h.b8.grown hg (h.farK h8b)).far (p := ⟨g7, 5, none⟩) h87 _
  · refine ownsRow_ext h.nrow fun g e => (Below.heap_setCell _ _ _ _ ?_).trans (hg.block g (ownsRow_lt h.nrow e).2 (hkn g e))
    have := (ownsRow_lt h.nrow e).1
    show g ≠ g7
    omega
  · refine ownsRow_ext ho fun g e => Below.heap_setCell _ _ _ _ ?_
    have := (ownsRow_lt ho e).1
    show g ≠ g7
    omega
/-- what goes out at the end. -/
theorem TW.fin (h : TW B D S w wr base g5 g6 g7 g8 xc lc k tx mN mK A c A' c' pN pK) (hS : ∀ b, S b → b < w.heap.size) (htx : tx.size ≤ maxLen) (h1 : mN ≤ 4 * B) (h2 : mK ≤ B) (h3 : ∀ s ∈ pN, s.size ≤ maxLen) {t : N} (ht : t = .mk k tx pN pK) :
    TPostW B S (D + 1) t w (.returned (.agg #[.int .i64 (-1), .int .u8 k, .string tx, .int .i64 (-1), .slice A mN c, .slice A' mK c'])) (set6 wr g6 (.int .i64 (-1)) (.int .u8 k) (.string tx) (.int .i64 (-1)) (.slice A mN c) (.slice A' mK c')) := by
  subst ht
  obtain ⟨l6, l7, h5b, h6b, h7b, h8b, h57, h67, h87, hb⟩ := h.lo
  obtain ⟨xs, hk, hf⟩ := h.krow
  have hlN := h.lN
  have hlK := h.lK
  have hx := h.ext.set6 (g := g6) l6 (.int .i64 (-1)) (.int .u8 k) (.string tx) (.int .i64 (-1)) (.slice A mN c) (.slice A' mK c')
  have hn := h.nrow
  rw [← hlN] at hn h1
  have hss := OwnStrs.strs (B := 4 * B) hn h1 h3
  have hkk := own_tkids (B := B) hk hlK h2 (hf.mono fun t v hr => hr.ext h.ext)
  subst hlN hlK
  refine ⟨A, c, A', c', rfl, hx, ?_⟩
  have hne : ∀ b, b ≠ g6 → (set6 wr g6 (.int .i64 (-1)) (.int .u8 k) (.string tx) (.int .i64 (-1)) (.slice A pN.length c) (.slice A' pK.length c')).heap[b]? = wr.heap[b]? := fun b hb => heap_set6 _ _ _ _ _ _ _ _ hb
  refine TRep.of htx (hss.keep (by rw [size_set6]; exact Nat.le_refl _) (fun b e _ => hne b ?_) (fun b e _ => ?_)) (hkk.keep (Nat.le_refl _) (by rw [size_set6]; exact Nat.le_refl _) (fun b e _ => hne b ?_) (fun b e _ => ?_) (Nat.le_refl _))
  · have := (ownsRow_lt hn e).1; omega
  · have := (ownsRow_lt hn e).1; exact .inr (by omega)
  · rcases e with e | e
    · have := hS b e; omega
    · have := (ownsRow_lt hk e).1; omega
  · rcases e with e | e
    · exact .inl e
    · have := (ownsRow_lt hk e).1; exact .inr (by omega)
end
end Go.Proofs.YtocndkhgopjhhaaGreat
