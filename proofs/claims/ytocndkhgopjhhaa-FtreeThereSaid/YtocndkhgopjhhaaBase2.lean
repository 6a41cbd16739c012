/- More words: blocks known whole, what stands at a place, regions that draw at a world itself. -/
import Derived.Test.YtocndkhgopjhhaaBase
import Derived.Laws.Rows
namespace Go.Proofs.Ytocndkhgopjhhaa
open Go.RowKit

/-- Block g is just the cells cs. -/
def Blk (w : World) (g : Nat) (t : TypeId) (cs : Array Value) : Prop := w.heap[g]? = some (.cells cs t (0, 0))
section
variable {w w' : World} {g : Nat} {t : TypeId} {cs : Array Value}
theorem Blk.lt (h : Blk w g t cs) : g < w.heap.size := by
  rcases Nat.lt_or_ge g w.heap.size with hlt | hge
  · exact hlt
  · unfold Blk at h; rw [Array.getElem?_eq_none hge] at h; cases h
theorem Blk.cell (h : Blk w g t cs) (i : Nat) : w.cell? ⟨g, i, none⟩ = cs[i]? := cell_of_row w g i cs t (0, 0) h
theorem Blk.frozen (h : Blk w g t cs) (i : Nat) : w.frozen? ⟨g, i, none⟩ = false := by
  unfold Blk at h
  simp [World.frozen?, h]
theorem Blk.new (w : World) (t : TypeId) (cs : Array Value) : Blk (w.alloc (.cells cs t)) w.heap.size t cs := heap_alloc_new w _
theorem Blk.new' (w : World) (t : TypeId) (cs : Array Value) {n : Nat} (hn : n = w.heap.size) : Blk (w.alloc (.cells cs t)) n t cs := hn ▸ Blk.new w t cs
theorem Blk.drewN (h : Blk w g t cs) (n : Nat) : Blk (w.drewN n) g t cs := h
theorem Blk.alloc (h : Blk w g t cs) (o : Obj) : Blk (w.alloc o) g t cs := (Below.heap_alloc w o g h.lt).trans h
theorem Blk.set_ (h : Blk w g t cs) (i : Nat) (u : Value) : Blk (w.setCell ⟨g, i, none⟩ u) g t (cs.setIfInBounds i u) := by
  unfold Blk at h ⊢
  simp [World.setCell, Array.getElem?_modify, h]
theorem Blk.far (h : Blk w g t cs) {p : Addr} (hp : g ≠ p.block) (u : Value) : Blk (w.setCell p u) g t cs := (Below.heap_setCell w p u g hp).trans h
theorem Blk.ext (h : Blk w g t cs) (hx : Ext w w') : Blk w' g t cs := (hx.block g h.lt).trans h
theorem Blk.up (h : Blk w g t cs) (u : Up w) : Blk u.val g t cs := h.ext u.ext
end

/-- a struct of four cells is stored. -/
def set4 (w : World) (g : Nat) (v0 v1 v2 v3 : Value) : World := (((w.setCell ⟨g, 0, none⟩ v0).setCell ⟨g, 1, none⟩ v1).setCell ⟨g, 2, none⟩ v2).setCell ⟨g, 3, none⟩ v3

/-- Below block number m the world w' is as w was. -/
theorem below_ext {m : Nat} {w w1 w2 : World} (h : Below m w w1) (k : Ext w1 w2) (hm : m ≤ w1.heap.size) : Below m w w2 := h.trans (Below.mono k hm)

theorem wp_region_up0 {P : Program} {id : Nat} {Q : Exit → Act → World → Prop} {a : Act} {l : List Oper} {W : World} (hm : P.follows .mixedOrders = true) (hB : Region.lexB .any l.toArray = true)
    (h : wpQuiet P l.toArray (fun w' => ∃ x : Up W, w' = x.val) (fun a' => ∀ w', (∃ x : Up W, w' = x.val) → Q .normal a' w') l a) : (Code.region id l.toArray true).wp P Q a W :=
  wp_region_quiet (C := fun w' => ∃ x : Up W, w' = x.val) hm hB ⟨⟨{ W with drawn := W.drawn + 1 }, ⟨rfl, rfl, rfl, Nat.le_refl _, fun _ _ => rfl⟩⟩, rfl⟩ (by simpa using h)

/-- Where a text stands among texts, from number j on. -/
def ixFrom (s : ByteArray) : Nat → List ByteArray → Option Nat
  | _, [] => none
  | j, x :: l => if x = s then some j else ixFrom s (j + 1) l
def ixI : Option Nat → Int
  | none => -1
  | some i => i
theorem ixFrom_lt {s : ByteArray} : ∀ {l : List ByteArray} {j i : Nat}, ixFrom s j l = some i → j ≤ i ∧ i < j + l.length ∧ l[i - j]? = some s
  | [], j, i, h => by simp [ixFrom] at h
  | x :: l, j, i, h => by
    rw [ixFrom] at h
    by_cases e : x = s
    · rw [if_pos e] at h
      injection h with h
      subst h e
      refine ⟨Nat.le_refl _, by simp, by simp⟩
    · rw [if_neg e] at h
      obtain ⟨h1, h2, h3⟩ := ixFrom_lt h
      refine ⟨by omega, by simp; omega, ?_⟩
      have : i - j = (i - (j + 1)) + 1 := by omega
      rw [this]; simpa using h3
theorem ixFrom_none {s : ByteArray} : ∀ {l : List ByteArray} {j : Nat}, ixFrom s j l = none ↔ s ∉ l
  | [], j => by simp [ixFrom]
  | x :: l, j => by
    rw [ixFrom]
    by_cases e : x = s
    · rw [if_pos e]; simp [e]
    · rw [if_neg e, ixFrom_none]; simp [Ne.symm e]

/-- What stands at a place. -/
def N.get : N → List ByteArray → Option N
  | t, [] => some t
  | t, s :: r => match ixFrom s 0 t.names with
    | none => none
    | some i => match t.kids[i]? with
      | none => none
      | some k => k.get r
def N.zero : N := .mk 0 { data := #[] } [] []

theorem Rep.mono {B : Nat} {S : Nat → Prop} {w : World} : ∀ {d d' : Nat} {t : N} {v : Value}, d ≤ d' → Rep B S w d t v → Rep B S w d' t v
  | 0, _, _, _, _, h => h.elim
  | d + 1, 0, _, _, hd, _ => by omega
  | d + 1, d' + 1, .mk k tx ns ks, v, hd, h => by
    obtain ⟨nv, A, c, e, htx, hn, h1, h2, hB, h3⟩ := h
    refine ⟨nv, A, c, e, htx, hn, h1, h2, hB, fun hp => ?_⟩
    obtain ⟨b, o, e2, hb, hl, hx⟩ := h3 hp
    refine ⟨b, o, e2, hb, hl, fun i t hi => ?_⟩
    obtain ⟨v0, v1, v2, v3, c0, c1, c2, c3, hr⟩ := hx i t hi
    exact ⟨v0, v1, v2, v3, c0, c1, c2, c3, Rep.mono (by omega) hr⟩
theorem Rep.zero {B : Nat} {S : Nat → Prop} {w : World} {d : Nat} (hd : 0 < d) : Rep B S w d N.zero (.agg #[.int .u8 0, .string { data := #[] }, .slice none 0 0, .slice none 0 0]) := by
  cases d with
  | zero => omega
  | succ d =>
    refine ⟨_, none, 0, rfl, Nat.zero_le _, ⟨none, 0, rfl, Nat.le_refl _, by simp [maxLen], by simp, by simp, by simp⟩, Nat.le_refl _, by simp [maxLen], by simp, by simp⟩

/-- What a look at a place comes to. -/
def GetPost (B : Nat) (S : Nat → Prop) (d : Nat) (o : Option N) (w : World) (e : Ending) (w' : World) : Prop :=
  ∃ v, e = .returned (.tuple #[v, .bool o.isSome]) ∧ Ext w w' ∧ Rep B S w' d (o.getD N.zero) v

theorem N.get_nil (t : N) : t.get [] = some t := by unfold N.get; rfl
theorem N.get_none {t : N} {s : ByteArray} {r : List ByteArray} (h : ixFrom s 0 t.names = none) : t.get (s :: r) = none := by rw [N.get, h]
theorem N.get_some {t : N} {s : ByteArray} {r : List ByteArray} {i : Nat} {k : N} (h : ixFrom s 0 t.names = some i) (hk : t.kids[i]? = some k) : t.get (s :: r) = k.get r := by rw [N.get, h]; simp only [hk]
theorem N.get_out {t : N} {s : ByteArray} {r : List ByteArray} {i : Nat} (h : ixFrom s 0 t.names = some i) (hk : t.kids[i]? = none) : t.get (s :: r) = none := by rw [N.get, h]; simp only [hk]

theorem Ext.set4 {w w1 : World} (h : Ext w w1) {g : Nat} (hg : w.heap.size ≤ g) (v0 v1 v2 v3 : Value) : Ext w (set4 w1 g v0 v1 v2 v3) :=
  (((h.setCell (p := ⟨g, 0, none⟩) hg v0).setCell (p := ⟨g, 1, none⟩) hg v1).setCell (p := ⟨g, 2, none⟩) hg v2).setCell (p := ⟨g, 3, none⟩) hg v3
theorem Blk.set4 {w : World} {g : Nat} {t : TypeId} {a b c d : Value} (h : Blk w g t #[a, b, c, d]) (v0 v1 v2 v3 : Value) : Blk (set4 w g v0 v1 v2 v3) g t #[v0, v1, v2, v3] := by
  have := (((h.set_ 0 v0).set_ 1 v1).set_ 2 v2).set_ 3 v3
  simpa [Go.Proofs.Ytocndkhgopjhhaa.set4] using this
theorem Blk.far4 {w : World} {g g' : Nat} {t : TypeId} {cs : Array Value} (h : Blk w g t cs) (hg : g ≠ g') (v0 v1 v2 v3 : Value) : Blk (Go.Proofs.Ytocndkhgopjhhaa.set4 w g' v0 v1 v2 v3) g t cs :=
  (((h.far (p := ⟨g', 0, none⟩) hg v0).far (p := ⟨g', 1, none⟩) hg v1).far (p := ⟨g', 2, none⟩) hg v2).far (p := ⟨g', 3, none⟩) hg v3
theorem Blk.cells4 {w : World} {g : Nat} {t : TypeId} {a b c d : Value} (h : Blk w g t #[a, b, c, d]) :
    w.cell? ⟨g, 0, none⟩ = some a ∧ w.cell? ⟨g, 1, none⟩ = some b ∧ w.cell? ⟨g, 2, none⟩ = some c ∧ w.cell? ⟨g, 3, none⟩ = some d ∧
      w.frozen? ⟨g, 0, none⟩ = false ∧ w.frozen? ⟨g, 1, none⟩ = false ∧ w.frozen? ⟨g, 2, none⟩ = false ∧ w.frozen? ⟨g, 3, none⟩ = false :=
  ⟨h.cell 0, h.cell 1, h.cell 2, h.cell 3, h.frozen 0, h.frozen 1, h.frozen 2, h.frozen 3⟩

end Go.Proofs.Ytocndkhgopjhhaa
