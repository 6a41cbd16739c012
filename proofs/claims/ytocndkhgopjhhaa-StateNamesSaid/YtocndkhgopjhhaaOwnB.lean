/- Rows of nodes and of names that a call owns. -/
import Derived.Test.YtocndkhgopjhhaaBase2
import Derived.Test.YtocndkhgopjhhaaApp
namespace Go.Proofs.Ytocndkhgopjhhaa
open Go.RowKit

theorem ownsRow_ext {w w' : World} {base : Nat} {e : TypeId} {size : Nat} {v : Value} {n : Nat} {xs : List Value} (h : w.ownsRow base e size v n xs) (hx : ∀ g, v.ownBlock = some g → w'.heap[g]? = w.heap[g]?) : w'.ownsRow base e size v n xs := by
  refine ⟨h.1, ?_⟩
  rcases h.2 with h2 | ⟨g, cap, cur, rfl, h3, h4, h5⟩
  · exact .inl h2
  · exact .inr ⟨g, cap, cur, rfl, h3, (hx g rfl).trans h4, h5⟩
theorem ownsRow_lt {w : World} {base : Nat} {e : TypeId} {size : Nat} {v : Value} {n : Nat} {xs : List Value} (h : w.ownsRow base e size v n xs) {g : Nat} (hg : v.ownBlock = some g) : base ≤ g ∧ g < w.heap.size := by
  rcases h.2 with ⟨rfl, _⟩ | ⟨g', cap, cur, rfl, h3, h4, h5⟩
  · cases hg
  · simp [Value.ownBlock] at hg
    subst hg
    refine ⟨h3, ?_⟩
    rcases Nat.lt_or_ge g' w.heap.size with h | h
    · exact h
    · rw [Array.getElem?_eq_none h] at h4; cases h4
theorem ownsRow_mono {w : World} {base base' : Nat} {e : TypeId} {size : Nat} {v : Value} {n : Nat} {xs : List Value} (h : w.ownsRow base e size v n xs) (hb : base' ≤ base) : w.ownsRow base' e size v n xs := by
  refine ⟨h.1, ?_⟩
  rcases h.2 with h2 | ⟨g, cap, cur, rfl, h3, h4, h5⟩
  · exact .inl h2
  · exact .inr ⟨g, cap, cur, rfl, by omega, h4, h5⟩
/-- No cell of a block is frozen. -/
def Nfz (w : World) (b : Nat) : Prop := ∀ o, w.frozen? ⟨b, o, none⟩ = false
theorem Nfz.same {w w' : World} {b : Nat} (h : Nfz w b) (hb : w'.heap[b]? = w.heap[b]?) : Nfz w' b := fun o => (World.frozen?_of_block (a := ⟨b, o, none⟩) hb).trans (h o)
theorem ownsRow_nfz {w : World} {base : Nat} {e : TypeId} {size : Nat} {v : Value} {n : Nat} {xs : List Value} (h : w.ownsRow base e size v n xs) {g : Nat} (hg : v.ownBlock = some g) : Nfz w g := by
  rcases h.2 with ⟨rfl, _⟩ | ⟨g', cap, cur, rfl, h3, h4, h5⟩
  · cases hg
  · simp [Value.ownBlock] at hg
    subst hg
    intro o
    simp [World.frozen?, h4]

theorem ownsRow_cell {w : World} {base : Nat} {e : TypeId} {size : Nat} {g n cap : Nat} {xs : List Value} (h : w.ownsRow base e size (.slice (some ⟨g, 0, none⟩) n cap) n xs) {j : Nat} {u : Value} (hj : xs[j]? = some u) : w.cell? ⟨g, 0 + j, none⟩ = some u := by
  have := h.cells (g := g) rfl j u hj
  rcases Nat.eq_zero_or_pos j with rfl | h0
  · simpa [Addr.add] using this
  · rw [Addr.add, if_neg (by omega)] at this; exact this

/-- 'The row v of the call's own holds the names ns'. -/
abbrev OwnStrs (w : World) (base : Nat) (v : Value) (ns : List ByteArray) : Prop := w.ownsRow base 9 1 v ns.length (ns.map Value.string)

theorem OwnStrs.strs {w : World} {base B : Nat} {v : Value} {ns : List ByteArray} (h : OwnStrs w base v ns) (hB : ns.length ≤ B) (hs : ∀ s ∈ ns, s.size ≤ maxLen) : Strs B (fun b => v.ownBlock = some b) w v ns := by
  rcases h.2 with ⟨rfl, hn⟩ | ⟨g, cap, cur, rfl, h3, h4, hnc, hcm, h5⟩
  · have := List.eq_nil_of_length_eq_zero hn
    subst this
    exact ⟨none, 0, rfl, Nat.le_refl _, Nat.zero_le _, hB, hs, by simp⟩
  · refine ⟨_, cap, rfl, hnc, hcm, hB, hs, fun _ => ⟨g, 0, rfl, rfl, (ownsRow_lt h (g := g) rfl).2, fun i s hi => ownsRow_cell h (by simp [hi])⟩⟩

/-- 'The row v of the call's own holds the nodes ks', whose own memory lies in T, the row not in it. -/
def OwnKids (B : Nat) (T : Nat → Prop) (w : World) (d base : Nat) (v : Value) (ks : List N) : Prop :=
  ∃ xs, w.ownsRow base 25 4 v ks.length xs ∧ (∀ g, v.ownBlock = some g → ¬ T g) ∧ ∀ i t, ks[i]? = some t →
    ∃ v0 v1 v2 v3, xs[i * 4]? = some v0 ∧ xs[i * 4 + 1]? = some v1 ∧ xs[i * 4 + 2]? = some v2 ∧ xs[i * 4 + 3]? = some v3 ∧ Rep B T w d t (.agg #[v0, v1, v2, v3])

theorem OwnKids.nil {B : Nat} {T : Nat → Prop} {w : World} {d base : Nat} : OwnKids B T w d base (.slice none 0 0) [] :=
  ⟨[], World.ownsRow_nil w base _ 4, (fun _ h => by cases h), (fun i t h => by simp at h)⟩

theorem OwnKids.kids {B : Nat} {T : Nat → Prop} {w : World} {d base : Nat} {v : Value} {ks : List N} (h : OwnKids B T w d base v ks) (hB : ks.length ≤ B) : Kids B (fun b => T b ∨ v.ownBlock = some b) w d v ks := by
  obtain ⟨xs, ho, hT, hk⟩ := h
  rcases ho.2 with ⟨rfl, hn⟩ | ⟨g, cap, cur, rfl, h3, h4, hnc, hcm, h5⟩
  · have := List.eq_nil_of_length_eq_zero hn
    subst this
    exact ⟨none, 0, rfl, Nat.le_refl _, Nat.zero_le _, hB, by simp⟩
  · refine ⟨_, cap, rfl, hnc, hcm, hB, fun _ => ⟨g, 0, rfl, .inr rfl, (ownsRow_lt ho (g := g) rfl).2, fun i t hi => ?_⟩⟩
    obtain ⟨v0, v1, v2, v3, x0, x1, x2, x3, hr⟩ := hk i t hi
    have c0 := ownsRow_cell ho x0
    have c1 := ownsRow_cell ho x1
    have c2 := ownsRow_cell ho x2
    have c3 := ownsRow_cell ho x3
    refine ⟨v0, v1, v2, v3, c0, c1, c2, c3, Rep.keep (Nat.le_refl _) (fun _ _ _ => rfl) (fun _ h _ => .inl h) _ _ _ hr⟩

theorem OwnKids.ext {B : Nat} {T T' : Nat → Prop} {w w' : World} {d base : Nat} {v : Value} {ks : List N} (h : OwnKids B T w d base v ks) (hx : Ext w w') (hT : ∀ b, T b → b < w.heap.size → T' b) (hT' : ∀ g, v.ownBlock = some g → ¬ T' g) : OwnKids B T' w' d base v ks := by
  obtain ⟨xs, ho, _, hk⟩ := h
  refine ⟨xs, ownsRow_ext ho fun g hg => hx.block g (ownsRow_lt ho hg).2, hT', fun i t hi => ?_⟩
  obtain ⟨v0, v1, v2, v3, x0, x1, x2, x3, hr⟩ := hk i t hi
  exact ⟨v0, v1, v2, v3, x0, x1, x2, x3, Rep.keep hx.size (fun _ _ hb => hx.block _ hb) hT _ _ _ hr⟩

theorem OwnKids.push {B : Nat} {T : Nat → Prop} {w w' : World} {d base : Nat} {v v' : Value} {ks : List N} {t : N} {v0 v1 v2 v3 : Value} {n : Nat} (hn : n = ks.length) {xs : List Value} (ho : w.ownsRow base 25 4 v n xs) (hT : ∀ g, v.ownBlock = some g → ¬ T g)
    (hk : ∀ i t, ks[i]? = some t → ∃ v0 v1 v2 v3, xs[i * 4]? = some v0 ∧ xs[i * 4 + 1]? = some v1 ∧ xs[i * 4 + 2]? = some v2 ∧ xs[i * 4 + 3]? = some v3 ∧ Rep B T w d t (.agg #[v0, v1, v2, v3]))
    (hlt : ∀ b, T b → b < w.heap.size) (hr : Rep B T w d t (.agg #[v0, v1, v2, v3]))
    (ho' : w'.ownsRow base 25 4 v' (n + 1) (xs ++ [v0, v1, v2, v3])) (hg : w.grownBy w' v.ownBlock) (hat : At w v v') : OwnKids B T w' d base v' (ks ++ [t]) := by
  subst hn
  have keep : ∀ t v, Rep B T w d t v → Rep B T w' d t v := fun t u hu => Rep.keep hg.size (fun b hb hl => hg.block b hl fun e => hT b e.symm hb) (fun _ h _ => h) _ _ _ hu
  refine ⟨xs ++ [v0, v1, v2, v3], by simpa using ho', ?_, ?_⟩
  · intro g hv' hTg
    rcases hat with e | e
    · exact hT g (by rw [← e]; exact hv') hTg
    · have := e g hv'; have := hlt g hTg; omega
  · intro i t' hi
    by_cases hil : i < ks.length
    · rw [List.getElem?_append_left hil] at hi
      obtain ⟨u0, u1, u2, u3, x0, x1, x2, x3, hr'⟩ := hk i t' hi
      have hxl := ho.1
      refine ⟨u0, u1, u2, u3, ?_, ?_, ?_, ?_, keep _ _ hr'⟩ <;> (rw [List.getElem?_append_left (by omega)]; assumption)
    · have hie : i = ks.length := by
        have : i < (ks ++ [t]).length := (List.getElem?_eq_some_iff.1 hi).1
        simp at this; omega
      subst hie
      simp at hi
      subst hi
      have hxl := ho.1
      refine ⟨v0, v1, v2, v3, ?_, ?_, ?_, ?_, keep _ _ hr⟩ <;> (rw [List.getElem?_append_right (by omega), hxl]; simp)

theorem ownsRow_form {w : World} {base : Nat} {e : TypeId} {size : Nat} {v : Value} {n : Nat} {xs : List Value} (h : w.ownsRow base e size v n xs) : ∃ A c, v = .slice A n c := by
  rcases h.2 with ⟨rfl, rfl⟩ | ⟨g, cap, cur, rfl, _⟩
  · exact ⟨none, 0, rfl⟩
  · exact ⟨_, cap, rfl⟩

theorem Blk.set2 {w : World} {g : Nat} {t : TypeId} {a b c d : Value} (h : Blk w g t #[a, b, c, d]) (u : Value) : Blk (w.setCell ⟨g, 2, none⟩ u) g t #[a, b, u, d] := by
  simpa using h.set_ 2 u
theorem Blk.set3 {w : World} {g : Nat} {t : TypeId} {a b c d : Value} (h : Blk w g t #[a, b, c, d]) (u : Value) : Blk (w.setCell ⟨g, 3, none⟩ u) g t #[a, b, c, u] := by
  simpa using h.set_ 3 u
theorem Ext.set1 {w w1 : World} (h : Ext w w1) {p : Addr} (hp : w.heap.size ≤ p.block) (u : Value) : Ext w (w1.setCell p u) := h.setCell hp u

/-- four cells laid in a new block are there. -/
theorem cells4_new (w : World) (t : TypeId) (v0 v1 v2 v3 : Value) : ∀ j u, [v0, v1, v2, v3][j]? = some u → (w.alloc (.cells #[v0, v1, v2, v3] t)).cell? ((⟨w.heap.size, 0, none⟩ : Addr).add j) = some u := by
  intro j u hj
  match j, hj with
  | 0, hj => simp at hj; subst hj; simp [Addr.add]
  | 1, hj => simp at hj; subst hj; simp [Addr.add]
  | 2, hj => simp at hj; subst hj; simp [Addr.add]
  | 3, hj => simp at hj; subst hj; simp [Addr.add]
  | j + 4, hj => simp at hj

theorem Ext.grown {w w1 w2 : World} (h : Ext w w1) {row : Option Nat} (hg : w1.grownBy w2 row) (hr : ∀ g, row = some g → w.heap.size ≤ g) : Ext w w2 := Below.grown h hg h.size hr
theorem Blk.grown {w w' : World} {g : Nat} {t : TypeId} {cs : Array Value} {row : Option Nat} (h : Blk w g t cs) (hb : w.grownBy w' row) (hg : some g ≠ row) : Blk w' g t cs := (hb.block g h.lt hg).trans h

theorem heap_set4 (w : World) (g : Nat) (v0 v1 v2 v3 : Value) {b : Nat} (hb : b ≠ g) : (set4 w g v0 v1 v2 v3).heap[b]? = w.heap[b]? := by
  unfold set4
  rw [Below.heap_setCell _ _ _ _ (by exact hb), Below.heap_setCell _ _ _ _ (by exact hb), Below.heap_setCell _ _ _ _ (by exact hb), Below.heap_setCell _ _ _ _ (by exact hb)]
theorem size_set4 (w : World) (g : Nat) (v0 v1 v2 v3 : Value) : (set4 w g v0 v1 v2 v3).heap.size = w.heap.size := by simp [set4, World.setCell]

/-- The end of such a loop: the node that was made reads as the one that was copied. -/
theorem copy_end {B d base : Nat} {w wr F : World} {T : Nat → Prop} {k : Int} {tx : ByteArray} {ns : List ByteArray} {ks : List N} {nv kv : Value} (htx : tx.size ≤ maxLen) (hB : ks.length ≤ B) (hbase : w.heap.size ≤ base)
    (hs : Strs (4 * B) T wr nv ns) (ho : OwnKids B T wr d base kv ks) (hlt : ∀ b, T b → base ≤ b ∧ b < wr.heap.size ∧ Nfz wr b) (hz : wr.heap.size ≤ F.heap.size) (hF : ∀ b, base ≤ b → b < wr.heap.size → F.heap[b]? = wr.heap[b]?) :
    Rep B (fun b => w.heap.size ≤ b ∧ Nfz F b) F (d + 1) (.mk k tx ns ks) (.agg #[.int .u8 k, .string tx, nv, kv]) := by
  refine Rep.join htx ?_ ?_
  · exact hs.keep hz (fun b hb hl => hF b (hlt b hb).1 hl) (fun b hb hl => by have := (hlt b hb).1; exact ⟨by omega, (hlt b hb).2.2.same (hF b this hl)⟩)
  · have hrow : ∀ g, kv.ownBlock = some g → base ≤ g ∧ Nfz wr g := by obtain ⟨xs, h, _⟩ := ho; exact fun g hg => ⟨(ownsRow_lt h hg).1, ownsRow_nfz h hg⟩
    have hb : ∀ b, (T b ∨ kv.ownBlock = some b) → base ≤ b ∧ Nfz wr b := by
      rintro b (h | h)
      · exact ⟨(hlt b h).1, (hlt b h).2.2⟩
      · exact hrow b h
    exact (ho.kids hB).keep hz (fun b h hl => hF b (hb b h).1 hl) (fun b h hl => by have := hb b h; exact ⟨by omega, this.2.same (hF b this.1 hl)⟩)

/-- One round of a loop that puts a new node behind the others. -/
theorem round_push {B d base : Nat} {w wr w2 w3 : World} {T : Nat → Prop} {v v' : Value} {ks : List N} {j : Nat} {xs : List Value} {Y : Obj} {t : N} {v0 v1 v2 v3 : Value}
    (ht : ks[j]? = some t) (hbase : w.heap.size ≤ base) (hbr : base ≤ wr.heap.size) (hx : Ext w wr) (ho : wr.ownsRow base 25 4 v (ks.take j).length xs) (hT : ∀ g, v.ownBlock = some g → ¬ T g)
    (hk : ∀ i t, (ks.take j)[i]? = some t → ∃ v0 v1 v2 v3, xs[i * 4]? = some v0 ∧ xs[i * 4 + 1]? = some v1 ∧ xs[i * 4 + 2]? = some v2 ∧ xs[i * 4 + 3]? = some v3 ∧ Rep B T wr d t (.agg #[v0, v1, v2, v3]))
    (hlt : ∀ b, T b → base ≤ b ∧ b < wr.heap.size ∧ Nfz wr b) (hx2 : Ext wr w2) {S2 : Nat → Prop} (hS2 : ∀ b, S2 b → wr.heap.size ≤ b ∧ Nfz w2 b) (hr2 : Rep B S2 w2 d t (.agg #[v0, v1, v2, v3]))
    (ho' : w3.ownsRow base 25 4 v' (j + 1) (xs ++ [v0, v1, v2, v3])) (hg : (w2.alloc Y).grownBy w3 v.ownBlock) (hat : At (w2.alloc Y) v v') :
    ∃ T' : Nat → Prop, Ext w w3 ∧ (∀ g ty cs, g < base → Blk wr g ty cs → Blk w3 g ty cs) ∧ (∀ Bn u ns, Strs Bn T wr u ns → Strs Bn T' w3 u ns) ∧ OwnKids B T' w3 d base v' (ks.take (j + 1)) ∧ (∀ b, T' b → base ≤ b ∧ b < w3.heap.size ∧ Nfz w3 b) := by
  have hjl : j < ks.length := (List.getElem?_eq_some_iff.1 ht).1
  have htl : (ks.take j).length = j := by rw [List.length_take]; omega
  have hxY : Ext wr (w2.alloc Y) := hx2.trans' (Ext.alloc' _ _)
  have hzY : (w2.alloc Y).heap.size = w2.heap.size + 1 := by simp
  have hz2 := hx2.size
  have hz3 := hg.size
  have hrow : ∀ g, v.ownBlock = some g → base ≤ g ∧ g < wr.heap.size := fun g h => ownsRow_lt ho h
  have same : ∀ b, T b → w3.heap[b]? = wr.heap[b]? := fun b hb => by
    have hl := (hlt b hb).2.1
    rw [hg.block b (by omega) (fun e => hT b e.symm hb), hxY.block b hl]
  have same2 : ∀ b, wr.heap.size ≤ b → b < w2.heap.size → w3.heap[b]? = w2.heap[b]? := fun b h1 h2 => by
    rw [hg.block b (by omega) (fun e => by have := hrow b e.symm; omega), Below.heap_alloc _ _ _ h2]
  refine ⟨fun b => T b ∨ (wr.heap.size ≤ b ∧ b < w2.heap.size ∧ Nfz w2 b), (hx.trans' hxY).grown hg (fun g h => by have := hrow g h; omega), ?_, ?_, ?_, ?_⟩
  · intro g ty cs hgb hB
    exact (hB.ext hxY).grown hg fun e => by have := hrow g e.symm; omega
  · intro Bn u ns hs
    exact hs.keep (by omega) (fun b hb _ => same b hb) (fun b hb _ => .inl hb)
  · have htk : ks.take (j + 1) = ks.take j ++ [t] := by
      rw [List.take_add_one, ht]; rfl
    rw [htk]
    refine OwnKids.push (w := w2.alloc Y) htl.symm (xs := xs) ?_ ?_ ?_ ?_ ?_ ho' hg hat
    · rw [htl] at ho
      exact ownsRow_ext ho fun g h => hxY.block g (hrow g h).2
    · rintro g h (h' | ⟨h', _⟩)
      · exact hT g h h'
      · have := (hrow g h).2; omega
    · intro i t' hi
      obtain ⟨u0, u1, u2, u3, x0, x1, x2, x3, hr⟩ := hk i t' hi
      exact ⟨u0, u1, u2, u3, x0, x1, x2, x3, Rep.keep hxY.size (fun _ _ hb => hxY.block _ hb) (fun _ h _ => .inl h) _ _ _ hr⟩
    · rintro b (h | ⟨_, h, _⟩)
      · have := (hlt b h).2.1; omega
      · omega
    · exact Rep.keep (by omega) (fun b _ hb => Below.heap_alloc _ _ _ hb) (fun b hb hl => .inr ⟨(hS2 b hb).1, hl, (hS2 b hb).2⟩) _ _ _ hr2
  · rintro b (h | ⟨h1, h2, h3⟩)
    · have := hlt b h
      exact ⟨this.1, by omega, this.2.2.same (same b h)⟩
    · exact ⟨by omega, by omega, h3.same (same2 b h1 h2)⟩

/-- What a copy of a node comes to: a node in blocks that the call made. -/
def OwnPost (B d : Nat) (t : N) (w : World) (e : Ending) (w' : World) : Prop :=
  ∃ A c A' c', e = .returned (.agg #[.int .u8 t.kind, .string t.text, .slice A t.names.length c, .slice A' t.kids.length c']) ∧ Ext w w' ∧
    Rep B (fun b => w.heap.size ≤ b ∧ Nfz w' b) w' d t (.agg #[.int .u8 t.kind, .string t.text, .slice A t.names.length c, .slice A' t.kids.length c'])

end Go.Proofs.Ytocndkhgopjhhaa
