/- '(*Tree).set': what it does at the parent: where the name stands already. -/
import Derived.Test.YtocndkhgopjhhaaProg
import Derived.Test.YtocndkhgopjhhaaFlat
import Derived.Test.YtocndkhgopjhhaaTreeB
import Derived.Test.YtocndkhgopjhhaaBase
import Derived.Outline
namespace Go.Proofs.Ytocndkhgopjhhaa
open Go.RowKit

/-- What a change of a node comes to: a node in the blocks that were there, and in new ones. -/
def ChgPost (B : Nat) (S : Nat → Prop) (d : Nat) (t : N) (w : World) (e : Ending) (w' : World) : Prop :=
  ∃ A c A' c', e = .returned (.agg #[.int .u8 t.kind, .string t.text, .slice A t.names.length c, .slice A' t.kids.length c']) ∧ Ext w w' ∧
    Rep B (fun b => S b ∨ w.heap.size ≤ b) w' d t (.agg #[.int .u8 t.kind, .string t.text, .slice A t.names.length c, .slice A' t.kids.length c'])

/-- a node that is known by its cells, boxed, its kids' cell written over, read again -/
theorem blk3 {w : World} {g : Nat} {t : TypeId} {a b c d : Value} (h : Blk w g t #[a, b, c, d]) (u : Value) : (w.setCell ⟨g, 3, none⟩ u).cell? ⟨g, 3, none⟩ = some u := (h.set3 u).cell 3

/-- four cells of a row of the call's own are written over. -/
def setAt4 (w : World) (g o : Nat) (v0 v1 v2 v3 : Value) : World := (((w.setCell ⟨g, o, none⟩ v0).setCell ⟨g, o + 1, none⟩ v1).setCell ⟨g, o + 2, none⟩ v2).setCell ⟨g, o + 3, none⟩ v3
theorem heap_setAt4 (w : World) (g o : Nat) (v0 v1 v2 v3 : Value) {b : Nat} (hb : b ≠ g) : (setAt4 w g o v0 v1 v2 v3).heap[b]? = w.heap[b]? := by
  unfold setAt4
  rw [Below.heap_setCell _ _ _ _ (by exact hb), Below.heap_setCell _ _ _ _ (by exact hb), Below.heap_setCell _ _ _ _ (by exact hb), Below.heap_setCell _ _ _ _ (by exact hb)]
theorem size_setAt4 (w : World) (g o : Nat) (v0 v1 v2 v3 : Value) : (setAt4 w g o v0 v1 v2 v3).heap.size = w.heap.size := by simp [setAt4, World.setCell]
theorem Ext.setAt4 {w w1 : World} (h : Ext w w1) {g : Nat} (hg : w.heap.size ≤ g) (o : Nat) (v0 v1 v2 v3 : Value) : Ext w (setAt4 w1 g o v0 v1 v2 v3) :=
  (((h.setCell (p := ⟨g, o, none⟩) hg v0).setCell (p := ⟨g, o + 1, none⟩) hg v1).setCell (p := ⟨g, o + 2, none⟩) hg v2).setCell (p := ⟨g, o + 3, none⟩) hg v3
theorem Blk.farAt4 {w : World} {g g' o : Nat} {t : TypeId} {cs : Array Value} (h : Blk w g t cs) (hg : g ≠ g') (v0 v1 v2 v3 : Value) : Blk (Go.Proofs.Ytocndkhgopjhhaa.setAt4 w g' o v0 v1 v2 v3) g t cs := (heap_setAt4 w g' o v0 v1 v2 v3 hg).trans h
theorem row_setAt4 {w : World} {base g n cap : Nat} {xs : List Value} (h : w.ownsRow base 25 4 (.slice (some ⟨g, 0, none⟩) n cap) n xs) (o : Nat) (v0 v1 v2 v3 : Value) :
    (setAt4 w g o v0 v1 v2 v3).ownsRow base 25 4 (.slice (some ⟨g, 0, none⟩) n cap) n ((((xs.set o v0).set (o + 1) v1).set (o + 2) v2).set (o + 3) v3) :=
  ((((h.stored o v0).1.stored (o + 1) v1).1.stored (o + 2) v2).1.stored (o + 3) v3).1

/-- the row of nodes with one set. -/
theorem RowKids.keep {B : Nat} {T T' : Nat → Prop} {w F : World} {d base : Nat} {v : Value} {ks : List N} (h : RowKids B T w d base v ks) (hz : w.heap.size ≤ F.heap.size) (hT : ∀ b, T b → b < w.heap.size → F.heap[b]? = w.heap[b]?) (hTT : ∀ b, T b → b < w.heap.size → T' b) (hg : ∀ g, v.ownBlock = some g → F.heap[g]? = w.heap[g]?) : RowKids B T' F d base v ks := by
  obtain ⟨xs, ho, hf⟩ := h
  exact ⟨xs, ownsRow_ext ho hg, hf.mono fun t v hr => Rep.keep hz hT hTT _ _ _ hr⟩
theorem RowKids.set {B : Nat} {T T' : Nat → Prop} {w F : World} {d d' base g n c : Nat} {ks : List N} {i : Nat} {x : N} {v0 v1 v2 v3 : Value} (hn : n = ks.length) (h : RowKids B T w d base (.slice (some ⟨g, 0, none⟩) n c) ks) (hi : i < ks.length)
    (hF : F = setAt4 w g (i * 4) v0 v1 v2 v3) (hT : ∀ b, T b → b < w.heap.size → T' b ∧ b ≠ g) (hd : d ≤ d') (hx : Rep B T' F d' x (.agg #[v0, v1, v2, v3])) : RowKids B T' F d' base (.slice (some ⟨g, 0, none⟩) n c) (ks.set i x) := by
  subst hn
  obtain ⟨xs, ho, hf⟩ := h
  subst hF
  refine ⟨_, by rw [List.length_set]; exact row_setAt4 ho (i * 4) v0 v1 v2 v3, Flat.set (hf.mono fun t v hr => ?_) hi hx⟩
  exact Rep.mono hd (Rep.keep (by rw [size_setAt4]; exact Nat.le_refl _) (fun b hb hl => heap_setAt4 w g _ _ _ _ _ (hT b hb hl).2) (fun b hb hl => (hT b hb hl).1) _ _ _ hr)

/-- where the cells xs of a slice of nodes stand. -/
def KSrc (w : World) (v : Value) (xs : List Value) : Prop := ∃ A n c, v = .slice A n c ∧ xs.length = n * 4 ∧ (∀ a, A = some a → 0 < n → a.block < w.heap.size) ∧ (0 < n → ∃ ad, A = some ad ∧ ∀ j u, xs[j]? = some u → w.cell? (ad.add j) = some u)
theorem KSrc.up {w W : World} {v : Value} {xs : List Value} (h : KSrc w v xs) (hx : Ext w W) : KSrc W v xs := by
  obtain ⟨A, n, c, rfl, hl, hA, hs⟩ := h
  exact ⟨A, n, c, rfl, hl, fun a e hn => Nat.lt_of_lt_of_le (hA a e hn) hx.size, srcK_up hA hs hx⟩
/-- slices.Clone at nodes: their very cells. -/
theorem cloneKX {B : Nat} (hB : B ≤ 2199023255552) {S : Nat → Prop} {w W : World} {d : Nat} {A : Option Addr} {c : Nat} {ks : List N} {xs : List Value} (h : Kids B S w d (.slice A ks.length c) ks) (hs : KSrc w (.slice A ks.length c) xs) (hx : Ext w W) (h1 : ∀ u ∈ xs, u.oneCell' = true) :
    Calls Try.prog 106 #[.slice A ks.length c] W fun e w' => ∃ A' c', e = .returned (.slice A' ks.length c') ∧ w'.ownsRow W.heap.size 25 4 (.slice A' ks.length c') ks.length xs ∧ Ext W w' := by
  obtain ⟨A0, n, c0, e, hl, hA, hc⟩ := hs.up hx
  injection e with e1 e2 e3
  subst e1 e2 e3
  obtain ⟨_, _, _, _, _, hb, _⟩ := h
  exact cloneK_walk hl hA hc h1 (by omega)

set_option maxRecDepth 100000 in
set_option maxHeartbeats 2000000 in
theorem set1_found {B : Nat} (hB : B ≤ 2199023255552) {S : Nat → Prop} {w : World} {d dx : Nat} {k : Int} {tx : ByteArray} {ns : List ByteArray} {ks : List N} {v : Value} (h : Rep B S w d (.mk k tx ns ks) v) {i : Nat} (hi : i < ks.length)
    {bx bs : Nat} {x : N} {x0 x1 x2 x3 : Value} (hb : Blk w bx 25 #[x0, x1, x2, x3]) (hx : Rep B S w dx x (.agg #[x0, x1, x2, x3])) :
    Calls Try.prog 139 #[v, .int .i64 i, .bool true, .pointer (some ⟨bx, 0, none⟩), .pointer (some ⟨bs, 0, none⟩)] w (ChgPost B S (d + dx) (.mk k tx ns (ks.set i x)) w) := by
  cases d with
  | zero => exact h.elim
  | succ d =>
    obtain ⟨nv, kv, rfl, htx, hn, hk⟩ := h.split
    have HN := Lib.hid hn
    have HK := Lib.hid (hk.keep (S' := fun b => S b ∧ b < w.heap.size) (Nat.le_refl _) (fun _ _ _ => rfl) (fun b h hl => ⟨h, hl⟩))
    have HX := Lib.hid hx
    have Htx := Lib.hid htx
    obtain ⟨A', c', rfl, hc, hm, hl, _⟩ := hk
    obtain ⟨A, c, rfl, _⟩ := hn
    obtain ⟨Ax, cx, Ax', cx', rfl, rfl, rfl, rfl⟩ := hx.shape
    obtain ⟨p0, p1, p2, p3, f0, f1, f2, f3⟩ := hb.cells4
    have hbl := hb.lt
    have HB := Lib.hid hb
    unfold maxLen at hm
    clear hb hx htx h
    go_enter Try.func139, Try.ntmps139
    go_wp2_with fail
    refine (cloneN_any hB ((HK.out.alloc _).alloc _)).mono ?_
    rintro e w1 ⟨A1, c1, rfl, hrow, hx1⟩
    obtain ⟨xs, ho, hf⟩ := hrow
    rcases ho.2 with ⟨e, hn⟩ | ⟨g, cap, cur, e, h3, h4, hnc, hcm, h5⟩
    · omega
    injection e with e1 _ e2
    subst e1 e2
    have Hx1 := Lib.hid hx1
    have HO := Lib.hid ho
    have HF := Lib.hid hf
    have hb0 := ((Blk.new w 25 #[.int .u8 k, .string tx, .slice A ns.length c, .slice A' ks.length c']).alloc (.cells #[.int .u8 0, .string { data := #[] }, .slice none 0 0, .slice none 0 0] 25)).ext hx1
    have hb1 := (Blk.new' (w.alloc (.cells #[.int .u8 k, .string tx, .slice A ns.length c, .slice A' ks.length c'] 25)) 25 #[.int .u8 0, .string { data := #[] }, .slice none 0 0, .slice none 0 0] (n := w.heap.size + 1) (by simp)).ext hx1
    have hb2 := ((HB.out.alloc _).alloc _).ext hx1
    simp only [World.size_alloc] at h3
    have hg0 : w.heap.size < w1.heap.size := hb0.lt
    have hg1 : w.heap.size + 1 < w1.heap.size := hb1.lt
    have hgl : g < w1.heap.size := (ownsRow_lt ho (g := g) rfl).2
    have HB0 := Lib.hid hb0
    have HB1 := Lib.hid hb1
    have HB2 := Lib.hid hb2
    obtain ⟨q0, q1, q2, q3, e0, e1, e2, e3⟩ := hb0.cells4
    obtain ⟨r0, r1, r2, r3, g0, g1, g2, g3⟩ := hb1.cells4
    obtain ⟨s0, s1, s2, s3, _, _, _, _⟩ := hb2.cells4
    have o0 := (ho.cellAt (i * 4) (by omega))
    have o1 := (ho.cellAt (i * 4 + 1) (by omega))
    have o2 := (ho.cellAt (i * 4 + 2) (by omega))
    have o3 := (ho.cellAt (i * 4 + 3) (by omega))
    obtain ⟨u0, u1, u2, u3, a0, a1, a2, a3, _⟩ := hf.at_ i _ (List.getElem?_eq_getElem hi)
    rw [a0] at o0
    rw [a1] at o1
    rw [a2] at o2
    rw [a3] at o3
    have z0 := ho.frozenAt (i * 4)
    have z1 := ho.frozenAt (i * 4 + 1)
    have z2 := ho.frozenAt (i * 4 + 2)
    have z3 := ho.frozenAt (i * 4 + 3)
    clear hx1 ho hf h4 h5 hb0 hb1 hb2 a0 a1 a2 a3
    go_wp2_with fail
    have hbr : Blk (set4 (setAt4 (w1.setCell ⟨w.heap.size, 3, none⟩ (.slice (some ⟨g, 0, none⟩) ks.length c1)) g (i * 4) (.int .u8 x.kind) (.string x.text) (.slice Ax x.names.length cx) (.slice Ax' x.kids.length cx')) (w.heap.size + 1) (.int .u8 k) (.string tx) (.slice A ns.length c) (.slice (some ⟨g, 0, none⟩) ks.length c1)) (w.heap.size + 1) 25 #[.int .u8 k, .string tx, .slice A ns.length c, .slice (some ⟨g, 0, none⟩) ks.length c1] :=
      ((HB1.out.far (p := ⟨w.heap.size, 3, none⟩) (by simp) _).farAt4 (by omega) _ _ _ _).set4 _ _ _ _
    have hX1 : Ext w w1 := ((Ext.alloc' _ _).trans' (Ext.alloc' _ _)).trans' Hx1.out
    have hX4 : Ext w (set4 (setAt4 (w1.setCell ⟨w.heap.size, 3, none⟩ (.slice (some ⟨g, 0, none⟩) ks.length c1)) g (i * 4) (.int .u8 x.kind) (.string x.text) (.slice Ax x.names.length cx) (.slice Ax' x.kids.length cx')) (w.heap.size + 1) (.int .u8 k) (.string tx) (.slice A ns.length c) (.slice (some ⟨g, 0, none⟩) ks.length c1)) :=
      ((hX1.set1 (Nat.le_refl _) _).setAt4 (by omega) _ _ _ _ _).set4 (by omega) _ _ _ _
    refine bodyPost_ret (results_cell rfl _ _ _ _ _ _ _ rfl hbr) rfl ⟨A, c, _, _, by rw [N.kids_mk, List.length_set]; rfl, hX4, ?_⟩
    rw [N.kids_mk, List.length_set, show d + 1 + dx = (d + dx) + 1 by omega]
    refine Rep.join Htx.out (HN.out.wide (Nat.le_refl _) hX4 (fun b h _ => .inl h)) ?_
    have r1 : RowKids B (fun b => S b ∧ b < w.heap.size) (w1.setCell ⟨w.heap.size, 3, none⟩ (.slice (some ⟨g, 0, none⟩) ks.length c1)) d (w.heap.size + 1 + 1) (.slice (some ⟨g, 0, none⟩) ks.length c1) ks := by
      refine RowKids.keep (w := w1) (T := fun b => S b ∧ b < w.heap.size) ⟨xs, by simpa using HO.out, HF.out⟩ (by simp [World.setCell]) (fun b h _ => Below.heap_setCell _ _ _ _ (by have := h.2; simp; omega)) (fun b h _ => h) (fun g' h => Below.heap_setCell _ _ _ _ ?_)
      simp [Value.ownBlock] at h
      subst h
      simp; omega
    have r2 := r1.set (F := setAt4 (w1.setCell ⟨w.heap.size, 3, none⟩ (.slice (some ⟨g, 0, none⟩) ks.length c1)) g (i * 4) (.int .u8 x.kind) (.string x.text) (.slice Ax x.names.length cx) (.slice Ax' x.kids.length cx')) (x := x) (T' := fun b => S b ∧ b < w.heap.size) (d' := d + dx) rfl hi rfl (fun b h _ => ⟨h, by have := h.2; omega⟩) (by omega)
      (HX.out.wide (Nat.le_refl _) ((hX1.set1 (Nat.le_refl _) _).setAt4 (by omega) _ _ _ _ _) (fun b h hl => ⟨h, hl⟩) (by omega))
    have r3 := r2.keep (F := set4 (setAt4 (w1.setCell ⟨w.heap.size, 3, none⟩ (.slice (some ⟨g, 0, none⟩) ks.length c1)) g (i * 4) (.int .u8 x.kind) (.string x.text) (.slice Ax x.names.length cx) (.slice Ax' x.kids.length cx')) (w.heap.size + 1) (.int .u8 k) (.string tx) (.slice A ns.length c) (.slice (some ⟨g, 0, none⟩) ks.length c1)) (T' := fun b => S b ∧ b < w.heap.size)
      (by rw [size_set4]; exact Nat.le_refl _) (fun b h _ => heap_set4 _ _ _ _ _ _ (by have := h.2; omega)) (fun b h _ => h) (fun g' h => heap_set4 _ _ _ _ _ _ (by simp [Value.ownBlock] at h; omega))
    have r4 := r3.kids (B' := B) (T' := fun b => S b ∨ w.heap.size ≤ b) (by rw [List.length_set]; exact hl) (Nat.le_refl _) (fun b h => .inl h.1) (fun b h => .inr (by omega))
    exact r4
end Go.Proofs.Ytocndkhgopjhhaa
