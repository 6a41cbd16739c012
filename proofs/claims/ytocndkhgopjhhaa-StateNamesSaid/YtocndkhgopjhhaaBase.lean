/- The words that all texts of this claim share: abstract trees, what it means that a value reads as one, and worlds that have only grown. -/
import Derived.WalkKit
import Derived.WalkSpells
import Derived.WalkLawsBesides
import Derived.Lib.Hide
import Derived.Lib.Strings
import Derived.Deep.DeepCutAuto
import Derived.Deep.CutBlock
import Derived.Deep.LoopGhost
import Derived.Deep.RegionWith
import Derived.Deep.QuietTactic
import Derived.BigQuiet
namespace Go.Proofs.Ytocndkhgopjhhaa
open Go.RowKit

/-- A node: its kind, text, names, kids. -/
inductive N where
  | mk (kind : Int) (text : ByteArray) (names : List ByteArray) (kids : List N)

def N.kind : N → Int | .mk k _ _ _ => k
def N.text : N → ByteArray | .mk _ t _ _ => t
def N.names : N → List ByteArray | .mk _ _ ns _ => ns
def N.kids : N → List N | .mk _ _ _ ks => ks

/-- w' has all the blocks of w below B as they were, and more. -/
abbrev Ext (w w' : World) : Prop := Below w.heap.size w w'

/-- 'The slice value v reads as the texts ns', its cells in blocks of S; at most B of them. -/
def Strs (B : Nat) (S : Nat → Prop) (w : World) (v : Value) (ns : List ByteArray) : Prop :=
  ∃ A c, v = .slice A ns.length c ∧ ns.length ≤ c ∧ c ≤ maxLen ∧ ns.length ≤ B ∧ (∀ s ∈ ns, s.size ≤ maxLen) ∧
    (0 < ns.length → ∃ b o, A = some ⟨b, o, none⟩ ∧ S b ∧ b < w.heap.size ∧ ∀ i s, ns[i]? = some s → w.cell? ⟨b, o + i, none⟩ = some (.string s))

/-- 'The value v reads as the node t' (of depth below d), its cells in blocks of S. -/
def Rep (B : Nat) (S : Nat → Prop) (w : World) : Nat → N → Value → Prop
  | 0, _, _ => False
  | d + 1, .mk k tx ns ks, v => ∃ nv A c, v = .agg #[.int .u8 k, .string tx, nv, .slice A ks.length c] ∧ tx.size ≤ maxLen ∧ Strs (4 * B) S w nv ns ∧ ks.length ≤ c ∧ c ≤ maxLen ∧ ks.length ≤ B ∧
      (0 < ks.length → ∃ b o, A = some ⟨b, o, none⟩ ∧ S b ∧ b < w.heap.size ∧ ∀ i t, ks[i]? = some t →
        ∃ v0 v1 v2 v3, w.cell? ⟨b, o + i * 4, none⟩ = some v0 ∧ w.cell? ⟨b, o + i * 4 + 1, none⟩ = some v1 ∧ w.cell? ⟨b, o + i * 4 + 2, none⟩ = some v2 ∧ w.cell? ⟨b, o + i * 4 + 3, none⟩ = some v3 ∧
          Rep B S w d t (.agg #[v0, v1, v2, v3]))

/-- 'The slice value v reads as the nodes ks'. -/
def Kids (B : Nat) (S : Nat → Prop) (w : World) (d : Nat) (v : Value) (ks : List N) : Prop :=
  ∃ A c, v = .slice A ks.length c ∧ ks.length ≤ c ∧ c ≤ maxLen ∧ ks.length ≤ B ∧
      (0 < ks.length → ∃ b o, A = some ⟨b, o, none⟩ ∧ S b ∧ b < w.heap.size ∧ ∀ i t, ks[i]? = some t →
        ∃ v0 v1 v2 v3, w.cell? ⟨b, o + i * 4, none⟩ = some v0 ∧ w.cell? ⟨b, o + i * 4 + 1, none⟩ = some v1 ∧ w.cell? ⟨b, o + i * 4 + 2, none⟩ = some v2 ∧ w.cell? ⟨b, o + i * 4 + 3, none⟩ = some v3 ∧
          Rep B S w d t (.agg #[v0, v1, v2, v3]))

theorem Rep.split {B : Nat} {S : Nat → Prop} {w : World} {d : Nat} {k : Int} {tx : ByteArray} {ns : List ByteArray} {ks : List N} {v : Value} (h : Rep B S w (d + 1) (.mk k tx ns ks) v) :
    ∃ nv kv, v = .agg #[.int .u8 k, .string tx, nv, kv] ∧ tx.size ≤ maxLen ∧ Strs (4 * B) S w nv ns ∧ Kids B S w d kv ks := by
  obtain ⟨nv, A, c, e, htx, hn, h1, h2, h3, h4⟩ := h
  exact ⟨nv, _, e, htx, hn, A, c, rfl, h1, h2, h3, h4⟩
theorem Rep.join {B : Nat} {S : Nat → Prop} {w : World} {d : Nat} {k : Int} {tx : ByteArray} {ns : List ByteArray} {ks : List N} {nv kv : Value} (htx : tx.size ≤ maxLen) (hn : Strs (4 * B) S w nv ns) (hk : Kids B S w d kv ks) :
    Rep B S w (d + 1) (.mk k tx ns ks) (.agg #[.int .u8 k, .string tx, nv, kv]) := by
  obtain ⟨A, c, rfl, h1, h2, h3, h4⟩ := hk
  exact ⟨nv, A, c, rfl, htx, hn, h1, h2, h3, h4⟩

theorem ret_int {k : IntKind} {a b : Int} (h : a = b) : Ending.returned (.int k a) = .returned (.int k b) := by rw [h]
theorem ret_bool {a b : Bool} (h : a = b) : Ending.returned (.bool a) = .returned (.bool b) := by rw [h]

theorem Ext.rules {W w1 : World} (h : Ext W w1) : (∀ b o, b < W.heap.size → w1.cell? ⟨b, o, none⟩ = W.cell? ⟨b, o, none⟩) ∧ (∀ b o, b < W.heap.size → w1.frozen? ⟨b, o, none⟩ = W.frozen? ⟨b, o, none⟩) :=
  ⟨fun b o hb => h.cell (p := ⟨b, o, none⟩) hb, fun b o hb => h.frozen (p := ⟨b, o, none⟩) hb⟩

theorem Ext.trans' {a b c : World} (h : Ext a b) (k : Ext b c) : Ext a c := Below.trans h (Below.mono k h.size)
theorem Ext.alloc' (w : World) (o : Obj) : Ext w (w.alloc o) := (Below.refl _ w).alloc (Nat.le_refl _) o

/-- The worlds in which all that W had stands as it stood. -/
structure Up (W : World) where
  val : World
  ext : Ext W val
instance (W : World) : Inhabited (Up W) := ⟨⟨W, Below.refl _ _⟩⟩
theorem up_rules (W : World) : (∀ (u : Up W) b o, b < W.heap.size → u.val.cell? ⟨b, o, none⟩ = W.cell? ⟨b, o, none⟩) ∧ (∀ (u : Up W) b o, b < W.heap.size → u.val.frozen? ⟨b, o, none⟩ = W.frozen? ⟨b, o, none⟩) :=
  ⟨fun u b o hb => u.ext.cell (p := ⟨b, o, none⟩) hb, fun u b o hb => u.ext.frozen (p := ⟨b, o, none⟩) hb⟩
theorem Up.to {W : World} (u : Up W) {w1 : World} (h : Ext u.val w1) : ∃ u1 : Up W, w1 = u1.val := ⟨⟨w1, u.ext.trans' h⟩, rfl⟩
theorem Up.of {W w1 : World} (h : Ext W w1) : ∃ u1 : Up W, w1 = u1.val := ⟨⟨w1, h⟩, rfl⟩
theorem Up.self (W : World) : ∃ u : Up W, W = u.val := ⟨⟨W, Below.refl _ _⟩, rfl⟩
theorem Calls.up {P : Program} {f : FuncId} {args : Array Value} {W : World} {u : Up W} {v : Value} (h : Calls P f args u.val fun e w' => e = .returned v ∧ Ext u.val w') :
    Calls P f args u.val fun e w' => e = .returned v ∧ ∃ x : Up W, w' = x.val := h.mono fun _ _ ⟨he, hx⟩ => ⟨he, u.to hx⟩
theorem wp_region_up {P : Program} {id : Nat} {Q : Exit → Act → World → Prop} {a : Act} {l : List Oper} {W : World} {u : Up W} (hm : P.follows .mixedOrders = true) (hB : Region.lexB .any l.toArray = true)
    (h : wpQuiet P l.toArray (fun w' => ∃ x : Up W, w' = x.val) (fun a' => ∀ w', (∃ x : Up W, w' = x.val) → Q .normal a' w') l a) : (Code.region id l.toArray true).wp P Q a u.val :=
  wp_region_quiet (C := fun w' => ∃ x : Up W, w' = x.val) hm hB ⟨⟨{ u.val with drawn := u.val.drawn + 1 }, ⟨u.ext.os, u.ext.tape, u.ext.output, u.ext.size, u.ext.block⟩⟩, rfl⟩ (by simpa using h)

theorem Strs.keep {B : Nat} {S S' : Nat → Prop} {w w' : World} {v : Value} {ns : List ByteArray} (hz : w.heap.size ≤ w'.heap.size) (hS : ∀ b, S b → b < w.heap.size → w'.heap[b]? = w.heap[b]?) (hSS : ∀ b, S b → b < w.heap.size → S' b) (h : Strs B S w v ns) : Strs B S' w' v ns := by
  obtain ⟨A, c, e, h1, h2, hB, hs, h3⟩ := h
  refine ⟨A, c, e, h1, h2, hB, hs, fun hp => ?_⟩
  obtain ⟨b, o, e2, hb, hl, hx⟩ := h3 hp
  exact ⟨b, o, e2, hSS b hb hl, by omega, fun i s hi => (World.cell?_of_block (w := w) (a := ⟨b, o + i, none⟩) (hS b hb hl)).trans (hx i s hi)⟩

theorem Rep.keep {B : Nat} {S S' : Nat → Prop} {w w' : World} (hz : w.heap.size ≤ w'.heap.size) (hS : ∀ b, S b → b < w.heap.size → w'.heap[b]? = w.heap[b]?) (hSS : ∀ b, S b → b < w.heap.size → S' b) (d : Nat) : ∀ (t : N) (v : Value), Rep B S w d t v → Rep B S' w' d t v := by
  induction d with
  | zero => intro t v h; exact h.elim
  | succ d ih =>
    rintro ⟨k, tx, ns, ks⟩ v ⟨nv, A, c, e, htx, hn, h1, h2, hB, h3⟩
    refine ⟨nv, A, c, e, htx, hn.keep hz hS hSS, h1, h2, hB, fun hp => ?_⟩
    obtain ⟨b, o, e2, hb, hl, hx⟩ := h3 hp
    refine ⟨b, o, e2, hSS b hb hl, by omega, fun i t hi => ?_⟩
    obtain ⟨v0, v1, v2, v3, c0, c1, c2, c3, hr⟩ := hx i t hi
    have hh := fun o => World.cell?_of_block (w := w) (w' := w') (a := ⟨b, o, none⟩) (hS b hb hl)
    exact ⟨v0, v1, v2, v3, (hh _).trans c0, (hh _).trans c1, (hh _).trans c2, (hh _).trans c3, ih _ _ hr⟩

theorem Strs.ext {B : Nat} {S : Nat → Prop} {w w' : World} {v : Value} {ns : List ByteArray} (h : Strs B S w v ns) (hx : Ext w w') : Strs B S w' v ns := h.keep hx.size (fun _ _ hb => hx.block _ hb) fun _ h _ => h
theorem Kids.keep {B : Nat} {S S' : Nat → Prop} {w w' : World} (hz : w.heap.size ≤ w'.heap.size) (hS : ∀ b, S b → b < w.heap.size → w'.heap[b]? = w.heap[b]?) (hSS : ∀ b, S b → b < w.heap.size → S' b) {d : Nat} {v : Value} {ks : List N} (h : Kids B S w d v ks) : Kids B S' w' d v ks := by
  obtain ⟨A, c, e, h1, h2, hB, h3⟩ := h
  refine ⟨A, c, e, h1, h2, hB, fun hp => ?_⟩
  obtain ⟨b, o, e2, hb, hl, hx⟩ := h3 hp
  refine ⟨b, o, e2, hSS b hb hl, by omega, fun i t hi => ?_⟩
  obtain ⟨v0, v1, v2, v3, c0, c1, c2, c3, hr⟩ := hx i t hi
  have hh := fun o => World.cell?_of_block (w := w) (w' := w') (a := ⟨b, o, none⟩) (hS b hb hl)
  exact ⟨v0, v1, v2, v3, (hh _).trans c0, (hh _).trans c1, (hh _).trans c2, (hh _).trans c3, Rep.keep hz hS hSS _ _ _ hr⟩
theorem Kids.ext' {B : Nat} {S : Nat → Prop} {w w' : World} {d : Nat} {v : Value} {ks : List N} (h : Kids B S w d v ks) (hx : Ext w w') : Kids B S w' d v ks := h.keep hx.size (fun _ _ hb => hx.block _ hb) fun _ h _ => h
theorem Kids.alloc {B : Nat} {S : Nat → Prop} {w : World} {d : Nat} {v : Value} {ks : List N} (h : Kids B S w d v ks) (o : Obj) : Kids B S (w.alloc o) d v ks := h.ext' (Ext.alloc' w o)
theorem Kids.up {B : Nat} {S : Nat → Prop} {W : World} {d : Nat} {v : Value} {ks : List N} (h : Kids B S W d v ks) (u : Up W) : Kids B S u.val d v ks := h.ext' u.ext
theorem Strs.up {B : Nat} {S : Nat → Prop} {W : World} {v : Value} {ns : List ByteArray} (h : Strs B S W v ns) (u : Up W) : Strs B S u.val v ns := h.keep u.ext.size (fun _ _ hb => u.ext.block _ hb) fun _ h _ => h
theorem Rep.up {B : Nat} {S : Nat → Prop} {W : World} {d : Nat} {t : N} {v : Value} (h : Rep B S W d t v) (u : Up W) : Rep B S u.val d t v := Rep.keep u.ext.size (fun _ _ hb => u.ext.block _ hb) (fun _ h _ => h) d t v h
theorem Rep.ext {B : Nat} {S : Nat → Prop} {w w' : World} {d : Nat} {t : N} {v : Value} (h : Rep B S w d t v) (hx : Ext w w') : Rep B S w' d t v := Rep.keep hx.size (fun _ _ hb => hx.block _ hb) (fun _ h _ => h) d t v h
theorem Strs.alloc {B : Nat} {S : Nat → Prop} {w : World} {v : Value} {ns : List ByteArray} (h : Strs B S w v ns) (o : Obj) : Strs B S (w.alloc o) v ns := h.ext (Ext.alloc' w o)
theorem Rep.alloc {B : Nat} {S : Nat → Prop} {w : World} {d : Nat} {t : N} {v : Value} (h : Rep B S w d t v) (o : Obj) : Rep B S (w.alloc o) d t v := h.ext (Ext.alloc' w o)

theorem Rep.shape {B : Nat} {S : Nat → Prop} {w : World} {d : Nat} {t : N} {v0 v1 v2 v3 : Value} (h : Rep B S w d t (.agg #[v0, v1, v2, v3])) :
    ∃ A c A' c', v0 = .int .u8 t.kind ∧ v1 = .string t.text ∧ v2 = .slice A t.names.length c ∧ v3 = .slice A' t.kids.length c' := by
  cases d with
  | zero => exact h.elim
  | succ d =>
    obtain ⟨k, tx, ns, ks⟩ := t
    obtain ⟨nv, A, c, e, _, ⟨A', c', rfl, _⟩, _⟩ := h
    injection e with e
    simp at e
    obtain ⟨rfl, rfl, rfl, rfl⟩ := e
    exact ⟨_, _, _, _, rfl, rfl, rfl, rfl⟩

/-- One text out of them, where there is one. -/
theorem Strs.at' {B : Nat} {S : Nat → Prop} {w : World} {A : Option Addr} {n c : Nat} {ns : List ByteArray} (h : Strs B S w (.slice A n c) ns) : n = ns.length ∧ ns.length ≤ c ∧ c ≤ maxLen ∧ ns.length ≤ B ∧ (∀ s ∈ ns, s.size ≤ maxLen) ∧
    (0 < ns.length → ∃ b o, A = some ⟨b, o, none⟩ ∧ S b ∧ b < w.heap.size ∧ ∀ i s, ns[i]? = some s → w.cell? ⟨b, o + i, none⟩ = some (.string s)) := by
  obtain ⟨A', c', e, h⟩ := h
  injection e with e1 e2 e3
  subst e1 e2 e3
  exact ⟨rfl, h⟩

/-- No byte of a text that may stand in a name: 0, a slash, a line's end. -/
def badB (c : UInt8) : Bool := c == 0 || c == 47 || c == 10
def hasBad (s : ByteArray) : Bool := s.data.toList.any badB
def hasNul (s : ByteArray) : Bool := s.data.toList.any (· == 0)
/-- May a text be a name? -/
def nameB (s : ByteArray) : Bool := !(s.toList.isEmpty || decide (64 < (s.size : Int)) || s.toList == [46] || s.toList == [46, 46]) && !hasBad s
/-- May a text be a text? -/
def textB (s : ByteArray) : Bool := !hasNul s && decide ((s.size : Int) ≤ 256)

theorem any_drop {p : UInt8 → Bool} (s : ByteArray) (j : Nat) (h : j < s.size) : (s.data.toList.drop j).any p = (p s[j] || (s.data.toList.drop (j + 1)).any p) := by
  rw [List.drop_eq_getElem_cons (by simpa using h), List.any_cons]; rfl
theorem any_drop_end {p : UInt8 → Bool} (s : ByteArray) (j : Nat) (h : ¬ j < s.size) : (s.data.toList.drop j).any p = false := by
  rw [List.drop_eq_nil_of_le (by simpa using h)]; rfl

theorem byte_eq (c : UInt8) (k : Nat) (hk : k < 256) : ((c.toNat : Int) == (k : Int)) = (c == k.toUInt8) := by
  rw [Bool.eq_iff_iff, beq_iff_eq, beq_iff_eq]
  constructor
  · intro h; apply UInt8.toNat_inj.1; simp; omega
  · intro h; subst h; simp; omega

theorem badB_int (c : UInt8) : badB c = (((c.toNat : Int) == 0) || ((c.toNat : Int) == 47) || ((c.toNat : Int) == 10)) := by
  unfold badB
  have h0 := byte_eq c 0 (by omega)
  have h1 := byte_eq c 47 (by omega)
  have h2 := byte_eq c 10 (by omega)
  have k0 : ((0 : Nat) : Int) = 0 := rfl
  have k1 : ((47 : Nat) : Int) = 47 := rfl
  have k2 : ((10 : Nat) : Int) = 10 := rfl
  rw [k0] at h0; rw [k1] at h1; rw [k2] at h2
  rw [h0, h1, h2]; rfl

/-- Does a text not stand behind another one? -/
def leS (a b : ByteArray) : Bool := Op.bytesLess a.toList b.toList || a.toList == b.toList

mutual
/-- Is a node well formed? -/
def N.well : N → Bool
  | .mk k tx ns ks =>
    if k = 1 then decide (ns = []) && decide (ks.length = 0) && textB tx
    else if k = 3 then decide (ns = []) && decide (ks.length = 0) && textB tx && decide (0 < tx.size)
    else if k = 2 then tx.toList.isEmpty && decide (ns.length = ks.length) && wellL none ns ks
    else false
def wellL : Option ByteArray → List ByteArray → List N → Bool
  | p, s :: ns, k :: ks => nameB s && !(p.any (leS s)) && k.well && wellL (some s) ns ks
  | _, [], _ => true
  | _, _ :: _, [] => false
end

theorem size_pos (s : ByteArray) : decide (0 < s.size) = !s.toList.isEmpty := by
  rw [Lib.toList_data]
  have h : s.size = s.data.toList.length := rfl
  rw [h]
  cases s.data.toList <;> simp

def prevOf (ns : List ByteArray) : Nat → Option ByteArray
  | 0 => none
  | j + 1 => ns[j]?
theorem wellL_at {p : Option ByteArray} {ns : List ByteArray} {ks : List N} {j : Nat} (h1 : j < ns.length) (h2 : j < ks.length) :
    wellL p (ns.drop j) (ks.drop j) = (nameB ns[j] && !(p.any (leS ns[j])) && ks[j].well && wellL (prevOf ns (j + 1)) (ns.drop (j + 1)) (ks.drop (j + 1))) := by
  rw [List.drop_eq_getElem_cons h1, List.drop_eq_getElem_cons h2, wellL]
  simp [prevOf, List.getElem?_eq_getElem h1]
theorem wellL_end {p : Option ByteArray} {ns : List ByteArray} {ks : List N} {j : Nat} (h1 : ¬ j < ns.length) : wellL p (ns.drop j) (ks.drop j) = true := by
  rw [List.drop_eq_nil_of_le (by omega), wellL]

mutual
/-- What the guard 'weight' counts. -/
def N.weight : N → Int
  | .mk _ tx ns ks => wKids (wNames (wrap64 (1 + wrap64 ((tx.size : Int) / 64))) ns) ks
def wKids : Int → List N → Int
  | w, [] => w
  | w, k :: ks => if w < 3000 then wKids (wrap64 (w + k.weight)) ks else w
def wNames : Int → List ByteArray → Int
  | w, [] => w
  | w, s :: ns => if w < 3000 then wNames (wrap64 (wrap64 (w + 1) + wrap64 ((s.size : Int) / 64))) ns else w
end

mutual
/-- How many nodes, as the machine counts. -/
def N.nodes : N → Int
  | .mk _ _ _ ks => nodesL 1 ks
def nodesL : Int → List N → Int
  | a, [] => a
  | a, k :: ks => nodesL (wrap64 (a + k.nodes)) ks
end

mutual
/-- How deep, as the machine counts. -/
def N.deep : N → Int
  | .mk _ _ _ ks => deepL 0 ks
def deepL : Int → List N → Int
  | a, [] => a
  | a, k :: ks => deepL (if a < wrap64 (k.deep + 1) then wrap64 (k.deep + 1) else a) ks
end

def N.may (t : N) : Bool := decide (t.kind = 2) && t.well && decide (t.nodes ≤ 1024) && decide (t.deep ≤ 24)

mutual
/-- Are two nodes one? -/
def N.same : N → N → Bool
  | .mk k t ns ks, .mk k' t' ns' ks' => decide (k = k') && decide (t = t') && decide (ns = ns') && sameL ks ks'
def sameL : List N → List N → Bool
  | [], [] => true
  | a :: l, b :: m => a.same b && sameL l m
  | [], _ :: _ => false
  | _ :: _, [] => false
end

theorem sameL_len : ∀ (l m : List N), l.length ≠ m.length → sameL l m = false
  | [], [], h => absurd rfl h
  | [], _ :: _, _ => by rw [sameL]
  | _ :: _, [], _ => by rw [sameL]
  | a :: l, b :: m, h => by rw [sameL, sameL_len l m (by simpa using h)]; simp
theorem sameL_at {l m : List N} {j : Nat} (h1 : j < l.length) (h2 : j < m.length) : sameL (l.drop j) (m.drop j) = (l[j].same m[j] && sameL (l.drop (j + 1)) (m.drop (j + 1))) := by
  rw [List.drop_eq_getElem_cons h1, List.drop_eq_getElem_cons h2, sameL]
theorem sameL_end {l m : List N} {j : Nat} (h1 : ¬ j < l.length) (h2 : l.length = m.length) : sameL (l.drop j) (m.drop j) = true := by
  rw [List.drop_eq_nil_of_le (by omega), List.drop_eq_nil_of_le (by omega), sameL]

end Go.Proofs.Ytocndkhgopjhhaa
