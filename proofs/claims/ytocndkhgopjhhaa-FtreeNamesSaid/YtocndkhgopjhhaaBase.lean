/- The words that all texts of this claim share: abstract trees, what it means that a value reads as one, and worlds that have only grown. -/
import Derived.Test.YtocndkhgopjhhaaProg
import Derived.WalkKit
import Derived.WalkSpells
import Derived.WalkLawsBesides
import Derived.Lib.Hide
import Derived.Lib.Strings
import Derived.Deep.DeepCutAuto
import Derived.Deep.CutBlock
import Derived.Deep.LoopGhost
import Derived.Deep.RegionWith
import Derived.Deep.QuietTactic
import Derived.BigQuiet
import Derived.Laws.Rows
import Derived.Deep.DeepAppendWide
import Derived.Orders
import Derived.RegionTactic
namespace Go.Proofs.Ytocndkhgopjhhaa
open Go.RowKit

/-- A node: its kind, text, names, kids. -/
inductive N where
  | mk (kind : Int) (text : ByteArray) (names : List ByteArray) (kids : List N)

def N.kind : N → Int | .mk k _ _ _ => k
def N.text : N → ByteArray | .mk _ t _ _ => t
def N.names : N → List ByteArray | .mk _ _ ns _ => ns
def N.kids : N → List N | .mk _ _ _ ks => ks

/-- w' has all the blocks of w below B as they were, and more. -/
abbrev Ext (w w' : World) : Prop := Below w.heap.size w w'

/-- 'The slice value v reads as the texts ns', its cells in blocks of S; at most B of them. -/
def Strs (B : Nat) (S : Nat → Prop) (w : World) (v : Value) (ns : List ByteArray) : Prop :=
  ∃ A c, v = .slice A ns.length c ∧ ns.length ≤ c ∧ c ≤ maxLen ∧ ns.length ≤ B ∧ (∀ s ∈ ns, s.size ≤ maxLen) ∧
    (0 < ns.length → ∃ b o, A = some ⟨b, o, none⟩ ∧ S b ∧ b < w.heap.size ∧ ∀ i s, ns[i]? = some s → w.cell? ⟨b, o + i, none⟩ = some (.string s))

/-- 'The value v reads as the node t' (of depth below d), its cells in blocks of S. -/
def Rep (B : Nat) (S : Nat → Prop) (w : World) : Nat → N → Value → Prop
  | 0, _, _ => False
  | d + 1, .mk k tx ns ks, v => ∃ nv A c, v = .agg #[.int .u8 k, .string tx, nv, .slice A ks.length c] ∧ tx.size ≤ maxLen ∧ Strs (4 * B) S w nv ns ∧ ks.length ≤ c ∧ c ≤ maxLen ∧ ks.length ≤ B ∧
      (0 < ks.length → ∃ b o, A = some ⟨b, o, none⟩ ∧ S b ∧ b < w.heap.size ∧ ∀ i t, ks[i]? = some t →
        ∃ v0 v1 v2 v3, w.cell? ⟨b, o + i * 4, none⟩ = some v0 ∧ w.cell? ⟨b, o + i * 4 + 1, none⟩ = some v1 ∧ w.cell? ⟨b, o + i * 4 + 2, none⟩ = some v2 ∧ w.cell? ⟨b, o + i * 4 + 3, none⟩ = some v3 ∧
          Rep B S w d t (.agg #[v0, v1, v2, v3]))

/-- 'The slice value v reads as the nodes ks'. -/
def Kids (B : Nat) (S : Nat → Prop) (w : World) (d : Nat) (v : Value) (ks : List N) : Prop :=
  ∃ A c, v = .slice A ks.length c ∧ ks.length ≤ c ∧ c ≤ maxLen ∧ ks.length ≤ B ∧
      (0 < ks.length → ∃ b o, A = some ⟨b, o, none⟩ ∧ S b ∧ b < w.heap.size ∧ ∀ i t, ks[i]? = some t →
        ∃ v0 v1 v2 v3, w.cell? ⟨b, o + i * 4, none⟩ = some v0 ∧ w.cell? ⟨b, o + i * 4 + 1, none⟩ = some v1 ∧ w.cell? ⟨b, o + i * 4 + 2, none⟩ = some v2 ∧ w.cell? ⟨b, o + i * 4 + 3, none⟩ = some v3 ∧
          Rep B S w d t (.agg #[v0, v1, v2, v3]))

theorem Rep.split {B : Nat} {S : Nat → Prop} {w : World} {d : Nat} {k : Int} {tx : ByteArray} {ns : List ByteArray} {ks : List N} {v : Value} (h : Rep B S w (d + 1) (.mk k tx ns ks) v) :
    ∃ nv kv, v = .agg #[.int .u8 k, .string tx, nv, kv] ∧ tx.size ≤ maxLen ∧ Strs (4 * B) S w nv ns ∧ Kids B S w d kv ks := by
  obtain ⟨nv, A, c, e, htx, hn, h1, h2, h3, h4⟩ := h
  exact ⟨nv, _, e, htx, hn, A, c, rfl, h1, h2, h3, h4⟩
theorem Rep.join {B : Nat} {S : Nat → Prop} {w : World} {d : Nat} {k : Int} {tx : ByteArray} {ns : List ByteArray} {ks : List N} {nv kv : Value} (htx : tx.size ≤ maxLen) (hn : Strs (4 * B) S w nv ns) (hk : Kids B S w d kv ks) :
    Rep B S w (d + 1) (.mk k tx ns ks) (.agg #[.int .u8 k, .string tx, nv, kv]) := by
  obtain ⟨A, c, rfl, h1, h2, h3, h4⟩ := hk
  exact ⟨nv, A, c, rfl, htx, hn, h1, h2, h3, h4⟩

theorem ret_int {k : IntKind} {a b : Int} (h : a = b) : Ending.returned (.int k a) = .returned (.int k b) := by rw [h]
theorem ret_bool {a b : Bool} (h : a = b) : Ending.returned (.bool a) = .returned (.bool b) := by rw [h]

theorem Ext.rules {W w1 : World} (h : Ext W w1) : (∀ b o, b < W.heap.size → w1.cell? ⟨b, o, none⟩ = W.cell? ⟨b, o, none⟩) ∧ (∀ b o, b < W.heap.size → w1.frozen? ⟨b, o, none⟩ = W.frozen? ⟨b, o, none⟩) :=
  ⟨fun b o hb => h.cell (p := ⟨b, o, none⟩) hb, fun b o hb => h.frozen (p := ⟨b, o, none⟩) hb⟩

theorem Ext.trans' {a b c : World} (h : Ext a b) (k : Ext b c) : Ext a c := Below.trans h (Below.mono k h.size)
theorem Ext.alloc' (w : World) (o : Obj) : Ext w (w.alloc o) := (Below.refl _ w).alloc (Nat.le_refl _) o

/-- The worlds in which all that W had stands as it stood. -/
structure Up (W : World) where
  val : World
  ext : Ext W val
instance (W : World) : Inhabited (Up W) := ⟨⟨W, Below.refl _ _⟩⟩
theorem up_rules (W : World) : (∀ (u : Up W) b o, b < W.heap.size → u.val.cell? ⟨b, o, none⟩ = W.cell? ⟨b, o, none⟩) ∧ (∀ (u : Up W) b o, b < W.heap.size → u.val.frozen? ⟨b, o, none⟩ = W.frozen? ⟨b, o, none⟩) :=
  ⟨fun u b o hb => u.ext.cell (p := ⟨b, o, none⟩) hb, fun u b o hb => u.ext.frozen (p := ⟨b, o, none⟩) hb⟩
theorem Up.to {W : World} (u : Up W) {w1 : World} (h : Ext u.val w1) : ∃ u1 : Up W, w1 = u1.val := ⟨⟨w1, u.ext.trans' h⟩, rfl⟩
theorem Up.of {W w1 : World} (h : Ext W w1) : ∃ u1 : Up W, w1 = u1.val := ⟨⟨w1, h⟩, rfl⟩
theorem Up.self (W : World) : ∃ u : Up W, W = u.val := ⟨⟨W, Below.refl _ _⟩, rfl⟩
theorem Calls.up {P : Program} {f : FuncId} {args : Array Value} {W : World} {u : Up W} {v : Value} (h : Calls P f args u.val fun e w' => e = .returned v ∧ Ext u.val w') :
    Calls P f args u.val fun e w' => e = .returned v ∧ ∃ x : Up W, w' = x.val := h.mono fun _ _ ⟨he, hx⟩ => ⟨he, u.to hx⟩
theorem wp_region_up {P : Program} {id : Nat} {Q : Exit → Act → World → Prop} {a : Act} {l : List Oper} {W : World} {u : Up W} (hm : P.follows .mixedOrders = true) (hB : Region.lexB .any l.toArray = true)
    (h : wpQuiet P l.toArray (fun w' => ∃ x : Up W, w' = x.val) (fun a' => ∀ w', (∃ x : Up W, w' = x.val) → Q .normal a' w') l a) : (Code.region id l.toArray true).wp P Q a u.val :=
  wp_region_quiet (C := fun w' => ∃ x : Up W, w' = x.val) hm hB ⟨⟨{ u.val with drawn := u.val.drawn + 1 }, ⟨u.ext.os, u.ext.tape, u.ext.output, u.ext.size, u.ext.block⟩⟩, rfl⟩ (by simpa using h)

theorem Strs.keep {B : Nat} {S S' : Nat → Prop} {w w' : World} {v : Value} {ns : List ByteArray} (hz : w.heap.size ≤ w'.heap.size) (hS : ∀ b, S b → b < w.heap.size → w'.heap[b]? = w.heap[b]?) (hSS : ∀ b, S b → b < w.heap.size → S' b) (h : Strs B S w v ns) : Strs B S' w' v ns := by
  obtain ⟨A, c, e, h1, h2, hB, hs, h3⟩ := h
  refine ⟨A, c, e, h1, h2, hB, hs, fun hp => ?_⟩
  obtain ⟨b, o, e2, hb, hl, hx⟩ := h3 hp
  exact ⟨b, o, e2, hSS b hb hl, by omega, fun i s hi => (World.cell?_of_block (w := w) (a := ⟨b, o + i, none⟩) (hS b hb hl)).trans (hx i s hi)⟩

theorem Rep.keep {B : Nat} {S S' : Nat → Prop} {w w' : World} (hz : w.heap.size ≤ w'.heap.size) (hS : ∀ b, S b → b < w.heap.size → w'.heap[b]? = w.heap[b]?) (hSS : ∀ b, S b → b < w.heap.size → S' b) (d : Nat) : ∀ (t : N) (v : Value), Rep B S w d t v → Rep B S' w' d t v := by
  induction d with
  | zero => intro t v h; exact h.elim
  | succ d ih =>
    rintro ⟨k, tx, ns, ks⟩ v ⟨nv, A, c, e, htx, hn, h1, h2, hB, h3⟩
    refine ⟨nv, A, c, e, htx, hn.keep hz hS hSS, h1, h2, hB, fun hp => ?_⟩
    obtain ⟨b, o, e2, hb, hl, hx⟩ := h3 hp
    refine ⟨b, o, e2, hSS b hb hl, by omega, fun i t hi => ?_⟩
    obtain ⟨v0, v1, v2, v3, c0, c1, c2, c3, hr⟩ := hx i t hi
    have hh := fun o => World.cell?_of_block (w := w) (w' := w') (a := ⟨b, o, none⟩) (hS b hb hl)
    exact ⟨v0, v1, v2, v3, (hh _).trans c0, (hh _).trans c1, (hh _).trans c2, (hh _).trans c3, ih _ _ hr⟩

theorem Strs.ext {B : Nat} {S : Nat → Prop} {w w' : World} {v : Value} {ns : List ByteArray} (h : Strs B S w v ns) (hx : Ext w w') : Strs B S w' v ns := h.keep hx.size (fun _ _ hb => hx.block _ hb) fun _ h _ => h
theorem Kids.keep {B : Nat} {S S' : Nat → Prop} {w w' : World} (hz : w.heap.size ≤ w'.heap.size) (hS : ∀ b, S b → b < w.heap.size → w'.heap[b]? = w.heap[b]?) (hSS : ∀ b, S b → b < w.heap.size → S' b) {d : Nat} {v : Value} {ks : List N} (h : Kids B S w d v ks) : Kids B S' w' d v ks := by
  obtain ⟨A, c, e, h1, h2, hB, h3⟩ := h
  refine ⟨A, c, e, h1, h2, hB, fun hp => ?_⟩
  obtain ⟨b, o, e2, hb, hl, hx⟩ := h3 hp
  refine ⟨b, o, e2, hSS b hb hl, by omega, fun i t hi => ?_⟩
  obtain ⟨v0, v1, v2, v3, c0, c1, c2, c3, hr⟩ := hx i t hi
  have hh := fun o => World.cell?_of_block (w := w) (w' := w') (a := ⟨b, o, none⟩) (hS b hb hl)
  exact ⟨v0, v1, v2, v3, (hh _).trans c0, (hh _).trans c1, (hh _).trans c2, (hh _).trans c3, Rep.keep hz hS hSS _ _ _ hr⟩
theorem Kids.ext' {B : Nat} {S : Nat → Prop} {w w' : World} {d : Nat} {v : Value} {ks : List N} (h : Kids B S w d v ks) (hx : Ext w w') : Kids B S w' d v ks := h.keep hx.size (fun _ _ hb => hx.block _ hb) fun _ h _ => h
theorem Kids.alloc {B : Nat} {S : Nat → Prop} {w : World} {d : Nat} {v : Value} {ks : List N} (h : Kids B S w d v ks) (o : Obj) : Kids B S (w.alloc o) d v ks := h.ext' (Ext.alloc' w o)
theorem Kids.up {B : Nat} {S : Nat → Prop} {W : World} {d : Nat} {v : Value} {ks : List N} (h : Kids B S W d v ks) (u : Up W) : Kids B S u.val d v ks := h.ext' u.ext
theorem Strs.up {B : Nat} {S : Nat → Prop} {W : World} {v : Value} {ns : List ByteArray} (h : Strs B S W v ns) (u : Up W) : Strs B S u.val v ns := h.keep u.ext.size (fun _ _ hb => u.ext.block _ hb) fun _ h _ => h
theorem Rep.up {B : Nat} {S : Nat → Prop} {W : World} {d : Nat} {t : N} {v : Value} (h : Rep B S W d t v) (u : Up W) : Rep B S u.val d t v := Rep.keep u.ext.size (fun _ _ hb => u.ext.block _ hb) (fun _ h _ => h) d t v h
theorem Rep.ext {B : Nat} {S : Nat → Prop} {w w' : World} {d : Nat} {t : N} {v : Value} (h : Rep B S w d t v) (hx : Ext w w') : Rep B S w' d t v := Rep.keep hx.size (fun _ _ hb => hx.block _ hb) (fun _ h _ => h) d t v h
theorem Strs.alloc {B : Nat} {S : Nat → Prop} {w : World} {v : Value} {ns : List ByteArray} (h : Strs B S w v ns) (o : Obj) : Strs B S (w.alloc o) v ns := h.ext (Ext.alloc' w o)
theorem Rep.alloc {B : Nat} {S : Nat → Prop} {w : World} {d : Nat} {t : N} {v : Value} (h : Rep B S w d t v) (o : Obj) : Rep B S (w.alloc o) d t v := h.ext (Ext.alloc' w o)

theorem Rep.shape {B : Nat} {S : Nat → Prop} {w : World} {d : Nat} {t : N} {v0 v1 v2 v3 : Value} (h : Rep B S w d t (.agg #[v0, v1, v2, v3])) :
    ∃ A c A' c', v0 = .int .u8 t.kind ∧ v1 = .string t.text ∧ v2 = .slice A t.names.length c ∧ v3 = .slice A' t.kids.length c' := by
  cases d with
  | zero => exact h.elim
  | succ d =>
    obtain ⟨k, tx, ns, ks⟩ := t
    obtain ⟨nv, A, c, e, _, ⟨A', c', rfl, _⟩, _⟩ := h
    injection e with e
    simp at e
    obtain ⟨rfl, rfl, rfl, rfl⟩ := e
    exact ⟨_, _, _, _, rfl, rfl, rfl, rfl⟩

/-- One text out of them, where there is one. -/
theorem Strs.at' {B : Nat} {S : Nat → Prop} {w : World} {A : Option Addr} {n c : Nat} {ns : List ByteArray} (h : Strs B S w (.slice A n c) ns) : n = ns.length ∧ ns.length ≤ c ∧ c ≤ maxLen ∧ ns.length ≤ B ∧ (∀ s ∈ ns, s.size ≤ maxLen) ∧
    (0 < ns.length → ∃ b o, A = some ⟨b, o, none⟩ ∧ S b ∧ b < w.heap.size ∧ ∀ i s, ns[i]? = some s → w.cell? ⟨b, o + i, none⟩ = some (.string s)) := by
  obtain ⟨A', c', e, h⟩ := h
  injection e with e1 e2 e3
  subst e1 e2 e3
  exact ⟨rfl, h⟩

/-- No byte of a text that may stand in a name: 0, a slash, a line's end. -/
def badB (c : UInt8) : Bool := c == 0 || c == 47 || c == 10
def hasBad (s : ByteArray) : Bool := s.data.toList.any badB
def hasNul (s : ByteArray) : Bool := s.data.toList.any (· == 0)
/-- May a text be a name? -/
def nameB (s : ByteArray) : Bool := !(s.toList.isEmpty || decide (64 < (s.size : Int)) || s.toList == [46] || s.toList == [46, 46]) && !hasBad s
/-- May a text be a text? -/
def textB (s : ByteArray) : Bool := !hasNul s && decide ((s.size : Int) ≤ 256)

theorem any_drop {p : UInt8 → Bool} (s : ByteArray) (j : Nat) (h : j < s.size) : (s.data.toList.drop j).any p = (p s[j] || (s.data.toList.drop (j + 1)).any p) := by
  rw [List.drop_eq_getElem_cons (by simpa using h), List.any_cons]; rfl
theorem any_drop_end {p : UInt8 → Bool} (s : ByteArray) (j : Nat) (h : ¬ j < s.size) : (s.data.toList.drop j).any p = false := by
  rw [List.drop_eq_nil_of_le (by simpa using h)]; rfl

theorem byte_eq (c : UInt8) (k : Nat) (hk : k < 256) : ((c.toNat : Int) == (k : Int)) = (c == k.toUInt8) := by
  rw [Bool.eq_iff_iff, beq_iff_eq, beq_iff_eq]
  constructor
  · intro h; apply UInt8.toNat_inj.1; simp; omega
  · intro h; subst h; simp; omega

theorem badB_int (c : UInt8) : badB c = (((c.toNat : Int) == 0) || ((c.toNat : Int) == 47) || ((c.toNat : Int) == 10)) := by
  unfold badB
  have h0 := byte_eq c 0 (by omega)
  have h1 := byte_eq c 47 (by omega)
  have h2 := byte_eq c 10 (by omega)
  have k0 : ((0 : Nat) : Int) = 0 := rfl
  have k1 : ((47 : Nat) : Int) = 47 := rfl
  have k2 : ((10 : Nat) : Int) = 10 := rfl
  rw [k0] at h0; rw [k1] at h1; rw [k2] at h2
  rw [h0, h1, h2]; rfl

/-- Does a text not stand behind another one? -/
def leS (a b : ByteArray) : Bool := Op.bytesLess a.toList b.toList || a.toList == b.toList

mutual
/-- Is a node well formed? -/
def N.well : N → Bool
  | .mk k tx ns ks =>
    if k = 1 then decide (ns = []) && decide (ks.length = 0) && textB tx
    else if k = 3 then decide (ns = []) && decide (ks.length = 0) && textB tx && decide (0 < tx.size)
    else if k = 2 then tx.toList.isEmpty && decide (ns.length = ks.length) && wellL none ns ks
    else false
def wellL : Option ByteArray → List ByteArray → List N → Bool
  | p, s :: ns, k :: ks => nameB s && !(p.any (leS s)) && k.well && wellL (some s) ns ks
  | _, [], _ => true
  | _, _ :: _, [] => false
end

theorem size_pos (s : ByteArray) : decide (0 < s.size) = !s.toList.isEmpty := by
  rw [Lib.toList_data]
  have h : s.size = s.data.toList.length := rfl
  rw [h]
  cases s.data.toList <;> simp

def prevOf (ns : List ByteArray) : Nat → Option ByteArray
  | 0 => none
  | j + 1 => ns[j]?
theorem wellL_at {p : Option ByteArray} {ns : List ByteArray} {ks : List N} {j : Nat} (h1 : j < ns.length) (h2 : j < ks.length) :
    wellL p (ns.drop j) (ks.drop j) = (nameB ns[j] && !(p.any (leS ns[j])) && ks[j].well && wellL (prevOf ns (j + 1)) (ns.drop (j + 1)) (ks.drop (j + 1))) := by
  rw [List.drop_eq_getElem_cons h1, List.drop_eq_getElem_cons h2, wellL]
  simp [prevOf, List.getElem?_eq_getElem h1]
theorem wellL_end {p : Option ByteArray} {ns : List ByteArray} {ks : List N} {j : Nat} (h1 : ¬ j < ns.length) : wellL p (ns.drop j) (ks.drop j) = true := by
  rw [List.drop_eq_nil_of_le (by omega), wellL]

mutual
/-- What the guard 'weight' counts. -/
def N.weight : N → Int
  | .mk _ tx ns ks => wKids (wNames (wrap64 (1 + wrap64 ((tx.size : Int) / 64))) ns) ks
def wKids : Int → List N → Int
  | w, [] => w
  | w, k :: ks => if w < 3000 then wKids (wrap64 (w + k.weight)) ks else w
def wNames : Int → List ByteArray → Int
  | w, [] => w
  | w, s :: ns => if w < 3000 then wNames (wrap64 (wrap64 (w + 1) + wrap64 ((s.size : Int) / 64))) ns else w
end

mutual
/-- How many nodes, as the machine counts. -/
def N.nodes : N → Int
  | .mk _ _ _ ks => nodesL 1 ks
def nodesL : Int → List N → Int
  | a, [] => a
  | a, k :: ks => nodesL (wrap64 (a + k.nodes)) ks
end

mutual
/-- How deep, as the machine counts. -/
def N.deep : N → Int
  | .mk _ _ _ ks => deepL 0 ks
def deepL : Int → List N → Int
  | a, [] => a
  | a, k :: ks => deepL (if a < wrap64 (k.deep + 1) then wrap64 (k.deep + 1) else a) ks
end

def N.may (t : N) : Bool := decide (t.kind = 2) && t.well && decide (t.nodes ≤ 1024) && decide (t.deep ≤ 24)

mutual
/-- Are two nodes one? -/
def N.same : N → N → Bool
  | .mk k t ns ks, .mk k' t' ns' ks' => decide (k = k') && decide (t = t') && decide (ns = ns') && sameL ks ks'
def sameL : List N → List N → Bool
  | [], [] => true
  | a :: l, b :: m => a.same b && sameL l m
  | [], _ :: _ => false
  | _ :: _, [] => false
end

theorem sameL_len : ∀ (l m : List N), l.length ≠ m.length → sameL l m = false
  | [], [], h => absurd rfl h
  | [], _ :: _, _ => by rw [sameL]
  | _ :: _, [], _ => by rw [sameL]
  | a :: l, b :: m, h => by rw [sameL, sameL_len l m (by simpa using h)]; simp
theorem sameL_at {l m : List N} {j : Nat} (h1 : j < l.length) (h2 : j < m.length) : sameL (l.drop j) (m.drop j) = (l[j].same m[j] && sameL (l.drop (j + 1)) (m.drop (j + 1))) := by
  rw [List.drop_eq_getElem_cons h1, List.drop_eq_getElem_cons h2, sameL]
theorem sameL_end {l m : List N} {j : Nat} (h1 : ¬ j < l.length) (h2 : l.length = m.length) : sameL (l.drop j) (m.drop j) = true := by
  rw [List.drop_eq_nil_of_le (by omega), List.drop_eq_nil_of_le (by omega), sameL]

end Go.Proofs.Ytocndkhgopjhhaa
/- More words: blocks known whole, what stands at a place, regions that draw at a world itself. -/
namespace Go.Proofs.Ytocndkhgopjhhaa
open Go.RowKit

/-- Block g is just the cells cs. -/
def Blk (w : World) (g : Nat) (t : TypeId) (cs : Array Value) : Prop := w.heap[g]? = some (.cells cs t (0, 0))
section
variable {w w' : World} {g : Nat} {t : TypeId} {cs : Array Value}
theorem Blk.lt (h : Blk w g t cs) : g < w.heap.size := by
  rcases Nat.lt_or_ge g w.heap.size with hlt | hge
  · exact hlt
  · unfold Blk at h; rw [Array.getElem?_eq_none hge] at h; cases h
theorem Blk.cell (h : Blk w g t cs) (i : Nat) : w.cell? ⟨g, i, none⟩ = cs[i]? := cell_of_row w g i cs t (0, 0) h
theorem Blk.frozen (h : Blk w g t cs) (i : Nat) : w.frozen? ⟨g, i, none⟩ = false := by
  unfold Blk at h
  simp [World.frozen?, h]
theorem Blk.new (w : World) (t : TypeId) (cs : Array Value) : Blk (w.alloc (.cells cs t)) w.heap.size t cs := heap_alloc_new w _
theorem Blk.new' (w : World) (t : TypeId) (cs : Array Value) {n : Nat} (hn : n = w.heap.size) : Blk (w.alloc (.cells cs t)) n t cs := hn ▸ Blk.new w t cs
theorem Blk.drewN (h : Blk w g t cs) (n : Nat) : Blk (w.drewN n) g t cs := h
theorem Blk.alloc (h : Blk w g t cs) (o : Obj) : Blk (w.alloc o) g t cs := (Below.heap_alloc w o g h.lt).trans h
theorem Blk.set_ (h : Blk w g t cs) (i : Nat) (u : Value) : Blk (w.setCell ⟨g, i, none⟩ u) g t (cs.setIfInBounds i u) := by
  unfold Blk at h ⊢
  simp [World.setCell, Array.getElem?_modify, h]
theorem Blk.far (h : Blk w g t cs) {p : Addr} (hp : g ≠ p.block) (u : Value) : Blk (w.setCell p u) g t cs := (Below.heap_setCell w p u g hp).trans h
theorem Blk.ext (h : Blk w g t cs) (hx : Ext w w') : Blk w' g t cs := (hx.block g h.lt).trans h
theorem Blk.up (h : Blk w g t cs) (u : Up w) : Blk u.val g t cs := h.ext u.ext
end

/-- a struct of four cells is stored. -/
def set4 (w : World) (g : Nat) (v0 v1 v2 v3 : Value) : World := (((w.setCell ⟨g, 0, none⟩ v0).setCell ⟨g, 1, none⟩ v1).setCell ⟨g, 2, none⟩ v2).setCell ⟨g, 3, none⟩ v3

/-- Below block number m the world w' is as w was. -/
theorem below_ext {m : Nat} {w w1 w2 : World} (h : Below m w w1) (k : Ext w1 w2) (hm : m ≤ w1.heap.size) : Below m w w2 := h.trans (Below.mono k hm)

theorem wp_region_up0 {P : Program} {id : Nat} {Q : Exit → Act → World → Prop} {a : Act} {l : List Oper} {W : World} (hm : P.follows .mixedOrders = true) (hB : Region.lexB .any l.toArray = true)
    (h : wpQuiet P l.toArray (fun w' => ∃ x : Up W, w' = x.val) (fun a' => ∀ w', (∃ x : Up W, w' = x.val) → Q .normal a' w') l a) : (Code.region id l.toArray true).wp P Q a W :=
  wp_region_quiet (C := fun w' => ∃ x : Up W, w' = x.val) hm hB ⟨⟨{ W with drawn := W.drawn + 1 }, ⟨rfl, rfl, rfl, Nat.le_refl _, fun _ _ => rfl⟩⟩, rfl⟩ (by simpa using h)

/-- Where a text stands among texts, from number j on. -/
def ixFrom (s : ByteArray) : Nat → List ByteArray → Option Nat
  | _, [] => none
  | j, x :: l => if x = s then some j else ixFrom s (j + 1) l
def ixI : Option Nat → Int
  | none => -1
  | some i => i
theorem ixFrom_lt {s : ByteArray} : ∀ {l : List ByteArray} {j i : Nat}, ixFrom s j l = some i → j ≤ i ∧ i < j + l.length ∧ l[i - j]? = some s
  | [], j, i, h => by simp [ixFrom] at h
  | x :: l, j, i, h => by
    rw [ixFrom] at h
    by_cases e : x = s
    · rw [if_pos e] at h
      injection h with h
      subst h e
      refine ⟨Nat.le_refl _, by simp, by simp⟩
    · rw [if_neg e] at h
      obtain ⟨h1, h2, h3⟩ := ixFrom_lt h
      refine ⟨by omega, by simp; omega, ?_⟩
      have : i - j = (i - (j + 1)) + 1 := by omega
      rw [this]; simpa using h3
theorem ixFrom_none {s : ByteArray} : ∀ {l : List ByteArray} {j : Nat}, ixFrom s j l = none ↔ s ∉ l
  | [], j => by simp [ixFrom]
  | x :: l, j => by
    rw [ixFrom]
    by_cases e : x = s
    · rw [if_pos e]; simp [e]
    · rw [if_neg e, ixFrom_none]; simp [Ne.symm e]

/-- What stands at a place. -/
def N.get : N → List ByteArray → Option N
  | t, [] => some t
  | t, s :: r => match ixFrom s 0 t.names with
    | none => none
    | some i => match t.kids[i]? with
      | none => none
      | some k => k.get r
def N.zero : N := .mk 0 { data := #[] } [] []

theorem Rep.mono {B : Nat} {S : Nat → Prop} {w : World} : ∀ {d d' : Nat} {t : N} {v : Value}, d ≤ d' → Rep B S w d t v → Rep B S w d' t v
  | 0, _, _, _, _, h => h.elim
  | d + 1, 0, _, _, hd, _ => by omega
  | d + 1, d' + 1, .mk k tx ns ks, v, hd, h => by
    obtain ⟨nv, A, c, e, htx, hn, h1, h2, hB, h3⟩ := h
    refine ⟨nv, A, c, e, htx, hn, h1, h2, hB, fun hp => ?_⟩
    obtain ⟨b, o, e2, hb, hl, hx⟩ := h3 hp
    refine ⟨b, o, e2, hb, hl, fun i t hi => ?_⟩
    obtain ⟨v0, v1, v2, v3, c0, c1, c2, c3, hr⟩ := hx i t hi
    exact ⟨v0, v1, v2, v3, c0, c1, c2, c3, Rep.mono (by omega) hr⟩
theorem Rep.zero {B : Nat} {S : Nat → Prop} {w : World} {d : Nat} (hd : 0 < d) : Rep B S w d N.zero (.agg #[.int .u8 0, .string { data := #[] }, .slice none 0 0, .slice none 0 0]) := by
  cases d with
  | zero => omega
  | succ d =>
    refine ⟨_, none, 0, rfl, Nat.zero_le _, ⟨none, 0, rfl, Nat.le_refl _, by simp [maxLen], by simp, by simp, by simp⟩, Nat.le_refl _, by simp [maxLen], by simp, by simp⟩

/-- What a look at a place comes to. -/
def GetPost (B : Nat) (S : Nat → Prop) (d : Nat) (o : Option N) (w : World) (e : Ending) (w' : World) : Prop :=
  ∃ v, e = .returned (.tuple #[v, .bool o.isSome]) ∧ Ext w w' ∧ Rep B S w' d (o.getD N.zero) v

theorem N.get_nil (t : N) : t.get [] = some t := by unfold N.get; rfl
theorem N.get_none {t : N} {s : ByteArray} {r : List ByteArray} (h : ixFrom s 0 t.names = none) : t.get (s :: r) = none := by rw [N.get, h]
theorem N.get_some {t : N} {s : ByteArray} {r : List ByteArray} {i : Nat} {k : N} (h : ixFrom s 0 t.names = some i) (hk : t.kids[i]? = some k) : t.get (s :: r) = k.get r := by rw [N.get, h]; simp only [hk]
theorem N.get_out {t : N} {s : ByteArray} {r : List ByteArray} {i : Nat} (h : ixFrom s 0 t.names = some i) (hk : t.kids[i]? = none) : t.get (s :: r) = none := by rw [N.get, h]; simp only [hk]

theorem Ext.set4 {w w1 : World} (h : Ext w w1) {g : Nat} (hg : w.heap.size ≤ g) (v0 v1 v2 v3 : Value) : Ext w (set4 w1 g v0 v1 v2 v3) :=
  (((h.setCell (p := ⟨g, 0, none⟩) hg v0).setCell (p := ⟨g, 1, none⟩) hg v1).setCell (p := ⟨g, 2, none⟩) hg v2).setCell (p := ⟨g, 3, none⟩) hg v3
theorem Blk.set4 {w : World} {g : Nat} {t : TypeId} {a b c d : Value} (h : Blk w g t #[a, b, c, d]) (v0 v1 v2 v3 : Value) : Blk (set4 w g v0 v1 v2 v3) g t #[v0, v1, v2, v3] := by
  have := (((h.set_ 0 v0).set_ 1 v1).set_ 2 v2).set_ 3 v3
  simpa [Go.Proofs.Ytocndkhgopjhhaa.set4] using this
theorem Blk.far4 {w : World} {g g' : Nat} {t : TypeId} {cs : Array Value} (h : Blk w g t cs) (hg : g ≠ g') (v0 v1 v2 v3 : Value) : Blk (Go.Proofs.Ytocndkhgopjhhaa.set4 w g' v0 v1 v2 v3) g t cs :=
  (((h.far (p := ⟨g', 0, none⟩) hg v0).far (p := ⟨g', 1, none⟩) hg v1).far (p := ⟨g', 2, none⟩) hg v2).far (p := ⟨g', 3, none⟩) hg v3
theorem Blk.cells4 {w : World} {g : Nat} {t : TypeId} {a b c d : Value} (h : Blk w g t #[a, b, c, d]) :
    w.cell? ⟨g, 0, none⟩ = some a ∧ w.cell? ⟨g, 1, none⟩ = some b ∧ w.cell? ⟨g, 2, none⟩ = some c ∧ w.cell? ⟨g, 3, none⟩ = some d ∧
      w.frozen? ⟨g, 0, none⟩ = false ∧ w.frozen? ⟨g, 1, none⟩ = false ∧ w.frozen? ⟨g, 2, none⟩ = false ∧ w.frozen? ⟨g, 3, none⟩ = false :=
  ⟨h.cell 0, h.cell 1, h.cell 2, h.cell 3, h.frozen 0, h.frozen 1, h.frozen 2, h.frozen 3⟩

end Go.Proofs.Ytocndkhgopjhhaa
/- append onto a row of the call's own, from a source that may be nil: what comes back, and in which block it lies. -/
namespace Go.Proofs.Ytocndkhgopjhhaa
open Go.RowKit

section
variable {P : Program} (w : World)

theorem app_none (base : Nat) (t ty e : TypeId) (i : TypeInfo) (size : Nat) (ht : P.underlying t = some (.slice e)) (hi : P.info? e = some i)
    (v : Value) (n : Nat) (xs : List Value) (hown : w.ownsRow base e size v n xs) (c : Nat) : (Builtin.append_ #[t, t] ty #[v, .slice none 0 c]).run P w = .ok v w := by
  rcases hown.2 with ⟨rfl, rfl⟩ | ⟨g, cap, cur, rfl, _, _, hnc, _⟩
  · simp [Builtin.append_, run_underlying ht, sizeOf, typeInfo, hi, Builtin.lenOf, Builtin.firstCells]
  · simp [Builtin.append_, run_underlying ht, sizeOf, typeInfo, hi, Builtin.lenOf, Builtin.firstCells, hnc, storeCells]

/-- Where the row that comes back lies: where the old one lay, or in a new block. -/
def At (w : World) (v v' : Value) : Prop := v'.ownBlock = v.ownBlock ∨ ∀ g, v'.ownBlock = some g → w.heap.size ≤ g

theorem run_app (base : Nat) (t ty e : TypeId) (i : TypeInfo) (z : Value) (size bytes : Nat) (ht : P.underlying t = some (.slice e)) (hi : P.info? e = some i) (hz : i.zero = some z)
    (hsize : i.size = size) (hby : i.bytes = bytes) (hzs : z.cells.size = size) (hsz : 0 < size)
    (v : Value) (n : Nat) (xs : List Value) (hown : w.ownsRow base e size v n xs)
    (A : Option Addr) (m c : Nat) (news : List Value) (hl : news.length = m * size) (hsrc : 0 < m → ∃ ad, A = some ad ∧ ∀ j u, news[j]? = some u → w.cell? (ad.add j) = some u) (h1 : ∀ u ∈ news, u.oneCell' = true)
    (h63 : n + m ≤ maxLen) (hbytes : ((n + m) + (n + m) / 4 + 192) * bytes ≤ 281474976710656) (hbase : base ≤ w.heap.size) :
    ∃ v' w', (Builtin.append_ #[t, t] ty #[v, .slice A m c]).run P w = .ok v' w' ∧ w'.ownsRow base e size v' (n + m) (xs ++ news) ∧ w.grownBy w' v.ownBlock ∧ At w v v' := by
  rcases A with _ | ad
  · have hm : m = 0 := by
      rcases Nat.eq_zero_or_pos m with h0 | h0
      · exact h0
      · obtain ⟨ad, h, _⟩ := hsrc h0; cases h
    subst hm
    have hn : news = [] := List.eq_nil_of_length_eq_zero (by simpa using hl)
    subst hn
    exact ⟨v, w, app_none w base t ty e i size ht hi v n xs hown c, by simpa using hown, World.grownBy.refl w _, .inl rfl⟩
  · have hnews : ∀ j u, news[j]? = some u → w.cell? (ad.add j) = some u := by
      intro j u hu
      rcases Nat.eq_zero_or_pos m with h0 | h0
      · subst h0
        have hn : news = [] := List.eq_nil_of_length_eq_zero (by simpa using hl)
        subst hn
        simp at hu
      · obtain ⟨ad', h, hc⟩ := hsrc h0
        injection h with h
        subst h
        exact hc j u hu
    obtain ⟨v', w', hr, h2, h3, _⟩ := run_append_own_wide (P := P) w base t ty e i z size bytes ht hi hz hsize hby hzs hsz v n xs hown ad m c news hl hnews h1 h63 hbytes hbase
    refine ⟨v', w', hr, h2, h3, ?_⟩
    rcases hown.2 with ⟨rfl, rfl⟩ | ⟨g, cap, cur, rfl, hbg, hg, hnc, hcm, hcs, htake⟩
    · have hx : xs = [] := List.eq_nil_of_length_eq_zero (by simpa using hown.1)
      subst hx
      obtain ⟨v2, w2, hr2, k2, _, _⟩ := run_append_own_wide (P := P) w w.heap.size t ty e i z size bytes ht hi hz hsize hby hzs hsz (.slice none 0 0) 0 [] (World.ownsRow_nil w w.heap.size e size) ad m c news hl hnews h1 h63 hbytes (Nat.le_refl _)
      rw [hr] at hr2
      injection hr2 with e1 e2
      subst e1 e2
      right
      intro g hg
      rcases k2.2 with ⟨e, _⟩ | ⟨g', _, _, e, hb, _⟩
      · rw [e] at hg; cases hg
      · rw [e] at hg; simp [Value.ownBlock] at hg; omega
    · by_cases hroom : n + m ≤ cap
      · left
        have hfit : n * i.size + news.length ≤ cur.size := by rw [hl, hcs, hsize, ← Nat.add_mul]; exact Nat.mul_le_mul_right _ hroom
        have hr2 := run_append_room (P := P) w t ty e i ht hi g n cap cur hg ad m c news (by rw [hsize]; exact hl) hnews h1 hroom hfit
        rw [hr] at hr2
        injection hr2 with e1 _
        rw [e1]; rfl
      · right
        have holds : ∀ j u, xs[j]? = some u → w.cell? ((⟨g, 0, none⟩ : Addr).add j) = some u := hown.cells (g := g) rfl
        have hr2 := run_append_grow (P := P) w t ty e i z ht hi hz ⟨g, 0, none⟩ n cap xs (by rw [hsize]; exact hown.1) holds ad m c news (by rw [hsize]; exact hl) hnews (by omega) (by simp only [maxLen] at h63; omega) (growslice_fits_wide (by omega) (by rw [hby]; exact hbytes))
        rw [hr] at hr2
        injection hr2 with e1 _
        intro g' hg'
        rw [e1] at hg'
        simp [Value.ownBlock] at hg'
        omega

theorem wpList_app {ops : Array Oper} {rest : List Oper} {o : Oper} {a : Act} {Q : Exit → Act → World → Prop} (hgd : o.guard = none) (s x : Operand) (t : TypeId)
    (ho : o.op = .call { callee := .builtin .append, args := #[s, x], argTypes := #[t, t] })
    (base : Nat) (e : TypeId) (i : TypeInfo) (z : Value) (size bytes : Nat) (ht : P.underlying t = some (.slice e)) (hi : P.info? e = some i) (hz : i.zero = some z)
    (hsize : i.size = size) (hby : i.bytes = bytes) (hzs : z.cells.size = size) (hsz : 0 < size)
    (v : Value) (n : Nat) (xs : List Value) (hs : a.eval s = v) (hown : w.ownsRow base e size v n xs)
    (A : Option Addr) (m c : Nat) (news : List Value) (hx : a.eval x = .slice A m c) (hl : news.length = m * size) (hsrc : 0 < m → ∃ ad, A = some ad ∧ ∀ j u, news[j]? = some u → w.cell? (ad.add j) = some u) (h1 : ∀ u ∈ news, u.oneCell' = true)
    (h63 : n + m ≤ maxLen) (hbytes : ((n + m) + (n + m) / 4 + 192) * bytes ≤ 281474976710656) (hbase : base ≤ w.heap.size)
    (h : ∀ v' w', w'.ownsRow base e size v' (n + m) (xs ++ news) → w.grownBy w' v.ownBlock → At w v v' → wpList P ops Q rest (a.put o.dst v') w') : wpList P ops Q (o :: rest) a w := by
  refine wpList_plain hgd fun K hK => ?_
  obtain ⟨v', w', hr, h2, h3, h5⟩ := run_app (P := P) w base t o.type e i z size bytes ht hi hz hsize hby hzs hsz v n xs hown A m c news hl hsrc h1 h63 hbytes hbase
  unfold Oper.wp execOp
  simp only [ho, resolve, invoke, builtin, Sem.run_bind, Sem.run_pure, Result.andThen_ok, List.map_toArray, List.map_cons, List.map_nil, hs, hx, hr]
  exact hK _ _ (h v' w' h2 h3 h5)
end

end Go.Proofs.Ytocndkhgopjhhaa
/- Rows of nodes and of names that a call owns. -/
namespace Go.Proofs.Ytocndkhgopjhhaa
open Go.RowKit

theorem ownsRow_ext {w w' : World} {base : Nat} {e : TypeId} {size : Nat} {v : Value} {n : Nat} {xs : List Value} (h : w.ownsRow base e size v n xs) (hx : ∀ g, v.ownBlock = some g → w'.heap[g]? = w.heap[g]?) : w'.ownsRow base e size v n xs := by
  refine ⟨h.1, ?_⟩
  rcases h.2 with h2 | ⟨g, cap, cur, rfl, h3, h4, h5⟩
  · exact .inl h2
  · exact .inr ⟨g, cap, cur, rfl, h3, (hx g rfl).trans h4, h5⟩
theorem ownsRow_lt {w : World} {base : Nat} {e : TypeId} {size : Nat} {v : Value} {n : Nat} {xs : List Value} (h : w.ownsRow base e size v n xs) {g : Nat} (hg : v.ownBlock = some g) : base ≤ g ∧ g < w.heap.size := by
  rcases h.2 with ⟨rfl, _⟩ | ⟨g', cap, cur, rfl, h3, h4, h5⟩
  · cases hg
  · simp [Value.ownBlock] at hg
    subst hg
    refine ⟨h3, ?_⟩
    rcases Nat.lt_or_ge g' w.heap.size with h | h
    · exact h
    · rw [Array.getElem?_eq_none h] at h4; cases h4
theorem ownsRow_mono {w : World} {base base' : Nat} {e : TypeId} {size : Nat} {v : Value} {n : Nat} {xs : List Value} (h : w.ownsRow base e size v n xs) (hb : base' ≤ base) : w.ownsRow base' e size v n xs := by
  refine ⟨h.1, ?_⟩
  rcases h.2 with h2 | ⟨g, cap, cur, rfl, h3, h4, h5⟩
  · exact .inl h2
  · exact .inr ⟨g, cap, cur, rfl, by omega, h4, h5⟩
/-- No cell of a block is frozen. -/
def Nfz (w : World) (b : Nat) : Prop := ∀ o, w.frozen? ⟨b, o, none⟩ = false
theorem Nfz.same {w w' : World} {b : Nat} (h : Nfz w b) (hb : w'.heap[b]? = w.heap[b]?) : Nfz w' b := fun o => (World.frozen?_of_block (a := ⟨b, o, none⟩) hb).trans (h o)
theorem ownsRow_nfz {w : World} {base : Nat} {e : TypeId} {size : Nat} {v : Value} {n : Nat} {xs : List Value} (h : w.ownsRow base e size v n xs) {g : Nat} (hg : v.ownBlock = some g) : Nfz w g := by
  rcases h.2 with ⟨rfl, _⟩ | ⟨g', cap, cur, rfl, h3, h4, h5⟩
  · cases hg
  · simp [Value.ownBlock] at hg
    subst hg
    intro o
    simp [World.frozen?, h4]

theorem ownsRow_cell {w : World} {base : Nat} {e : TypeId} {size : Nat} {g n cap : Nat} {xs : List Value} (h : w.ownsRow base e size (.slice (some ⟨g, 0, none⟩) n cap) n xs) {j : Nat} {u : Value} (hj : xs[j]? = some u) : w.cell? ⟨g, 0 + j, none⟩ = some u := by
  have := h.cells (g := g) rfl j u hj
  rcases Nat.eq_zero_or_pos j with rfl | h0
  · simpa [Addr.add] using this
  · rw [Addr.add, if_neg (by omega)] at this; exact this

/-- 'The row v of the call's own holds the names ns'. -/
abbrev OwnStrs (w : World) (base : Nat) (v : Value) (ns : List ByteArray) : Prop := w.ownsRow base 9 1 v ns.length (ns.map Value.string)

theorem OwnStrs.strs {w : World} {base B : Nat} {v : Value} {ns : List ByteArray} (h : OwnStrs w base v ns) (hB : ns.length ≤ B) (hs : ∀ s ∈ ns, s.size ≤ maxLen) : Strs B (fun b => v.ownBlock = some b) w v ns := by
  rcases h.2 with ⟨rfl, hn⟩ | ⟨g, cap, cur, rfl, h3, h4, hnc, hcm, h5⟩
  · have := List.eq_nil_of_length_eq_zero hn
    subst this
    exact ⟨none, 0, rfl, Nat.le_refl _, Nat.zero_le _, hB, hs, by simp⟩
  · refine ⟨_, cap, rfl, hnc, hcm, hB, hs, fun _ => ⟨g, 0, rfl, rfl, (ownsRow_lt h (g := g) rfl).2, fun i s hi => ownsRow_cell h (by simp [hi])⟩⟩

/-- 'The row v of the call's own holds the nodes ks', whose own memory lies in T, the row not in it. -/
def OwnKids (B : Nat) (T : Nat → Prop) (w : World) (d base : Nat) (v : Value) (ks : List N) : Prop :=
  ∃ xs, w.ownsRow base 25 4 v ks.length xs ∧ (∀ g, v.ownBlock = some g → ¬ T g) ∧ ∀ i t, ks[i]? = some t →
    ∃ v0 v1 v2 v3, xs[i * 4]? = some v0 ∧ xs[i * 4 + 1]? = some v1 ∧ xs[i * 4 + 2]? = some v2 ∧ xs[i * 4 + 3]? = some v3 ∧ Rep B T w d t (.agg #[v0, v1, v2, v3])

theorem OwnKids.nil {B : Nat} {T : Nat → Prop} {w : World} {d base : Nat} : OwnKids B T w d base (.slice none 0 0) [] :=
  ⟨[], World.ownsRow_nil w base _ 4, (fun _ h => by cases h), (fun i t h => by simp at h)⟩

theorem OwnKids.kids {B : Nat} {T : Nat → Prop} {w : World} {d base : Nat} {v : Value} {ks : List N} (h : OwnKids B T w d base v ks) (hB : ks.length ≤ B) : Kids B (fun b => T b ∨ v.ownBlock = some b) w d v ks := by
  obtain ⟨xs, ho, hT, hk⟩ := h
  rcases ho.2 with ⟨rfl, hn⟩ | ⟨g, cap, cur, rfl, h3, h4, hnc, hcm, h5⟩
  · have := List.eq_nil_of_length_eq_zero hn
    subst this
    exact ⟨none, 0, rfl, Nat.le_refl _, Nat.zero_le _, hB, by simp⟩
  · refine ⟨_, cap, rfl, hnc, hcm, hB, fun _ => ⟨g, 0, rfl, .inr rfl, (ownsRow_lt ho (g := g) rfl).2, fun i t hi => ?_⟩⟩
    obtain ⟨v0, v1, v2, v3, x0, x1, x2, x3, hr⟩ := hk i t hi
    have c0 := ownsRow_cell ho x0
    have c1 := ownsRow_cell ho x1
    have c2 := ownsRow_cell ho x2
    have c3 := ownsRow_cell ho x3
    refine ⟨v0, v1, v2, v3, c0, c1, c2, c3, Rep.keep (Nat.le_refl _) (fun _ _ _ => rfl) (fun _ h _ => .inl h) _ _ _ hr⟩

theorem OwnKids.ext {B : Nat} {T T' : Nat → Prop} {w w' : World} {d base : Nat} {v : Value} {ks : List N} (h : OwnKids B T w d base v ks) (hx : Ext w w') (hT : ∀ b, T b → b < w.heap.size → T' b) (hT' : ∀ g, v.ownBlock = some g → ¬ T' g) : OwnKids B T' w' d base v ks := by
  obtain ⟨xs, ho, _, hk⟩ := h
  refine ⟨xs, ownsRow_ext ho fun g hg => hx.block g (ownsRow_lt ho hg).2, hT', fun i t hi => ?_⟩
  obtain ⟨v0, v1, v2, v3, x0, x1, x2, x3, hr⟩ := hk i t hi
  exact ⟨v0, v1, v2, v3, x0, x1, x2, x3, Rep.keep hx.size (fun _ _ hb => hx.block _ hb) hT _ _ _ hr⟩

theorem OwnKids.push {B : Nat} {T : Nat → Prop} {w w' : World} {d base : Nat} {v v' : Value} {ks : List N} {t : N} {v0 v1 v2 v3 : Value} {n : Nat} (hn : n = ks.length) {xs : List Value} (ho : w.ownsRow base 25 4 v n xs) (hT : ∀ g, v.ownBlock = some g → ¬ T g)
    (hk : ∀ i t, ks[i]? = some t → ∃ v0 v1 v2 v3, xs[i * 4]? = some v0 ∧ xs[i * 4 + 1]? = some v1 ∧ xs[i * 4 + 2]? = some v2 ∧ xs[i * 4 + 3]? = some v3 ∧ Rep B T w d t (.agg #[v0, v1, v2, v3]))
    (hlt : ∀ b, T b → b < w.heap.size) (hr : Rep B T w d t (.agg #[v0, v1, v2, v3]))
    (ho' : w'.ownsRow base 25 4 v' (n + 1) (xs ++ [v0, v1, v2, v3])) (hg : w.grownBy w' v.ownBlock) (hat : At w v v') : OwnKids B T w' d base v' (ks ++ [t]) := by
  subst hn
  have keep : ∀ t v, Rep B T w d t v → Rep B T w' d t v := fun t u hu => Rep.keep hg.size (fun b hb hl => hg.block b hl fun e => hT b e.symm hb) (fun _ h _ => h) _ _ _ hu
  refine ⟨xs ++ [v0, v1, v2, v3], by simpa using ho', ?_, ?_⟩
  · intro g hv' hTg
    rcases hat with e | e
    · exact hT g (by rw [← e]; exact hv') hTg
    · have := e g hv'; have := hlt g hTg; omega
  · intro i t' hi
    by_cases hil : i < ks.length
    · rw [List.getElem?_append_left hil] at hi
      obtain ⟨u0, u1, u2, u3, x0, x1, x2, x3, hr'⟩ := hk i t' hi
      have hxl := ho.1
      refine ⟨u0, u1, u2, u3, ?_, ?_, ?_, ?_, keep _ _ hr'⟩ <;> (rw [List.getElem?_append_left (by omega)]; assumption)
    · have hie : i = ks.length := by
        have : i < (ks ++ [t]).length := (List.getElem?_eq_some_iff.1 hi).1
        simp at this; omega
      subst hie
      simp at hi
      subst hi
      have hxl := ho.1
      refine ⟨v0, v1, v2, v3, ?_, ?_, ?_, ?_, keep _ _ hr⟩ <;> (rw [List.getElem?_append_right (by omega), hxl]; simp)

theorem ownsRow_form {w : World} {base : Nat} {e : TypeId} {size : Nat} {v : Value} {n : Nat} {xs : List Value} (h : w.ownsRow base e size v n xs) : ∃ A c, v = .slice A n c := by
  rcases h.2 with ⟨rfl, rfl⟩ | ⟨g, cap, cur, rfl, _⟩
  · exact ⟨none, 0, rfl⟩
  · exact ⟨_, cap, rfl⟩

theorem Blk.set2 {w : World} {g : Nat} {t : TypeId} {a b c d : Value} (h : Blk w g t #[a, b, c, d]) (u : Value) : Blk (w.setCell ⟨g, 2, none⟩ u) g t #[a, b, u, d] := by
  simpa using h.set_ 2 u
theorem Blk.set3 {w : World} {g : Nat} {t : TypeId} {a b c d : Value} (h : Blk w g t #[a, b, c, d]) (u : Value) : Blk (w.setCell ⟨g, 3, none⟩ u) g t #[a, b, c, u] := by
  simpa using h.set_ 3 u
theorem Ext.set1 {w w1 : World} (h : Ext w w1) {p : Addr} (hp : w.heap.size ≤ p.block) (u : Value) : Ext w (w1.setCell p u) := h.setCell hp u

/-- four cells laid in a new block are there. -/
theorem cells4_new (w : World) (t : TypeId) (v0 v1 v2 v3 : Value) : ∀ j u, [v0, v1, v2, v3][j]? = some u → (w.alloc (.cells #[v0, v1, v2, v3] t)).cell? ((⟨w.heap.size, 0, none⟩ : Addr).add j) = some u := by
  intro j u hj
  match j, hj with
  | 0, hj => simp at hj; subst hj; simp [Addr.add]
  | 1, hj => simp at hj; subst hj; simp [Addr.add]
  | 2, hj => simp at hj; subst hj; simp [Addr.add]
  | 3, hj => simp at hj; subst hj; simp [Addr.add]
  | j + 4, hj => simp at hj

theorem Ext.grown {w w1 w2 : World} (h : Ext w w1) {row : Option Nat} (hg : w1.grownBy w2 row) (hr : ∀ g, row = some g → w.heap.size ≤ g) : Ext w w2 := Below.grown h hg h.size hr
theorem Blk.grown {w w' : World} {g : Nat} {t : TypeId} {cs : Array Value} {row : Option Nat} (h : Blk w g t cs) (hb : w.grownBy w' row) (hg : some g ≠ row) : Blk w' g t cs := (hb.block g h.lt hg).trans h

theorem heap_set4 (w : World) (g : Nat) (v0 v1 v2 v3 : Value) {b : Nat} (hb : b ≠ g) : (set4 w g v0 v1 v2 v3).heap[b]? = w.heap[b]? := by
  unfold set4
  rw [Below.heap_setCell _ _ _ _ (by exact hb), Below.heap_setCell _ _ _ _ (by exact hb), Below.heap_setCell _ _ _ _ (by exact hb), Below.heap_setCell _ _ _ _ (by exact hb)]
theorem size_set4 (w : World) (g : Nat) (v0 v1 v2 v3 : Value) : (set4 w g v0 v1 v2 v3).heap.size = w.heap.size := by simp [set4, World.setCell]

/-- The end of such a loop: the node that was made reads as the one that was copied. -/
theorem copy_end {B d base : Nat} {w wr F : World} {T : Nat → Prop} {k : Int} {tx : ByteArray} {ns : List ByteArray} {ks : List N} {nv kv : Value} (htx : tx.size ≤ maxLen) (hB : ks.length ≤ B) (hbase : w.heap.size ≤ base)
    (hs : Strs (4 * B) T wr nv ns) (ho : OwnKids B T wr d base kv ks) (hlt : ∀ b, T b → base ≤ b ∧ b < wr.heap.size ∧ Nfz wr b) (hz : wr.heap.size ≤ F.heap.size) (hF : ∀ b, base ≤ b → b < wr.heap.size → F.heap[b]? = wr.heap[b]?) :
    Rep B (fun b => w.heap.size ≤ b ∧ Nfz F b) F (d + 1) (.mk k tx ns ks) (.agg #[.int .u8 k, .string tx, nv, kv]) := by
  refine Rep.join htx ?_ ?_
  · exact hs.keep hz (fun b hb hl => hF b (hlt b hb).1 hl) (fun b hb hl => by have := (hlt b hb).1; exact ⟨by omega, (hlt b hb).2.2.same (hF b this hl)⟩)
  · have hrow : ∀ g, kv.ownBlock = some g → base ≤ g ∧ Nfz wr g := by obtain ⟨xs, h, _⟩ := ho; exact fun g hg => ⟨(ownsRow_lt h hg).1, ownsRow_nfz h hg⟩
    have hb : ∀ b, (T b ∨ kv.ownBlock = some b) → base ≤ b ∧ Nfz wr b := by
      rintro b (h | h)
      · exact ⟨(hlt b h).1, (hlt b h).2.2⟩
      · exact hrow b h
    exact (ho.kids hB).keep hz (fun b h hl => hF b (hb b h).1 hl) (fun b h hl => by have := hb b h; exact ⟨by omega, this.2.same (hF b this.1 hl)⟩)

/-- One round of a loop that puts a new node behind the others. -/
theorem round_push {B d base : Nat} {w wr w2 w3 : World} {T : Nat → Prop} {v v' : Value} {ks : List N} {j : Nat} {xs : List Value} {Y : Obj} {t : N} {v0 v1 v2 v3 : Value}
    (ht : ks[j]? = some t) (hbase : w.heap.size ≤ base) (hbr : base ≤ wr.heap.size) (hx : Ext w wr) (ho : wr.ownsRow base 25 4 v (ks.take j).length xs) (hT : ∀ g, v.ownBlock = some g → ¬ T g)
    (hk : ∀ i t, (ks.take j)[i]? = some t → ∃ v0 v1 v2 v3, xs[i * 4]? = some v0 ∧ xs[i * 4 + 1]? = some v1 ∧ xs[i * 4 + 2]? = some v2 ∧ xs[i * 4 + 3]? = some v3 ∧ Rep B T wr d t (.agg #[v0, v1, v2, v3]))
    (hlt : ∀ b, T b → base ≤ b ∧ b < wr.heap.size ∧ Nfz wr b) (hx2 : Ext wr w2) {S2 : Nat → Prop} (hS2 : ∀ b, S2 b → wr.heap.size ≤ b ∧ Nfz w2 b) (hr2 : Rep B S2 w2 d t (.agg #[v0, v1, v2, v3]))
    (ho' : w3.ownsRow base 25 4 v' (j + 1) (xs ++ [v0, v1, v2, v3])) (hg : (w2.alloc Y).grownBy w3 v.ownBlock) (hat : At (w2.alloc Y) v v') :
    ∃ T' : Nat → Prop, Ext w w3 ∧ (∀ g ty cs, g < base → Blk wr g ty cs → Blk w3 g ty cs) ∧ (∀ Bn u ns, Strs Bn T wr u ns → Strs Bn T' w3 u ns) ∧ OwnKids B T' w3 d base v' (ks.take (j + 1)) ∧ (∀ b, T' b → base ≤ b ∧ b < w3.heap.size ∧ Nfz w3 b) := by
  have hjl : j < ks.length := (List.getElem?_eq_some_iff.1 ht).1
  have htl : (ks.take j).length = j := by rw [List.length_take]; omega
  have hxY : Ext wr (w2.alloc Y) := hx2.trans' (Ext.alloc' _ _)
  have hzY : (w2.alloc Y).heap.size = w2.heap.size + 1 := by simp
  have hz2 := hx2.size
  have hz3 := hg.size
  have hrow : ∀ g, v.ownBlock = some g → base ≤ g ∧ g < wr.heap.size := fun g h => ownsRow_lt ho h
  have same : ∀ b, T b → w3.heap[b]? = wr.heap[b]? := fun b hb => by
    have hl := (hlt b hb).2.1
    rw [hg.block b (by omega) (fun e => hT b e.symm hb), hxY.block b hl]
  have same2 : ∀ b, wr.heap.size ≤ b → b < w2.heap.size → w3.heap[b]? = w2.heap[b]? := fun b h1 h2 => by
    rw [hg.block b (by omega) (fun e => by have := hrow b e.symm; omega), Below.heap_alloc _ _ _ h2]
  refine ⟨fun b => T b ∨ (wr.heap.size ≤ b ∧ b < w2.heap.size ∧ Nfz w2 b), (hx.trans' hxY).grown hg (fun g h => by have := hrow g h; omega), ?_, ?_, ?_, ?_⟩
  · intro g ty cs hgb hB
    exact (hB.ext hxY).grown hg fun e => by have := hrow g e.symm; omega
  · intro Bn u ns hs
    exact hs.keep (by omega) (fun b hb _ => same b hb) (fun b hb _ => .inl hb)
  · have htk : ks.take (j + 1) = ks.take j ++ [t] := by
      rw [List.take_add_one, ht]; rfl
    rw [htk]
    refine OwnKids.push (w := w2.alloc Y) htl.symm (xs := xs) ?_ ?_ ?_ ?_ ?_ ho' hg hat
    · rw [htl] at ho
      exact ownsRow_ext ho fun g h => hxY.block g (hrow g h).2
    · rintro g h (h' | ⟨h', _⟩)
      · exact hT g h h'
      · have := (hrow g h).2; omega
    · intro i t' hi
      obtain ⟨u0, u1, u2, u3, x0, x1, x2, x3, hr⟩ := hk i t' hi
      exact ⟨u0, u1, u2, u3, x0, x1, x2, x3, Rep.keep hxY.size (fun _ _ hb => hxY.block _ hb) (fun _ h _ => .inl h) _ _ _ hr⟩
    · rintro b (h | ⟨_, h, _⟩)
      · have := (hlt b h).2.1; omega
      · omega
    · exact Rep.keep (by omega) (fun b _ hb => Below.heap_alloc _ _ _ hb) (fun b hb hl => .inr ⟨(hS2 b hb).1, hl, (hS2 b hb).2⟩) _ _ _ hr2
  · rintro b (h | ⟨h1, h2, h3⟩)
    · have := hlt b h
      exact ⟨this.1, by omega, this.2.2.same (same b h)⟩
    · exact ⟨by omega, by omega, h3.same (same2 b h1 h2)⟩

/-- What a copy of a node comes to: a node in blocks that the call made. -/
def OwnPost (B d : Nat) (t : N) (w : World) (e : Ending) (w' : World) : Prop :=
  ∃ A c A' c', e = .returned (.agg #[.int .u8 t.kind, .string t.text, .slice A t.names.length c, .slice A' t.kids.length c']) ∧ Ext w w' ∧
    Rep B (fun b => w.heap.size ≤ b ∧ Nfz w' b) w' d t (.agg #[.int .u8 t.kind, .string t.text, .slice A t.names.length c, .slice A' t.kids.length c'])

end Go.Proofs.Ytocndkhgopjhhaa
namespace Go.Proofs.Ytocndkhgopjhhaa
open Go.RowKit

theorem results_cell_tmp {fn : Func} {t u : Nat} (h : fn.results = #[.cell t 25, .tmp u]) (tmps : Array Value) (w : World) (g : Nat) (v0 v1 v2 v3 : Value)
    (ht : tmps.getD t undef = .pointer (some ⟨g, 0, none⟩)) (hB : Blk w g 25 #[v0, v1, v2, v3]) :
    (results fn tmps).run Try.prog w = .ok (.tuple #[.agg #[v0, v1, v2, v3], tmps.getD u undef]) w := by
  obtain ⟨c0, c1, c2, c3, _⟩ := hB.cells4
  have ht' : tmps[t]?.getD undef = .pointer (some ⟨g, 0, none⟩) := by simpa using ht
  simp [results, h, ht', go_sem, c0, c1, c2, c3]
theorem results_cell {fn : Func} {t : Nat} (h : fn.results = #[.cell t 25]) (tmps : Array Value) (w : World) (g : Nat) (v0 v1 v2 v3 : Value)
    (ht : tmps.getD t undef = .pointer (some ⟨g, 0, none⟩)) (hB : Blk w g 25 #[v0, v1, v2, v3]) :
    (results fn tmps).run Try.prog w = .ok (.agg #[v0, v1, v2, v3]) w := by
  obtain ⟨c0, c1, c2, c3, _⟩ := hB.cells4
  have ht' : tmps[t]?.getD undef = .pointer (some ⟨g, 0, none⟩) := by simpa using ht
  simp [results, h, ht', go_sem, c0, c1, c2, c3]
end Go.Proofs.Ytocndkhgopjhhaa
/- Worlds in which what was there stands, but for some blocks. -/
namespace Go.Proofs.Ytocndkhgopjhhaa
open Go.RowKit

/-- What was there stands as it stood, but for the blocks of F. -/
structure Turns (F : Nat → Prop) (w w' : World) : Prop where
  os : w'.os = w.os
  tape : w'.tape = w.tape
  output : w'.output = w.output
  size : w.heap.size ≤ w'.heap.size
  block : ∀ b, b < w.heap.size → ¬ F b → w'.heap[b]? = w.heap[b]?
theorem Turns.trans {F G : Nat → Prop} {a b c : World} (h : Turns F a b) (k : Turns G b c) (hG : ∀ x, G x → x < a.heap.size → F x) : Turns F a c :=
  ⟨k.os.trans h.os, k.tape.trans h.tape, k.output.trans h.output, Nat.le_trans h.size k.size, fun x hx hn => (k.block x (Nat.lt_of_lt_of_le hx h.size) fun hg => hn (hG x hg hx)).trans (h.block x hx hn)⟩
theorem Turns.ofExt {F : Nat → Prop} {w w' : World} (h : Ext w w') : Turns F w w' := ⟨h.os, h.tape, h.output, h.size, fun b hb _ => h.block b hb⟩
theorem Turns.ofGrown {w w' : World} {r : Option Nat} (h : w.grownBy w' r) : Turns (fun b => r = some b) w w' := ⟨h.os, h.tape, h.output, h.size, fun b hb hn => h.block b hb fun e => hn e.symm⟩
theorem Turns.ofSet (w : World) (p : Addr) (u : Value) : Turns (fun b => b = p.block) w (w.setCell p u) := ⟨rfl, rfl, rfl, by simp [World.setCell], fun b _ hn => Below.heap_setCell w p u b hn⟩
theorem Turns.mono {F G : Nat → Prop} {w w' : World} (h : Turns F w w') (hG : ∀ x, F x → G x) : Turns G w w' := ⟨h.os, h.tape, h.output, h.size, fun b hb hn => h.block b hb fun hf => hn (hG b hf)⟩
end Go.Proofs.Ytocndkhgopjhhaa
/- Rows of the call's own, beside other blocks. -/
namespace Go.Proofs.Ytocndkhgopjhhaa
open Go.RowKit

/-- A row of the call's own: of n elements, the cells xs. -/
abbrev RowOf (W1 : World) (w : World) (t : TypeId) (size n : Nat) (v : Value) (xs : List Value) : Prop := (∃ A c, v = .slice A n c) ∧ w.ownsRow W1.heap.size t size v n xs
section
variable {W1 w w' : World} {t t' : TypeId} {size size' n n' g : Nat} {v u : Value} {xs ys : List Value} {cs : Array Value}
theorem RowOf.ext (h : RowOf W1 w t size n v xs) (hx : Ext w w') : RowOf W1 w' t size n v xs := ⟨h.1, ownsRow_ext h.2 fun g hg => hx.block g (ownsRow_lt h.2 hg).2⟩
theorem RowOf.typed (h : RowOf W1 w t size n v xs) (hg : v.ownBlock = some g) : ∃ cur, w.heap[g]? = some (.cells cur t (0, 0)) := by
  rcases h.2.2 with ⟨rfl, _⟩ | ⟨g', cap, cur, rfl, _, h4, _⟩
  · cases hg
  · simp [Value.ownBlock] at hg
    subst hg; exact ⟨cur, h4⟩
theorem RowOf.blkNe (h : RowOf W1 w t size n v xs) (hb : Blk w g t' cs) (ht : t ≠ t') : v.ownBlock ≠ some g := fun e => by
  obtain ⟨cur, hc⟩ := h.typed e
  unfold Blk at hb
  rw [hc] at hb
  injection hb with hb
  injection hb with _ hb
  exact ht hb
theorem RowOf.rowNe (h : RowOf W1 w t size n v xs) (hu : RowOf W1 w t' size' n' u ys) (ht : t ≠ t') (hg : v.ownBlock = some g) : u.ownBlock ≠ some g := fun e => by
  obtain ⟨cur, hc⟩ := h.typed hg
  obtain ⟨cur', hc'⟩ := hu.typed e
  rw [hc] at hc'
  injection hc' with hb
  injection hb with _ hb
  exact ht hb
theorem RowOf.grown (h : RowOf W1 w t size n v xs) (hu : RowOf W1 w t' size' n' u ys) (ht : t ≠ t') (hg : w.grownBy w' u.ownBlock) : RowOf W1 w' t size n v xs :=
  ⟨h.1, ownsRow_ext h.2 fun g hv => hg.block g (ownsRow_lt h.2 hv).2 fun e => h.rowNe hu ht hv e.symm⟩
theorem Blk.grownT (h : Blk w g t cs) (hu : RowOf W1 w t' size' n' u ys) (ht : t' ≠ t) (hg : w.grownBy w' u.ownBlock) : Blk w' g t cs := h.grown hg fun e => hu.blkNe h ht e.symm
theorem RowOf.set01 (h : RowOf W1 w t size n v xs) (hb : Blk w g t' cs) (ht : t ≠ t') (x y : Value) : RowOf W1 ((w.setCell ⟨g, 0, none⟩ x).setCell ⟨g, 1, none⟩ y) t size n v xs :=
  ⟨h.1, ownsRow_ext h.2 fun k hv => (Below.heap_setCell _ _ _ _ (fun e => h.blkNe hb ht (by have e' : k = g := e; rw [← e']; exact hv))).trans (Below.heap_setCell _ _ _ _ (fun e => h.blkNe hb ht (by have e' : k = g := e; rw [← e']; exact hv)))⟩
theorem RowOf.fresh (w : World) (h : Ext W1 w) (t : TypeId) (size : Nat) : RowOf W1 (w.alloc (.cells #[] t)) t size 0 (.slice (some ⟨w.heap.size, 0, none⟩) 0 0) [] :=
  ⟨⟨_, _, rfl⟩, by simp, .inr ⟨w.heap.size, 0, #[], rfl, h.size, heap_alloc_new w _, Nat.le_refl _, Nat.zero_le _, by simp, by simp⟩⟩
end
end Go.Proofs.Ytocndkhgopjhhaa
/- A region that draws its order, by an invariant: each operation that may come up keeps it. -/
namespace Go.Proofs.Ytocndkhgopjhhaa
open Go.RowKit

theorem wpAny_inv {P : Program} {md : Region.Mode} {ops : Array Oper} {Q : Exit → Act → World → Prop} (Inv : Array Bool → Act → World → Prop)
    (hstep : ∀ listed a w i, listed.size = ops.size → Inv listed a w → i ∈ Region.ready md ops listed → wpOp P ops Q i (Inv (listed.setIfInBounds i true)) a w)
    (hend : ∀ listed a w, listed.size = ops.size → Inv listed a w → Region.ready md ops listed = [] → Q .normal a w) :
    ∀ (fuel : Nat) (listed : Array Bool) (a : Act) (w : World), listed.size = ops.size → (listed.toList.filter (fun b => !b)).length ≤ fuel → Inv listed a w → wpAny P md ops Q fuel listed a w
  | 0, listed, a, w, hs, hf, hi => by
    have hr : Region.ready md ops listed = [] := by
      have hall : ∀ b ∈ listed.toList, b = true := by
        intro b hb
        cases b
        · have : (false : Bool) ∈ listed.toList.filter (fun b => !b) := List.mem_filter.2 ⟨hb, rfl⟩
          have := List.length_pos_of_mem this
          omega
        · rfl
      unfold Region.ready
      rw [List.filter_eq_nil_iff]
      intro i hi
      have hil : i < listed.size := by rw [hs]; simpa using hi
      have : listed.getD i true = true := by
        rw [Array.getD_eq_getD_getElem?, Array.getElem?_eq_getElem hil]
        exact hall _ (by simp)
      rw [this]; simp
    exact ⟨hr, hend listed a w hs hi hr⟩
  | fuel + 1, listed, a, w, hs, hf, hi => by
    refine ⟨fun hr => hend listed a w hs hi hr, fun i hr => ?_⟩
    have hin : i < listed.size ∧ listed.getD i true = false := by
      unfold Region.ready at hr
      rw [List.mem_filter] at hr
      obtain ⟨h1, h2⟩ := hr
      simp at h1
      rw [Bool.and_eq_true] at h2
      exact ⟨by omega, by simpa using h2.1⟩
    refine wpOp_mono (fun a' w' hi' => wpAny_inv Inv hstep hend fuel (listed.setIfInBounds i true) a' w' (by simpa using hs) ?_ hi') (hstep listed a w i hs hi hr)
    have hl : listed[i]? = some false := by
      have := hin.2
      rw [Array.getD_eq_getD_getElem?, Array.getElem?_eq_getElem hin.1] at this
      rw [Array.getElem?_eq_getElem hin.1]
      simp at this
      rw [this]
    have hcount : ∀ (l : List Bool) (i : Nat), l[i]? = some false → ((l.set i true).filter (fun b => !b)).length + 1 = (l.filter (fun b => !b)).length := by
      intro l
      induction l with
      | nil => intro i h; simp at h
      | cons b l ih =>
        intro i h
        cases i with
        | zero => simp at h; subst h; simp
        | succ i =>
          have := ih i (by simpa using h)
          cases b <;> simp <;> omega
    have := hcount listed.toList i (by simpa using hl)
    rw [Array.toList_setIfInBounds]
    omega

theorem wp_region_inv {P : Program} {id : Nat} {ops : Array Oper} {Q : Exit → Act → World → Prop} {a : Act} {w : World} (hm : P.follows .mixedOrders = true) (Inv : Array Bool → Act → World → Prop)
    (h0 : Inv (Array.replicate ops.size false) a w.drew)
    (hstep : ∀ listed a w i, listed.size = ops.size → Inv listed a w → i ∈ Region.ready .any ops listed → wpOp P ops Q i (Inv (listed.setIfInBounds i true)) a w)
    (hend : ∀ listed a w, listed.size = ops.size → Inv listed a w → Region.ready .any ops listed = [] → Q .normal a w) : (Code.region id ops true).wp P Q a w := by
  refine wp_region_any hm (wpAny_inv Inv hstep hend ops.size _ a _ (by simp) ?_ h0)
  simp

theorem ready_mem {md : Region.Mode} {ops : Array Oper} {listed : Array Bool} {i : Nat} (h : i ∈ Region.ready md ops listed) :
    i < ops.size ∧ listed.getD i true = false ∧ ∀ o, ops[i]? = some o → ∀ e ∈ o.after, Region.binds md e = true → listed.getD e.on false = true := by
  unfold Region.ready at h
  rw [List.mem_filter] at h
  obtain ⟨h1, h2⟩ := h
  have hi : i < ops.size := by simpa using h1
  rw [Bool.and_eq_true] at h2
  refine ⟨hi, by simpa using h2.1, fun o ho e he hb => ?_⟩
  have h3 := h2.2
  rw [ho] at h3
  simp only [Option.map_some, Option.getD_some] at h3
  have := (Array.all_eq_true_iff_forall_mem.1 h3) e he
  rw [hb] at this
  simpa using this
theorem ready_nil {md : Region.Mode} {ops : Array Oper} {listed : Array Bool} (h : Region.ready md ops listed = []) {i : Nat} {o : Oper} (ho : ops[i]? = some o) (ha : ∀ e ∈ o.after, listed.getD e.on false = true) (hs : listed.size = ops.size) : listed.getD i false = true := by
  unfold Region.ready at h
  rw [List.filter_eq_nil_iff] at h
  have hi := (Array.getElem?_eq_some_iff.1 ho).1
  have := h i (by simpa using hi)
  rw [ho] at this
  simp only [Option.map_some, Option.getD_some] at this
  have hall : (o.after.all fun e => !Region.binds md e || listed.getD e.on false) = true := Array.all_eq_true_iff_forall_mem.2 fun e he => by rw [ha e he]; simp
  rw [hall] at this
  simp only [Bool.and_true, Bool.not_eq_true', Bool.not_eq_false] at this
  have hil : i < listed.size := by omega
  rw [Array.getD_eq_getD_getElem?, Array.getElem?_eq_getElem hil] at this ⊢
  simpa using this
theorem wpOp_plain {P : Program} {ops : Array Oper} {Q : Exit → Act → World → Prop} {i : Nat} {o : Oper} {a : Act} {w : World} {I : Act → World → Prop} (ho : ops[i]? = some o) (hg : o.guard = none)
    (h : ∀ K : Act → World → Prop, (∀ a w, I a w → K a w) → o.wp P a w K Q) : wpOp P ops Q i I a w := by
  unfold wpOp
  rw [ho]
  simp only
  rw [if_pos (by simp [Region.wanted, hg])]
  exact .inl (h I (fun _ _ h => h))
theorem getD_set (listed : Array Bool) (i j : Nat) (h : i < listed.size) : (listed.setIfInBounds i true).getD j false = if j = i then true else listed.getD j false := by
  rw [Array.getD_eq_getD_getElem?, Array.getD_eq_getD_getElem?, Array.getElem?_setIfInBounds]
  by_cases e : i = j
  · subst e; simp [h]
  · rw [if_neg e, if_neg (fun h => e h.symm)]
theorem getD_same (listed : Array Bool) (i : Nat) (h : i < listed.size) : (fun j => (listed.setIfInBounds i true).getD j false) = fun j => if j = i then true else listed.getD j false := funext fun j => getD_set listed i j h
theorem getD_false {listed : Array Bool} {i : Nat} (h : listed.getD i true = false) : listed.getD i false = false := by
  rw [Array.getD_eq_getD_getElem?] at h ⊢
  cases hl : listed[i]? with
  | none => rfl
  | some b => rw [hl] at h; exact h
/-- The same, and what has come up is closed: whatever an operation waits for has come up before it. -/
theorem wp_region_inv2 {P : Program} {id : Nat} {ops : Array Oper} {Q : Exit → Act → World → Prop} {a : Act} {w : World} (hm : P.follows .mixedOrders = true) (Inv : Array Bool → Act → World → Prop)
    (h0 : Inv (Array.replicate ops.size false) a w.drew)
    (hstep : ∀ listed a w i, listed.size = ops.size → Inv listed a w → i ∈ Region.ready .any ops listed → (∀ j o, ops[j]? = some o → listed.getD j false = true → ∀ e ∈ o.after, Region.binds .any e = true → listed.getD e.on false = true) → wpOp P ops Q i (Inv (listed.setIfInBounds i true)) a w)
    (hend : ∀ listed a w, listed.size = ops.size → Inv listed a w → Region.ready .any ops listed = [] → Q .normal a w) : (Code.region id ops true).wp P Q a w := by
  refine wp_region_inv hm (fun listed a w => Inv listed a w ∧ ∀ j o, ops[j]? = some o → listed.getD j false = true → ∀ e ∈ o.after, Region.binds .any e = true → listed.getD e.on false = true) ⟨h0, ?_⟩ ?_ ?_
  · intro j o _ hj
    rw [Array.getD_eq_getD_getElem?, Array.getElem?_replicate] at hj
    split at hj <;> simp at hj
  · rintro listed a w i hs ⟨hi, hc⟩ hr
    obtain ⟨hil, hn, he⟩ := ready_mem hr
    refine wpOp_mono (fun a' w' h => ⟨h, fun j o ho hj e hee hb => ?_⟩) (hstep listed a w i hs hi hr hc)
    rw [getD_set _ _ _ (by omega)]
    by_cases e1 : e.on = i
    · rw [if_pos e1]
    · rw [if_neg e1]
      rw [getD_set _ _ _ (by omega)] at hj
      by_cases e2 : j = i
      · subst e2; exact he o ho e hee hb
      · rw [if_neg e2] at hj
        exact hc j o ho hj e hee hb
  · rintro listed a w hs ⟨hi, _⟩ hr
    exact hend listed a w hs hi hr
end Go.Proofs.Ytocndkhgopjhhaa
/- Each node is the same as itself. -/
namespace Go.Proofs.Ytocndkhgopjhhaa

mutual
theorem N.same_refl : ∀ t : N, t.same t = true
  | .mk k t ns ks => by rw [N.same, sameL_refl ks]; simp
theorem sameL_refl : ∀ l : List N, sameL l l = true
  | [] => by rw [sameL]
  | a :: l => by rw [sameL, N.same_refl a, sameL_refl l]; rfl
end
end Go.Proofs.Ytocndkhgopjhhaa
