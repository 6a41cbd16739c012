/- Terms that are made whole (no fact, no base): what it means that a value reads as one; the file system over one. -/
import Derived.Test.YtocndkhgopjhhaaGreatProg
import Derived.Test.YtocndkhgopjhhaaGreatFlat
import Derived.Test.YtocndkhgopjhhaaGreatTreeB
namespace Go.Proofs.YtocndkhgopjhhaaGreat
open Go.RowKit

/-- 'The value v reads as the term of the node t, made whole' (of depth below d), its cells in blocks of S. -/
def TRep (B : Nat) (S : Nat → Prop) (w : World) : Nat → N → Value → Prop
  | 0, _, _ => False
  | d + 1, .mk k tx ns ks, v => ∃ nv A c, v = .agg #[.int .i64 (-1), .int .u8 k, .string tx, .int .i64 (-1), nv, .slice A ks.length c] ∧ tx.size ≤ maxLen ∧ Strs (4 * B) S w nv ns ∧ ks.length ≤ c ∧ c ≤ maxLen ∧ ks.length ≤ B ∧
      (0 < ks.length → ∃ b o, A = some ⟨b, o, none⟩ ∧ S b ∧ b < w.heap.size ∧ ∀ i t, ks[i]? = some t →
        ∃ v0 v1 v2 v3 v4 v5, w.cell? ⟨b, o + i * 6, none⟩ = some v0 ∧ w.cell? ⟨b, o + i * 6 + 1, none⟩ = some v1 ∧ w.cell? ⟨b, o + i * 6 + 2, none⟩ = some v2 ∧ w.cell? ⟨b, o + i * 6 + 3, none⟩ = some v3 ∧ w.cell? ⟨b, o + i * 6 + 4, none⟩ = some v4 ∧ w.cell? ⟨b, o + i * 6 + 5, none⟩ = some v5 ∧
          TRep B S w d t (.agg #[v0, v1, v2, v3, v4, v5]))

/-- 'The slice value v reads as the terms of the nodes ks'. -/
def TKids (B : Nat) (S : Nat → Prop) (w : World) (d : Nat) (v : Value) (ks : List N) : Prop :=
  ∃ A c, v = .slice A ks.length c ∧ ks.length ≤ c ∧ c ≤ maxLen ∧ ks.length ≤ B ∧
      (0 < ks.length → ∃ b o, A = some ⟨b, o, none⟩ ∧ S b ∧ b < w.heap.size ∧ ∀ i t, ks[i]? = some t →
        ∃ v0 v1 v2 v3 v4 v5, w.cell? ⟨b, o + i * 6, none⟩ = some v0 ∧ w.cell? ⟨b, o + i * 6 + 1, none⟩ = some v1 ∧ w.cell? ⟨b, o + i * 6 + 2, none⟩ = some v2 ∧ w.cell? ⟨b, o + i * 6 + 3, none⟩ = some v3 ∧ w.cell? ⟨b, o + i * 6 + 4, none⟩ = some v4 ∧ w.cell? ⟨b, o + i * 6 + 5, none⟩ = some v5 ∧
          TRep B S w d t (.agg #[v0, v1, v2, v3, v4, v5]))
/-- the value of a term. -/
abbrev termV (t : N) (A : Option Addr) (c : Nat) (A' : Option Addr) (c' : Nat) : Value := .agg #[.int .i64 (-1), .int .u8 t.kind, .string t.text, .int .i64 (-1), .slice A t.names.length c, .slice A' t.kids.length c']

theorem TRep.split {B : Nat} {S : Nat → Prop} {w : World} {d : Nat} {k : Int} {tx : ByteArray} {ns : List ByteArray} {ks : List N} {v : Value} (h : TRep B S w (d + 1) (.mk k tx ns ks) v) :
    ∃ nv kv, v = .agg #[.int .i64 (-1), .int .u8 k, .string tx, .int .i64 (-1), nv, kv] ∧ tx.size ≤ maxLen ∧ Strs (4 * B) S w nv ns ∧ TKids B S w d kv ks := by
  obtain ⟨nv, A, c, e, htx, hn, h1, h2, h3, h4⟩ := h
  exact ⟨nv, _, e, htx, hn, A, c, rfl, h1, h2, h3, h4⟩
theorem TRep.join {B : Nat} {S : Nat → Prop} {w : World} {d : Nat} {k : Int} {tx : ByteArray} {ns : List ByteArray} {ks : List N} {nv kv : Value} (htx : tx.size ≤ maxLen) (hn : Strs (4 * B) S w nv ns) (hk : TKids B S w d kv ks) :
    TRep B S w (d + 1) (.mk k tx ns ks) (.agg #[.int .i64 (-1), .int .u8 k, .string tx, .int .i64 (-1), nv, kv]) := by
  obtain ⟨A, c, rfl, h1, h2, h3, h4⟩ := hk
  exact ⟨nv, A, c, rfl, htx, hn, h1, h2, h3, h4⟩

theorem TRep.keep {B B' : Nat} {S S' : Nat → Prop} {w w' : World} (hB : B ≤ B') (hz : w.heap.size ≤ w'.heap.size) (hS : ∀ b, S b → b < w.heap.size → w'.heap[b]? = w.heap[b]?) (hSS : ∀ b, S b → b < w.heap.size → S' b) : ∀ {d d' : Nat}, d ≤ d' → ∀ (t : N) (v : Value), TRep B S w d t v → TRep B' S' w' d' t v := by
  intro d
  induction d with
  | zero => intro d' _ t v h; exact h.elim
  | succ d ih =>
    rintro d' hd ⟨k, tx, ns, ks⟩ v ⟨nv, A, c, e, htx, hn, h1, h2, hB2, h3⟩
    obtain ⟨d', rfl⟩ : ∃ e, d' = e + 1 := ⟨d' - 1, by omega⟩
    have hn' : Strs (4 * B') S' w' nv ns := by
      obtain ⟨A1, c1, e1, k1, k2, k3, k4, k5⟩ := hn.keep hz hS hSS
      exact ⟨A1, c1, e1, k1, k2, by omega, k4, k5⟩
    refine ⟨nv, A, c, e, htx, hn', h1, h2, by omega, fun hp => ?_⟩
    obtain ⟨b, o, e2, hb, hl, hx⟩ := h3 hp
    refine ⟨b, o, e2, hSS b hb hl, by omega, fun i t hi => ?_⟩
    obtain ⟨v0, v1, v2, v3, v4, v5, c0, c1, c2, c3, c4, c5, hr⟩ := hx i t hi
    have hh := fun o => World.cell?_of_block (w := w) (w' := w') (a := ⟨b, o, none⟩) (hS b hb hl)
    exact ⟨v0, v1, v2, v3, v4, v5, (hh _).trans c0, (hh _).trans c1, (hh _).trans c2, (hh _).trans c3, (hh _).trans c4, (hh _).trans c5, ih (by omega) _ _ hr⟩
theorem TRep.ext {B : Nat} {S : Nat → Prop} {w w' : World} {d : Nat} {t : N} {v : Value} (h : TRep B S w d t v) (hx : Ext w w') : TRep B S w' d t v := TRep.keep (Nat.le_refl _) hx.size (fun _ _ hb => hx.block _ hb) (fun _ h _ => h) (Nat.le_refl _) t v h
theorem TRep.wide {B B' : Nat} {S S' : Nat → Prop} {w w' : World} {d d' : Nat} {t : N} {v : Value} (h : TRep B S w d t v) (hB : B ≤ B') (hx : Ext w w') (hS : ∀ b, S b → b < w.heap.size → S' b) (hd : d ≤ d') : TRep B' S' w' d' t v := TRep.keep hB hx.size (fun _ _ hb => hx.block _ hb) hS hd t v h
theorem TKids.keep {B B' : Nat} {S S' : Nat → Prop} {w w' : World} {d d' : Nat} {v : Value} {ks : List N} (h : TKids B S w d v ks) (hB : B ≤ B') (hz : w.heap.size ≤ w'.heap.size) (hS : ∀ b, S b → b < w.heap.size → w'.heap[b]? = w.heap[b]?) (hSS : ∀ b, S b → b < w.heap.size → S' b) (hd : d ≤ d') : TKids B' S' w' d' v ks := by
  obtain ⟨A, c, e, h1, h2, hB2, h3⟩ := h
  refine ⟨A, c, e, h1, h2, by omega, fun hp => ?_⟩
  obtain ⟨b, o, e2, hb, hl, hx⟩ := h3 hp
  refine ⟨b, o, e2, hSS b hb hl, by omega, fun i t hi => ?_⟩
  obtain ⟨v0, v1, v2, v3, v4, v5, c0, c1, c2, c3, c4, c5, hr⟩ := hx i t hi
  have hh := fun o => World.cell?_of_block (w := w) (w' := w') (a := ⟨b, o, none⟩) (hS b hb hl)
  exact ⟨v0, v1, v2, v3, v4, v5, (hh _).trans c0, (hh _).trans c1, (hh _).trans c2, (hh _).trans c3, (hh _).trans c4, (hh _).trans c5, TRep.keep hB hz hS hSS hd _ _ hr⟩
theorem TKids.ext {B : Nat} {S : Nat → Prop} {w w' : World} {d : Nat} {v : Value} {ks : List N} (h : TKids B S w d v ks) (hx : Ext w w') : TKids B S w' d v ks := h.keep (Nat.le_refl _) hx.size (fun _ _ hb => hx.block _ hb) (fun _ h _ => h) (Nat.le_refl _)

theorem TRep.dpos {B : Nat} {S : Nat → Prop} {w : World} {d : Nat} {t : N} {v : Value} (h : TRep B S w d t v) : 0 < d := by
  cases d with
  | zero => exact h.elim
  | succ d => omega
theorem TRep.agg {B : Nat} {S : Nat → Prop} {w : World} {d : Nat} {t : N} {v : Value} (h : TRep B S w d t v) : ∃ A c A' c', v = termV t A c A' c' := by
  cases d with
  | zero => exact h.elim
  | succ d =>
    obtain ⟨k, tx, ns, ks⟩ := t
    obtain ⟨nv, A, c, e, _, ⟨A', c', rfl, _⟩, _⟩ := h
    exact ⟨_, _, _, _, e⟩
theorem TRep.shape {B : Nat} {S : Nat → Prop} {w : World} {d : Nat} {t : N} {v0 v1 v2 v3 v4 v5 : Value} (h : TRep B S w d t (.agg #[v0, v1, v2, v3, v4, v5])) :
    ∃ A c A' c', v0 = .int .i64 (-1) ∧ v1 = .int .u8 t.kind ∧ v2 = .string t.text ∧ v3 = .int .i64 (-1) ∧ v4 = .slice A t.names.length c ∧ v5 = .slice A' t.kids.length c' := by
  obtain ⟨A, c, A', c', e⟩ := h.agg
  injection e with e
  simp at e
  obtain ⟨rfl, rfl, rfl, rfl, rfl, rfl⟩ := e
  exact ⟨_, _, _, _, rfl, rfl, rfl, rfl, rfl, rfl⟩
/-- the parts of a term's value. -/
theorem TRep.parts {B : Nat} {S : Nat → Prop} {w : World} {d : Nat} {t : N} {A : Option Addr} {c : Nat} {A' : Option Addr} {c' : Nat} (h : TRep B S w d t (termV t A c A' c')) :
    t.text.size ≤ maxLen ∧ Strs (4 * B) S w (.slice A t.names.length c) t.names ∧ ∃ e, d = e + 1 ∧ TKids B S w e (.slice A' t.kids.length c') t.kids := by
  cases d with
  | zero => exact h.elim
  | succ d =>
    obtain ⟨k, tx, ns, ks⟩ := t
    obtain ⟨nv, kv, e, h1, h2, h3⟩ := h.split
    injection e with e
    simp only [Array.mk.injEq, List.cons.injEq, and_true, true_and] at e
    obtain ⟨_, _, e1, e2⟩ := e
    subst e1 e2
    exact ⟨h1, h2, d, rfl, h3⟩
theorem TRep.of {B : Nat} {S : Nat → Prop} {w : World} {d : Nat} {t : N} {A : Option Addr} {c : Nat} {A' : Option Addr} {c' : Nat} (h1 : t.text.size ≤ maxLen) (h2 : Strs (4 * B) S w (.slice A t.names.length c) t.names) (h3 : TKids B S w d (.slice A' t.kids.length c') t.kids) : TRep B S w (d + 1) t (termV t A c A' c') := by
  obtain ⟨k, tx, ns, ks⟩ := t
  exact TRep.join h1 h2 h3
/-- a term of what is not there. -/
abbrev tzAgg : Value := .agg #[.int .i64 (-1), .int .u8 0, .string { data := #[] }, .int .i64 (-1), .slice none 0 0, .slice none 0 0]
theorem TRep.zero {B : Nat} {S : Nat → Prop} {w : World} {d : Nat} : TRep B S w (d + 1) N.zero tzAgg :=
  ⟨_, none, 0, rfl, Nat.zero_le _, ⟨none, 0, rfl, Nat.le_refl _, by simp [maxLen], by simp, by simp, by simp⟩, Nat.le_refl _, by simp [maxLen], by simp, by simp⟩

/-- One kid out of them. -/
theorem TKids.at' {B : Nat} {S : Nat → Prop} {w : World} {d : Nat} {A : Option Addr} {n c : Nat} {ks : List N} (h : TKids B S w d (.slice A n c) ks) : n = ks.length ∧ ks.length ≤ c ∧ c ≤ maxLen ∧ ks.length ≤ B ∧
      (0 < ks.length → ∃ b o, A = some ⟨b, o, none⟩ ∧ S b ∧ b < w.heap.size ∧ ∀ i t, ks[i]? = some t →
        ∃ v0 v1 v2 v3 v4 v5, w.cell? ⟨b, o + i * 6, none⟩ = some v0 ∧ w.cell? ⟨b, o + i * 6 + 1, none⟩ = some v1 ∧ w.cell? ⟨b, o + i * 6 + 2, none⟩ = some v2 ∧ w.cell? ⟨b, o + i * 6 + 3, none⟩ = some v3 ∧ w.cell? ⟨b, o + i * 6 + 4, none⟩ = some v4 ∧ w.cell? ⟨b, o + i * 6 + 5, none⟩ = some v5 ∧
          TRep B S w d t (.agg #[v0, v1, v2, v3, v4, v5])) := by
  obtain ⟨A', c', e, h⟩ := h
  injection e with e1 e2 e3
  subst e1 e2 e3
  exact ⟨rfl, h⟩
end Go.Proofs.YtocndkhgopjhhaaGreat
