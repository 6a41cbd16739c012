/- What is to be done, in memory: rows of numbers, facts. -/
import Derived.Test.YtocndkhgopjhhaaProg
import Derived.Test.YtocndkhgopjhhaaBase
import Derived.OpenShut
import Derived.Test.YtocndkhgopjhhaaHeap
namespace Go.Proofs.Ytocndkhgopjhhaa
open Go.RowKit

structure Fc where
  known : Bool
  kind : Int
  names : List ByteArray
  kids : List Int
  rest : Int
  beside : Int
structure Td where
  row : List Int
  facts : List Fc

/-- 'The slice value v reads as the numbers zs', its cells in blocks of S; at most B of them. -/
def Ints (B : Nat) (S : Nat → Prop) (w : World) (v : Value) (zs : List Int) : Prop :=
  ∃ A c, v = .slice A zs.length c ∧ zs.length ≤ c ∧ c ≤ maxLen ∧ zs.length ≤ B ∧ (∀ z ∈ zs, (Lit.int .i64 z).wf = true) ∧
    (0 < zs.length → ∃ b o, A = some ⟨b, o, none⟩ ∧ S b ∧ b < w.heap.size ∧ ∀ i z, zs[i]? = some z → w.cell? ⟨b, o + i, none⟩ = some (.int .i64 z))

/-- 'The slice value v reads as the facts fs'. -/
def Facts (B : Nat) (S : Nat → Prop) (w : World) (v : Value) (fs : List Fc) : Prop :=
  ∃ A c, v = .slice A fs.length c ∧ fs.length ≤ c ∧ c ≤ maxLen ∧ fs.length ≤ B ∧
    (0 < fs.length → ∃ b o, A = some ⟨b, o, none⟩ ∧ S b ∧ b < w.heap.size ∧ ∀ i f, fs[i]? = some f →
      ∃ nv kv, w.cell? ⟨b, o + i * 6, none⟩ = some (.bool f.known) ∧ w.cell? ⟨b, o + i * 6 + 1, none⟩ = some (.int .u8 f.kind) ∧ w.cell? ⟨b, o + i * 6 + 2, none⟩ = some nv ∧ w.cell? ⟨b, o + i * 6 + 3, none⟩ = some kv ∧
        w.cell? ⟨b, o + i * 6 + 4, none⟩ = some (.int .i64 f.rest) ∧ w.cell? ⟨b, o + i * 6 + 5, none⟩ = some (.int .i64 f.beside) ∧ (Lit.int .u8 f.kind).wf = true ∧ (Lit.int .i64 f.rest).wf = true ∧ (Lit.int .i64 f.beside).wf = true ∧
        Strs B S w nv f.names ∧ Ints B S w kv f.kids)

/-- 'The value v reads as the thing to be done t'. -/
def Tdv (B : Nat) (S : Nat → Prop) (w : World) (t : Td) (v : Value) : Prop := ∃ rv fv, v = .agg #[rv, fv] ∧ Ints B S w rv t.row ∧ Facts B S w fv t.facts

/-- 'The value v reads as the fact f'. -/
def Fv (B : Nat) (S : Nat → Prop) (w : World) (f : Fc) (v : Value) : Prop := ∃ nv kv, v = .agg #[.bool f.known, .int .u8 f.kind, nv, kv, .int .i64 f.rest, .int .i64 f.beside] ∧
  (Lit.int .u8 f.kind).wf = true ∧ (Lit.int .i64 f.rest).wf = true ∧ (Lit.int .i64 f.beside).wf = true ∧ Strs B S w nv f.names ∧ Ints B S w kv f.kids

section
variable {B : Nat} {S S' : Nat → Prop} {w w' : World} {v : Value}
theorem Ints.keep {zs : List Int} (hz : w.heap.size ≤ w'.heap.size) (hS : ∀ b, S b → b < w.heap.size → w'.heap[b]? = w.heap[b]?) (hSS : ∀ b, S b → b < w.heap.size → S' b) (h : Ints B S w v zs) : Ints B S' w' v zs := by
  obtain ⟨A, c, e, h1, h2, hB, hs, h3⟩ := h
  refine ⟨A, c, e, h1, h2, hB, hs, fun hp => ?_⟩
  obtain ⟨b, o, e2, hb, hl, hx⟩ := h3 hp
  exact ⟨b, o, e2, hSS b hb hl, by omega, fun i s hi => (World.cell?_of_block (w := w) (a := ⟨b, o + i, none⟩) (hS b hb hl)).trans (hx i s hi)⟩
theorem Facts.keep {fs : List Fc} (hz : w.heap.size ≤ w'.heap.size) (hS : ∀ b, S b → b < w.heap.size → w'.heap[b]? = w.heap[b]?) (hSS : ∀ b, S b → b < w.heap.size → S' b) (h : Facts B S w v fs) : Facts B S' w' v fs := by
  obtain ⟨A, c, e, h1, h2, hB, h3⟩ := h
  refine ⟨A, c, e, h1, h2, hB, fun hp => ?_⟩
  obtain ⟨b, o, e2, hb, hl, hx⟩ := h3 hp
  refine ⟨b, o, e2, hSS b hb hl, by omega, fun i f hi => ?_⟩
  obtain ⟨nv, kv, c0, c1, c2, c3, c4, c5, w1, w2, w3, hn, hk⟩ := hx i f hi
  have hh := fun o => World.cell?_of_block (w := w) (w' := w') (a := ⟨b, o, none⟩) (hS b hb hl)
  exact ⟨nv, kv, (hh _).trans c0, (hh _).trans c1, (hh _).trans c2, (hh _).trans c3, (hh _).trans c4, (hh _).trans c5, w1, w2, w3, hn.keep hz hS hSS, hk.keep hz hS hSS⟩
theorem Tdv.keep {t : Td} (hz : w.heap.size ≤ w'.heap.size) (hS : ∀ b, S b → b < w.heap.size → w'.heap[b]? = w.heap[b]?) (hSS : ∀ b, S b → b < w.heap.size → S' b) (h : Tdv B S w t v) : Tdv B S' w' t v := by
  obtain ⟨rv, fv, e, h1, h2⟩ := h
  exact ⟨rv, fv, e, h1.keep hz hS hSS, h2.keep hz hS hSS⟩
theorem Fv.keep {f : Fc} (hz : w.heap.size ≤ w'.heap.size) (hS : ∀ b, S b → b < w.heap.size → w'.heap[b]? = w.heap[b]?) (hSS : ∀ b, S b → b < w.heap.size → S' b) (h : Fv B S w f v) : Fv B S' w' f v := by
  obtain ⟨nv, kv, e, w1, w2, w3, h1, h2⟩ := h
  exact ⟨nv, kv, e, w1, w2, w3, h1.keep hz hS hSS, h2.keep hz hS hSS⟩
theorem Ints.ext {zs : List Int} (h : Ints B S w v zs) (hx : Ext w w') : Ints B S w' v zs := h.keep hx.size (fun _ _ hb => hx.block _ hb) fun _ h _ => h
theorem Facts.ext {fs : List Fc} (h : Facts B S w v fs) (hx : Ext w w') : Facts B S w' v fs := h.keep hx.size (fun _ _ hb => hx.block _ hb) fun _ h _ => h
theorem Tdv.ext {t : Td} (h : Tdv B S w t v) (hx : Ext w w') : Tdv B S w' t v := h.keep hx.size (fun _ _ hb => hx.block _ hb) fun _ h _ => h
theorem Fv.ext {t : Fc} (h : Fv B S w t v) (hx : Ext w w') : Fv B S w' t v := h.keep hx.size (fun _ _ hb => hx.block _ hb) fun _ h _ => h
theorem Ints.alloc {zs : List Int} (h : Ints B S w v zs) (o : Obj) : Ints B S (w.alloc o) v zs := h.ext (Ext.alloc' w o)
theorem Facts.alloc {fs : List Fc} (h : Facts B S w v fs) (o : Obj) : Facts B S (w.alloc o) v fs := h.ext (Ext.alloc' w o)
theorem Tdv.alloc {t : Td} (h : Tdv B S w t v) (o : Obj) : Tdv B S (w.alloc o) t v := h.ext (Ext.alloc' w o)
theorem Fv.alloc {t : Fc} (h : Fv B S w t v) (o : Obj) : Fv B S (w.alloc o) t v := h.ext (Ext.alloc' w o)
theorem Ints.up {zs : List Int} (h : Ints B S w v zs) (u : Up w) : Ints B S u.val v zs := h.ext u.ext
theorem Facts.up {zs : List Fc} (h : Facts B S w v zs) (u : Up w) : Facts B S u.val v zs := h.ext u.ext
theorem Tdv.up {t : Td} (h : Tdv B S w t v) (u : Up w) : Tdv B S u.val t v := h.ext u.ext
theorem Fv.up {t : Fc} (h : Fv B S w t v) (u : Up w) : Fv B S u.val t v := h.ext u.ext
theorem Ints.nil : Ints B S w (.slice none 0 0) [] := ⟨none, 0, rfl, Nat.le_refl _, by simp [maxLen], by simp, by simp, by simp⟩
theorem Facts.nil : Facts B S w (.slice none 0 0) [] := ⟨none, 0, rfl, Nat.le_refl _, by simp [maxLen], by simp, by simp⟩
theorem Strs.nil : Strs B S w (.slice none 0 0) [] := ⟨none, 0, rfl, Nat.le_refl _, by simp [maxLen], by simp, by simp, by simp⟩
theorem Strs.grow {B' : Nat} {ns : List ByteArray} (h : Strs B S w v ns) (hB : ns.length ≤ B') : Strs B' S w v ns := by
  obtain ⟨A, c, e, h1, h2, _, h3⟩ := h
  exact ⟨A, c, e, h1, h2, hB, h3⟩
theorem Ints.grow {B' : Nat} {zs : List Int} (h : Ints B S w v zs) (hB : zs.length ≤ B') : Ints B' S w v zs := by
  obtain ⟨A, c, e, h1, h2, _, h3⟩ := h
  exact ⟨A, c, e, h1, h2, hB, h3⟩
theorem Facts.grow {B' : Nat} {fs : List Fc} (h : Facts B S w v fs) (hB : fs.length ≤ B') (hn : ∀ f ∈ fs, f.names.length ≤ B' ∧ f.kids.length ≤ B') : Facts B' S w v fs := by
  obtain ⟨A, c, e, h1, h2, _, h3⟩ := h
  refine ⟨A, c, e, h1, h2, hB, fun hp => ?_⟩
  obtain ⟨b, o, e2, hb, hl, hx⟩ := h3 hp
  refine ⟨b, o, e2, hb, hl, fun i f hi => ?_⟩
  obtain ⟨nv, kv, c0, c1, c2, c3, c4, c5, w1, w2, w3, hs, hk⟩ := hx i f hi
  have hm := hn f (List.mem_of_getElem? hi)
  exact ⟨nv, kv, c0, c1, c2, c3, c4, c5, w1, w2, w3, hs.grow hm.1, hk.grow hm.2⟩
end

/-- a number of a row fits. -/
theorem wf64 {z : Int} (h : (Lit.int .i64 z).wf = true) : -9223372036854775808 ≤ z ∧ z ≤ 9223372036854775807 := bounds_i64 h
end Go.Proofs.Ytocndkhgopjhhaa
