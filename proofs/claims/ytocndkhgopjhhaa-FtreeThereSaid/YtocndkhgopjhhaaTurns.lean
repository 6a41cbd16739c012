/- Worlds in which what was there stands, but for some blocks. -/
import Derived.Test.YtocndkhgopjhhaaBase2
import Derived.Test.YtocndkhgopjhhaaApp
namespace Go.Proofs.Ytocndkhgopjhhaa
open Go.RowKit

/-- What was there stands as it stood, but for the blocks of F. -/
structure Turns (F : Nat → Prop) (w w' : World) : Prop where
  os : w'.os = w.os
  tape : w'.tape = w.tape
  output : w'.output = w.output
  size : w.heap.size ≤ w'.heap.size
  block : ∀ b, b < w.heap.size → ¬ F b → w'.heap[b]? = w.heap[b]?
theorem Turns.trans {F G : Nat → Prop} {a b c : World} (h : Turns F a b) (k : Turns G b c) (hG : ∀ x, G x → x < a.heap.size → F x) : Turns F a c :=
  ⟨k.os.trans h.os, k.tape.trans h.tape, k.output.trans h.output, Nat.le_trans h.size k.size, fun x hx hn => (k.block x (Nat.lt_of_lt_of_le hx h.size) fun hg => hn (hG x hg hx)).trans (h.block x hx hn)⟩
theorem Turns.ofExt {F : Nat → Prop} {w w' : World} (h : Ext w w') : Turns F w w' := ⟨h.os, h.tape, h.output, h.size, fun b hb _ => h.block b hb⟩
theorem Turns.ofGrown {w w' : World} {r : Option Nat} (h : w.grownBy w' r) : Turns (fun b => r = some b) w w' := ⟨h.os, h.tape, h.output, h.size, fun b hb hn => h.block b hb fun e => hn e.symm⟩
theorem Turns.ofSet (w : World) (p : Addr) (u : Value) : Turns (fun b => b = p.block) w (w.setCell p u) := ⟨rfl, rfl, rfl, by simp [World.setCell], fun b _ hn => Below.heap_setCell w p u b hn⟩
theorem Turns.mono {F G : Nat → Prop} {w w' : World} (h : Turns F w w') (hG : ∀ x, F x → G x) : Turns G w w' := ⟨h.os, h.tape, h.output, h.size, fun b hb hn => h.block b hb fun hf => hn (hG b hf)⟩
end Go.Proofs.Ytocndkhgopjhhaa
