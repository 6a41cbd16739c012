/- Two rows of the call's own, names and nodes, that grow in a loop, beside the call's own variables. -/
import Derived.Test.YtocndkhgopjhhaaProg
import Derived.Test.YtocndkhgopjhhaaFlat
import Derived.Test.YtocndkhgopjhhaaStepA
namespace Go.Proofs.Ytocndkhgopjhhaa
open Go.RowKit

structure WSt (B D n : Nat) (S : Nat → Prop) (w wr : World) (T : Nat → Prop) (nv kv : Value) (pN : List ByteArray) (pK : List N) : Prop where
  ext : Ext w wr
  nrow : OwnStrs wr (w.heap.size + n) nv pN
  krow : OwnKids B T wr D (w.heap.size + n) kv pK
  low : ∀ b, T b → b < wr.heap.size ∧ (S b ∨ w.heap.size + n ≤ b)
  nn : ∀ g, nv.ownBlock = some g → ¬ T g
section
variable {B D n : Nat} {S : Nat → Prop} {w wr w1 w2 : World} {T : Nat → Prop} {nv kv nv' kv' : Value} {pN : List ByteArray} {pK : List N}

theorem WSt.start (hx : Ext w wr) : WSt B D n S w wr (fun _ => False) (.slice none 0 0) (.slice none 0 0) [] [] :=
  ⟨hx, World.ownsRow_nil _ _ _ _, OwnKids.nil, fun _ h => h.elim, fun _ h => by cases h⟩
theorem WSt.nlt (h : WSt B D n S w wr T nv kv pN pK) {g : Nat} (hg : nv.ownBlock = some g) : w.heap.size + n ≤ g ∧ g < wr.heap.size := ownsRow_lt h.nrow hg
theorem WSt.klt (h : WSt B D n S w wr T nv kv pN pK) {g : Nat} (hg : kv.ownBlock = some g) : w.heap.size + n ≤ g ∧ g < wr.heap.size := by
  obtain ⟨xs, ho, _⟩ := h.krow
  exact ownsRow_lt ho hg
theorem WSt.nk (h : WSt B D n S w wr T nv kv pN pK) {g : Nat} (hg : nv.ownBlock = some g) : kv.ownBlock ≠ some g := by
  obtain ⟨xs, ho, _⟩ := h.krow
  exact ownsRow_ne h.nrow ho (by decide) hg
theorem WSt.turn (h : WSt B D n S w wr T nv kv pN pK) {F : Nat → Prop} (ht : Turns F wr w1) (hF : ∀ b, F b → w.heap.size ≤ b ∧ ¬ T b ∧ nv.ownBlock ≠ some b ∧ kv.ownBlock ≠ some b) : WSt B D n S w w1 T nv kv pN pK := by
  refine ⟨⟨ht.os.trans h.ext.os, ht.tape.trans h.ext.tape, ht.output.trans h.ext.output, Nat.le_trans h.ext.size ht.size, fun b hb => (ht.block b (Nat.lt_of_lt_of_le hb h.ext.size) fun hf => by have := (hF b hf).1; omega).trans (h.ext.block b hb)⟩,
    ownsRow_ext h.nrow fun g hg => ht.block g (h.nlt hg).2 fun hf => (hF g hf).2.2.1 hg, ?_, fun b hb => ⟨Nat.lt_of_lt_of_le (h.low b hb).1 ht.size, (h.low b hb).2⟩, h.nn⟩
  have hk := fun g (hg : kv.ownBlock = some g) => h.klt hg
  obtain ⟨xs, ho, hT, hkk⟩ := h.krow
  refine ⟨xs, ownsRow_ext ho fun g hg => ht.block g (hk _ hg).2 fun hf => (hF g hf).2.2.2 hg, hT, fun i t hi => ?_⟩
  obtain ⟨v0, v1, v2, v3, x0, x1, x2, x3, hr⟩ := hkk i t hi
  exact ⟨v0, v1, v2, v3, x0, x1, x2, x3, Rep.keep ht.size (fun b hb hl => ht.block b hl fun hf => (hF b hf).2.1 hb) (fun _ h _ => h) _ _ _ hr⟩
theorem WSt.grow (h : WSt B D n S w wr T nv kv pN pK) (hx : Ext wr w1) : WSt B D n S w w1 T nv kv pN pK := h.turn (F := fun _ => False) (Turns.ofExt hx) fun _ h => h.elim
/-- a store into a block of the call's own variables -/
theorem WSt.set (h : WSt B D n S w wr T nv kv pN pK) (hS : ∀ b, S b → b < w.heap.size) (p : Addr) (hp : w.heap.size ≤ p.block) (hp2 : p.block < w.heap.size + n) (u : Value) : WSt B D n S w (wr.setCell p u) T nv kv pN pK := by
  refine h.turn (F := fun b => b = p.block) (Turns.ofSet _ _ _) fun b hb => ⟨by omega, fun hT => ?_, fun e => ?_, fun e => ?_⟩
  · rcases (h.low b hT).2 with hs | hs
    · have := hS b hs; omega
    · omega
  · have := (h.nlt e).1; omega
  · have := (h.klt e).1; omega
/-- one more name -/
theorem WSt.pushN (h : WSt B D n S w wr T nv kv pN pK) {s : ByteArray} (ho : w1.ownsRow (w.heap.size + n) 9 1 nv' (pN.length + 1) (pN.map Value.string ++ [.string s])) (hg : wr.grownBy w1 nv.ownBlock) (hat : At wr nv nv') : WSt B D n S w w1 T nv' kv (pN ++ [s]) pK := by
  have ht := (Turns.ofGrown hg)
  have h1 : WSt B D n S w w1 T nv kv pN pK → True := fun _ => trivial
  refine ⟨?_, ?_, ?_, fun b hb => ⟨Nat.lt_of_lt_of_le (h.low b hb).1 hg.size, (h.low b hb).2⟩, ?_⟩
  · exact Ext.grown h.ext hg fun g e => by have := (h.nlt e).1; omega
  · unfold OwnStrs
    rw [List.map_append, List.length_append]
    exact ho
  · have hk := fun g (hg : kv.ownBlock = some g) => h.klt hg
    obtain ⟨xs, hok, hT, hkk⟩ := h.krow
    refine ⟨xs, ownsRow_ext hok fun g e => hg.block g (hk _ e).2 fun e2 => h.nk e2.symm e, hT, fun i t hi => ?_⟩
    obtain ⟨v0, v1, v2, v3, x0, x1, x2, x3, hr⟩ := hkk i t hi
    exact ⟨v0, v1, v2, v3, x0, x1, x2, x3, Rep.keep hg.size (fun b hb hl => hg.block b hl fun e => h.nn b e.symm hb) (fun _ h _ => h) _ _ _ hr⟩
  · intro g e hTg
    rcases hat with e2 | e2
    · exact h.nn g (by rw [← e2]; exact e) hTg
    · have := e2 g e
      have := (h.low g hTg).1
      omega
/-- one more node -/
theorem WSt.pushK (h : WSt B D n S w wr T nv kv pN pK) {t : N} {v0 v1 v2 v3 : Value} {S2 : Nat → Prop} (hS2 : ∀ b, S2 b → (S b ∨ w.heap.size + n ≤ b) ∧ nv.ownBlock ≠ some b ∧ kv.ownBlock ≠ some b) (hr : Rep B S2 wr D t (.agg #[v0, v1, v2, v3]))
    (ho : ∀ xs, wr.ownsRow (w.heap.size + n) 25 4 kv pK.length xs → w1.ownsRow (w.heap.size + n) 25 4 kv' (pK.length + 1) (xs ++ [v0, v1, v2, v3])) (hg : wr.grownBy w1 kv.ownBlock) (hat : At wr kv kv') :
    ∃ T', WSt B D n S w w1 T' nv kv' pN (pK ++ [t]) := by
  have hk := fun g (hg : kv.ownBlock = some g) => h.klt hg
  obtain ⟨xs, hok, hT, hkk⟩ := h.krow
  refine ⟨fun b => T b ∨ (S2 b ∧ b < wr.heap.size), Ext.grown h.ext hg fun g e => by have := (hk _ e).1; omega, ?_, ?_, ?_, ?_⟩
  · exact ownsRow_ext h.nrow fun g e => hg.block g (h.nlt e).2 fun e2 => h.nk e e2.symm
  · refine OwnKids.push (w := wr) rfl hok (fun g e hh => ?_) (fun i t' hi => ?_) (fun b hb => ?_) ?_ (ho xs hok) hg hat
    · rcases hh with hh | hh
      · exact hT g e hh
      · exact (hS2 g hh.1).2.2 e
    · obtain ⟨u0, u1, u2, u3, x0, x1, x2, x3, hr'⟩ := hkk i t' hi
      exact ⟨u0, u1, u2, u3, x0, x1, x2, x3, Rep.keep (Nat.le_refl _) (fun _ _ _ => rfl) (fun _ h _ => .inl h) _ _ _ hr'⟩
    · rcases hb with hb | hb
      · exact (h.low b hb).1
      · exact hb.2
    · exact Rep.keep (Nat.le_refl _) (fun _ _ _ => rfl) (fun b hb hl => .inr ⟨hb, hl⟩) _ _ _ hr
  · rintro b (hb | hb)
    · exact ⟨Nat.lt_of_lt_of_le (h.low b hb).1 hg.size, (h.low b hb).2⟩
    · exact ⟨Nat.lt_of_lt_of_le hb.2 hg.size, (hS2 b hb.1).1⟩
  · rintro g e (hb | hb)
    · exact h.nn g e hb
    · exact (hS2 g hb.1).2.1 e
/-- what the rows read as at the end -/
theorem WSt.rep (h : WSt B D n S w wr T nv kv pN pK) {k : Int} (h1 : pN.length ≤ 4 * B) (h2 : pK.length ≤ B) (h3 : ∀ s ∈ pN, s.size ≤ maxLen) : Rep B (fun b => S b ∨ w.heap.size + n ≤ b) wr (D + 1) (.mk k { data := #[] } pN pK) (.agg #[.int .u8 k, .string { data := #[] }, nv, kv]) := by
  refine Rep.join (by decide) ((h.nrow.strs h1 h3).keep (Nat.le_refl _) (fun _ _ _ => rfl) (fun b hb _ => .inr (h.nlt hb).1)) ((h.krow.kids h2).keep (Nat.le_refl _) (fun _ _ _ => rfl) (fun b hb _ => ?_))
  rcases hb with hb | hb
  · exact (h.low b hb).2
  · exact .inr (h.klt hb).1
end
end Go.Proofs.Ytocndkhgopjhhaa
