/- touchstonelaw28.root, awake. -/
import Derived.Test.YtocndkhgopjhhaaProg
import Derived.Test.YtocndkhgopjhhaaQSt
import Derived.Test.YtocndkhgopjhhaaGiv28
import Derived.Deep.LoopGhost
namespace Go.Proofs.Ytocndkhgopjhhaa
open Go.RowKit

def rootF : Fc := ⟨true, 2, [], [], 0, 0⟩
abbrev rootC : Array Value := #[.bool true, .int .u8 2, .slice none 0 0, .slice none 0 0, .int .i64 0, .int .i64 0]

theorem root28_any (w : World) : Calls Try.prog 35 #[] w fun e w' => e = .returned (.slice (some ⟨w.heap.size, 0, none⟩) 1 1) ∧ w' = w.alloc (.cells rootC 106) := by
  go_enter Try.func35, Try.ntmps35
  go_wp2_with fail
  go_ret
  exact ⟨rfl, rfl⟩
theorem Facts.root {w : World} {g : Nat} (h : Blk w g 106 rootC) : Facts 128 (fun b => b = g) w (.slice (some ⟨g, 0, none⟩) 1 1) [rootF] := by
  refine ⟨_, 1, rfl, by simp, by simp [maxLen], by simp, fun _ => ⟨g, 0, rfl, rfl, h.lt, fun i f hi => ?_⟩⟩
  have hi0 : i = 0 := by have := (List.getElem?_eq_some_iff.1 hi).1; simp at this; omega
  subst hi0
  simp at hi
  subst hi
  exact ⟨_, _, h.cell 0, h.cell 1, h.cell 2, h.cell 3, h.cell 4, h.cell 5, by decide, by decide, by decide, Strs.nil, Ints.nil⟩

theorem Ints.lit {w : World} {g : Nat} {zs : List Int} (h : Blk w g 3 (zs.map (Value.int .i64)).toArray) (hz : 0 < zs.length) (hl : zs.length ≤ 128) (hs : ∀ z ∈ zs, (Lit.int .i64 z).wf = true) : Ints 128 (fun b => b = g) w (.slice (some ⟨g, 0, none⟩) zs.length zs.length) zs := by
  refine ⟨_, _, rfl, Nat.le_refl _, by simp only [maxLen]; omega, hl, hs, fun _ => ⟨g, 0, rfl, rfl, h.lt, fun i z hi => ?_⟩⟩
  rw [h.cell (0 + i)]
  simp [hi]

def tA (row : List Int) : Td := ⟨row, [rootF]⟩
theorem QSt.perm {T M : Nat → Prop} {w0 w : World} {q : Nat} {most : Int} {ts ts' : List Td} (h : QSt T M w0 w q most ts) (hp : List.Perm ts ts') : QSt T M w0 w q most ts' := by
  obtain ⟨v, ys, h1, h2, h3, h4⟩ := h
  exact ⟨v, ys, h1, h2, h3.trans hp, h4⟩

theorem awk3 {r : Td} {rest : List Td} (hp : List.Perm (r :: rest) [tA [0], tA [0, 1], tA [1]]) (hm : ∀ x ∈ [tA [0], tA [0, 1], tA [1]], lessR x.row r.row = false) : r = tA [0] ∧ List.Perm rest [tA [0, 1], tA [1]] := by
  have hr : r ∈ [tA [0], tA [0, 1], tA [1]] := hp.mem_iff.1 (List.mem_cons_self ..)
  have h0 := hm (tA [0]) (by simp)
  simp only [List.mem_cons, List.not_mem_nil, or_false] at hr
  rcases hr with rfl | rfl | rfl
  · exact ⟨rfl, (List.perm_cons _).1 hp⟩
  · exact absurd h0 (by decide)
  · exact absurd h0 (by decide)
theorem awk2 {r : Td} {rest : List Td} (hp : List.Perm (r :: rest) [tA [0, 1], tA [1]]) (hm : ∀ x ∈ [tA [0, 1], tA [1]], lessR x.row r.row = false) : r = tA [0, 1] ∧ List.Perm rest [tA [1]] := by
  have hr : r ∈ [tA [0, 1], tA [1]] := hp.mem_iff.1 (List.mem_cons_self ..)
  have h0 := hm (tA [0, 1]) (by simp)
  simp only [List.mem_cons, List.not_mem_nil, or_false] at hr
  rcases hr with rfl | rfl
  · exact ⟨rfl, (List.perm_cons _).1 hp⟩
  · exact absurd h0 (by decide)
theorem awk1 {r : Td} {rest : List Td} (hp : List.Perm (r :: rest) [tA [1]]) : r = tA [1] ∧ List.Perm rest [] := by
  have hr : r ∈ [tA [1]] := hp.mem_iff.1 (List.mem_cons_self ..)
  simp only [List.mem_cons, List.not_mem_nil, or_false] at hr
  subst hr
  exact ⟨rfl, (List.perm_cons _).1 hp⟩

theorem push_a1 : pushC (tA [1]) 9 [] = 0 := by decide
theorem push_a2 : pushC (tA [0, 1]) 9 [tA [1]] = 0 := by decide
theorem push_a3 : pushC (tA [0]) 9 [tA [0, 1], tA [1]] = 0 := by decide

/-- The loop's state: what is in the queue, and that the literal rows stand. -/
def AwkL (w W4 wr : World) (ts : List Td) : Prop :=
  ∃ T M : Nat → Prop, QSt T M w wr w.heap.size 9 ts ∧ Turns (fun b => b = w.heap.size) W4 wr ∧ ∀ b, M b → b = w.heap.size ∨ W4.heap.size ≤ b

theorem AwkL.push {w W4 wr : World} {ts : List Td} (h : AwkL w W4 wr ts) (hn : ts.length ≤ 1000) {row : List Int} (hc : pushC (tA row) 9 ts = 0) {gr : Nat} {v : Value} (hv : Ints 128 (fun b => b = gr) W4 v row) (hgr : gr ≠ w.heap.size) :
    Calls Try.prog 29 #[.pointer (some ⟨w.heap.size, 0, none⟩), .agg #[v, .slice (some ⟨wr.heap.size, 0, none⟩) 1 1]] (wr.alloc (.cells rootC 106)) fun e w' => e = .returned (.int .i64 0) ∧ AwkL w W4 w' (tA row :: ts) := by
  obtain ⟨T, M, hq, ht, hm⟩ := h
  have hx := Ext.alloc' wr (.cells rootC 106)
  have hfa := Facts.root (Blk.new wr 106 rootC)
  have htd : Tdv 128 (fun _ => True) (wr.alloc (.cells rootC 106)) (tA row) (.agg #[v, .slice (some ⟨wr.heap.size, 0, none⟩) 1 1]) := by
    refine ⟨_, _, rfl, ?_, hfa.keep (Nat.le_refl _) (fun _ _ _ => rfl) (fun _ _ _ => trivial)⟩
    refine hv.keep (Nat.le_trans ht.size hx.size) (fun b hb hl => ?_) (fun _ _ _ => trivial)
    have hbl : b < wr.heap.size := Nat.lt_of_lt_of_le hl ht.size
    rw [hx.block b hbl, ht.block b hl (by rw [hb]; exact hgr)]
  have hq1 := hq.ext hx
  have hq1' := hq1.apart
  refine (hq1.push hn ?_ htd).mono ?_
  · obtain ⟨_, _, _, _, _, h1, h2, _⟩ := hq1
    omega
  · rintro e w' ⟨rfl, T', M', hq', hTT, hT, hM, htt⟩
    rw [if_pos hc] at hq'
    refine ⟨by rw [hc], T', M', hq', ?_, fun b hb => ?_⟩
    · refine Turns.trans (Turns.trans ht (Turns.ofExt hx (F := fun b => b = w.heap.size)) (fun _ h _ => h)) htt (fun b hb hl => ?_)
      rcases hm b hb with e | e
      · exact e
      · omega
    · rcases hM b hb with e | e
      · exact hm b e
      · have := ht.size; have := hx.size; exact .inr (by omega)
end Go.Proofs.Ytocndkhgopjhhaa
