/- The queue's row in memory, and what container/heap asks of it. -/
import Derived.Test.YtocndkhgopjhhaaProg
import Derived.Test.YtocndkhgopjhhaaLess
import Derived.Test.YtocndkhgopjhhaaBase
import Derived.Test.YtocndkhgopjhhaaRow
import Derived.Laws.OwnMore
import Derived.WalkKit
import Derived.Deep.DrawnRows
namespace Go.Proofs.Ytocndkhgopjhhaa
open Go.RowKit

structure It where
  rv : Value
  fv : Value
  td : Td
def flat : List It → List Value
  | [] => []
  | x :: l => x.rv :: x.fv :: flat l
theorem flat_length : ∀ l : List It, (flat l).length = l.length * 2
  | [] => rfl
  | x :: l => by simp [flat, flat_length l]; omega
theorem flat_get0 : ∀ {l : List It} {i : Nat} {x : It}, l[i]? = some x → (flat l)[i * 2]? = some x.rv
  | [], _, _, h => by simp at h
  | y :: l, 0, x, h => by simp at h; subst h; rfl
  | y :: l, i + 1, x, h => by
    have := flat_get0 (l := l) (i := i) (x := x) (by simpa using h)
    rw [show (i + 1) * 2 = i * 2 + 2 by omega]; simpa [flat] using this
theorem flat_get1 : ∀ {l : List It} {i : Nat} {x : It}, l[i]? = some x → (flat l)[i * 2 + 1]? = some x.fv
  | [], _, _, h => by simp at h
  | y :: l, 0, x, h => by simp at h; subst h; rfl
  | y :: l, i + 1, x, h => by
    have := flat_get1 (l := l) (i := i) (x := x) (by simpa using h)
    rw [show (i + 1) * 2 + 1 = i * 2 + 1 + 2 by omega]; simpa [flat] using this
theorem flat_set : ∀ (l : List It) (i : Nat) (x : It), i < l.length → ((flat l).set (i * 2) x.rv).set (i * 2 + 1) x.fv = flat (l.set i x)
  | [], _, _, h => by simp at h
  | y :: l, 0, x, _ => by simp [flat]
  | y :: l, i + 1, x, h => by
    have := flat_set l i x (by simpa using h)
    rw [show (i + 1) * 2 = i * 2 + 2 by omega]
    simp only [flat, List.set_cons_succ, this]
theorem flat_app : ∀ (l : List It) (x : It), flat (l ++ [x]) = flat l ++ [x.rv, x.fv]
  | [], x => rfl
  | y :: l, x => by simp [flat, flat_app l x]
theorem flat_take : ∀ (l : List It) (n : Nat), (flat l).take (n * 2) = flat (l.take n)
  | [], n => by simp [flat]
  | y :: l, 0 => by simp [flat]
  | y :: l, n + 1 => by rw [show (n + 1) * 2 = n * 2 + 2 by omega]; simp [flat, flat_take l n]

/-- The queue at block q: its row is v, which holds xs. The rows' and facts' memory lies in T. -/
structure Qu (T : Nat → Prop) (w : World) (q base : Nat) (most : Int) (v : Value) (xs : List It) : Prop where
  blk : Blk w q 116 #[v, .int .i64 most]
  row : Row w base v xs.length (flat xs)
  item : ∀ x ∈ xs, Ints 128 T w x.rv x.td.row ∧ Facts 128 T w x.fv x.td.facts
  apart : ∀ b, T b → b < w.heap.size ∧ b ≠ q ∧ v.ownBlock ≠ some b
  low : q < base

set_option maxRecDepth 100000 in
theorem m_push (v : Value) (w : World) : (method 328 121 v "Push").run Try.prog w = .ok (213, v) w := by kernel_rfl
set_option maxRecDepth 100000 in
theorem m_pop (v : Value) (w : World) : (method 328 121 v "Pop").run Try.prog w = .ok (212, v) w := by kernel_rfl
set_option maxRecDepth 100000 in
theorem b_len (a : Addr) (w : World) : (method 328 121 (.pointer (some a)) "Len").run Try.prog w = (loadVar 114 a >>= fun x => pure (209, x)).run Try.prog w := by kernel_rfl
theorem m_len (q : Nat) (w : World) (v : Value) (h : w.cell? ⟨q, 0, none⟩ = some v) : (method 328 121 (.pointer (some ⟨q, 0, none⟩)) "Len").run Try.prog w = .ok (209, v) w := by
  rw [b_len, Sem.run_bind]
  have hl : (loadVar 114 ⟨q, 0, none⟩).run Try.prog w = .ok v w := by
    rw [show (loadVar 114 ⟨q, 0, none⟩).run Try.prog w = (load ⟨q, 0, none⟩).run Try.prog w from by kernel_rfl]
    rw [run_load, h]
  rw [hl]; rfl
set_option maxRecDepth 100000 in
theorem b_less (a : Addr) (w : World) : (method 328 121 (.pointer (some a)) "Less").run Try.prog w = (loadVar 114 a >>= fun x => pure (210, x)).run Try.prog w := by kernel_rfl
theorem m_less (q : Nat) (w : World) (v : Value) (h : w.cell? ⟨q, 0, none⟩ = some v) : (method 328 121 (.pointer (some ⟨q, 0, none⟩)) "Less").run Try.prog w = .ok (210, v) w := by
  rw [b_less, Sem.run_bind]
  have hl : (loadVar 114 ⟨q, 0, none⟩).run Try.prog w = .ok v w := by
    rw [show (loadVar 114 ⟨q, 0, none⟩).run Try.prog w = (load ⟨q, 0, none⟩).run Try.prog w from by kernel_rfl]
    rw [run_load, h]
  rw [hl]; rfl
set_option maxRecDepth 100000 in
theorem b_swap (a : Addr) (w : World) : (method 328 121 (.pointer (some a)) "Swap").run Try.prog w = (loadVar 114 a >>= fun x => pure (211, x)).run Try.prog w := by kernel_rfl
theorem m_swap (q : Nat) (w : World) (v : Value) (h : w.cell? ⟨q, 0, none⟩ = some v) : (method 328 121 (.pointer (some ⟨q, 0, none⟩)) "Swap").run Try.prog w = .ok (211, v) w := by
  rw [b_swap, Sem.run_bind]
  have hl : (loadVar 114 ⟨q, 0, none⟩).run Try.prog w = .ok v w := by
    rw [show (loadVar 114 ⟨q, 0, none⟩).run Try.prog w = (load ⟨q, 0, none⟩).run Try.prog w from by kernel_rfl]
    rw [run_load, h]
  rw [hl]; rfl

theorem tlen_any (A : Option Addr) (n c : Nat) (w : World) : Calls Try.prog 209 #[.slice A n c] w fun e w' => e = .returned (.int .i64 n) ∧ w' = w := by
  go_enter Try.func209, Try.ntmps209
  go_wp2_with fail
  go_ret
  exact ⟨rfl, rfl⟩

/-- the cells of an item of the row. -/
theorem row_cells {w : World} {base : Nat} {v : Value} {xs : List It} (h : Row w base v xs.length (flat xs)) {i : Nat} {x : It} (hi : xs[i]? = some x) :
    ∃ g c, v = .slice (some ⟨g, 0, none⟩) xs.length c ∧ xs.length ≤ c ∧ c ≤ maxLen ∧ base ≤ g ∧ g < w.heap.size ∧ w.cell? ⟨g, i * 2, none⟩ = some x.rv ∧ w.cell? ⟨g, i * 2 + 1, none⟩ = some x.fv ∧ w.frozen? ⟨g, i * 2, none⟩ = false ∧ w.frozen? ⟨g, i * 2 + 1, none⟩ = false := by
  have hl := (List.getElem?_eq_some_iff.1 hi).1
  rcases h.2 with ⟨_, h0⟩ | ⟨g, c, cur, rfl, hb, hg, hnc, hcm, hcs, htk⟩
  · omega
  · have c0 := h.cell (flat_get0 hi)
    have c1 := h.cell (flat_get1 hi)
    exact ⟨g, c, rfl, hnc, hcm, hb, (h.lt (g := g) rfl).2, c0, c1, h.frozenAt _, h.frozenAt _⟩

set_option maxRecDepth 100000 in
set_option maxHeartbeats 1000000 in
theorem tless_any {T : Nat → Prop} {w : World} {q base : Nat} {most : Int} {v : Value} {xs : List It} (h : Qu T w q base most v xs) {i j : Nat} {x y : It} (hi : xs[i]? = some x) (hj : xs[j]? = some y) :
    Calls Try.prog 210 #[v, .int .i64 i, .int .i64 j] w fun e w' => e = .returned (.bool (lessR x.td.row y.td.row)) ∧ Ext w w' := by
  obtain ⟨g, c, rfl, hnc, hcm, hbg, hgl, p0, p1, _, _⟩ := row_cells h.row hi
  obtain ⟨g', c', e, _, _, _, _, q0, q1, _, _⟩ := row_cells h.row hj
  simp only [Value.slice.injEq, Option.some.injEq, Addr.mk.injEq, true_and, and_true] at e
  obtain ⟨rfl, rfl⟩ := e
  have hil := (List.getElem?_eq_some_iff.1 hi).1
  have hjl := (List.getElem?_eq_some_iff.1 hj).1
  have X := Lib.hid (h.item x (List.mem_of_getElem? hi)).1
  have Y := Lib.hid (h.item y (List.mem_of_getElem? hj)).1
  unfold maxLen at hcm
  have hn := cmpR_neg x.td.row y.td.row
  have Hn := Lib.hid hn
  have hu := (up_rules w).1
  clear h hi hj hn
  go_enter Try.func210, Try.ntmps210
  go_wp2_with fail
  refine wp_region_up0 (by kernel_rfl) (by kernel_rfl) ?_
  repeat (go_big_quiet_step ((go_at_call 126; exact Calls.up (compare_any (X.out.up _) (Y.out.up _)))))
  refine wpQuiet_nil ?_
  rintro _ ⟨u3, rfl⟩
  go_wp2_with fail
  go_ret
  exact ⟨ret_bool Hn.out, u3.ext⟩

theorem grownBy_trans {w w1 w2 : World} {r : Option Nat} (h : w.grownBy w1 r) (k : w1.grownBy w2 r) : w.grownBy w2 r :=
  ⟨k.os.trans h.os, k.tape.trans h.tape, k.output.trans h.output, Nat.le_trans h.size k.size, fun b hb hn => (k.block b (Nat.lt_of_lt_of_le hb h.size) hn).trans (h.block b hb hn)⟩
theorem grownBy_drew {w w1 : World} {r : Option Nat} (h : w.grownBy w1 r) : w.grownBy w1.drew r := ⟨h.os, h.tape, h.output, h.size, h.block⟩

attribute [local go_sem ↓] Go.wp_at_zero Go.wp_at_succ

set_option maxRecDepth 100000 in
set_option maxHeartbeats 4000000 in
theorem tswap_any {w : World} {base : Nat} {v : Value} {xs : List It} (h : Row w base v xs.length (flat xs)) (h1 : ∀ x ∈ xs, ∃ A n c A' n' c', x.rv = .slice A n c ∧ x.fv = .slice A' n' c') {i j : Nat} {x y : It} (hi : xs[i]? = some x) (hj : xs[j]? = some y) (hij : i ≠ j) :
    Calls Try.prog 211 #[v, .int .i64 i, .int .i64 j] w fun e w' => e = .returned (.tuple #[]) ∧ Row w' base v xs.length (flat (swapL xs i j)) ∧ w.grownBy w' v.ownBlock := by
  obtain ⟨g, c, rfl, hnc, hcm, hbg, hgl, p0, p1, f0, f1⟩ := row_cells h hi
  obtain ⟨g', c', e, _, _, _, _, q0, q1, k0, k1⟩ := row_cells h hj
  simp only [Value.slice.injEq, Option.some.injEq, Addr.mk.injEq, true_and, and_true] at e
  obtain ⟨rfl, rfl⟩ := e
  have hil := (List.getElem?_eq_some_iff.1 hi).1
  have hjl := (List.getElem?_eq_some_iff.1 hj).1
  have H := Lib.hid h
  have HI := Lib.hid hi
  have HJ := Lib.hid hj
  unfold maxLen at hcm
  have b0 : (0 : Int) ≤ (i : Int) := by omega
  have b1 : (i : Int) < (xs.length : Int) := by omega
  have b2 : (0 : Int) ≤ (j : Int) := by omega
  have b3 : (j : Int) < (xs.length : Int) := by omega
  obtain ⟨rx, fx, tx⟩ := x
  obtain ⟨ry, fy, ty⟩ := y
  obtain ⟨X1, X2, X3, X4, X5, X6, e1, e2⟩ := h1 _ (List.mem_of_getElem? hi)
  obtain ⟨Y1, Y2, Y3, Y4, Y5, Y6, e3, e4⟩ := h1 _ (List.mem_of_getElem? hj)
  simp only at e1 e2 e3 e4 p0 p1 q0 q1
  subst e1 e2 e3 e4
  clear h1
  clear h hi hj
  go_enter Try.func211, Try.ntmps211
  go_wp2_with fail
  go_region
  go_wp2
  go_end0
  obtain ⟨r1, g1⟩ := H.out.stored (i * 2) (.slice Y1 Y2 Y3)
  obtain ⟨r2, g2⟩ := r1.stored (i * 2 + 1) (.slice Y4 Y5 Y6)
  obtain ⟨r3, g3⟩ := r2.stored (j * 2) (.slice X1 X2 X3)
  obtain ⟨r4, g4⟩ := r3.stored (j * 2 + 1) (.slice X4 X5 X6)
  refine ⟨rfl, ?_, grownBy_drew (grownBy_trans (grownBy_trans g1 g2) (grownBy_trans g3 g4))⟩
  have e5 : ((((flat xs).set (i * 2) (.slice Y1 Y2 Y3)).set (i * 2 + 1) (.slice Y4 Y5 Y6)).set (j * 2) (.slice X1 X2 X3)).set (j * 2 + 1) (.slice X4 X5 X6) = flat (swapL xs i j) := by
    rw [swapL_eq HI.out HJ.out]
    have h6 := flat_set xs i ⟨.slice Y1 Y2 Y3, .slice Y4 Y5 Y6, ty⟩ hil
    simp only at h6
    rw [h6]
    exact flat_set _ j ⟨.slice X1 X2 X3, .slice X4 X5 X6, tx⟩ (by simpa using hjl)
  rw [e5] at r4
  exact r4

theorem swapL_self (xs : List It) (i : Nat) : swapL xs i i = xs := by
  unfold swapL
  cases h : xs[i]? with
  | none => rfl
  | some a =>
    obtain ⟨hl, rfl⟩ := List.getElem?_eq_some_iff.1 h
    simp

set_option maxRecDepth 100000 in
set_option maxHeartbeats 4000000 in
theorem tswap_self {w : World} {base : Nat} {v : Value} {xs : List It} (h : Row w base v xs.length (flat xs)) (h1 : ∀ x ∈ xs, ∃ A n c A' n' c', x.rv = .slice A n c ∧ x.fv = .slice A' n' c') {i : Nat} {x : It} (hi : xs[i]? = some x) :
    Calls Try.prog 211 #[v, .int .i64 i, .int .i64 i] w fun e w' => e = .returned (.tuple #[]) ∧ Row w' base v xs.length (flat (swapL xs i i)) ∧ w.grownBy w' v.ownBlock := by
  obtain ⟨g, c, rfl, hnc, hcm, hbg, hgl, p0, p1, f0, f1⟩ := row_cells h hi
  have hil := (List.getElem?_eq_some_iff.1 hi).1
  have H := Lib.hid h
  have HI := Lib.hid hi
  unfold maxLen at hcm
  have b0 : (0 : Int) ≤ (i : Int) := by omega
  have b1 : (i : Int) < (xs.length : Int) := by omega
  obtain ⟨rx, fx, tx⟩ := x
  obtain ⟨X1, X2, X3, X4, X5, X6, e1, e2⟩ := h1 _ (List.mem_of_getElem? hi)
  simp only at e1 e2 p0 p1
  subst e1 e2
  clear h1
  clear h hi
  go_enter Try.func211, Try.ntmps211
  go_wp2_with fail
  go_region
  go_wp2
  go_end0
  obtain ⟨r1, g1⟩ := H.out.stored (i * 2) (.slice X1 X2 X3)
  obtain ⟨r2, g2⟩ := r1.stored (i * 2 + 1) (.slice X4 X5 X6)
  obtain ⟨r3, g3⟩ := r2.stored (i * 2) (.slice X1 X2 X3)
  obtain ⟨r4, g4⟩ := r3.stored (i * 2 + 1) (.slice X4 X5 X6)
  refine ⟨rfl, ?_, grownBy_drew (grownBy_trans (grownBy_trans g1 g2) (grownBy_trans g3 g4))⟩
  have e5 : ((((flat xs).set (i * 2) (.slice X1 X2 X3)).set (i * 2 + 1) (.slice X4 X5 X6)).set (i * 2) (.slice X1 X2 X3)).set (i * 2 + 1) (.slice X4 X5 X6) = flat (swapL xs i i) := by
    rw [swapL_eq HI.out HI.out]
    have h6 := flat_set xs i ⟨.slice X1 X2 X3, .slice X4 X5 X6, tx⟩ hil
    simp only at h6
    rw [h6]
    exact flat_set _ i ⟨.slice X1 X2 X3, .slice X4 X5 X6, tx⟩ (by simpa using hil)
  rw [e5] at r4
  exact r4

/-- the queue's items, in another order. -/
theorem Qu.moved {T : Nat → Prop} {w w' : World} {q base : Nat} {most : Int} {v : Value} {xs ys : List It} (h : Qu T w q base most v xs) (hp : List.Perm ys xs) (hr : Row w' base v ys.length (flat ys)) (hg : w.grownBy w' v.ownBlock) : Qu T w' q base most v ys where
  blk := h.blk.grown hg fun e => by have := h.row.lt e.symm; have := h.low; omega
  row := hr
  item := fun x hx => by
    obtain ⟨h1, h2⟩ := h.item x (hp.mem_iff.1 hx)
    have hT : ∀ b, T b → b < w.heap.size → w'.heap[b]? = w.heap[b]? := fun b hb hl => hg.block b hl fun e => (h.apart b hb).2.2 e.symm
    exact ⟨h1.keep hg.size hT (fun _ h _ => h), h2.keep hg.size hT (fun _ h _ => h)⟩
  apart := fun b hb => ⟨Nat.lt_of_lt_of_le (h.apart b hb).1 hg.size, (h.apart b hb).2⟩
  low := h.low
theorem Qu.ext {T : Nat → Prop} {w w' : World} {q base : Nat} {most : Int} {v : Value} {xs : List It} (h : Qu T w q base most v xs) (hx : Ext w w') : Qu T w' q base most v xs where
  blk := h.blk.ext hx
  row := h.row.ext fun g hg => hx.block g (h.row.lt hg).2
  item := fun x hm => ⟨(h.item x hm).1.ext hx, (h.item x hm).2.ext hx⟩
  apart := fun b hb => ⟨Nat.lt_of_lt_of_le (h.apart b hb).1 hx.size, (h.apart b hb).2⟩
  low := h.low
theorem Qu.form {T : Nat → Prop} {w : World} {q base : Nat} {most : Int} {v : Value} {xs : List It} (h : Qu T w q base most v xs) : ∀ x ∈ xs, ∃ A n c A' n' c', x.rv = .slice A n c ∧ x.fv = .slice A' n' c' := fun x hx => by
  obtain ⟨⟨A, c, e, _⟩, ⟨A', c', e', _⟩⟩ := h.item x hx
  exact ⟨_, _, _, _, _, _, e, e'⟩
theorem Qu.swap {T : Nat → Prop} {w : World} {q base : Nat} {most : Int} {v : Value} {xs : List It} (h : Qu T w q base most v xs) {i j : Nat} {x y : It} (hi : xs[i]? = some x) (hj : xs[j]? = some y) :
    Calls Try.prog 211 #[v, .int .i64 i, .int .i64 j] w fun e w' => e = .returned (.tuple #[]) ∧ Qu T w' q base most v (swapL xs i j) ∧ w.grownBy w' v.ownBlock := by
  by_cases hij : i = j
  · subst hij
    refine (tswap_self h.row h.form hi).mono ?_
    rintro e w' ⟨he, hr, hg⟩
    exact ⟨he, h.moved (swapL_perm _ _ _) (by rw [swapL_length]; exact hr) hg, hg⟩
  · refine (tswap_any h.row h.form hi hj hij).mono ?_
    rintro e w' ⟨he, hr, hg⟩
    exact ⟨he, h.moved (swapL_perm _ _ _) (by rw [swapL_length]; exact hr) hg, hg⟩

abbrev ltI (x y : It) : Bool := lessR x.td.row y.td.row
theorem ltI_ord : Ord ltI := lessR_ord.on fun x : It => x.td.row
end Go.Proofs.Ytocndkhgopjhhaa
