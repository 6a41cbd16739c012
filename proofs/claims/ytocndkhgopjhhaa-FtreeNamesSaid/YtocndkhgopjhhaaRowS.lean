/- Rows whose elements have several cells: copy, clear, append in place. -/
import Derived.Test.YtocndkhgopjhhaaProg
import Derived.Test.YtocndkhgopjhhaaBase
import Derived.Test.YtocndkhgopjhhaaShelf
import Derived.Laws.CopyRow
import Derived.Lib.Overlaps
import Derived.Laws.Externs
import Derived.Lib.AppendZerosOnto
namespace Go.Proofs.Ytocndkhgopjhhaa
open Go.RowKit

section
variable {P : Program}
theorem run_copy_rows (w : World) (dT sT ty elem : TypeId) (size g o dLen dCap : Nat) (a : Addr) (sLen sCap : Nat) (cur : Array Value) (t : TypeId) (cs : List Value)
    (hu : P.underlying dT = some (.slice elem)) (hs : (P.info? elem).map (·.size) = some size)
    (hg : w.heap[g]? = some (.cells cur t (0, 0))) (hn : cs.length = Nat.min sLen dLen * size)
    (hsrc : ∀ j v, cs[j]? = some v → w.cell? (a.add j) = some v) (hfit : o + cs.length ≤ cur.size) (h1 : ∀ v ∈ cs, v.oneCell' = true) :
    (Builtin.copy_ #[dT, sT] ty #[.slice (some ⟨g, o, none⟩) dLen dCap, .slice (some a) sLen sCap]).run P w =
      .ok (goInt (Nat.min sLen dLen)) (w.setRow g (cur.toList.take o ++ cs ++ cur.toList.drop (o + cs.length)).toArray) := by
  have hfc := run_firstCells_some (P := P) w size (Nat.min sLen dLen) a sLen sCap cs hn hsrc
  have hst := run_storeCells_at P g o t cs 0 cur w hg (by simpa using hfit) h1
  cases hq : P.info? elem with
  | none => simp [hq] at hs
  | some i =>
    have hi : i.size = size := by simpa [hq] using hs
    simp [Builtin.copy_, run_underlying hu, Builtin.lenOf, sizeOf, typeInfo, hq, hi, hfc, hst]

theorem run_clear_one (w : World) (t e ty : TypeId) (z : Value) (zs : List Value) (ht : P.underlying t = some (.slice e)) (hv : ∀ w, (zeroValue e).run P w = .ok z w) (hzc : (Builtin.zeroCells z.cells 1).toList = zs) (h1 : ∀ u ∈ zs, u.oneCell' = true)
    (g o c : Nat) (cur : Array Value) (tt : TypeId) (hg : w.heap[g]? = some (.cells cur tt (0, 0))) (hfit : o + zs.length ≤ cur.size) :
    (Builtin.clear_ #[t] ty #[.slice (some ⟨g, o, none⟩) 1 c]).run P w = .ok (.tuple #[]) (w.setRow g (cur.toList.take o ++ zs ++ cur.toList.drop (o + zs.length)).toArray) := by
  have hst := run_storeCells_at P g o tt zs 0 cur w hg (by simpa using hfit) h1
  simp [Builtin.clear_, run_underlying ht, hv, hzc, hst]

theorem wp_clear_run (w : World) {o : Oper} {a : Act} {K : Act → World → Prop} {Q : Exit → Act → World → Prop} (s : Operand) (t : TypeId)
    (ho : o.op = .call { callee := .builtin .clear, args := #[s], argTypes := #[t] }) (v : Value) (hs : a.eval s = v) {v' : Value} {w' : World}
    (hr : (Builtin.clear_ #[t] o.type #[v]).run P w = .ok v' w') (h : K (a.put o.dst v') w') : o.wp P a w K Q := by
  unfold Oper.wp execOp
  simp only [ho, resolve, invoke, builtin, Sem.run_bind, Sem.run_pure, Result.andThen_ok, List.map_toArray, List.map_cons, List.map_nil, hs, hr]
  exact h
theorem wpList_clear_run (w : World) {ops : Array Oper} {rest : List Oper} {o : Oper} {a : Act} {Q : Exit → Act → World → Prop} (hgd : o.guard = none) (s : Operand) (t : TypeId)
    (ho : o.op = .call { callee := .builtin .clear, args := #[s], argTypes := #[t] }) (v : Value) (hs : a.eval s = v) {v' : Value} {w' : World}
    (hr : (Builtin.clear_ #[t] o.type #[v]).run P w = .ok v' w') (h : wpList P ops Q rest (a.put o.dst v') w') : wpList P ops Q (o :: rest) a w :=
  wpList_plain hgd fun _ hK => wp_clear_run w s t ho v hs hr (hK _ _ h)
end

theorem grownBy_setRow (w : World) (g : Nat) (arr : Array Value) : w.grownBy (w.setRow g arr) (some g) := ⟨rfl, rfl, rfl, by simp, fun k _ hk => setRow_other w g k arr (fun e => hk (by rw [e]))⟩
theorem grownBy_draws {w w1 : World} {r : Option Nat} {n : Nat} (h : w.grownBy w1 r) : w.grownBy (w1.drewN n) r := ⟨h.os, h.tape, h.output, h.size, h.block⟩

/-- What was there with the elements xs inserted at cell o. -/
theorem ins_list {cur xs zs : List Value} {o k n : Nat} (hk : k = zs.length) (hxs : cur.take n = xs) (hxl : xs.length = n) (ho : o ≤ n) (hfit : n + k ≤ cur.length) :
    ((((cur.take (o + k) ++ xs.drop o ++ cur.drop (o + k + (xs.drop o).length)).take o) ++ zs ++ ((cur.take (o + k) ++ xs.drop o ++ cur.drop (o + k + (xs.drop o).length)).drop (o + k)))).take (n + k) = xs.take o ++ zs ++ xs.drop o := by
  subst hk hxs
  have hn : n ≤ cur.length := by omega
  apply List.ext_getElem?
  intro j
  simp only [List.getElem?_take, List.getElem?_append, List.getElem?_drop, List.length_append, List.length_take, List.length_drop]
  have e1 : min o n = o := by omega
  by_cases h1 : j < o
  · repeat (first | rw [if_pos (by omega)] | rw [if_neg (by omega)])
  · by_cases h2 : j < o + zs.length
    · repeat (first | rw [if_pos (by omega)] | rw [if_neg (by omega)])
      congr 1; omega
    · by_cases h3 : j < n + zs.length
      · repeat (first | rw [if_pos (by omega)] | rw [if_neg (by omega)])
        congr 1; omega
      · repeat (first | rw [if_pos (by omega)] | rw [if_neg (by omega)])
theorem zeroCells_size (z : Array Value) (n : Nat) : (Builtin.zeroCells z n).size = n * z.size := by simp [Builtin.zeroCells]
/-- The same in a new row, the other way about: first the elements put in, then those behind them. -/
theorem ins_list2 {row xs zs : List Value} {o k n : Nat} (hk : k = zs.length) (hrow : row.take o = xs.take o) (hxl : xs.length = n) (ho : o ≤ n) (hfit : n + k ≤ row.length) :
    (((row.take o ++ zs ++ row.drop (o + k)).take (o + k)) ++ xs.drop o ++ ((row.take o ++ zs ++ row.drop (o + k)).drop (o + k + (xs.drop o).length))).take (n + k) = xs.take o ++ zs ++ xs.drop o := by
  subst hk
  have hl : (row.take o ++ zs).length = o + zs.length := by rw [List.length_append, List.length_take]; omega
  have e : (row.take o ++ zs ++ row.drop (o + zs.length)).take (o + zs.length) = row.take o ++ zs := by
    rw [List.take_append_of_le_length (by rw [hl]; omega), List.take_of_length_le (by rw [hl]; omega)]
  rw [e, hrow]
  have hl2 : (xs.take o ++ zs ++ xs.drop o).length = n + zs.length := by
    simp only [List.length_append, List.length_take, List.length_drop]; omega
  rw [List.take_append_of_le_length (by rw [hl2]; omega), List.take_of_length_le (by rw [hl2]; omega)]
/-- an append in a region, its run known as an equation. -/
theorem step_append_run {P : Program} {ops : Array Oper} {o : Oper} {a : Act} {w : World} {K : Act → World → Prop} {Q : Exit → Act → World → Prop} {E : Prop}
    (hg : o.guard = none) (d x : Operand) (dT sT : TypeId) (hop : o.op = Op.call { callee := Callee.builtin Builtin.append, args := #[d, x], argTypes := #[dT, sT] })
    (v u : Value) (hd : a.eval d = v) (hx : a.eval x = u) {v' : Value} {w' : World} (hr : (Builtin.append_ #[dT, sT] o.type #[v, u]).run P w = .ok v' w') (hK : K (a.put o.dst v') w') :
    if Region.wanted o (yielded ops a.tmps) = true then Oper.wp P o a w K Q else E := by
  have hw : Region.wanted o (yielded ops a.tmps) = true := by simp [Region.wanted, hg]
  rw [if_pos hw]
  unfold Oper.wp
  simp [execOp, hop, resolve, invoke, builtin, hd, hx, hr, Result.andThen]
  exact hK
/-- What was there but one element. -/
theorem del_list {cur xs zs : List Value} {o k n : Nat} (hk : k = zs.length) (hxs : cur.take n = xs) (hxl : xs.length = n) (ho : o + k ≤ n) (hfit : n ≤ cur.length) :
    (((cur.take o ++ xs.drop (o + k) ++ cur.drop (o + (xs.drop (o + k)).length)).take (n - k)) ++ zs ++ ((cur.take o ++ xs.drop (o + k) ++ cur.drop (o + (xs.drop (o + k)).length)).drop (n - k + zs.length))).take (n - k) = xs.take o ++ xs.drop (o + k) := by
  have hl : (cur.take o ++ xs.drop (o + k)).length = n - k := by simp only [List.length_append, List.length_take, List.length_drop]; omega
  have e1 : (cur.take o ++ xs.drop (o + k) ++ cur.drop (o + (xs.drop (o + k)).length)).take (n - k) = cur.take o ++ xs.drop (o + k) := by
    rw [List.take_append_of_le_length (by rw [hl]; omega), List.take_of_length_le (by rw [hl]; omega)]
  have e2 : cur.take o = xs.take o := by rw [← hxs, List.take_take, Nat.min_eq_left (by omega)]
  rw [e1, List.append_assoc, List.take_append_of_le_length (by rw [hl]; omega), List.take_of_length_le (by rw [hl]; omega), e2]
end Go.Proofs.Ytocndkhgopjhhaa
