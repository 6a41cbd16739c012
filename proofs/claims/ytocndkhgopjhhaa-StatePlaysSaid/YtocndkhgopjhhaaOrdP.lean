/- StateOrder: the plain parts. -/
import Derived.Test.YtocndkhgopjhhaaProg
import Derived.Test.YtocndkhgopjhhaaOpen2
import Derived.Test.YtocndkhgopjhhaaLong28
import Derived.Test.YtocndkhgopjhhaaAwakeW
import Derived.Test.YtocndkhgopjhhaaGiv28
namespace Go.Proofs.Ytocndkhgopjhhaa
open Go.RowKit

/-- The cells xs hold, three by three, the steps of the things l (Kind 0). -/
def OpCells (B : Nat) (S : Nat → Prop) (w : World) (l : List Td) (xs : List Value) : Prop :=
  xs.length = l.length * 3 ∧ ∀ i t, l[i]? = some t → ∃ rv fv, xs[i * 3]? = some (.int .u8 0) ∧ xs[i * 3 + 1]? = some rv ∧ xs[i * 3 + 2]? = some fv ∧ Tdv B S w t (.agg #[rv, fv])
/-- The same, two by two: the things themselves. -/
def TdCells (B : Nat) (S : Nat → Prop) (w : World) (l : List Td) (xs : List Value) : Prop :=
  xs.length = l.length * 2 ∧ ∀ i t, l[i]? = some t → ∃ rv fv, xs[i * 2]? = some rv ∧ xs[i * 2 + 1]? = some fv ∧ Tdv B S w t (.agg #[rv, fv])
section
variable {B : Nat} {S : Nat → Prop} {w w' : World} {l : List Td} {xs : List Value}
theorem OpCells.nil : OpCells B S w [] [] := ⟨rfl, by simp⟩
theorem TdCells.nil : TdCells B S w [] [] := ⟨rfl, by simp⟩
theorem OpCells.push (h : OpCells B S w l xs) {t : Td} {rv fv : Value} (ht : Tdv B S w t (.agg #[rv, fv])) : OpCells B S w (l ++ [t]) (xs ++ [.int .u8 0, rv, fv]) := by
  refine ⟨by simp [h.1]; omega, fun i t' hi => ?_⟩
  have hl := h.1
  by_cases hil : i < l.length
  · rw [List.getElem?_append_left hil] at hi
    obtain ⟨rv', fv', c0, c1, c2, htd⟩ := h.2 i t' hi
    exact ⟨rv', fv', by rw [List.getElem?_append_left (by omega)]; exact c0, by rw [List.getElem?_append_left (by omega)]; exact c1, by rw [List.getElem?_append_left (by omega)]; exact c2, htd⟩
  · have hie : i = l.length := by
      have : i < (l ++ [t]).length := (List.getElem?_eq_some_iff.1 hi).1
      simp at this; omega
    subst hie
    simp at hi
    subst hi
    exact ⟨rv, fv, by rw [List.getElem?_append_right (by omega), hl]; simp, by rw [List.getElem?_append_right (by omega), hl]; simp, by rw [List.getElem?_append_right (by omega), hl]; simp, ht⟩
theorem TdCells.push (h : TdCells B S w l xs) {t : Td} {rv fv : Value} (ht : Tdv B S w t (.agg #[rv, fv])) : TdCells B S w (l ++ [t]) (xs ++ [rv, fv]) := by
  refine ⟨by simp [h.1]; omega, fun i t' hi => ?_⟩
  have hl := h.1
  by_cases hil : i < l.length
  · rw [List.getElem?_append_left hil] at hi
    obtain ⟨rv', fv', c1, c2, htd⟩ := h.2 i t' hi
    exact ⟨rv', fv', by rw [List.getElem?_append_left (by omega)]; exact c1, by rw [List.getElem?_append_left (by omega)]; exact c2, htd⟩
  · have hie : i = l.length := by
      have : i < (l ++ [t]).length := (List.getElem?_eq_some_iff.1 hi).1
      simp at this; omega
    subst hie
    simp at hi
    subst hi
    exact ⟨rv, fv, by rw [List.getElem?_append_right (by omega), hl]; simp, by rw [List.getElem?_append_right (by omega), hl]; simp, ht⟩
theorem Tdv.form {v : Value} {t : Td} (h : Tdv B S w t v) : ∃ A c A' c', v = .agg #[.slice A t.row.length c, .slice A' t.facts.length c'] := by
  obtain ⟨_, _, rfl, ⟨A, c, rfl, _⟩, ⟨A', c', rfl, _⟩⟩ := h
  exact ⟨A, c, A', c', rfl⟩

/-- A row of the call's own that holds steps reads as steps. -/
theorem own_ops {wr : World} {base n : Nat} {v : Value} (ho : wr.ownsRow base 40 3 v n xs) (hn : n = l.length) (hc : OpCells B S w l xs) (hx : Ext w wr) : OpsV B S wr v (l.map fun t => (0, t)) := by
  subst hn
  rcases ho.2 with ⟨rfl, hn⟩ | ⟨g, cap, cur, rfl, h3, h4, hnc, hcm, h5⟩
  · have := List.eq_nil_of_length_eq_zero hn
    subst this
    exact ⟨none, 0, rfl, Nat.le_refl _, Nat.zero_le _, by simp⟩
  · refine ⟨_, cap, by simp, by simpa using hnc, hcm, fun _ => ⟨g, 0, rfl, (ownsRow_lt ho (g := g) rfl).2, fun i k t hi => ?_⟩⟩
    rw [List.getElem?_map, Option.map_eq_some_iff] at hi
    obtain ⟨t', ht', e⟩ := hi
    simp only [Prod.mk.injEq] at e
    obtain ⟨rfl, rfl⟩ := e
    obtain ⟨rv, fv, c0, c1, c2, htd⟩ := hc.2 i t' ht'
    exact ⟨rv, fv, ownsRow_cell ho c0, ownsRow_cell ho c1, ownsRow_cell ho c2, htd.ext hx⟩
theorem own_td_cell {wr : World} {base n : Nat} {A : Option Addr} {c : Nat} (ho : wr.ownsRow base 38 2 (.slice A n c) n xs) (hc : TdCells B S w l xs) {i : Nat} {t : Td} (hi : l[i]? = some t) :
    ∃ g rv fv, A = some ⟨g, 0, none⟩ ∧ base ≤ g ∧ g < wr.heap.size ∧ n ≤ c ∧ c ≤ maxLen ∧ wr.cell? ⟨g, i * 2, none⟩ = some rv ∧ wr.cell? ⟨g, i * 2 + 1, none⟩ = some fv ∧ Tdv B S w t (.agg #[rv, fv]) := by
  obtain ⟨rv, fv, c0, c1, htd⟩ := hc.2 i t hi
  rcases ho.2 with ⟨e, h0⟩ | ⟨g, cap, cur, e, h3, h4, hnc, hcm, h5⟩
  · have h1 := ho.1
    have h2 := (List.getElem?_eq_some_iff.1 c0).1
    omega
  · injection e with e1 e2 e3
    subst e1 e3
    have k0 := ownsRow_cell ho c0
    have k1 := ownsRow_cell ho c1
    rw [Nat.zero_add] at k0 k1
    exact ⟨g, rv, fv, rfl, h3, (ownsRow_lt ho (g := g) rfl).2, hnc, hcm, k0, k1, htd⟩

theorem Tdv.small {t : Td} {v : Value} (h : Tdv B S w t v) (hb : bigTd t = false) : Tdv 128 S w t v := by
  unfold bigTd at hb
  rw [Bool.or_eq_false_iff, Bool.or_eq_false_iff] at hb
  obtain ⟨⟨h1, h2⟩, h3⟩ := hb
  have h1' := of_decide_eq_false h1
  have h2' := of_decide_eq_false h2
  obtain ⟨rv, fv, e, hr, hf⟩ := h
  refine ⟨rv, fv, e, hr.grow (by omega), hf.grow (by omega) (fun f hf' => ?_)⟩
  have := (List.any_eq_false.1 h3) f hf'
  unfold bigF at this
  simp only [Bool.or_eq_true, decide_eq_true_eq, not_or] at this
  omega
end

theorem long_take {l : List Td} (h : longF ((l.take 70).map fun t => ((0 : Int), t)) = false) : l.length ≤ 60 ∧ ∀ t ∈ l, bigTd t = false := by
  unfold longF at h
  rw [Bool.or_eq_false_iff] at h
  obtain ⟨h1, h2⟩ := h
  have h1' := of_decide_eq_false h1
  rw [List.length_map, List.length_take] at h1'
  have hl : l.length ≤ 60 := by omega
  refine ⟨hl, fun t ht => ?_⟩
  rw [List.take_of_length_le (by omega)] at h2
  have := (List.any_eq_false.1 h2) (0, t) (List.mem_map_of_mem ht)
  simpa using this

/-- What went in: the rows are all different. -/
def Distinct (ins : List Td) : Prop := ins.Pairwise fun a b => a.row ≠ b.row
theorem pushC_new {t : Td} {most : Int} {ins : List Td} (h : pushC t most ins = 0) : ∀ x ∈ ins, x.row ≠ t.row := by
  unfold pushC at h
  split at h
  · cases h
  split at h
  · cases h
  · rename_i h1
    intro x hx e
    exact h1 (List.any_eq_true.2 ⟨x, hx, decide_eq_true e⟩)
theorem Distinct.push {ins : List Td} {t : Td} (h : Distinct ins) (hn : ∀ x ∈ ins, x.row ≠ t.row) : Distinct (ins ++ [t]) := by
  unfold Distinct
  rw [List.pairwise_append]
  exact ⟨h, List.pairwise_singleton _ _, fun a ha b hb => by simp at hb; subst hb; exact hn a ha⟩
theorem Distinct.at_ne {ins : List Td} (h : Distinct ins) {i p : Nat} {a b : Td} (hi : ins[i]? = some a) (hp : ins[p]? = some b) (hne : i ≠ p) : a.row ≠ b.row := by
  obtain ⟨hil, rfl⟩ := List.getElem?_eq_some_iff.1 hi
  obtain ⟨hpl, rfl⟩ := List.getElem?_eq_some_iff.1 hp
  have := List.pairwise_iff_getElem.1 h
  rcases Nat.lt_or_gt_of_ne hne with h' | h'
  · exact this i p hil hpl h'
  · exact fun e => this p i hpl hil h' e.symm
end Go.Proofs.Ytocndkhgopjhhaa
