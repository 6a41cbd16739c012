/- StateDeep: the plain parts. -/
import Derived.Test.YtocndkhgopjhhaaProg
import Derived.Test.YtocndkhgopjhhaaOrdP
namespace Go.Proofs.Ytocndkhgopjhhaa
open Go.RowKit

/-- Neither row begins the other. -/
def Apart (a b : List Int) : Prop := ¬ a <+: b ∧ ¬ b <+: a
theorem Apart.symm {a b : List Int} (h : Apart a b) : Apart b a := ⟨h.2, h.1⟩
theorem Apart.ne {a b : List Int} (h : Apart a b) : a ≠ b := fun e => h.1 (e ▸ List.prefix_refl a)

/-- What holds at the head of StateDeep's loop: n were popped, the last one's row is last. -/
structure DeepQ (n len : Nat) (last : List Int) (ts : List Td) : Prop where
  anti : ts.Pairwise fun a b => Apart a.row b.row
  facts : ∀ x ∈ ts, x.facts = [rootF]
  short : ∀ x ∈ ts, x.row.length ≤ n ∧ x.row.length ≤ 60
  ahead : 0 < n → ∀ x ∈ ts, lessR last x.row = true
  few : ts.length + n ≤ 1 + 3 * n
  few2 : ts.length + n ≤ 1 + 3 * len

/-- What holds in between: r is popped, k of its ways are pushed. -/
structure DeepK (n len : Nat) (r : List Int) (k : Nat) (ts : List Td) : Prop where
  anti : ts.Pairwise fun a b => Apart a.row b.row
  facts : ∀ x ∈ ts, x.facts = [rootF]
  short : ∀ x ∈ ts, x.row.length ≤ n + 1 ∧ x.row.length ≤ 60
  ahead : ∀ x ∈ ts, lessR r x.row = true
  no : ∀ x ∈ ts, Apart r x.row ∨ ∃ j : Nat, j < k ∧ x.row = r ++ [(j : Int)]
  few : ts.length + n + 1 ≤ 1 + 3 * n + k
  few2 : k = 0 → ts.length + n + 1 ≤ 1 + 3 * len

theorem DeepQ.start (len : Nat) : DeepQ 0 len [] [⟨[], [rootF]⟩] where
  anti := List.pairwise_singleton _ _
  facts := by simp
  short := by simp
  ahead := fun h => by omega
  few := by simp
  few2 := by simp

theorem DeepQ.pop {n len : Nat} {last : List Int} {ts rest : List Td} {r : Td} (h : DeepQ n len last ts) (hp : List.Perm (r :: rest) ts) (hmin : ∀ x ∈ ts, lessR x.row r.row = false) :
    DeepK n len r.row 0 rest ∧ r.facts = [rootF] ∧ r.row.length ≤ n ∧ r.row.length ≤ 60 ∧ (0 < n → lessR last r.row = true) := by
  have hr : r ∈ ts := hp.mem_iff.1 (List.mem_cons_self ..)
  have hin : ∀ x ∈ rest, x ∈ ts := fun x hx => hp.mem_iff.1 (List.mem_cons_of_mem _ hx)
  have hanti : (r :: rest).Pairwise fun a b => Apart a.row b.row := (hp.pairwise_iff (fun h => h.symm)).2 h.anti
  rw [List.pairwise_cons] at hanti
  have hlen := hp.length_eq
  rw [List.length_cons] at hlen
  have h1 := h.few
  have h2 := h.few2
  refine ⟨⟨hanti.2, fun x hx => h.facts x (hin x hx), fun x hx => ?_, fun x hx => ?_, fun x hx => .inl (hanti.1 x hx), by omega, fun _ => by omega⟩, h.facts r hr, (h.short r hr).1, (h.short r hr).2, fun hn => h.ahead hn r hr⟩
  · have := h.short x (hin x hx); omega
  · have hne := (hanti.1 x hx).ne
    cases hl : lessR r.row x.row
    · exact absurd (lessR_eq hl (hmin x (hin x hx))) hne
    · rfl

theorem pre_snoc {a b : List Int} {k : Int} (h : a <+: b ++ [k]) : a = b ++ [k] ∨ a <+: b := by
  rcases List.prefix_concat_iff.1 h with e | e
  · exact .inl e
  · exact .inr e

theorem DeepK.push {n len : Nat} {r : List Int} {k : Nat} {ts : List Td} (h : DeepK n len r k ts) (hn : n < len) (hl : len ≤ 60) (hk : k < 3) (hr : r.length ≤ n) :
    pushC ⟨r ++ [(k : Int)], [rootF]⟩ 256 ts = 0 ∧ DeepK n len r (k + 1) (⟨r ++ [(k : Int)], [rootF]⟩ :: ts) := by
  have hf := h.few
  have hne : ∀ x ∈ ts, x.row ≠ r ++ [(k : Int)] := by
    intro x hx e
    rcases h.no x hx with ha | ⟨j, hj, he⟩
    · exact ha.1 (e ▸ List.prefix_append r [(k : Int)])
    · rw [e] at he
      have := List.append_cancel_left he
      simp at this
      omega
  have hap : ∀ x ∈ ts, Apart (r ++ [(k : Int)]) x.row := by
    intro x hx
    rcases h.no x hx with ha | ⟨j, hj, he⟩
    · refine ⟨fun hp => ha.1 ((List.prefix_append r [(k : Int)]).trans hp), fun hp => ?_⟩
      rcases pre_snoc hp with e | e
      · exact hne x hx e
      · exact ha.2 e
    · refine ⟨fun hp => ?_, fun hp => ?_⟩
      · have := hp.eq_of_length (by rw [he]; simp)
        exact hne x hx this.symm
      · have := hp.eq_of_length (by rw [he]; simp)
        exact hne x hx this
  refine ⟨?_, ⟨List.pairwise_cons.2 ⟨hap, h.anti⟩, ?_, ?_, ?_, ?_, by simp; omega, fun h0 => by omega⟩⟩
  · unfold pushC
    have h1 : mayF [rootF] = true := by decide
    rw [if_neg (by simp [h1])]
    rw [if_neg (by
      intro hany
      obtain ⟨x, hx, he⟩ := List.any_eq_true.1 hany
      exact hne x hx (of_decide_eq_true he))]
    rw [if_neg (by omega)]
  · intro x hx
    rcases List.mem_cons.1 hx with rfl | hx
    · rfl
    · exact h.facts x hx
  · intro x hx
    rcases List.mem_cons.1 hx with rfl | hx
    · simp; omega
    · exact h.short x hx
  · intro x hx
    rcases List.mem_cons.1 hx with rfl | hx
    · exact lessR_app r k
    · exact h.ahead x hx
  · intro x hx
    rcases List.mem_cons.1 hx with rfl | hx
    · exact .inr ⟨k, by omega, rfl⟩
    · rcases h.no x hx with ha | ⟨j, hj, he⟩
      · exact .inl ha
      · exact .inr ⟨j, by omega, he⟩

theorem DeepK.next {n len : Nat} {r : List Int} {k : Nat} {ts : List Td} (h : DeepK n len r k ts) (hk : k ≤ 3) (hn : k = 0 ∨ n < len) : DeepQ (n + 1) len r ts where
  anti := h.anti
  facts := h.facts
  short := h.short
  ahead := fun _ => h.ahead
  few := by have := h.few; omega
  few2 := by
    have h1 := h.few
    have h2 := h.few2
    rcases Nat.eq_zero_or_pos k with e | e
    · exact by have := h2 e; omega
    · rcases hn with hn | hn <;> omega
end Go.Proofs.Ytocndkhgopjhhaa
