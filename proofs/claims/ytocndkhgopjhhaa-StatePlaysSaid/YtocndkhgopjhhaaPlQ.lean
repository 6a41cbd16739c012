/- StatePlays: the document's queue, a list in order: the plain law. -/
import Derived.Test.YtocndkhgopjhhaaProg
import Derived.Test.YtocndkhgopjhhaaQSt
namespace Go.Proofs.Ytocndkhgopjhhaa
open Go.RowKit

/-- in order, each row once. -/
abbrev InOrd (L : List Td) : Prop := L.Pairwise fun a b => lessR a.row b.row = true
/-- how many stand ahead of a row, from the first on. -/
def atR (row : List Int) : List Td → Nat
  | [] => 0
  | x :: l => if lessR x.row row = true then atR row l + 1 else 0
/-- does the one that stands there have this row? -/
def twiceR (row : List Int) (L : List Td) : Bool := match L[atR row L]? with
  | none => false
  | some x => !lessR row x.row
/-- What the document's Push answers. -/
def refC (t : Td) (most : Int) (L : List Td) : Int :=
  if mayF t.facts = false then 4 else if twiceR t.row L = true then 6 else if most ≤ (L.length : Int) then 67 else 0
def refL (t : Td) (L : List Td) : List Td := L.take (atR t.row L) ++ t :: L.drop (atR t.row L)

theorem lessR_asymm {a b : List Int} (h : lessR a b = true) : lessR b a = false := lessR_ord.asymm _ _ h
theorem lessR_trans {a b c : List Int} (h1 : lessR a b = true) (h2 : lessR b c = true) : lessR a c = true := by
  cases h : lessR a c with
  | true => rfl
  | false =>
    have h3 := lessR_ord.trans b c a (lessR_asymm h2) h
    rw [h1] at h3
    cases h3
theorem lessR_tri (a b : List Int) : lessR a b = true ∨ a = b ∨ lessR b a = true := by
  cases h1 : lessR a b with
  | true => exact .inl rfl
  | false =>
    cases h2 : lessR b a with
    | true => exact .inr (.inr rfl)
    | false => exact .inr (.inl (lessR_eq h1 h2))
theorem atR_le (row : List Int) : ∀ L : List Td, atR row L ≤ L.length
  | [] => Nat.le_refl _
  | x :: l => by
    rw [atR]
    split
    · have := atR_le row l; simp; omega
    · exact Nat.zero_le _
theorem atR_below (row : List Int) : ∀ (L : List Td) (x : Td), x ∈ L.take (atR row L) → lessR x.row row = true
  | [], x, h => by simp at h
  | y :: l, x, h => by
    rw [atR] at h
    split at h
    · next hy =>
      rw [List.take_succ_cons, List.mem_cons] at h
      rcases h with rfl | h
      · exact hy
      · exact atR_below row l x h
    · simp at h
theorem atR_at (row : List Int) : ∀ (L : List Td) (x : Td), L[atR row L]? = some x → lessR x.row row = false
  | [], x, h => by simp at h
  | y :: l, x, h => by
    rw [atR] at h
    split at h
    · rw [List.getElem?_cons_succ] at h; exact atR_at row l x h
    · next hy => simp at h; subst h; simpa using hy
theorem atR_above (row : List Int) : ∀ (L : List Td), InOrd L → ∀ x, x ∈ L.drop (atR row L) → lessR x.row row = false
  | [], _, x, h => by simp at h
  | y :: l, ho, x, h => by
    have ho' := List.pairwise_cons.1 ho
    rw [atR] at h
    split at h
    · rw [List.drop_succ_cons] at h; exact atR_above row l ho'.2 x h
    · next hy =>
      rw [List.drop_zero, List.mem_cons] at h
      have hy' : lessR y.row row = false := by simpa using hy
      rcases h with rfl | h
      · exact hy'
      · cases hx : lessR x.row row with
        | false => rfl
        | true => rw [lessR_trans (ho'.1 x h) hx] at hy'; cases hy'
/-- how many stand ahead: counted one by one. -/
theorem atR_go {row : List Int} {L : List Td} {j : Nat} {x : Td} (hj : j ≤ atR row L) (hx : L[j]? = some x) : (lessR x.row row = true ↔ j < atR row L) := by
  constructor
  · intro h
    rcases Nat.lt_or_ge j (atR row L) with hl | hl
    · exact hl
    · have e : j = atR row L := by omega
      subst e
      rw [atR_at row L x hx] at h; cases h
  · intro h
    refine atR_below row L x (List.mem_iff_getElem?.2 ⟨j, ?_⟩)
    rw [List.getElem?_take_of_lt h]; exact hx
theorem twice_any {row : List Int} {L : List Td} (ho : InOrd L) : twiceR row L = L.any fun x => decide (x.row = row) := by
  unfold twiceR
  rw [Bool.eq_iff_iff, List.any_eq_true]
  constructor
  · intro h
    split at h
    · cases h
    · next x hx =>
      have h1 : lessR row x.row = false := by simpa using h
      exact ⟨x, List.mem_of_getElem? hx, by rw [decide_eq_true_eq]; exact lessR_eq (atR_at row L x hx) h1⟩
  · rintro ⟨x, hx, he⟩
    have he' : x.row = row := by simpa using he
    have hd : x ∈ L.drop (atR row L) := by
      have : x ∈ L.take (atR row L) ++ L.drop (atR row L) := by rw [List.take_append_drop]; exact hx
      rcases List.mem_append.1 this with h | h
      · have := atR_below row L x h
        rw [he', lessR_irrefl] at this; cases this
      · exact h
    have hdo : InOrd (L.drop (atR row L)) := ho.sublist (List.drop_sublist _ _)
    cases hq : L[atR row L]? with
    | none =>
      have := List.getElem?_eq_none_iff.1 hq
      rw [List.drop_eq_nil_of_le this] at hd; simp at hd
    | some y =>
      have hl := (List.getElem?_eq_some_iff.1 hq).1
      have he2 := (List.getElem?_eq_some_iff.1 hq).2
      rw [List.drop_eq_getElem_cons hl, he2] at hd hdo
      have h1 := atR_at row L y hq
      show (!lessR row y.row) = true
      rcases List.mem_cons.1 hd with rfl | h2
      · rw [he', lessR_irrefl]; rfl
      · have := (List.pairwise_cons.1 hdo).1 x h2
        rw [he'] at this
        rw [this] at h1; cases h1
theorem refC_eq {t : Td} {most : Int} {ts L : List Td} (ho : InOrd L) (hp : List.Perm ts L) : refC t most L = pushC t most ts := by
  unfold refC pushC
  rw [twice_any ho, hp.length_eq]
  have : (ts.any fun x => decide (x.row = t.row)) = L.any fun x => decide (x.row = t.row) := by
    rw [Bool.eq_iff_iff, List.any_eq_true, List.any_eq_true]
    constructor
    · rintro ⟨x, hx, h⟩; exact ⟨x, hp.mem_iff.1 hx, h⟩
    · rintro ⟨x, hx, h⟩; exact ⟨x, hp.mem_iff.2 hx, h⟩
  rw [this]
theorem refL_perm {t : Td} {ts L : List Td} (hp : List.Perm ts L) : List.Perm (t :: ts) (refL t L) := by
  refine (hp.cons t).trans ?_
  unfold refL
  have : (t :: L).Perm (t :: (L.take (atR t.row L) ++ L.drop (atR t.row L))) := by rw [List.take_append_drop]
  exact this.trans List.perm_middle.symm
theorem refL_ord {t : Td} {most : Int} {L : List Td} (ho : InOrd L) (hc : refC t most L = 0) : InOrd (refL t L) := by
  have htw : twiceR t.row L = false := by
    unfold refC at hc
    split at hc
    · cases hc
    · split at hc
      · cases hc
      · next h => simpa using h
  rw [twice_any ho, List.any_eq_false] at htw
  unfold refL
  rw [InOrd, List.pairwise_append]
  refine ⟨ho.sublist (List.take_sublist _ _), List.pairwise_cons.2 ⟨fun x hx => ?_, ho.sublist (List.drop_sublist _ _)⟩, fun a ha b hb => ?_⟩
  · have h1 := atR_above t.row L ho x hx
    have h2 := htw x (List.mem_of_mem_drop hx)
    rcases lessR_tri t.row x.row with h | h | h
    · exact h
    · rw [h] at h2; simp at h2
    · rw [h1] at h; cases h
  · have h1 := atR_below t.row L a ha
    rcases List.mem_cons.1 hb with rfl | hb
    · exact h1
    · have h2 := htw b (List.mem_of_mem_drop hb)
      have h3 := atR_above t.row L ho b hb
      rcases lessR_tri t.row b.row with h | h | h
      · exact lessR_trans h1 h
      · rw [h] at h2; simp at h2
      · rw [h3] at h; cases h
/-- The first one is popped. -/
theorem pop_first {x r : Td} {L ts rest : List Td} (ho : InOrd (x :: L)) (hp : List.Perm ts (x :: L)) (hr : List.Perm (r :: rest) ts) (hm : ∀ y ∈ ts, lessR y.row r.row = false) : r = x ∧ List.Perm rest L := by
  have hr' := hr.trans hp
  have hrm : r ∈ x :: L := hr'.mem_iff.1 (List.mem_cons_self ..)
  have hx : x ∈ ts := hp.mem_iff.2 (List.mem_cons_self ..)
  rcases List.mem_cons.1 hrm with e | h
  · subst e; exact ⟨rfl, hr'.cons_inv⟩
  · have := (List.pairwise_cons.1 ho).1 r h
    rw [hm x hx] at this; cases this
/-- Rows in order are one list. -/
theorem rows_eq {R : List (List Int)} {L ts : List Td} (ho : InOrd L) (hp : List.Perm ts L) (hR : List.Perm R (ts.map (·.row))) (hs : R.Pairwise fun a b => lessR b a = false) : R = L.map (·.row) := by
  refine List.Perm.eq_of_pairwise (le := fun a b => lessR b a = false) (fun a b _ _ h1 h2 => lessR_eq h2 h1) hs ?_ (hR.trans (hp.map _))
  rw [List.pairwise_map]
  exact ho.imp fun h => lessR_asymm h
end Go.Proofs.Ytocndkhgopjhhaa
