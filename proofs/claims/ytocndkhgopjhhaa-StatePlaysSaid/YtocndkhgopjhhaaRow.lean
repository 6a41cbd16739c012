/- The queue's row: it may be cut at its end (the block behind it longer than its cap). -/
import Derived.Test.YtocndkhgopjhhaaProg
import Derived.Test.YtocndkhgopjhhaaBase
import Derived.Laws.OwnMore
import Derived.Deep.AppendLies
import Derived.WalkKit
namespace Go.Proofs.Ytocndkhgopjhhaa
open Go.RowKit

theorem todo_info : (Try.prog.info? 48).map (fun i => (i.zero, i.size, i.bytes)) = some (some (.agg #[.slice none 0 0, .slice none 0 0]), 2, 48) := by kernel_rfl

/-- 'The slice value v owns its n things to be done, the cells xs', from block number base on. -/
def Row (w : World) (base : Nat) (v : Value) (n : Nat) (xs : List Value) : Prop :=
  xs.length = n * 2 ∧ ((v = .slice none 0 0 ∧ n = 0) ∨
    ∃ g cap cur, v = .slice (some ⟨g, 0, none⟩) n cap ∧ base ≤ g ∧ w.heap[g]? = some (.cells cur 48 (0, 0)) ∧ n ≤ cap ∧ cap ≤ maxLen ∧ (cur.size = cap * 2 ∨ (cap = n ∧ n * 2 ≤ cur.size)) ∧ cur.toList.take (n * 2) = xs)

section
variable {w w' : World} {base n : Nat} {v : Value} {xs : List Value}
theorem Row.nil : Row w base (.slice none 0 0) 0 [] := ⟨rfl, .inl ⟨rfl, rfl⟩⟩
theorem Row.of (h : w.ownsRow base 48 2 v n xs) : Row w base v n xs := by
  refine ⟨h.1, ?_⟩
  rcases h.2 with h2 | ⟨g, cap, cur, a, b, c, d, e, f, k⟩
  · exact .inl h2
  · exact .inr ⟨g, cap, cur, a, b, c, d, e, .inl f, k⟩
theorem Row.form (h : Row w base v n xs) : ∃ A c, v = .slice A n c := by
  rcases h.2 with ⟨rfl, rfl⟩ | ⟨g, cap, cur, rfl, _⟩
  · exact ⟨none, 0, rfl⟩
  · exact ⟨_, cap, rfl⟩
theorem Row.lt (h : Row w base v n xs) {g : Nat} (hg : v.ownBlock = some g) : base ≤ g ∧ g < w.heap.size := by
  rcases h.2 with ⟨rfl, _⟩ | ⟨g', cap, cur, rfl, h3, h4, h5⟩
  · cases hg
  · simp [Value.ownBlock] at hg
    subst hg
    exact ⟨h3, Blk.lt (show Blk w g' 48 cur from h4)⟩
theorem Row.ext (h : Row w base v n xs) (hx : ∀ g, v.ownBlock = some g → w'.heap[g]? = w.heap[g]?) : Row w' base v n xs := by
  refine ⟨h.1, ?_⟩
  rcases h.2 with h2 | ⟨g, cap, cur, rfl, h3, h4, h5⟩
  · exact .inl h2
  · exact .inr ⟨g, cap, cur, rfl, h3, (hx g rfl).trans h4, h5⟩
theorem Row.cell {g c : Nat} (h : Row w base (.slice (some ⟨g, 0, none⟩) n c) n xs) {j : Nat} {u : Value} (hj : xs[j]? = some u) : w.cell? ⟨g, j, none⟩ = some u := by
  rcases h.2 with ⟨h', _⟩ | ⟨g', cap, cur, e, h3, h4, hnc, hcm, h5, h6⟩
  · cases h'
  · simp only [Value.slice.injEq, Option.some.injEq, Addr.mk.injEq, and_true, true_and] at e
    obtain ⟨rfl, rfl⟩ := e
    have hl := (List.getElem?_eq_some_iff.1 hj).1
    have hl1 := h.1
    rw [cell_of_row w g j cur _ (0, 0) h4]
    rw [← h6, List.getElem?_take, if_pos (by omega)] at hj
    simpa using hj
theorem Row.frozenAt {g c : Nat} (h : Row w base (.slice (some ⟨g, 0, none⟩) n c) n xs) (j : Nat) : w.frozen? ⟨g, j, none⟩ = false := by
  rcases h.2 with ⟨h', _⟩ | ⟨g', cap, cur, e, h3, h4, _⟩
  · cases h'
  · simp only [Value.slice.injEq, Option.some.injEq, Addr.mk.injEq, and_true, true_and] at e
    obtain ⟨rfl, rfl⟩ := e
    exact frozen_of_row w g j cur _ h4
theorem Row.stored {g c : Nat} (h : Row w base (.slice (some ⟨g, 0, none⟩) n c) n xs) (j : Nat) (u : Value) :
    Row (w.setCell ⟨g, j, none⟩ u) base (.slice (some ⟨g, 0, none⟩) n c) n (xs.set j u) ∧ w.grownBy (w.setCell ⟨g, j, none⟩ u) (some g) := by
  rcases h.2 with ⟨h', _⟩ | ⟨g', cap', cur, h', hb, hg, hnc, hcm, hcs, htake⟩
  · cases h'
  · simp only [Value.slice.injEq, Option.some.injEq, Addr.mk.injEq, and_true, true_and] at h'
    obtain ⟨rfl, rfl⟩ := h'
    refine ⟨⟨by simpa using h.1, .inr ⟨g, c, cur.setIfInBounds j u, rfl, hb, heap_setCell_same w g j cur _ u hg, hnc, hcm, by simpa using hcs, ?_⟩⟩,
      ⟨rfl, rfl, rfl, by simp, fun k _ hk => heap_setCell_other w ⟨g, j, none⟩ k u (fun e => hk (by simp [e]))⟩⟩
    rw [Array.toList_setIfInBounds, ← htake, List.take_set]
/-- the row without its last. -/
theorem Row.cut {g c : Nat} (h : Row w base (.slice (some ⟨g, 0, none⟩) (n + 1) c) (n + 1) xs) : Row w base (.slice (some ⟨g, 0, none⟩) n n) n (xs.take (n * 2)) := by
  rcases h.2 with ⟨h', _⟩ | ⟨g', cap', cur, h', hb, hg, hnc, hcm, hcs, htake⟩
  · cases h'
  · simp only [Value.slice.injEq, Option.some.injEq, Addr.mk.injEq, and_true, true_and] at h'
    obtain ⟨rfl, rfl⟩ := h'
    have hl := h.1
    have hcur : (n + 1) * 2 ≤ cur.size := by
      have := congrArg List.length htake
      simp at this; omega
    refine ⟨by simp; omega, .inr ⟨g, n, cur, rfl, hb, hg, Nat.le_refl _, by omega, .inr ⟨rfl, by omega⟩, ?_⟩⟩
    rw [← htake, List.take_take]
    congr 1; omega

theorem row_append (ty : TypeId) (h : Row w base v n xs) (hn : n ≤ 1000000) (hbase : base ≤ w.heap.size) (ad : Addr) (c : Nat) (news : List Value) (hl : news.length = 1 * 2) (hnews : ∀ j u, news[j]? = some u → w.cell? (ad.add j) = some u) (h1 : ∀ u ∈ news, u.oneCell' = true) :
    ∃ g cap w', (Builtin.append_ #[114, 114] ty #[v, .slice (some ad) 1 c]).run Try.prog w = .ok (.slice (some ⟨g, 0, none⟩) (n + 1) cap) w' ∧ Row w' base (.slice (some ⟨g, 0, none⟩) (n + 1) cap) (n + 1) (xs ++ news) ∧ w.grownBy w' v.ownBlock ∧
      (v.ownBlock = some g ∨ g = w.heap.size) := by
  obtain ⟨i, hi, hz, hsize, hby⟩ := info_parts todo_info
  by_cases ho : w.ownsRow base 48 2 v n xs
  · obtain ⟨g, cap, w', hr, h2, h3, h4, _⟩ := run_append_lies (P := Try.prog) w 114 ty base 48 i _ 2 48 Try.underlying114 hi hz hsize hby rfl (by omega) v n xs ho ad 1 c news hl hnews h1 (by omega) (by simp only [maxLen]; omega) (by omega) hbase w.heap.size rfl
    exact ⟨g, cap, w', hr, Row.of h2, h3, h4⟩
  · rcases h.2 with h2 | ⟨g, cap, cur, rfl, h3, h4, hnc, hcm, hcs, htk⟩
    · exact (ho ⟨h.1, .inl h2⟩).elim
    · rcases hcs with hcs | ⟨rfl, hcs⟩
      · exact (ho ⟨h.1, .inr ⟨g, cap, cur, rfl, h3, h4, hnc, hcm, hcs, htk⟩⟩).elim
      · have holds : ∀ j u, xs[j]? = some u → w.cell? ((⟨g, 0, none⟩ : Addr).add j) = some u := fun j u hj => by
          have := h.cell hj
          rcases Nat.eq_zero_or_pos j with rfl | h0
          · simpa [Addr.add] using this
          · rw [Addr.add, if_neg (by omega)]; simpa using this
        have hr := run_append_grow (P := Try.prog) w 114 ty 48 i _ Try.underlying114 hi hz ⟨g, 0, none⟩ cap cap xs (by rw [hsize]; exact h.1) holds ad 1 c news (by rw [hsize]; exact hl) hnews (by omega) (by omega) (growslice_fits_wide (by omega) (by rw [hby]; omega))
        have hge := grownCap_ge w (cap + 1) cap 48
        have hcm := grownCap_le_maxLen w (cap + 1) cap 48 (by simp only [maxLen]; omega)
        refine ⟨_, _, _, hr, ⟨by rw [List.length_append, h.1, hl]; omega, .inr ⟨w.heap.size, _, _, rfl, hbase, heap_alloc_new w.drew _, hge, hcm, .inl ?_, ?_⟩⟩, ⟨rfl, rfl, rfl, by simp, fun k hk _ => Below.heap_alloc w.drew _ k hk⟩, .inr rfl⟩
        · simp only [Array.size_append, List.size_toArray, size_zeroCells, h.1, hl]
          have hz2 : (Value.agg #[.slice none 0 0, .slice none 0 0]).cells.size = 2 := rfl
          rw [hz2]; omega
        · simp only [Array.toList_append, List.append_assoc]
          rw [← List.append_assoc, show (cap + 1) * 2 = (xs ++ news).length by rw [List.length_append, h.1, hl]; omega]
          exact List.take_left

theorem step_row {ops : Array Oper} {o : Oper} {a : Act} {K : Act → World → Prop} {Q : Exit → Act → World → Prop} {E : Prop} (hgd : o.guard = none) (s x : Operand)
    (ho : o.op = .call { callee := .builtin .append, args := #[s, x], argTypes := #[114, 114] }) (hs : a.eval s = v) (h : Row w base v n xs) (hn : n ≤ 1000000) (hbase : base ≤ w.heap.size)
    (ad : Addr) (c : Nat) (news : List Value) (hx : a.eval x = .slice (some ad) 1 c) (hl : news.length = 1 * 2) (hnews : ∀ j u, news[j]? = some u → w.cell? (ad.add j) = some u) (h1 : ∀ u ∈ news, u.oneCell' = true)
    (hk : ∀ g cap w', Row w' base (.slice (some ⟨g, 0, none⟩) (n + 1) cap) (n + 1) (xs ++ news) → w.grownBy w' v.ownBlock → (v.ownBlock = some g ∨ g = w.heap.size) → K (a.put o.dst (.slice (some ⟨g, 0, none⟩) (n + 1) cap)) w') :
    if Region.wanted o (yielded ops a.tmps) = true then Oper.wp Try.prog o a w K Q else E := by
  have hw : Region.wanted o (yielded ops a.tmps) = true := by simp [Region.wanted, hgd]
  rw [if_pos hw]
  obtain ⟨g, cap, w', hr, h2, h3, h4⟩ := row_append o.type h hn hbase ad c news hl hnews h1
  unfold Oper.wp execOp
  simp only [ho, resolve, invoke, builtin, Sem.run_bind, Sem.run_pure, Result.andThen_ok, List.map_toArray, List.map_cons, List.map_nil, hs, hx, hr]
  exact hk g cap w' h2 h3 h4
end
end Go.Proofs.Ytocndkhgopjhhaa
