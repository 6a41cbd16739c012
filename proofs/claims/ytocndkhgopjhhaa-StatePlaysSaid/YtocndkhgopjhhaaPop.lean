/- The queue's own Pop, and container/heap's Push and Pop. -/
import Derived.Test.YtocndkhgopjhhaaProg
import Derived.Test.YtocndkhgopjhhaaPushPop
namespace Go.Proofs.Ytocndkhgopjhhaa
open Go.RowKit

set_option maxRecDepth 100000 in
set_option maxHeartbeats 4000000 in
theorem tpop_walk {w : World} {q base : Nat} {most : Value} {v : Value} {n : Nat} {xs : List Value} (hb : Blk w q 116 #[v, most]) (hr : Row w base v (n + 1) xs) (hq : q < base) (hn : n ≤ 1000000)
    {A A' : Option Addr} {l c l' c' : Nat} (hx0 : xs[n * 2]? = some (.slice A l c)) (hx1 : xs[n * 2 + 1]? = some (.slice A' l' c')) :
    Calls Try.prog 212 #[.pointer (some ⟨q, 0, none⟩)] w fun e w' => e = .returned (.iface 48 (.agg #[.slice A l c, .slice A' l' c'])) ∧ ∃ v', Blk w' q 116 #[v', most] ∧ Row w' base v' n (xs.take (n * 2)) ∧
      Turns (fun b => b = q) w w' ∧ v'.ownBlock = v.ownBlock := by
  rcases hr.2 with ⟨_, h0⟩ | ⟨g, cap, cur, rfl, hbg, hg, hnc, hcm, hcs, htk⟩
  · omega
  have hql := hb.lt
  have hc : w.cell? ⟨q, 0, none⟩ = some (.slice (some ⟨g, 0, none⟩) (n + 1) cap) := hb.cell 0
  have hf : w.frozen? ⟨q, 0, none⟩ = false := hb.frozen 0
  have c0 := hr.cell hx0
  have c1 := hr.cell hx1
  have hgl := (hr.lt (g := g) rfl).2
  unfold maxLen at hcm
  have HB := Lib.hid hb
  have HR := Lib.hid hr
  have hfz : ∀ o, (w.alloc o).frozen? ⟨q, 0, none⟩ = false := fun o => (HB.out.alloc o).frozen 0
  clear hb hr hcs htk hg hx0 hx1
  go_enter Try.func212, Try.ntmps212
  go_wp2_with fail
  go_ret
  refine ⟨rfl, .slice (some ⟨g, 0, none⟩) n n, ?_, ?_, ?_, rfl⟩
  · have := (HB.out.set_ 0 (.slice (some ⟨g, 0, none⟩) n n)).alloc (.cells #[.slice A l c, .slice A' l' c'] 48)
    simpa using this
  · refine HR.out.cut.ext fun g' hg' => ?_
    simp [Value.ownBlock] at hg'
    subst hg'
    refine (Below.heap_alloc _ _ _ (by simpa [World.setCell] using hgl)).trans ?_
    exact Below.heap_setCell _ _ _ _ (fun e => by have : g = q := e; omega)
  · exact Turns.trans (Turns.ofSet _ ⟨q, 0, none⟩ _) (Turns.ofExt (Ext.alloc' _ _) (F := fun b => b = q)) (fun _ h _ => h)

theorem perm_snoc {x : It} {ys : List It} : List.Perm (ys ++ [x]) (x :: ys) := by
  simp

set_option maxRecDepth 100000 in
set_option maxHeartbeats 4000000 in
theorem hpush_any {T T' : Nat → Prop} {w : World} {q base : Nat} {most : Int} {v : Value} {ys : List It} (h : Qu T w q base most v ys) (hh : Heap ltI ys.length ys) (hn : ys.length ≤ 1000) (hbw : base ≤ w.heap.size)
    (hT : ∀ b, T b → T' b) (hT' : ∀ b, T' b → b < w.heap.size ∧ b ≠ q ∧ v.ownBlock ≠ some b) {x : It} (hx : Ints 128 T' w x.rv x.td.row ∧ Facts 128 T' w x.fv x.td.facts) :
    Calls Try.prog 94 #[.iface 121 (.pointer (some ⟨q, 0, none⟩)), .iface 48 (.agg #[x.rv, x.fv])] w fun e w' => e = .returned (.tuple #[]) ∧ ∃ v' zs, List.Perm zs (x :: ys) ∧ Heap ltI zs.length zs ∧ Qu T' w' q base most v' zs ∧
      Turns (fun b => b = q ∨ v.ownBlock = some b) w w' ∧ (v'.ownBlock = v.ownBlock ∨ ∃ g, v'.ownBlock = some g ∧ w.heap.size ≤ g) := by
  have H := Lib.hid h
  have HH := Lib.hid hh
  have HT := Lib.hid hT
  have HT' := Lib.hid hT'
  have HX := Lib.hid hx
  obtain ⟨rv, fv, td⟩ := x
  obtain ⟨⟨A, c, e1, _⟩, ⟨A', c', e2, _⟩⟩ := hx
  simp only at e1 e2
  subst e1 e2
  have ml := m_push (.pointer (some ⟨q, 0, none⟩)) w
  clear h hh hT hT'
  go_enter Try.func94, Try.ntmps94
  go_wp2_with fail
  refine (tpush_walk H.out.blk H.out.row H.out.low hbw (by omega)).mono ?_
  rintro e w1 ⟨rfl, v1, hb1, hr1, ht1, ho1⟩
  have hq1 : Qu T' w1 q base most v1 (ys ++ [⟨.slice A td.row.length c, .slice A' td.facts.length c', td⟩]) := by
    have hmem : ∀ b, T' b → b < w.heap.size → w1.heap[b]? = w.heap[b]? := fun b hb hl => ht1.block b hl (by
      rintro (e | e)
      · exact (HT'.out b hb).2.1 e
      · exact (HT'.out b hb).2.2 e)
    refine ⟨hb1, by rw [flat_app, List.length_append]; exact hr1, ?_, ?_, H.out.low⟩
    · intro y hy
      rcases List.mem_append.1 hy with hy | hy
      · obtain ⟨h1, h2⟩ := H.out.item y hy
        exact ⟨h1.keep ht1.size (fun b hb hl => hmem b (HT.out b hb) hl) (fun b hb _ => HT.out b hb), h2.keep ht1.size (fun b hb hl => hmem b (HT.out b hb) hl) (fun b hb _ => HT.out b hb)⟩
      · simp only [List.mem_singleton] at hy
        subst hy
        exact ⟨HX.out.1.keep ht1.size hmem (fun _ h _ => h), HX.out.2.keep ht1.size hmem (fun _ h _ => h)⟩
    · intro b hb
      obtain ⟨h1, h2, h3⟩ := HT'.out b hb
      refine ⟨Nat.lt_of_lt_of_le h1 ht1.size, h2, ?_⟩
      rcases ho1 with e | ⟨g, e, hg⟩
      · rw [e]; exact h3
      · rw [e]; intro hh; injection hh with hh; omega
  have Hq1 := Lib.hid hq1
  have Ht1 := Lib.hid ht1
  have Ho1 := Lib.hid ho1
  have hc1 : w1.cell? ⟨q, 0, none⟩ = some v1 := hb1.cell 0
  have mlen := m_len q w1 v1 hc1
  obtain ⟨A1, c1, rfl⟩ := hr1.form
  clear hq1 ht1 ho1 hb1 hr1 ml
  go_wp2_with fail
  refine (tlen_any A1 (ys.length + 1) c1 w1).mono ?_
  rintro e w2 ⟨rfl, rfl⟩
  go_wp2_with fail
  refine (up_any (xs := ys ++ [⟨.slice A td.row.length c, .slice A' td.facts.length c', td⟩]) (j0 := ys.length) Hq1.out (by simp) (up_start HH.out) (by simp; omega)).mono ?_
  rintro e w3 ⟨rfl, zs, hp, hz, hq3, hg3⟩
  have Hp := Lib.hid hp
  have Hz := Lib.hid hz
  have Hq3 := Lib.hid hq3
  have Hg3 := Lib.hid hg3
  clear hp hz hq3 hg3
  go_wp2_with fail
  go_end0
  refine ⟨rfl, _, zs, Hp.out.trans perm_snoc, Hz.out, Hq3.out, ?_, Ho1.out⟩
  refine Turns.trans Ht1.out (Turns.ofGrown Hg3.out) fun b hb hl => ?_
  rcases Ho1.out with e | ⟨g, e, hg⟩
  · right; rw [← e]; exact hb
  · rw [e] at hb; injection hb with hb; omega

/-- the first exchanged with the last: what is left but for the last is a heap but for its head. -/
theorem pop_start {n : Nat} {ys : List It} (h : Heap ltI ys.length ys) (hl : ys.length = n + 1) {x y : It} (h0 : ys[0]? = some x) (hn : ys[n]? = some y) : DownInv ltI n (swapL ys 0 n) 0 := by
  have hg := swapL_get h0 hn
  refine ⟨fun k a p hk hkn h1 ha hp => ?_, fun c a p hi => by omega⟩
  rw [hg, if_neg (by omega), if_neg (by omega)] at ha
  rw [hg, if_neg (by omega), if_neg h1] at hp
  exact h k a p hk (by omega) ha hp

set_option maxRecDepth 100000 in
set_option maxHeartbeats 4000000 in
theorem hpop_any {T : Nat → Prop} {w : World} {q base : Nat} {most : Int} {v : Value} {ys : List It} (h : Qu T w q base most v ys) (hh : Heap ltI ys.length ys) (hn : ys.length ≤ 1000) (h0 : 0 < ys.length) :
    Calls Try.prog 96 #[.iface 121 (.pointer (some ⟨q, 0, none⟩))] w fun e w' => ∃ (r : It) (v' : Value) (zs : List It), e = .returned (.iface 48 (.agg #[r.rv, r.fv])) ∧ List.Perm (r :: zs) ys ∧ (∀ x ∈ ys, ltI x r = false) ∧ Heap ltI zs.length zs ∧ Qu T w' q base most v' zs ∧
      Turns (fun b => b = q ∨ v.ownBlock = some b) w w' ∧ v'.ownBlock = v.ownBlock := by
  obtain ⟨n, hl⟩ : ∃ n, ys.length = n + 1 := ⟨ys.length - 1, by omega⟩
  obtain ⟨r, hr⟩ : ∃ r, ys[0]? = some r := ⟨_, List.getElem?_eq_getElem h0⟩
  obtain ⟨y, hy⟩ : ∃ y, ys[n]? = some y := ⟨_, List.getElem?_eq_getElem (by omega)⟩
  have H := Lib.hid h
  have HH := Lib.hid hh
  have HR := Lib.hid hr
  have HY := Lib.hid hy
  have hc : w.cell? ⟨q, 0, none⟩ = some v := h.blk.cell 0
  obtain ⟨Av, cv, rfl⟩ := h.row.form
  have ml := m_len q w _ hc
  have ms := m_swap q w _ hc
  rw [hl] at ml ms hc
  clear h hh hr hy
  go_enter Try.func96, Try.ntmps96
  go_wp2_with fail
  refine (tlen_any Av (n + 1) cv w).mono ?_
  rintro e w1 ⟨rfl, rfl⟩
  go_wp2_with fail
  have hsw := H.out.swap HR.out HY.out
  rw [hl] at hsw
  refine hsw.mono ?_
  rintro e w2 ⟨rfl, hq2, hg2⟩
  have Hq2 := Lib.hid hq2
  have Hg2 := Lib.hid hg2
  clear hq2 hg2 hsw ml ms hc
  go_wp2_with fail
  have hds := down_any (n := n) Hq2.out (by rw [swapL_length]; omega) (pop_start HH.out hl HR.out HY.out) (by rw [swapL_length]; omega)
  refine hds.mono ?_
  rintro e w3 ⟨⟨b, rfl⟩, us, hp, ⟨hz, hk⟩, hq3, hg3⟩
  have hul : us.length = n + 1 := by rw [hp.length_eq, swapL_length, hl]
  have hun : us[n]? = some r := by rw [hk n (Nat.le_refl _), swapL_get HR.out HY.out, if_pos rfl]
  obtain ⟨rv, fv, td⟩ := r
  have hmem := List.mem_of_getElem? hun
  obtain ⟨X1, X2, X3, X4, X5, X6, e1, e2⟩ := hq3.form _ hmem
  simp only at e1 e2
  subst e1 e2
  have Hp := Lib.hid hp
  have Hz := Lib.hid hz
  have Hq3 := Lib.hid hq3
  have Hg3 := Lib.hid hg3
  have Hun := Lib.hid hun
  have mp := m_pop (.pointer (some ⟨q, 0, none⟩)) w3
  clear hp hz hk hq3 hg3 hun hds hmem
  go_wp2_with fail
  have hrow := Hq3.out.row
  rw [hul] at hrow
  refine (tpop_walk Hq3.out.blk hrow H.out.low (by omega) (flat_get0 Hun.out) (flat_get1 Hun.out)).mono ?_
  rintro e w4 ⟨rfl, v', hb4, hr4, ht4, ho4⟩
  have Hb4 := Lib.hid hb4
  have Hr4 := Lib.hid hr4
  have Ht4 := Lib.hid ht4
  have Ho4 := Lib.hid ho4
  clear hb4 hr4 ht4 ho4 hrow
  go_wp2_with fail
  go_ret
  have hsplit : us = us.take n ++ [⟨.slice X1 X2 X3, .slice X4 X5 X6, td⟩] := by
    conv => lhs; rw [← List.take_append_drop n us]
    rw [List.drop_eq_getElem_cons (by omega), List.drop_eq_nil_of_le (by omega)]
    have := Hun.out
    rw [List.getElem?_eq_getElem (by omega)] at this
    injection this with this
    rw [this]
  have hperm : List.Perm (⟨.slice X1 X2 X3, .slice X4 X5 X6, td⟩ :: us.take n) ys := by
    refine perm_snoc.symm.trans ?_
    rw [← hsplit]
    exact Hp.out.trans (swapL_perm _ _ _)
  have htl : (us.take n).length = n := by rw [List.length_take]; omega
  have hob : (Value.slice Av ys.length cv).ownBlock = (Value.slice Av (n + 1) cv).ownBlock := by cases Av <;> rfl
  refine ⟨⟨.slice X1 X2 X3, .slice X4 X5 X6, td⟩, v', us.take n, rfl, hperm, ?_, ?_, ?_, ?_, Ho4.out.trans hob.symm⟩
  · intro x hx
    obtain ⟨k, hk⟩ := List.mem_iff_getElem?.1 hx
    exact HH.out.min ltI_ord HR.out k x (List.getElem?_eq_some_iff.1 hk).1 hk
  · rw [htl]
    intro k a p h0 hkn ha hp
    rw [List.getElem?_take, if_pos (by omega)] at ha hp
    exact Hz.out k a p h0 hkn ha hp
  · have hsame : ∀ b, T b → b < w3.heap.size → w4.heap[b]? = w3.heap[b]? := fun b hb hlb => Ht4.out.block b hlb (H.out.apart b hb).2.1
    refine ⟨Hb4.out, by rw [htl, ← flat_take]; exact Hr4.out, fun x hx => ?_, fun b hb => ?_, H.out.low⟩
    · obtain ⟨h1, h2⟩ := Hq3.out.item x (List.mem_of_mem_take hx)
      exact ⟨h1.keep Ht4.out.size hsame (fun _ h _ => h), h2.keep Ht4.out.size hsame (fun _ h _ => h)⟩
    · obtain ⟨h1, h2, h3⟩ := Hq3.out.apart b hb
      exact ⟨Nat.lt_of_lt_of_le h1 Ht4.out.size, h2, by rw [Ho4.out]; exact h3⟩
  · refine Turns.trans (Turns.trans (F := fun b => b = q ∨ (Value.slice Av ys.length cv).ownBlock = some b) (Turns.mono (Turns.ofGrown Hg2.out) (fun _ h => .inr (hob.trans h))) (Turns.ofGrown Hg3.out) (fun _ h _ => .inr (hob.trans h))) Ht4.out (fun _ h _ => .inl h)
end Go.Proofs.Ytocndkhgopjhhaa
