/- New, Len, (*Queue).Pop. -/
import Derived.Test.YtocndkhgopjhhaaProg
import Derived.Test.YtocndkhgopjhhaaQPush
namespace Go.Proofs.Ytocndkhgopjhhaa
open Go.RowKit

theorem qnew_any (most : Int) (w : World) (h1 : 1 ≤ most) (h2 : most ≤ 256) :
    Calls Try.prog 28 #[.int .i64 most] w fun e w' => e = .returned (.tuple #[.pointer (some ⟨w.heap.size, 0, none⟩), .int .i64 0]) ∧ w' = w.alloc (.cells #[.slice none 0 0, .int .i64 most] 116) := by
  go_enter Try.func28, Try.ntmps28
  go_wp2_with fail
  go_ret2
  exact ⟨rfl, rfl⟩

theorem Qu.new (w : World) (most : Int) : Qu (fun _ => False) (w.alloc (.cells #[.slice none 0 0, .int .i64 most] 116)) w.heap.size (w.heap.size + 1) most (.slice none 0 0) [] where
  blk := Blk.new _ _ _
  row := Row.nil
  item := by simp
  apart := fun _ h => h.elim
  low := by omega

theorem qlen_any {T : Nat → Prop} {w : World} {q base : Nat} {most : Int} {v : Value} {ys : List It} (h : Qu T w q base most v ys) :
    Calls Try.prog 34 #[.pointer (some ⟨q, 0, none⟩)] w fun e w' => e = .returned (.int .i64 ys.length) ∧ w' = w := by
  have hc : w.cell? ⟨q, 0, none⟩ = some v := h.blk.cell 0
  obtain ⟨Av, cv, rfl⟩ := h.row.form
  clear h
  go_enter Try.func34, Try.ntmps34
  go_wp2_with fail
  go_ret
  exact ⟨rfl, rfl⟩

theorem Qu.turn {T F : Nat → Prop} {w w' : World} {q base : Nat} {most : Int} {v : Value} {xs : List It} (h : Qu T w q base most v xs) (ht : Turns F w w') (hF : ∀ b, F b → ¬ T b ∧ b ≠ q ∧ v.ownBlock ≠ some b) : Qu T w' q base most v xs where
  blk := (ht.block q h.blk.lt fun hf => (hF q hf).2.1 rfl).trans h.blk
  row := h.row.ext fun g hg => ht.block g (h.row.lt hg).2 fun hf => (hF g hf).2.2 hg
  item := fun x hm => ⟨(h.item x hm).1.keep ht.size (fun b hb hl => ht.block b hl fun hf => (hF b hf).1 hb) (fun _ h _ => h), (h.item x hm).2.keep ht.size (fun b hb hl => ht.block b hl fun hf => (hF b hf).1 hb) (fun _ h _ => h)⟩
  apart := fun b hb => ⟨Nat.lt_of_lt_of_le (h.apart b hb).1 ht.size, (h.apart b hb).2⟩
  low := h.low

theorem results_td_tmp {fn : Func} {k u : Nat} (h : fn.results = #[.cell k 48, .tmp u]) (tmps : Array Value) (w : World) (g : Nat) (v0 v1 : Value)
    (ht : tmps.getD k undef = .pointer (some ⟨g, 0, none⟩)) (hB : Blk w g 48 #[v0, v1]) :
    (results fn tmps).run Try.prog w = .ok (.tuple #[.agg #[v0, v1], tmps.getD u undef]) w := by
  have c0 := hB.cell 0
  have c1 := hB.cell 1
  have ht' : tmps[k]?.getD undef = .pointer (some ⟨g, 0, none⟩) := by simpa using ht
  simp at c0 c1
  simp [results, h, ht', go_sem, c0, c1]

/-- What Pop comes to at a queue that holds something. -/
def QPopPost (T : Nat → Prop) (q base : Nat) (most : Int) (v : Value) (ys : List It) (w : World) (e : Ending) (w' : World) : Prop :=
  ∃ (r : It) (v' : Value) (zs : List It), e = .returned (.tuple #[.agg #[r.rv, r.fv], .int .i64 0]) ∧ List.Perm (r :: zs) ys ∧ (∀ x ∈ ys, ltI x r = false) ∧ Heap ltI zs.length zs ∧ Qu T w' q base most v' zs ∧
    Turns (fun b => b = q ∨ v.ownBlock = some b) w w' ∧ v'.ownBlock = v.ownBlock ∧ Tdv 128 T w' r.td (.agg #[r.rv, r.fv])

set_option maxRecDepth 100000 in
set_option maxHeartbeats 4000000 in
theorem qpop_any {T : Nat → Prop} {w : World} {q base : Nat} {most : Int} {v : Value} {ys : List It} (h : Qu T w q base most v ys) (hh : Heap ltI ys.length ys) (hn : ys.length ≤ 1000) (h0 : 0 < ys.length) :
    Calls Try.prog 31 #[.pointer (some ⟨q, 0, none⟩)] w (QPopPost T q base most v ys w) := by
  have hc : w.cell? ⟨q, 0, none⟩ = some v := h.blk.cell 0
  have hql := h.blk.lt
  obtain ⟨Av, cv, rfl⟩ := h.row.form
  obtain ⟨W1, hW⟩ : ∃ W1, W1 = w.alloc (.cells #[.slice none 0 0, .slice none 0 0] 48) := ⟨_, rfl⟩
  have hX1 : Ext w W1 := by rw [hW]; exact Ext.alloc' _ _
  have hB1 : Blk W1 w.heap.size 48 #[.slice none 0 0, .slice none 0 0] := by rw [hW]; exact Blk.new _ _ _
  have hc1 : W1.cell? ⟨q, 0, none⟩ = some (.slice Av ys.length cv) := (hX1.cell (p := ⟨q, 0, none⟩) hql).trans hc
  have H := Lib.hid h
  have H1 := Lib.hid (h.ext hX1)
  have HH := Lib.hid hh
  have HX1 := Lib.hid hX1
  have HB1 := Lib.hid hB1
  have h0' : ((ys.length : Int) == 0) = false := by rw [beq_eq_false_iff_ne]; omega
  have ha := assert_todo
  clear h hh hX1 hB1 hc
  go_enter Try.func31, Try.ntmps31
  go_upto_region 1 with fail
  rw [← hW]
  clear hW
  go_wp2_with (go_at_call 96; refine (hpop_any H1.out HH.out hn h0).mono ?_; rintro e w2 ⟨r, v', zs, rfl, hp, hmin, hz, hq, ht, ho⟩; have HM := Lib.hid hmin; have HP := Lib.hid hp; have hb2 : Blk w2 w.heap.size 48 #[.slice none 0 0, .slice none 0 0] := (ht.block w.heap.size HB1.out.lt (fun e => e.elim (fun e => by omega) (fun e => by have := (H.out.row.lt e).2; omega))).trans HB1.out; have k0 := hb2.cell 0; have k1 := hb2.cell 1; have k2 := hb2.frozen 0; have k3 := hb2.frozen 1; have kz := hb2.lt; have HB2 := Lib.hid hb2; (simp at k0 k1); clear hb2; have HZ := Lib.hid hz; have HQ := Lib.hid hq; have HT := Lib.hid ht; have HO := Lib.hid ho; have hmem : r ∈ ys := (hp.mem_iff).1 (List.mem_cons_self ..); obtain ⟨X1, X2, X3, X4, X5, X6, e1, e2⟩ := H1.out.form r hmem; obtain ⟨rv, fv, td⟩ := r; simp only at e1 e2; subst e1 e2; clear hp hmin hz hq ht ho hmem)
  have hlt : w.heap.size < (w2.alloc (.cells #[.slice X1 X2 X3, .slice X4 X5 X6] 48)).heap.size := by simp; omega
  refine bodyPost_ret (results_td_tmp rfl _ _ _ _ _ rfl (HB2.out.set01.alloc _)) rfl ?_
  have ht2 : Turns (fun b => b = w.heap.size) w2 (((w2.setCell ⟨w.heap.size, 0, none⟩ (.slice X1 X2 X3)).setCell ⟨w.heap.size, 1, none⟩ (.slice X4 X5 X6)).alloc (.cells #[.slice X1 X2 X3, .slice X4 X5 X6] 48)) :=
    Turns.trans (G := fun b => b = w.heap.size) (Turns.trans (Turns.ofSet _ ⟨w.heap.size, 0, none⟩ _) (Turns.ofSet _ ⟨w.heap.size, 1, none⟩ _) (fun _ h _ => h)) (Turns.ofExt (Ext.alloc' _ _)) (fun _ h _ => h)
  have hF : ∀ b, b = w.heap.size → ¬ T b ∧ b ≠ q ∧ v'.ownBlock ≠ some b := by
    rintro b rfl
    refine ⟨fun hb => by have := (H.out.apart _ hb).1; omega, by omega, fun e => ?_⟩
    rw [HO.out] at e
    have := (H.out.row.lt e).2; omega
  have hitem := H.out.item _ (HP.out.mem_iff.1 (List.mem_cons_self ..))
  have htT : ∀ b, T b → b < w.heap.size → (((w2.setCell ⟨w.heap.size, 0, none⟩ (.slice X1 X2 X3)).setCell ⟨w.heap.size, 1, none⟩ (.slice X4 X5 X6)).alloc (.cells #[.slice X1 X2 X3, .slice X4 X5 X6] 48)).heap[b]? = w.heap[b]? := fun b hb hl => by
    have hz1 := HX1.out.size
    have hz2 := HT.out.size
    have ha := (H.out.apart b hb).2
    rw [ht2.block b (by omega) (by omega), HT.out.block b (by omega) (by rintro (e | e); exact ha.1 e; exact ha.2 e), HX1.out.block b hl]
  have hsz : w.heap.size ≤ (((w2.setCell ⟨w.heap.size, 0, none⟩ (.slice X1 X2 X3)).setCell ⟨w.heap.size, 1, none⟩ (.slice X4 X5 X6)).alloc (.cells #[.slice X1 X2 X3, .slice X4 X5 X6] 48)).heap.size := by simp [World.setCell]; omega
  refine ⟨⟨_, _, td⟩, v', zs, rfl, HP.out, HM.out, HZ.out, HQ.out.turn ht2 hF, ?_, HO.out, _, _, rfl, hitem.1.keep hsz htT (fun _ h _ => h), hitem.2.keep hsz htT (fun _ h _ => h)⟩
  exact Turns.trans (F := fun b => b = q ∨ (Value.slice Av ys.length cv).ownBlock = some b) (Turns.trans (Turns.ofExt HX1.out) HT.out (fun _ h _ => h)) ht2 (fun b hb hl => by omega)
end Go.Proofs.Ytocndkhgopjhhaa
