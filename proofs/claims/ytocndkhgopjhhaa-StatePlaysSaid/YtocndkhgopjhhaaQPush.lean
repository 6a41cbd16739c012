/- (*Queue).Push. -/
import Derived.Test.YtocndkhgopjhhaaProg
import Derived.Test.YtocndkhgopjhhaaCont
import Derived.Test.YtocndkhgopjhhaaPop
import Derived.Test.YtocndkhgopjhhaaTOwnW
import Derived.Test.YtocndkhgopjhhaaPatN
import Derived.Deep.RegionWith
import Derived.Outline
namespace Go.Proofs.Ytocndkhgopjhhaa
open Go.RowKit

/-- What Push answers. -/
def pushCode (t : Td) (most : Int) (ys : List It) : Int :=
  if mayF t.facts = false then 4 else if ys.any (rowIs t.row) = true then 6 else if most ≤ (ys.length : Int) then 67 else 0

/-- It is in the queue now. -/
def InQ (T : Nat → Prop) (q base : Nat) (most : Int) (v : Value) (ys : List It) (t : Td) (w w' : World) : Prop :=
  ∃ (T' : Nat → Prop) (v' : Value) (zs : List It) (x : It), List.Perm zs (x :: ys) ∧ x.td = t ∧ Heap ltI zs.length zs ∧ Qu T' w' q base most v' zs ∧ Turns (fun b => b = q ∨ v.ownBlock = some b) w w' ∧
    (v'.ownBlock = v.ownBlock ∨ ∃ g, v'.ownBlock = some g ∧ w.heap.size ≤ g) ∧ (∀ b, T' b → T b ∨ w.heap.size ≤ b) ∧ (∀ b, T b → T' b) ∧ Tdv 128 (fun b => T' b ∧ w.heap.size ≤ b ∧ Nfz w' b) w' x.td (.agg #[x.rv, x.fv])

/-- What Push comes to. -/
def QPushPost (T : Nat → Prop) (q base : Nat) (most : Int) (v : Value) (ys : List It) (t : Td) (w : World) (e : Ending) (w' : World) : Prop :=
  e = .returned (.int .i64 (pushCode t most ys)) ∧
  (pushCode t most ys ≠ 0 → Ext w w') ∧
  (pushCode t most ys = 0 → InQ T q base most v ys t w w')

theorem qpush_heap {T : Nat → Prop} {w w0 w4 : World} {q base : Nat} {most : Int} {v : Value} {ys : List It} (h : Qu T w q base most v ys) (hh : Heap ltI ys.length ys) (hn : ys.length ≤ 1000) (hbw : base ≤ w.heap.size)
    {t : Td} (hx : Ext w w0) (hx4 : Ext w0 w4) {rv fv : Value} (ht : Tdv 128 (fun b => w0.heap.size ≤ b ∧ Nfz w4 b) w4 t (.agg #[rv, fv])) :
    Calls Try.prog 94 #[.iface 121 (.pointer (some ⟨q, 0, none⟩)), .iface 48 (.agg #[rv, fv])] w4 fun e w' => e = .returned (.tuple #[]) ∧ InQ T q base most v ys t w w' := by
  have hz := hx.size
  have hz4 := hx4.size
  have hx04 := hx.trans' hx4
  have hql := h.blk.lt
  obtain ⟨rv', fv', e, h1, h2⟩ := ht
  injection e with e
  simp only [Array.mk.injEq, List.cons.injEq, and_true] at e
  obtain ⟨rfl, rfl⟩ := e
  have hown : ∀ g, v.ownBlock = some g → g < w.heap.size := fun g hg => (h.row.lt hg).2
  refine (hpush_any (h.ext hx04) hh hn (by omega) (T' := fun b => T b ∨ (w0.heap.size ≤ b ∧ b < w4.heap.size)) (fun _ h => .inl h) ?_ (x := ⟨rv, fv, t⟩) ?_).mono ?_
  · rintro b (hb | ⟨hb, hb'⟩)
    · have := h.apart b hb
      exact ⟨by omega, this.2⟩
    · exact ⟨hb', by omega, fun e => by have := hown b e; omega⟩
  · exact ⟨h1.keep (Nat.le_refl _) (fun _ _ _ => rfl) (fun b hb hl => .inr ⟨hb.1, hl⟩), h2.keep (Nat.le_refl _) (fun _ _ _ => rfl) (fun b hb hl => .inr ⟨hb.1, hl⟩)⟩
  · rintro e w' ⟨rfl, v', zs, hp, hz', hq, ht, ho⟩
    refine ⟨rfl, _, v', zs, _, hp, rfl, hz', hq, Turns.trans (Turns.ofExt hx04) ht (fun _ h _ => h), ?_, ?_, fun _ h => .inl h, ?_⟩
    · rcases ho with ho | ⟨g, hg, hgl⟩
      · exact .inl ho
      · exact .inr ⟨g, hg, by omega⟩
    · rintro b (hb | ⟨hb, _⟩)
      · exact .inl hb
      · exact .inr (by omega)
    · have hk : ∀ b, (w0.heap.size ≤ b ∧ Nfz w4 b) → b < w4.heap.size → w'.heap[b]? = w4.heap[b]? := fun b hb hl => ht.block b hl fun hf => by
        rcases hf with hf | hf
        · have := hb.1; omega
        · have := hown b hf; have := hb.1; omega
      exact ⟨_, _, rfl, h1.keep ht.size hk (fun b hb hl => ⟨.inr ⟨hb.1, hl⟩, by have := hb.1; omega, hb.2.same (hk b hb hl)⟩), h2.keep ht.size hk (fun b hb hl => ⟨.inr ⟨hb.1, hl⟩, by have := hb.1; omega, hb.2.same (hk b hb hl)⟩)⟩

set_option maxRecDepth 100000 in
set_option maxHeartbeats 4000000 in
theorem qpush_any {T : Nat → Prop} {w : World} {q base : Nat} {most : Int} {v : Value} {ys : List It} (h : Qu T w q base most v ys) (hh : Heap ltI ys.length ys) (hn : ys.length ≤ 1000) (hbw : base ≤ w.heap.size)
    {S : Nat → Prop} {t : Td} {tv : Value} (ht : Tdv 128 S w t tv) :
    Calls Try.prog 29 #[.pointer (some ⟨q, 0, none⟩), tv] w (QPushPost T q base most v ys t w) := by
  have H := Lib.hid h
  have HH := Lib.hid hh
  have HT := Lib.hid ht
  obtain ⟨rv, fv, rfl, hr, hf⟩ := ht
  have HR := Lib.hid hr
  have HF := Lib.hid hf
  obtain ⟨A, c, rfl, _⟩ := hr
  obtain ⟨A', c', rfl, _⟩ := hf
  have hq0 : w.cell? ⟨q, 0, none⟩ = some v := h.blk.cell 0
  have hq1 : w.cell? ⟨q, 1, none⟩ = some (.int .i64 most) := h.blk.cell 1
  have hql := h.blk.lt
  have hql1 : q < w.heap.size + 1 := by omega
  obtain ⟨Av, cv, rfl⟩ := h.row.form
  obtain ⟨W1, hW⟩ : ∃ W1, W1 = w.alloc (.cells #[.slice A t.row.length c, .slice A' t.facts.length c'] 48) := ⟨_, rfl⟩
  have hX1 : Ext w W1 := by rw [hW]; exact Ext.alloc' _ _
  have hB1 : Blk W1 w.heap.size 48 #[.slice A t.row.length c, .slice A' t.facts.length c'] := by rw [hW]; exact Blk.new _ _ _
  have HX1 := Lib.hid hX1
  have HB1 := Lib.hid hB1
  have hu := (up_rules W1).1
  have k0 : W1.cell? ⟨w.heap.size, 0, none⟩ = some (.slice A t.row.length c) := hB1.cell 0
  have k1 : W1.cell? ⟨w.heap.size, 1, none⟩ = some (.slice A' t.facts.length c') := hB1.cell 1
  have kq0 : W1.cell? ⟨q, 0, none⟩ = some (.slice Av ys.length cv) := (hX1.cell (p := ⟨q, 0, none⟩) hql).trans hq0
  have kq1 : W1.cell? ⟨q, 1, none⟩ = some (.int .i64 most) := (hX1.cell (p := ⟨q, 1, none⟩) hql).trans hq1
  have kz := hB1.lt
  have kzq : q < W1.heap.size := by omega
  clear h hh hX1 hB1 hq0 hq1
  by_cases hm : mayF t.facts = false
  · have HM := Lib.hid hm
    have HC : Hid (pushCode t most ys = 4) := by unfold Hid pushCode; rw [if_pos hm]
    clear hm
    go_enter Try.func29, Try.ntmps29
    go_upto_region 1 with fail
    rw [← hW]
    clear hW
    go_wp2_with (go_at_call 90; refine (patMay_any (by omega) (HF.out.ext HX1.out)).mono ?_; rw [HM.out]; rintro e w1 ⟨rfl, hx1⟩; obtain ⟨u1, rfl⟩ := Up.of hx1; clear hx1)
    go_ret
    exact ⟨ret_int HC.out.symm, fun _ => HX1.out.trans' u1.ext, fun h => by rw [HC.out] at h; cases h⟩
  have hm' : mayF t.facts = true := by simpa using hm
  have HM := Lib.hid hm'
  by_cases ha : ys.any (rowIs t.row) = true
  · have HA := Lib.hid ha
    have HC : Hid (pushCode t most ys = 6) := by unfold Hid pushCode; rw [if_neg hm, if_pos ha]
    clear hm hm' ha
    go_enter Try.func29, Try.ntmps29
    go_upto_region 1 with fail
    rw [← hW]
    clear hW
    go_wp2_with (first
      | (go_at_call 90; refine (patMay_any (by omega) (HF.out.ext HX1.out)).mono ?_; rw [HM.out]; rintro e w1 ⟨rfl, hx1⟩; obtain ⟨u1, rfl⟩ := Up.of hx1; clear hx1)
      | (go_at_call 91; refine (containsQ_any ((H.out.ext HX1.out).ext (Up.ext _)) (HB1.out.up _) ((HR.out.ext HX1.out).up _)).mono ?_; rw [HA.out]; rintro e w2 ⟨rfl, hx2⟩; obtain ⟨u2, rfl⟩ := Up.to _ hx2; clear hx2))
    go_ret
    exact ⟨ret_int HC.out.symm, fun _ => HX1.out.trans' (Up.ext _), fun h => by rw [HC.out] at h; cases h⟩
  have ha' : ys.any (rowIs t.row) = false := by simpa using ha
  have HA := Lib.hid ha'
  by_cases hl : most ≤ (ys.length : Int)
  · have HC : Hid (pushCode t most ys = 67) := by unfold Hid pushCode; rw [if_neg hm, if_neg ha, if_pos hl]
    clear hm hm' ha ha'
    go_enter Try.func29, Try.ntmps29
    go_upto_region 1 with fail
    rw [← hW]
    clear hW
    go_wp2_with (first
      | (go_at_call 90; refine (patMay_any (by omega) (HF.out.ext HX1.out)).mono ?_; rw [HM.out]; rintro e w1 ⟨rfl, hx1⟩; obtain ⟨u1, rfl⟩ := Up.of hx1; clear hx1)
      | (go_at_call 91; refine (containsQ_any ((H.out.ext HX1.out).ext (Up.ext _)) (HB1.out.up _) ((HR.out.ext HX1.out).up _)).mono ?_; rw [HA.out]; rintro e w2 ⟨rfl, hx2⟩; obtain ⟨u2, rfl⟩ := Up.to _ hx2; clear hx2))
    refine wp_region_up (by kernel_rfl) (by kernel_rfl) ?_
    repeat (go_big_quiet_step (fail))
    refine wpQuiet_nil ?_
    rintro _ ⟨u3, rfl⟩
    go_wp2_with fail
    go_ret
    exact ⟨ret_int HC.out.symm, fun _ => HX1.out.trans' (Up.ext _), fun h => by rw [HC.out] at h; cases h⟩
  have HC : Hid (pushCode t most ys = 0) := by unfold Hid pushCode; rw [if_neg hm, if_neg ha, if_neg hl]
  clear hm hm' ha ha'
  go_enter Try.func29, Try.ntmps29
  go_upto_region 1 with fail
  rw [← hW]
  clear hW
  go_wp2_with (first
    | (go_at_call 90; refine (patMay_any (by omega) (HF.out.ext HX1.out)).mono ?_; rw [HM.out]; rintro e w1 ⟨rfl, hx1⟩; obtain ⟨u1, rfl⟩ := Up.of hx1; clear hx1)
    | (go_at_call 91; refine (containsQ_any ((H.out.ext HX1.out).ext (Up.ext _)) (HB1.out.up _) ((HR.out.ext HX1.out).up _)).mono ?_; rw [HA.out]; rintro e w2 ⟨rfl, hx2⟩; obtain ⟨u2, rfl⟩ := Up.to _ hx2; clear hx2))
  refine wp_region_up (by kernel_rfl) (by kernel_rfl) ?_
  repeat (go_big_quiet_step (fail))
  refine wpQuiet_nil ?_
  rintro _ ⟨u3, rfl⟩
  go_wp2_with fail
  obtain ⟨W3, hW3⟩ : ∃ W3, W3 = u3.val := ⟨_, rfl⟩
  have hX3 : Ext w W3 := by rw [hW3]; exact HX1.out.trans' u3.ext
  have hX13 : Ext W1 W3 := by rw [hW3]; exact u3.ext
  have HX3 := Lib.hid hX3
  have l0 : W3.cell? ⟨w.heap.size, 0, none⟩ = some (.slice A t.row.length c) := (hX13.cell (p := ⟨w.heap.size, 0, none⟩) kz).trans k0
  have l1 : W3.cell? ⟨w.heap.size, 1, none⟩ = some (.slice A' t.facts.length c') := (hX13.cell (p := ⟨w.heap.size, 1, none⟩) kz).trans k1
  rw [← hW3]
  clear hW3 hX3 hX13 hu k0 k1 kq0 kq1 kz kzq hql1
  go_region_with (first
    | (go_at_call 95; refine (town_any (B := 128) (by omega) (HT.out.ext (Below.drew HX3.out))).mono ?_; rintro e w4 ⟨A4, c4, A4', c4', rfl, hx4, ht4⟩; have Hx4 := Lib.hid hx4; have Ht4 := Lib.hid ht4; clear hx4 ht4)
    | (go_at_call 94; refine (qpush_heap H.out HH.out hn hbw (Below.drew HX3.out) Hx4.out Ht4.out).mono ?_; rintro e w5 ⟨rfl, hi5⟩; have Hi5 := Lib.hid hi5; clear hi5))
  go_wp2_with fail
  go_ret
  exact ⟨ret_int HC.out.symm, fun h => (h HC.out).elim, fun _ => Hi5.out⟩
end Go.Proofs.Ytocndkhgopjhhaa
