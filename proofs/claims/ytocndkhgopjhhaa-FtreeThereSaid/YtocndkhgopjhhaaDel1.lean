/- '(*Tree).Del': what it does at the parent, where the name stands. -/
import Derived.Test.YtocndkhgopjhhaaProg
import Derived.Test.YtocndkhgopjhhaaSet1
import Derived.Test.YtocndkhgopjhhaaDelN
import Derived.Test.YtocndkhgopjhhaaDelS
import Derived.Outline
namespace Go.Proofs.Ytocndkhgopjhhaa
open Go.RowKit

set_option maxRecDepth 100000 in
set_option maxHeartbeats 2000000 in
theorem del1_found {B : Nat} (hB : B ≤ 2199023255552) {S : Nat → Prop} {w : World} {d : Nat} {k : Int} {tx : ByteArray} {ns : List ByteArray} {ks : List N} {v : Value} (h : Rep B S w d (.mk k tx ns ks) v) {i : Nat} (hi : i < ks.length) (hnk : ns.length = ks.length) :
    Calls Try.prog 102 #[v, .int .i64 i, .bool true] w (ChgPost B S d (.mk k tx (ns.eraseIdx i) (ks.eraseIdx i)) w) := by
  cases d with
  | zero => exact h.elim
  | succ d =>
    obtain ⟨nv, kv, rfl, htx, hn, hk⟩ := h.split
    have HN := Lib.hid hn
    have HKD := Lib.hid (hk.keep (S' := fun b => S b ∧ b < w.heap.size) (Nat.le_refl _) (fun _ _ _ => rfl) (fun b h hl => ⟨h, hl⟩))
    have Htx := Lib.hid htx
    have hnB : ns.length ≤ 4 * B := by obtain ⟨_, _, _, _, _, h, _⟩ := hn; exact h
    have hin : i < ns.length := by omega
    have Hnk := Lib.hid hnk
    obtain ⟨A', c', rfl, hc, hm, hl, _⟩ := hk
    obtain ⟨A, c, rfl, _⟩ := hn
    unfold maxLen at hm
    clear htx h hnk
    go_enter Try.func102, Try.ntmps102
    go_wp2_with fail
    refine (cloneS_any (B := 4 * B) (by omega) ((HN.out.alloc _).alloc _)).mono ?_
    rintro e w1 ⟨A1, c1, rfl, hon, hx1⟩
    have hb0 := ((Blk.new w 25 #[.int .u8 k, .string tx, .slice A ns.length c, .slice A' ks.length c']).alloc (.cells #[.int .u8 0, .string { data := #[] }, .slice none 0 0, .slice none 0 0] 25)).ext hx1
    have hb1 := (Blk.new' (w.alloc (.cells #[.int .u8 k, .string tx, .slice A ns.length c, .slice A' ks.length c'] 25)) 25 #[.int .u8 0, .string { data := #[] }, .slice none 0 0, .slice none 0 0] (n := w.heap.size + 1) (by simp)).ext hx1
    have HX1 := Lib.hid (((Ext.alloc' w _).trans' (Ext.alloc' _ _)).trans' hx1)
    have HO1 := Lib.hid (show w1.ownsRow (w.heap.size + 2) 9 1 (.slice A1 ns.length c1) ns.length (ns.map Value.string) by simpa using hon)
    have HB0 := Lib.hid hb0
    have HB1 := Lib.hid hb1
    clear hon hx1 hb0 hb1
    go_wp2_with fail
    refine (deleteS_any HO1.out hin (by simp [Value.oneCell'])).mono ?_
    rintro e w2 ⟨A2, c2, rfl, ho2, hg2, _⟩
    have hrow : ∀ g, (Value.slice A1 ns.length c1).ownBlock = some g → w.heap.size + 2 ≤ g := fun g h => (ownsRow_lt HO1.out h).1
    have hb0 := HB0.out.grown hg2 (fun e => by have := hrow _ e.symm; omega)
    have hb1 := HB1.out.grown hg2 (fun e => by have := hrow _ e.symm; omega)
    have HX2 := Lib.hid (HX1.out.grown hg2 (fun g h => by have := hrow g h; omega))
    obtain ⟨q0, q1, q2, q3, e0, e1, e2, e3⟩ := hb0.cells4
    have HB02 := Lib.hid (hb0.set2 (.slice A2 (ns.length - 1) c2))
    have HB12 := Lib.hid (hb1.far (p := ⟨w.heap.size, 2, none⟩) (by simp) (.slice A2 (ns.length - 1) c2))
    have hX2' : Ext w (w2.setCell ⟨w.heap.size, 2, none⟩ (.slice A2 (ns.length - 1) c2)) := HX2.out.set1 (Nat.le_refl _) _
    obtain ⟨W2, hW2⟩ : ∃ W2, W2 = w2.setCell ⟨w.heap.size, 2, none⟩ (.slice A2 (ns.length - 1) c2) := ⟨_, rfl⟩
    have ho2' : W2.ownsRow (w.heap.size + 2) 9 1 (.slice A2 (ns.length - 1) c2) (ns.length - 1) ((ns.map Value.string).take i ++ (ns.map Value.string).drop (i + 1)) := by
      rw [hW2]
      exact ownsRow_ext ho2 fun g hg => Below.heap_setCell _ _ _ _ (by have := (ownsRow_lt ho2 hg).1; simp; omega)
    rw [← hW2] at HB02 HB12 hX2'
    have HXW2 := Lib.hid hX2'
    have HO2 := Lib.hid ho2'
    have HW2 := Lib.hid hW2
    have hWz : w.heap.size + 2 ≤ W2.heap.size := by have := HB12.out.lt; have := HX1.out.size; have := HO1.out; have h1 := hg2.size; rw [hW2]; simp [World.setCell]; have := HB1.out.lt; omega
    have HWz := Lib.hid hWz
    clear hrow hb0 hb1 hX2' ho2' ho2 hg2 hWz
    obtain ⟨Ak, ck, xs, ekv, _, hfl, hxa, hxs⟩ := HKD.out.flat
    have HFL := Lib.hid hfl
    have HXS := Lib.hid (show KSrc w (.slice A' ks.length c') xs from ⟨Ak, _, ck, ekv, hfl.len, hxa, hxs⟩)
    clear hfl hxa hxs ekv
    obtain ⟨p0, p1, p2, p3, f0, f1, f2, f3⟩ := HB02.out.cells4
    go_wp2_with fail
    rw [← HW2.out]
    go_wp2_with fail
    refine (cloneKX hB HKD.out HXS.out HXW2.out HFL.out.one).mono ?_
    rintro e w3 ⟨A3, c3, rfl, ho3, hx3⟩
    have HB03 := Lib.hid (HB02.out.ext hx3)
    have HB13 := Lib.hid (HB12.out.ext hx3)
    have HX3 := Lib.hid (HXW2.out.trans' hx3)
    have HOS3 := Lib.hid (ownsRow_ext HO2.out fun g hg => hx3.block g (ownsRow_lt HO2.out hg).2)
    have HO3 := Lib.hid ho3
    have HW23 := Lib.hid hx3.size
    clear ho3 hx3 p0 p1 p2 p3 f0 f1 f2 f3 q0 q1 q2 q3 e0 e1 e2 e3
    go_wp2_with fail
    refine (deleteN_any HO3.out hi HFL.out.one).mono ?_
    rintro e w4 ⟨A4, c4, rfl, ho4, hg4, _⟩
    have hrow : ∀ g, (Value.slice A3 ks.length c3).ownBlock = some g → W2.heap.size ≤ g := fun g h => (ownsRow_lt HO3.out h).1
    have hWz := HWz.out
    have hb0 := HB03.out.grown hg4 (fun e => by have := hrow _ e.symm; omega)
    have hb1 := HB13.out.grown hg4 (fun e => by have := hrow _ e.symm; omega)
    have HX4 := Lib.hid (HX3.out.grown hg4 (fun g h => by have := hrow g h; omega))
    obtain ⟨q0, q1, q2, q3, e0, e1, e2, e3⟩ := hb0.cells4
    obtain ⟨r0, r1, r2, r3, g0, g1, g2, g3⟩ := hb1.cells4
    have HB04 := Lib.hid (hb0.set3 (.slice A4 (ks.length - 1) c4))
    have HB14 := Lib.hid (hb1.far (p := ⟨w.heap.size, 3, none⟩) (by simp) (.slice A4 (ks.length - 1) c4))
    obtain ⟨W4, hW4⟩ : ∃ W4, W4 = w4.setCell ⟨w.heap.size, 3, none⟩ (.slice A4 (ks.length - 1) c4) := ⟨_, rfl⟩
    have hnl : ∀ g, (Value.slice A2 (ns.length - 1) c2).ownBlock = some g → w.heap.size + 2 ≤ g ∧ g < W2.heap.size := fun g h => ownsRow_lt HO2.out h
    have ho4' : W4.ownsRow W2.heap.size 25 4 (.slice A4 (ks.length - 1) c4) (ks.length - 1) (xs.take (i * 4) ++ xs.drop ((i + 1) * 4)) := by
      rw [hW4]
      exact ownsRow_ext ho4 fun g hg => Below.heap_setCell _ _ _ _ (by have := (ownsRow_lt ho4 hg).1; simp; omega)
    have hos4 : W4.ownsRow (w.heap.size + 2) 9 1 (.slice A2 (ns.length - 1) c2) (ns.length - 1) ((ns.map Value.string).take i ++ (ns.map Value.string).drop (i + 1)) := by
      rw [hW4]
      refine ownsRow_ext HOS3.out fun g hg => ?_
      have h1 := hnl g hg
      have h2 := HW23.out
      rw [Below.heap_setCell _ _ _ _ (by simp; omega)]
      exact hg4.block g (by omega) fun e => by have := hrow _ e.symm; omega
    have hX4' : Ext w W4 := by rw [hW4]; exact HX4.out.set1 (Nat.le_refl _) _
    rw [← hW4] at HB04 HB14
    have HO4 := Lib.hid ho4'
    have HOS4 := Lib.hid hos4
    have HXW4 := Lib.hid hX4'
    have HW4 := Lib.hid hW4
    clear hrow hb0 hb1 ho4 hg4 ho4' hos4 hnl hX4'
    go_wp2_with fail
    rw [← HW4.out]
    have hns : (ns.eraseIdx i).length = ns.length - 1 := List.length_eraseIdx_of_lt hin
    have hks : (ks.eraseIdx i).length = ks.length - 1 := List.length_eraseIdx_of_lt hi
    have hX5 : Ext w (set4 W4 (w.heap.size + 1) (.int .u8 k) (.string tx) (.slice A2 (ns.length - 1) c2) (.slice A4 (ks.length - 1) c4)) := HXW4.out.set4 (by omega) _ _ _ _
    have hbr := HB14.out.set4 (.int .u8 k) (.string tx) (.slice A2 (ns.length - 1) c2) (.slice A4 (ks.length - 1) c4)
    refine bodyPost_ret (results_cell rfl _ _ _ _ _ _ _ rfl hbr) rfl ⟨A2, c2, A4, c4, by rw [N.kids_mk, N.names_mk, hns, hks]; rfl, hX5, ?_⟩
    rw [N.kids_mk, N.names_mk, hns, hks]
    have hos : OwnStrs (set4 W4 (w.heap.size + 1) (.int .u8 k) (.string tx) (.slice A2 (ns.length - 1) c2) (.slice A4 (ks.length - 1) c4)) (w.heap.size + 2) (.slice A2 (ns.length - 1) c2) (ns.eraseIdx i) := by
      unfold OwnStrs
      have e : (ns.eraseIdx i).map Value.string = (ns.map Value.string).take i ++ (ns.map Value.string).drop (i + 1) := by
        rw [List.eraseIdx_eq_take_drop_succ]; simp
      rw [hns, e]
      exact ownsRow_ext HOS4.out fun g hg => heap_set4 _ _ _ _ _ _ (by have := (ownsRow_lt HOS4.out hg).1; omega)
    have hst := (hos.strs (B := 4 * B) (by rw [hns]; omega) (fun y hy => by
      have h := HN.out
      obtain ⟨_, _, _, _, _, _, h, _⟩ := h
      exact h y (List.mem_of_mem_eraseIdx hy))).wide (S' := fun b => S b ∨ w.heap.size ≤ b) (Nat.le_refl _) (Below.refl _ _) (fun b h _ => .inr (by
        have := (ownsRow_lt hos h).1
        omega))
    refine Rep.join Htx.out hst ?_
    have hWz2 := HWz.out
    have rk : RowKids B (fun b => S b ∧ b < w.heap.size) (set4 W4 (w.heap.size + 1) (.int .u8 k) (.string tx) (.slice A2 (ns.length - 1) c2) (.slice A4 (ks.length - 1) c4)) d W2.heap.size (.slice A4 (ks.length - 1) c4) (ks.eraseIdx i) := by
      refine ⟨_, ?_, Flat.erase (HFL.out.mono fun t v hr => hr.wide (Nat.le_refl _) hX5 (fun b h _ => h) (Nat.le_refl _)) hi⟩
      rw [hks]
      exact ownsRow_ext HO4.out fun g hg => heap_set4 _ _ _ _ _ _ (by have := (ownsRow_lt HO4.out hg).1; omega)
    exact rk.kids (B' := B) (T' := fun b => S b ∨ w.heap.size ≤ b) (by rw [hks]; omega) (Nat.le_refl _) (fun b h => .inl h.1) (fun b h => .inr (by omega))
end Go.Proofs.Ytocndkhgopjhhaa
