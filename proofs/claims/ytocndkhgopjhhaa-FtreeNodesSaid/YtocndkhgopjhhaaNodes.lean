import Derived.Test.YtocndkhgopjhhaaProg
import Derived.Test.YtocndkhgopjhhaaAt
import Derived.Test.YtocndkhgopjhhaaAt7
import Derived.Test.YtocndkhgopjhhaaGiven
import Derived.Test.YtocndkhgopjhhaaMay
import Derived.Test.YtocndkhgopjhhaaSame7
import Derived.Test.YtocndkhgopjhhaaWeight
namespace Go.Proofs.Ytocndkhgopjhhaa
open Go.RowKit

mutual
theorem N.same_refl : ∀ t : N, t.same t = true
  | .mk k t ns ks => by rw [N.same, sameL_refl ks]; simp
theorem sameL_refl : ∀ l : List N, sameL l l = true
  | [] => by rw [sameL]
  | a :: l => by rw [sameL, N.same_refl a, sameL_refl l]; rfl
end

set_option maxRecDepth 100000 in
set_option maxHeartbeats 4000000 in
theorem nodesLaw (B Bp : Nat) (hB : B ≤ 2199023255552) (S S' Sp : Nat → Prop) (d d' : Nat) (a b : N) (va vb pv : Value) (place : List ByteArray) (w : World) (ha : Rep B S w d a va) (hb : Rep B S' w d' b vb) (hp : Strs Bp Sp w pv place) :
    Calls Try.prog 3 #[va, vb, pv] w fun e w' => e = .returned (.bool true) ∧ Ext w w' := by
  have HA0 := Lib.hid ha
  have HB0 := Lib.hid hb
  have HP := Lib.hid hp
  obtain ⟨Aa, ca, Aa', ca', rfl⟩ := ha.form
  obtain ⟨Ab, cb, Ab', cb', rfl⟩ := hb.form
  obtain ⟨Ap, cp, rfl, hcp, hmp, _⟩ := hp
  unfold maxLen at hmp
  clear ha hb
  have hX0 : Ext w ((w.alloc (.cells #[.int .u8 a.kind, .string a.text, .slice Aa a.names.length ca, .slice Aa' a.kids.length ca'] 25)).alloc (.cells #[.int .u8 b.kind, .string b.text, .slice Ab b.names.length cb, .slice Ab' b.kids.length cb'] 25)) := (Ext.alloc' _ _).trans' (Ext.alloc' _ _)
  have HX0 := Lib.hid hX0
  have HA := Lib.hid (HA0.out.ext hX0)
  have HB := Lib.hid (HB0.out.ext hX0)
  have hu := (up_rules ((w.alloc (.cells #[.int .u8 a.kind, .string a.text, .slice Aa a.names.length ca, .slice Aa' a.kids.length ca'] 25)).alloc (.cells #[.int .u8 b.kind, .string b.text, .slice Ab b.names.length cb, .slice Ab' b.kids.length cb'] 25))).1
  simp only [World.size_alloc] at hu
  clear hX0
  by_cases hwa : 3000 ≤ a.weight
  · go_enter Try.func3, Try.ntmps3
    go_wp2_with (go_at_call 14; refine (weight_any B S d a _ _ HA.out).mono ?_; rintro e w1 ⟨rfl, hx1⟩; obtain ⟨u1, rfl⟩ := Up.of hx1; clear hx1)
    go_ret
    exact ⟨rfl, HX0.out.trans' u1.ext⟩
  by_cases hwb : 3000 ≤ b.weight
  · go_enter Try.func3, Try.ntmps3
    go_wp2_with (first | (go_at_call_of 14 (b.kind); refine (weight_any B S' d' b _ _ (HB.out.up _)).mono ?_; rintro e w1 ⟨rfl, hx1⟩; obtain ⟨u2, rfl⟩ := Up.to _ hx1; clear hx1) | (go_at_call 14; refine (weight_any B S d a _ _ HA.out).mono ?_; rintro e w1 ⟨rfl, hx1⟩; obtain ⟨u1, rfl⟩ := Up.of hx1; clear hx1))
    go_ret
    exact ⟨rfl, HX0.out.trans' (Up.ext _)⟩
  by_cases hpl : 60 < (place.length : Int)
  · go_enter Try.func3, Try.ntmps3
    go_wp2_with (first | (go_at_call_of 14 (b.kind); refine (weight_any B S' d' b _ _ (HB.out.up _)).mono ?_; rintro e w1 ⟨rfl, hx1⟩; obtain ⟨u2, rfl⟩ := Up.to _ hx1; clear hx1) | (go_at_call 14; refine (weight_any B S d a _ _ HA.out).mono ?_; rintro e w1 ⟨rfl, hx1⟩; obtain ⟨u1, rfl⟩ := Up.of hx1; clear hx1))
    go_ret
    exact ⟨rfl, HX0.out.trans' (Up.ext _)⟩
  have hsr := N.same_refl a
  go_enter Try.func3, Try.ntmps3
  go_wp2_with (first | (go_at_call_of 14 (b.kind); refine (weight_any B S' d' b _ _ (HB.out.up _)).mono ?_; rintro e w1 ⟨rfl, hx1⟩; obtain ⟨u2, rfl⟩ := Up.to _ hx1; clear hx1) | (go_at_call 14; refine (weight_any B S d a _ _ HA.out).mono ?_; rintro e w1 ⟨rfl, hx1⟩; obtain ⟨u1, rfl⟩ := Up.of hx1; clear hx1))
  refine wp_region_up (by kernel_rfl) (by kernel_rfl) ?_
  repeat (go_big_quiet_step ((first
    | (go_at_call 15; exact Calls.up (well_any B hB S d a _ _ (HA.out.up _)))
    | (go_at_call 16; exact Calls.up (well7_any B S d a _ _ (HA.out.up _)))
    | (go_at_call 17; exact Calls.up (may_any B hB S d a _ _ (HA.out.up _)))
    | (go_at_call 18; exact Calls.up (may7_any B S d a _ _ (HA.out.up _)))
    | (go_at_call_of 19 (b.kind); exact Calls.up (same_any B B S S' d d' a b _ _ _ (HA.out.up _) (HB.out.up _)))
    | (go_at_call 19; exact Calls.up (same_any B B S S d d a a _ _ _ (HA.out.up _) (HA.out.up _)))
    | (go_at_call 20; exact Calls.up (same7_any B B S S' d d' a b _ _ _ (HA.out.up _) (HB.out.up _)))
    | (go_at_call 21; exact Calls.up (nodes_any B S d a _ _ (HA.out.up _)))
    | (go_at_call 22; exact Calls.up (nodes7_any B S d a _ _ (HA.out.up _))))))
  refine wpQuiet_nil ?_
  rintro _ ⟨u3, rfl⟩
  have hz3 := u3.ext.size
  simp only [World.size_alloc] at hz3
  have hza : w.heap.size < u3.val.heap.size := by omega
  have hzb : w.heap.size + 1 < u3.val.heap.size := by omega
  have hba := Blk.new' u3.val 25 #[.int .u8 0, .string { data := #[] }, .slice none 0 0, .slice none 0 0] (n := u3.val.heap.size) rfl
  have hX3 : Ext w u3.val := HX0.out.trans' u3.ext
  have HX3 := Lib.hid hX3
  have Hba := Lib.hid hba
  have hbq : Blk u3.val w.heap.size 25 #[.int .u8 a.kind, .string a.text, .slice Aa a.names.length ca, .slice Aa' a.kids.length ca'] := ((Blk.new w 25 #[.int .u8 a.kind, .string a.text, .slice Aa a.names.length ca, .slice Aa' a.kids.length ca']).alloc (.cells #[.int .u8 b.kind, .string b.text, .slice Ab b.names.length cb, .slice Ab' b.kids.length cb'] 25)).up u3
  have Hbq := Lib.hid hbq
  clear hba hX3 hz3 hbq
  cases hw : a.well
  · have Hw := Lib.hid hw
    have Hf : Hid (a.find place = none) := Lib.hid (by rw [N.find, hw]; rfl)
    clear hw
    go_wp2_with fail
    refine (well7_any B S d a _ _ ((HA0.out.ext HX3.out).alloc _)).mono ?_
    rw [Hw.out]
    rintro e w1 ⟨rfl, hx1⟩
    have Hx1 := Lib.hid hx1
    have Hbq1 := Lib.hid ((Hbq.out.alloc (.cells #[.int .u8 0, .string { data := #[] }, .slice none 0 0, .slice none 0 0] 25)).ext hx1)
    have Hba1 := Lib.hid (Hba.out.ext hx1)
    obtain ⟨p0, p1, p2, p3, f0, f1, f2, f3⟩ := Hbq1.out.cells4
    obtain ⟨q0, q1, q2, q3, g0, g1, g2, g3⟩ := Hba1.out.cells4
    have hz1 := hx1.size
    simp only [World.size_alloc] at hz1
    have hX4 := HX3.out.trans' ((Ext.alloc' _ _).trans' hx1)
    have HX4 := Lib.hid hX4
    clear hx1 hX4
    go_wp2_with fail
    refine (given_any B hB S d a _ _ (HA0.out.ext HX4.out)).mono ?_
    rintro e w2 ⟨A2, c2, A2', c2', rfl, hx2, hr2⟩
    have Hx2 := Lib.hid hx2
    have Hr2 := Lib.hid hr2
    have hz2 := hx2.size
    clear hx2 hr2
    go_wp2_with fail
    refine (at_any B Bp hB _ Sp d a _ _ place _ Hr2.out ((HP.out.ext HX4.out).ext Hx2.out)).mono ?_
    rw [Hf.out]
    rintro e w3 ⟨v3, rfl, hx3, hr3⟩
    obtain ⟨A3, c3, A3', c3', rfl⟩ := hr3.form
    have Hx3 := Lib.hid hx3
    have Hr3 := Lib.hid hr3
    have hz3 := hx3.size
    have hbx := (Hba1.out.ext Hx2.out).ext hx3
    have Hbx := Lib.hid hbx
    obtain ⟨r0, r1, r2, r3, h0, h1, h2, h3⟩ := hbx.cells4
    have hza3 : u3.val.heap.size < w3.heap.size := by omega
    clear hx3 hr3 hbx q0 q1 q2 q3 g0 g1 g2 g3
    have hd : 0 < d := by
      cases d with
      | zero => exact HA0.out.elim
      | succ d => omega
    go_wp2_with fail
    refine (same7_any B B _ (fun _ => True) d d N.zero N.zero _ _ _ (Hr3.out.alloc _) (Rep.zero hd)).mono ?_
    rw [N.same_refl]
    rintro e w4 ⟨rfl, hx4⟩
    have Hx4 := Lib.hid hx4
    clear hx4
    go_wp2_with fail
    go_ret
    exact ⟨rfl, (((HX4.out.trans' Hx2.out).trans' Hx3.out).trans' (Ext.alloc' _ _)).trans' Hx4.out⟩
  · have Hw := Lib.hid hw
    have Hf : Hid (a.find place = a.get place) := Lib.hid (by rw [N.find, hw]; rfl)
    clear hw
    go_wp2_with fail
    refine (well7_any B S d a _ _ ((HA0.out.ext HX3.out).alloc _)).mono ?_
    rw [Hw.out]
    rintro e w1 ⟨rfl, hx1⟩
    have Hx1 := Lib.hid hx1
    have Hbq1 := Lib.hid ((Hbq.out.alloc (.cells #[.int .u8 0, .string { data := #[] }, .slice none 0 0, .slice none 0 0] 25)).ext hx1)
    have Hba1 := Lib.hid (Hba.out.ext hx1)
    obtain ⟨p0, p1, p2, p3, f0, f1, f2, f3⟩ := Hbq1.out.cells4
    have hz1 := hx1.size
    simp only [World.size_alloc] at hz1
    have hX4 := HX3.out.trans' ((Ext.alloc' _ _).trans' hx1)
    have HX4 := Lib.hid hX4
    clear hx1 hX4
    go_wp2_with fail
    have HA9 : Hid (Rep B (fun b => b < w.heap.size) w d a (.agg #[.int .u8 a.kind, .string a.text, .slice Aa a.names.length ca, .slice Aa' a.kids.length ca'])) := Lib.hid (Rep.keep (Nat.le_refl _) (fun _ _ _ => rfl) (fun _ _ hl => hl) _ _ _ HA0.out)
    refine (at7_any B Bp (fun b => b < w.heap.size) Sp d a _ _ place _ (HA9.out.ext HX4.out) (HP.out.ext HX4.out)).mono ?_
    rintro e w2 ⟨v2, rfl, hx2, hr2⟩
    obtain ⟨A2, c2, A2', c2', rfl⟩ := hr2.form
    have Hx2 := Lib.hid hx2
    have Hr2 := Lib.hid hr2
    have hz2 := hx2.size
    have Hba2 := Lib.hid (Hba1.out.ext hx2)
    obtain ⟨q0, q1, q2, q3, g0, g1, g2, g3⟩ := Hba2.out.cells4
    have hza2 : u3.val.heap.size < w2.heap.size := by omega
    have Hbq2 := Lib.hid (Hbq1.out.ext hx2)
    obtain ⟨s0, s1, s2, s3, k0, k1, k2, k3⟩ := Hbq2.out.cells4
    clear hx2 hr2
    go_wp2_with fail
    have hX5 : Ext w (set4 w2 u3.val.heap.size (.int .u8 ((a.get place).getD N.zero).kind) (.string ((a.get place).getD N.zero).text) (.slice A2 ((a.get place).getD N.zero).names.length c2) (.slice A2' ((a.get place).getD N.zero).kids.length c2')) := (HX4.out.trans' Hx2.out).set4 (by omega) _ _ _ _
    have HX5 := Lib.hid hX5
    have Hba5 := Lib.hid (Hba2.out.set4 (.int .u8 ((a.get place).getD N.zero).kind) (.string ((a.get place).getD N.zero).text) (.slice A2 ((a.get place).getD N.zero).names.length c2) (.slice A2' ((a.get place).getD N.zero).kids.length c2'))
    have hR5 : Rep B (fun b => b < w.heap.size) (set4 w2 u3.val.heap.size (.int .u8 ((a.get place).getD N.zero).kind) (.string ((a.get place).getD N.zero).text) (.slice A2 ((a.get place).getD N.zero).names.length c2) (.slice A2' ((a.get place).getD N.zero).kids.length c2')) d ((a.get place).getD N.zero) (.agg #[.int .u8 ((a.get place).getD N.zero).kind, .string ((a.get place).getD N.zero).text, .slice A2 ((a.get place).getD N.zero).names.length c2, .slice A2' ((a.get place).getD N.zero).kids.length c2']) := by
      refine Rep.keep ?_ (fun b hb hl => ?_) (fun b hb hl => hb) _ _ _ Hr2.out
      · rw [size_set4]; exact Nat.le_refl _
      · refine heap_set4 w2 u3.val.heap.size _ _ _ _ ?_
        omega
    have HR5 := Lib.hid hR5
    have hz5 : (set4 w2 u3.val.heap.size (.int .u8 ((a.get place).getD N.zero).kind) (.string ((a.get place).getD N.zero).text) (.slice A2 ((a.get place).getD N.zero).names.length c2) (.slice A2' ((a.get place).getD N.zero).kids.length c2')).heap.size = w2.heap.size := size_set4 _ _ _ _ _ _
    clear hX5 hR5 q0 q1 q2 q3 g0 g1 g2 g3 s0 s1 s2 s3 k0 k1 k2 k3 p0 p1 p2 p3 f0 f1 f2 f3
    refine (given_any B hB S d a _ _ (HA0.out.ext HX5.out)).mono ?_
    rintro e w6 ⟨A6, c6, A6', c6', rfl, hx6, hr6⟩
    have Hx6 := Lib.hid hx6
    have Hr6 := Lib.hid hr6
    have hz6 := hx6.size
    clear hx6 hr6
    rw [hz5] at hz6
    go_wp2_with fail
    refine (at_any B Bp hB _ Sp d a _ _ place _ Hr6.out ((HP.out.ext HX5.out).ext Hx6.out)).mono ?_
    rw [Hf.out]
    rintro e w3 ⟨v3, rfl, hx3, hr3⟩
    obtain ⟨A3, c3, A3', c3', rfl⟩ := hr3.form
    have Hx3 := Lib.hid hx3
    have Hr3 := Lib.hid hr3
    have hz3 := hx3.size
    have hbx := (Hba5.out.ext Hx6.out).ext hx3
    have Hbx := Lib.hid hbx
    obtain ⟨r0, r1, r2, r3, h0, h1, h2, h3⟩ := hbx.cells4
    have hza3 : u3.val.heap.size < w3.heap.size := by omega
    clear hx3 hr3 hbx
    go_wp2_with fail
    refine (same7_any B B _ _ d d ((a.get place).getD N.zero) ((a.get place).getD N.zero) _ _ _ (Hr3.out.alloc _) ((((HR5.out.ext Hx6.out).ext Hx3.out)).alloc _)).mono ?_
    rw [N.same_refl]
    rintro e w4 ⟨rfl, hx4⟩
    have Hx4 := Lib.hid hx4
    clear hx4
    go_wp2_with fail
    go_ret
    exact ⟨rfl, (((HX5.out.trans' Hx6.out).trans' Hx3.out).trans' (Ext.alloc' _ _)).trans' Hx4.out⟩
end Go.Proofs.Ytocndkhgopjhhaa
