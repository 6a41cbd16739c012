import Derived.Test.YtocndkhgopjhhaaProg
import Derived.Test.YtocndkhgopjhhaaBase
import Derived.Test.YtocndkhgopjhhaaFind
namespace Go.Proofs.Ytocndkhgopjhhaa
open Go.RowKit

set_option maxRecDepth 100000 in
set_option maxHeartbeats 2000000 in
theorem at7_any (B Bp : Nat) (S Sp : Nat → Prop) (d : Nat) (t : N) (v pv : Value) (place : List ByteArray) (w : World) (h : Rep B S w d t v) (hp : Strs Bp Sp w pv place) :
    Calls Try.prog 23 #[v, pv] w (GetPost B S d (t.get place) w) := by
  cases d with
  | zero => exact h.elim
  | succ d =>
    have HR := Lib.hid h
    obtain ⟨k, tx, ns, ks⟩ := t
    obtain ⟨nv, A, c, rfl, htx, hn, hc, hm, hB, hk⟩ := h
    obtain ⟨An, cn, rfl, hcn, hmn, hBn, hsn, hns⟩ := hn
    obtain ⟨Ap, cp, rfl, hcp, hmp, hBp, hsp, hps⟩ := hp
    clear hBn hsn htx hB hk hc hm hns hcn hmn hBp hsp
    unfold maxLen at hmp
    go_enter Try.func23, Try.ntmps23
    go_wp2_with fail
    go_loopw [6] (fun i wr => ∃ (j : Nat) (cur : N) (c0 c1 c2 c3 : Value), j ≤ place.length ∧ i = .int .i64 j ∧ Ext w wr ∧ Blk wr w.heap.size 25 #[c0, c1, c2, c3] ∧ Blk wr (w.heap.size + 1) 25 #[.int .u8 0, .string { data := #[] }, .slice none 0 0, .slice none 0 0] ∧
        Rep B S w (d + 1) cur (.agg #[c0, c1, c2, c3]) ∧ cur.get (place.drop j) = N.get (.mk k tx ns ks) place) (fun i _ => place.length - (intOf i).toNat)
    case atStart => exact ⟨0, _, _, _, _, _, Nat.zero_le _, rfl, (Ext.alloc' _ _).trans' (Ext.alloc' _ _), (Blk.new _ _ _).alloc _, Blk.new' _ _ _ (by simp), HR.out, rfl⟩
    case round =>
      obtain ⟨j, cur, c0, c1, c2, c3, hj, rfl, hx, hb0, hb1, hr, hy⟩ := hrel
      have Hx := Lib.hid hx
      have Hb0 := Lib.hid hb0
      have Hb1 := Lib.hid hb1
      obtain ⟨hcx, hfx⟩ := hx.rules
      have hzx := hb1.lt
      obtain ⟨p0, p1, p2, p3, f0, f1, f2, f3⟩ := hb0.cells4
      obtain ⟨r0, r1, r2, r3, g0, g1, g2, g3⟩ := hb1.cells4
      have hzx0 : w.heap.size < wr.heap.size := by omega
      have HRc := Lib.hid hr
      obtain ⟨hu, hfu⟩ := up_rules wr
      clear hx hb0 hb1
      by_cases hlt : j < place.length
      · obtain ⟨b, o, rfl, hS, hbs, hcell⟩ := hps (by omega)
        have cj := hcell j _ (List.getElem?_eq_getElem hlt)
        have hbs' : b < wr.heap.size := by omega
        obtain ⟨k', tx', ns', ks'⟩ := cur
        obtain ⟨nv', A', c', e, _, ⟨An', cn', rfl, hcn', hmn', _, _, _⟩, hc', hm', hB', hk'⟩ := hr
        injection e with e
        simp at e
        obtain ⟨rfl, rfl, rfl, rfl⟩ := e
        rw [List.drop_eq_getElem_cons hlt] at hy
        unfold maxLen at hm'
        clear hcell hB'
        cases hix : ixFrom place[j] 0 ns' with
        | none =>
          have q : ixI (ixFrom place[j] 0 (N.mk k' tx' ns' ks').names) = -1 := by unfold N.names; rw [hix]; rfl
          rw [N.get_none (by exact hix)] at hy
          have Hy := Lib.hid hy
          clear hy hix hk'
          go_wp2_with fail
          refine wp_region_up0 (by kernel_rfl) (by kernel_rfl) ?_
          repeat (go_big_quiet_step ((go_at_call 87; exact Calls.up (find7_any B S (d + 1) _ _ _ _ ((HRc.out.ext Hx.out).up _)))))
          refine wpQuiet_nil ?_
          rintro _ ⟨u1, rfl⟩
          go_wp2_with fail
          refine bodyPost_ret (results_cell_tmp rfl _ _ _ _ _ _ _ rfl ((Hb1.out.up u1).set4 _ _ _ _)) rfl ?_
          have hX : Ext w (set4 u1.val (w.heap.size + 1) (.int .u8 0) (.string { data := #[] }) (.slice none 0 0) (.slice none 0 0)) := (Hx.out.trans' u1.ext).set4 (by omega) _ _ _ _
          rw [← Hy.out]
          exact ⟨_, rfl, hX, Rep.zero (by omega)⟩
        | some i =>
          obtain ⟨_, hil, _⟩ := ixFrom_lt hix
          simp only [Nat.zero_add] at hil
          have q : ixI (ixFrom place[j] 0 (N.mk k' tx' ns' ks').names) = i := by unfold N.names; rw [hix]; rfl
          by_cases hik : i < ks'.length
          · rw [N.get_some (k := ks'[i]) (by exact hix) (by exact List.getElem?_eq_getElem hik)] at hy
            have Hy := Lib.hid hy
            obtain ⟨bk, ok, rfl, hSk, hbk, hck⟩ := hk' (by omega)
            have hbk' : bk < wr.heap.size := by omega
            obtain ⟨v0, v1, v2, v3, d0, d1, d2, d3, hrk⟩ := hck i _ (List.getElem?_eq_getElem hik)
            obtain ⟨_, _, _, _, rfl, rfl, rfl, rfl⟩ := hrk.shape
            have Hrk := Lib.hid hrk
            clear hy hix hk' hck hrk hil
            go_wp2_with fail
            refine wp_region_up0 (by kernel_rfl) (by kernel_rfl) ?_
            repeat (go_big_quiet_step ((go_at_call 87; exact Calls.up (find7_any B S (d + 1) _ _ _ _ ((HRc.out.ext Hx.out).up _)))))
            refine wpQuiet_nil ?_
            rintro _ ⟨u1, rfl⟩
            go_wp2_with fail
            go_roundw
            case rel => exact ⟨j + 1, ks'[i], _, _, _, _, by omega, by go_num, (Hx.out.trans' u1.ext).set4 (by omega) _ _ _ _, (Hb0.out.up u1).set4 _ _ _ _, (Hb1.out.up u1).far4 (by omega) _ _ _ _, Rep.mono (by omega) Hrk.out, Hy.out⟩
            case measure => simp [intOf]; omega
          · rw [N.get_out (by exact hix) (show ks'[i]? = none from List.getElem?_eq_none (by omega))] at hy
            have Hy := Lib.hid hy
            clear hy hix hk'
            go_wp2_with fail
            refine wp_region_up0 (by kernel_rfl) (by kernel_rfl) ?_
            repeat (go_big_quiet_step ((go_at_call 87; exact Calls.up (find7_any B S (d + 1) _ _ _ _ ((HRc.out.ext Hx.out).up _)))))
            refine wpQuiet_nil ?_
            rintro _ ⟨u1, rfl⟩
            go_wp2_with fail
            refine bodyPost_ret (results_cell_tmp rfl _ _ _ _ _ _ _ rfl ((Hb1.out.up u1).set4 _ _ _ _)) rfl ?_
            have hX : Ext w (set4 u1.val (w.heap.size + 1) (.int .u8 0) (.string { data := #[] }) (.slice none 0 0) (.slice none 0 0)) := (Hx.out.trans' u1.ext).set4 (by omega) _ _ _ _
            rw [← Hy.out]
            exact ⟨_, rfl, hX, Rep.zero (by omega)⟩
      · rw [List.drop_eq_nil_of_le (by omega), N.get_nil] at hy
        have Hy := Lib.hid hy
        obtain ⟨k', tx', ns', ks'⟩ := cur
        obtain ⟨Aq, cq, Ar, cr, rfl, rfl, rfl, rfl⟩ := hr.shape
        clear hy hr
        go_wp2_with fail
        refine bodyPost_ret (results_cell_tmp rfl _ _ _ _ _ _ _ rfl (Hb1.out.set4 _ _ _ _)) rfl ?_
        have hX := Hx.out.set4 (g := w.heap.size + 1) (by omega) (.int .u8 k') (.string tx') (.slice Aq ns'.length cq) (.slice Ar ks'.length cr)
        rw [← Hy.out]
        exact ⟨_, rfl, hX, HRc.out.ext hX⟩
end Go.Proofs.Ytocndkhgopjhhaa
