import Derived.Test.YtocndkhgopjhhaaProg
import Derived.Test.YtocndkhgopjhhaaBase
import Derived.Test.YtocndkhgopjhhaaTreeB
namespace Go.Proofs.Ytocndkhgopjhhaa
open Go.RowKit

set_option maxRecDepth 100000 in
set_option maxHeartbeats 2000000 in
theorem find_any (B Bp : Nat) (hB45 : B ≤ 2199023255552) (S Sp : Nat → Prop) (d : Nat) (t : N) (v pv : Value) (place : List ByteArray) (w : World) (h : Rep B S w d t v) (hp : Strs Bp Sp w pv place) (hw : t.well = true) :
    Calls Try.prog 88 #[v, pv] w (GetPost B S d (t.get place) w) := by
  cases d with
  | zero => exact h.elim
  | succ d =>
    have HR := Lib.hid h
    obtain ⟨k, tx, ns, ks⟩ := t
    have HWT := Lib.hid hw
    obtain ⟨nv, A, c, rfl, htx, hn, hc, hm, hB, hk⟩ := h
    obtain ⟨An, cn, rfl, hcn, hmn, hBn, hsn, hns⟩ := hn
    obtain ⟨Ap, cp, rfl, hcp, hmp, hBp, hsp, hps⟩ := hp
    clear hBn hsn htx hB hk hc hm hns hcn hmn hBp hsp hw
    unfold maxLen at hmp
    go_enter Try.func88, Try.ntmps88
    go_wp2_with fail
    go_loopw [12] (fun i wr => ∃ (j : Nat) (cur : N) (c0 c1 c2 c3 : Value), j ≤ place.length ∧ i = .int .i64 j ∧ Ext w wr ∧ Blk wr w.heap.size 25 #[c0, c1, c2, c3] ∧ Blk wr (w.heap.size + 1) 25 #[.int .u8 0, .string { data := #[] }, .slice none 0 0, .slice none 0 0] ∧
        Rep B S w (d + 1) cur (.agg #[c0, c1, c2, c3]) ∧ cur.well = true ∧ cur.get (place.drop j) = N.get (.mk k tx ns ks) place) (fun i _ => place.length - (intOf i).toNat)
    case atStart => exact ⟨0, _, _, _, _, _, Nat.zero_le _, rfl, (Ext.alloc' _ _).trans' (Ext.alloc' _ _), (Blk.new _ _ _).alloc _, Blk.new' _ _ _ (by simp), HR.out, HWT.out, rfl⟩
    case round =>
      obtain ⟨j, cur, c0, c1, c2, c3, hj, rfl, hx, hb0, hb1, hr, hw, hy⟩ := hrel
      have Hx := Lib.hid hx
      have Hb0 := Lib.hid hb0
      have Hb1 := Lib.hid hb1
      obtain ⟨hcx, hfx⟩ := hx.rules
      have hzx := hb1.lt
      obtain ⟨p0, p1, p2, p3, f0, f1, f2, f3⟩ := hb0.cells4
      obtain ⟨r0, r1, r2, r3, g0, g1, g2, g3⟩ := hb1.cells4
      have hzx0 : w.heap.size < wr.heap.size := by omega
      have HRc := Lib.hid hr
      have Hw := Lib.hid hw
      obtain ⟨hu, hfu⟩ := up_rules wr
      clear hx hb0 hb1
      by_cases hlt : j < place.length
      · obtain ⟨b, o, rfl, hS, hbs, hcell⟩ := hps (by omega)
        have cj := hcell j _ (List.getElem?_eq_getElem hlt)
        have hbs' : b < wr.heap.size := by omega
        obtain ⟨k', tx', ns', ks'⟩ := cur
        obtain ⟨nv', A', c', e, _, hn', hc', hm', hB', hk'⟩ := hr
        have HS := Lib.hid hn'
        obtain ⟨An', cn', rfl, hcn', hmn', _, _, _⟩ := hn'
        injection e with e
        simp at e
        obtain ⟨rfl, rfl, rfl, rfl⟩ := e
        rw [List.drop_eq_getElem_cons hlt] at hy
        unfold maxLen at hm'
        clear hcell hB' hw
        have hsort : Sorted ns' := by
          by_cases e : k' = 2
          · subst e; exact (N.well_dir Hw.out).2.1
          · rw [(N.well_leaf Hw.out e).1]; exact List.Pairwise.nil
        have Hsort := Lib.hid hsort
        clear hsort
        cases hix : ixFrom place[j] 0 ns' with
        | none =>
          have Hix := Lib.hid hix
          rw [N.get_none (by exact hix)] at hy
          have Hy := Lib.hid hy
          clear hy hix hk'
          by_cases e2 : k' = 2
          · subst e2
            go_wp2_with (go_at_call 129; refine (bsearch_any (by omega) _ ((HS.out.ext Hx.out)) Hsort.out).mono ?_; rw [Hix.out]; rintro e w1 ⟨rfl, hx1⟩; obtain ⟨u1, rfl⟩ := Up.of hx1; clear hx1)
            refine bodyPost_ret (results_cell_tmp rfl _ _ _ _ _ _ _ rfl ((Hb1.out.up u1).set4 _ _ _ _)) rfl ?_
            have hX : Ext w (set4 u1.val (w.heap.size + 1) (.int .u8 0) (.string { data := #[] }) (.slice none 0 0) (.slice none 0 0)) := (Hx.out.trans' u1.ext).set4 (by omega) _ _ _ _
            rw [← Hy.out]
            exact ⟨_, rfl, hX, Rep.zero (by omega)⟩
          · have q2 : (k' == 2) = false := by rw [beq_eq_false_iff_ne]; exact e2
            have q2' : (k' != 2) = true := by rw [bne_iff_ne]; exact e2
            clear e2
            go_wp2_with (go_at_call 129; refine (bsearch_any (by omega) _ ((HS.out.ext Hx.out)) Hsort.out).mono ?_; rw [Hix.out]; rintro e w1 ⟨rfl, hx1⟩; obtain ⟨u1, rfl⟩ := Up.of hx1; clear hx1)
            refine bodyPost_ret (results_cell_tmp rfl _ _ _ _ _ _ _ rfl ((Hb1.out.up u1).set4 _ _ _ _)) rfl ?_
            have hX : Ext w (set4 u1.val (w.heap.size + 1) (.int .u8 0) (.string { data := #[] }) (.slice none 0 0) (.slice none 0 0)) := (Hx.out.trans' u1.ext).set4 (by omega) _ _ _ _
            rw [← Hy.out]
            exact ⟨_, rfl, hX, Rep.zero (by omega)⟩
        | some i =>
          obtain ⟨_, hil, _⟩ := ixFrom_lt hix
          simp only [Nat.zero_add] at hil
          have e2 : k' = 2 := by
            by_cases e : k' = 2
            · exact e
            · have := (N.well_leaf Hw.out e).1; subst this; simp at hil
          subst e2
          obtain ⟨_, _, hlen, _, hkw, _⟩ := N.well_dir Hw.out
          have Hix := Lib.hid hix
          have hpos : posOf place[j] ns' = i := by
            have := ixFrom_pos place[j] ns' 0 Hsort.out
            rw [hix] at this
            split at this
            · injection this with this; omega
            · cases this
          have hik : i < ks'.length := by omega
          rw [N.get_some (k := ks'[i]) (by exact hix) (by exact List.getElem?_eq_getElem hik)] at hy
          have Hy := Lib.hid hy
          have Hkw : Hid (ks'[i].well = true) := hkw _ (List.getElem_mem hik)
          obtain ⟨bk, ok, rfl, hSk, hbk, hck⟩ := hk' (by omega)
          have hbk' : bk < wr.heap.size := by omega
          obtain ⟨v0, v1, v2, v3, d0, d1, d2, d3, hrk⟩ := hck i _ (List.getElem?_eq_getElem hik)
          obtain ⟨_, _, _, _, rfl, rfl, rfl, rfl⟩ := hrk.shape
          have Hrk := Lib.hid hrk
          clear hy hix hk' hck hrk hil hlen hkw
          go_wp2_with (go_at_call 129; refine (bsearch_any (by omega) _ ((HS.out.ext Hx.out)) Hsort.out).mono ?_; rw [Hix.out]; rintro e w1 ⟨rfl, hx1⟩; obtain ⟨u1, rfl⟩ := Up.of hx1; clear hx1)
          go_roundw
          case rel => exact ⟨j + 1, ks'[i], _, _, _, _, by omega, by go_num, (Hx.out.trans' u1.ext).set4 (by omega) _ _ _ _, (Hb0.out.up u1).set4 _ _ _ _, (Hb1.out.up u1).far4 (by omega) _ _ _ _, Rep.mono (by omega) Hrk.out, Hkw.out, Hy.out⟩
          case measure => simp [intOf]; omega
      · rw [List.drop_eq_nil_of_le (by omega), N.get_nil] at hy
        have Hy := Lib.hid hy
        obtain ⟨k', tx', ns', ks'⟩ := cur
        obtain ⟨Aq, cq, Ar, cr, rfl, rfl, rfl, rfl⟩ := hr.shape
        clear hy hr hw
        go_wp2_with fail
        refine bodyPost_ret (results_cell_tmp rfl _ _ _ _ _ _ _ rfl (Hb1.out.set4 _ _ _ _)) rfl ?_
        have hX := Hx.out.set4 (g := w.heap.size + 1) (by omega) (.int .u8 k') (.string tx') (.slice Aq ns'.length cq) (.slice Ar ks'.length cr)
        rw [← Hy.out]
        exact ⟨_, rfl, hX, HRc.out.ext hX⟩
end Go.Proofs.Ytocndkhgopjhhaa
