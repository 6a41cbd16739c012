/- '(*Tree).set': what it does at the parent: where the name does not stand. -/
import Derived.Test.YtocndkhgopjhhaaProg
import Derived.Test.YtocndkhgopjhhaaSet1
import Derived.Test.YtocndkhgopjhhaaSetI
import Derived.Test.YtocndkhgopjhhaaInsN
import Derived.Outline
namespace Go.Proofs.Ytocndkhgopjhhaa
open Go.RowKit

set_option maxRecDepth 100000 in
set_option maxHeartbeats 4000000 in
theorem set1_new {B : Nat} (hB : B + 1 ≤ 2199023255552) {S : Nat → Prop} {w : World} {d dx : Nat} {k : Int} {tx : ByteArray} {ns : List ByteArray} {ks : List N} {v : Value} (h : Rep B S w d (.mk k tx ns ks) v) {i : Nat} (hi : i ≤ ks.length) (hnk : ns.length = ks.length)
    {bx bs : Nat} {x : N} {x0 x1 x2 x3 : Value} (hb : Blk w bx 25 #[x0, x1, x2, x3]) (hx : Rep B S w dx x (.agg #[x0, x1, x2, x3])) {s : ByteArray} (hbs : Blk w bs 9 #[.string s]) (hs : s.size ≤ maxLen) :
    Calls Try.prog 139 #[v, .int .i64 i, .bool false, .pointer (some ⟨bx, 0, none⟩), .pointer (some ⟨bs, 0, none⟩)] w (ChgPost (B + 1) S (d + dx) (.mk k tx (ns.insertIdx i s) (ks.insertIdx i x)) w) := by
  cases d with
  | zero => exact h.elim
  | succ d =>
    obtain ⟨nv, kv, rfl, htx, hn, hk⟩ := h.split
    have HN := Lib.hid hn
    have HKD := Lib.hid (hk.keep (S' := fun b => S b ∧ b < w.heap.size) (Nat.le_refl _) (fun _ _ _ => rfl) (fun b h hl => ⟨h, hl⟩))
    have HX := Lib.hid hx
    have Htx := Lib.hid htx
    have Hs := Lib.hid hs
    have Hnk := Lib.hid hnk
    obtain ⟨A', c', rfl, hc, hm, hl, _⟩ := hk
    obtain ⟨A, c, rfl, _⟩ := hn
    obtain ⟨Ax, cx, Ax', cx', rfl, rfl, rfl, rfl⟩ := hx.shape
    have HB := Lib.hid hb
    have HBS := Lib.hid hbs
    unfold maxLen at hm
    clear hb hx htx h hs hbs hnk
    go_enter Try.func139, Try.ntmps139
    go_wp2_with fail
    obtain ⟨W, hW⟩ : ∃ W, W = ((w.alloc (.cells #[.int .u8 k, .string tx, .slice A ns.length c, .slice A' ks.length c'] 25)).alloc (.cells #[.int .u8 0, .string { data := #[] }, .slice none 0 0, .slice none 0 0] 25)) := ⟨_, rfl⟩
    have hXW : Ext w W := by rw [hW]; exact (Ext.alloc' _ _).trans' (Ext.alloc' _ _)
    have hB1 : Blk W w.heap.size 25 #[.int .u8 k, .string tx, .slice A ns.length c, .slice A' ks.length c'] := by rw [hW]; exact (Blk.new _ _ _).alloc _
    have hB2 : Blk W (w.heap.size + 1) 25 #[.int .u8 0, .string { data := #[] }, .slice none 0 0, .slice none 0 0] := by rw [hW]; exact Blk.new' _ _ _ (by simp)
    have hWz : W.heap.size = w.heap.size + 2 := by rw [hW]; simp
    have HXW := Lib.hid hXW
    have HB1 := Lib.hid hB1
    have HB2 := Lib.hid hB2
    have HWz := Lib.hid hWz
    rw [← hW]
    clear hW hXW hB1 hB2 hWz
    refine wp_region_inv2 (by kernel_rfl) (fun listed a w' => ∃ x0 x1 x2 x3 x4 x5 x6 x7 : Value, a = { tmps := #[(.agg #[.int .u8 k, .string tx, .slice A ns.length c, .slice A' ks.length c']), .int .i64 (i : Int), .bool false, .pointer (some ⟨bx, 0, none⟩), .pointer (some ⟨bs, 0, none⟩), .pointer (some ⟨w.heap.size, 0, none⟩), undef, undef, .pointer (some ⟨w.heap.size + 1, 0, none⟩), .bool false, undef, undef, undef, undef, undef, undef, undef, undef, undef, undef, x0, x1, x2, x3, x4, x5, x6, x7, undef, undef, undef, undef, undef, undef, undef, undef, undef], defers := [] } ∧ ((listed.getD 8 false = false ∧ SA W 9 1 ns.length (.pointer (some ⟨w.heap.size, 2, none⟩)) (.slice A ns.length c) (ns.map Value.string) (.int .i64 (i : Int)) (.string s) [.string s] ((ns.map Value.string).take i ++ [.string s] ++ (ns.map Value.string).drop i) (fun j => listed.getD j false) w' x0 x1 x2 x3 x4 x5 x6 x7) ∨ (listed.getD 8 false = true ∧ ∃ w0, Ext W w0 ∧ RowOf W w0 9 1 (ns.length + 1) x6 (((ns.map Value.string).take i ++ [.string s] ++ (ns.map Value.string).drop i)) ∧ w' = w0.setCell ⟨w.heap.size, 2, none⟩ x6))) ?_ ?_ ?_
    · refine ⟨undef, undef, undef, undef, undef, undef, undef, undef, rfl, .inl ⟨?_, ?_⟩⟩
      · show (Array.replicate (9 : Nat) false).getD 8 false = false
        rfl
      · have e : (fun j => (Array.replicate (9 : Nat) false).getD j false) = fun _ => false := by
          funext j
          rw [Array.getD_eq_getD_getElem?, Array.getElem?_replicate]
          split <;> rfl
        show SA _ _ _ _ _ _ _ _ _ _ _ (fun j => (Array.replicate (9 : Nat) false).getD j false) _ _ _ _ _ _ _ _ _
        rw [e]
        exact SA.start W
    · rintro listed a w' i' hs ⟨x0, x1, x2, x3, x4, x5, x6, x7, rfl, hI⟩ hr hclo
      obtain ⟨hi', hn, he⟩ := ready_mem hr
      have hs' : listed.size = 9 := hs
      have h8 : listed.getD 8 false = false := by
        cases h : listed.getD 8 false
        · rfl
        · have hc := hclo 8 _ rfl h
          have hn' := getD_false hn
          match i', hi' with
          | 0, _ => have := hc ⟨0, .phase⟩ (by simp) rfl; rw [hn'] at this; cases this
          | 1, _ => have := hc ⟨1, .phase⟩ (by simp) rfl; rw [hn'] at this; cases this
          | 2, _ => have := hc ⟨2, .phase⟩ (by simp) rfl; rw [hn'] at this; cases this
          | 3, _ => have := hc ⟨3, .phase⟩ (by simp) rfl; rw [hn'] at this; cases this
          | 4, _ => have := hc ⟨4, .phase⟩ (by simp) rfl; rw [hn'] at this; cases this
          | 5, _ => have := hc ⟨5, .phase⟩ (by simp) rfl; rw [hn'] at this; cases this
          | 6, _ => have := hc ⟨6, .phase⟩ (by simp) rfl; rw [hn'] at this; cases this
          | 7, _ => have := hc ⟨7, .data⟩ (by simp) rfl; rw [hn'] at this; cases this
          | 8, _ => rw [h] at hn'; cases hn'
          | n + 9, h => exact absurd h (by simp)
      rcases hI with ⟨_, hI⟩ | ⟨h, _⟩
      case inr => rw [h8] at h; cases h
      have HIv := Lib.hid hI
      have HE := Lib.hid hI.1
      clear hr hs hI hclo
      match i', hi' with
      | 0, _ =>
        refine wpOp_plain rfl rfl fun K hK => ?_
        have HK := Lib.hid hK
        clear hK he
        go_simp
        exact HK.out _ _ ⟨_, _, _, _, _, _, _, _, rfl, .inl ⟨by rw [getD_set _ _ _ (by omega)]; exact h8, by rw [getD_same _ _ (by omega)]; exact HIv.out.s0⟩⟩
      | 1, _ =>
        refine wpOp_plain rfl rfl fun K hK => ?_
        have HK := Lib.hid hK
        have hx0 := HIv.out.2.1 (he _ rfl ⟨0, .data⟩ (by simp) rfl)
        subst hx0
        have hc : w'.cell? ⟨w.heap.size, 2, none⟩ = some ((.slice A ns.length c)) := (HB1.out.ext HE.out).cell 2
        clear hK he
        go_simp
        exact HK.out _ _ ⟨_, _, _, _, _, _, _, _, rfl, .inl ⟨by rw [getD_set _ _ _ (by omega)]; exact h8, by rw [getD_same _ _ (by omega)]; exact HIv.out.s1⟩⟩
      | 2, _ =>
        refine wpOp_plain rfl rfl fun K hK => ?_
        have HK := Lib.hid hK
        have hx1 := HIv.out.2.2.1 (he _ rfl ⟨1, .data⟩ (by simp) rfl)
        subst hx1
        have l2 := getD_false hn
        clear hK he
        go_simp
        refine (cloneS_any (B := 4 * B) (by omega) (HN.out.ext (HXW.out.trans' HE.out))).mono ?_
        rintro e w2 ⟨Ac, cc, rfl, hos, hx1⟩
        have hrow : RowOf W w2 9 1 ns.length (.slice Ac ns.length cc) (ns.map Value.string) := ⟨⟨_, _, rfl⟩, ownsRow_mono hos HE.out.size⟩
        have hnew : ∀ b, (Value.slice Ac ns.length cc).ownBlock = some b → w'.heap.size ≤ b := fun b e => (ownsRow_lt hos e).1
        exact HK.out _ _ ⟨_, _, _, _, _, _, _, _, rfl, .inl ⟨by rw [getD_set _ _ _ (by omega)]; exact h8, by rw [getD_same _ _ (by omega)]; exact (HIv.out.s2 l2 hx1 hrow hnew)⟩⟩
      | 3, _ =>
        refine wpOp_plain rfl rfl fun K hK => ?_
        have HK := Lib.hid hK
        clear hK he
        go_simp
        exact HK.out _ _ ⟨_, _, _, _, _, _, _, _, rfl, .inl ⟨by rw [getD_set _ _ _ (by omega)]; exact h8, by rw [getD_same _ _ (by omega)]; exact HIv.out.s3⟩⟩
      | 4, _ =>
        refine wpOp_plain rfl rfl fun K hK => ?_
        have HK := Lib.hid hK
        have hc : w'.cell? ⟨bs, 0, none⟩ = some (.string s) := ((HBS.out.ext HXW.out).ext HE.out).cell 0
        clear hK he
        go_simp
        exact HK.out _ _ ⟨_, _, _, _, _, _, _, _, rfl, .inl ⟨by rw [getD_set _ _ _ (by omega)]; exact h8, by rw [getD_same _ _ (by omega)]; exact HIv.out.s4⟩⟩
      | 5, _ =>
        refine wpOp_plain rfl rfl fun K hK => ?_
        have HK := Lib.hid hK
        have hx4 := HIv.out.2.2.2.2.2.1 (he _ rfl ⟨4, .data⟩ (by simp) rfl)
        subst hx4
        have l5 := getD_false hn
        clear hK he
        go_simp
        exact HK.out _ _ ⟨_, _, _, _, _, _, _, _, rfl, .inl ⟨by rw [getD_set _ _ _ (by omega)]; exact h8, by rw [getD_same _ _ (by omega)]; exact (HIv.out.s5 l5)⟩⟩
      | 6, _ =>
        refine wpOp_plain rfl rfl fun K hK => ?_
        have HK := Lib.hid hK
        have l2 := he _ rfl ⟨2, .data⟩ (by simp) rfl
        have l5 := he _ rfl ⟨5, .data⟩ (by simp) rfl
        have l6 := getD_false hn
        have r2 := HIv.out.2.2.2.1 l2 l6
        have hx3 := HIv.out.2.2.2.2.1 (he _ rfl ⟨3, .data⟩ (by simp) rfl)
        subst hx3
        obtain ⟨bb, rfl, hbb, hne⟩ := HIv.out.2.2.2.2.2.2.1 l5 l6
        have HR2 := Lib.hid r2
        have HBB := Lib.hid hbb
        have HNE := Lib.hid (hne l2)
        clear hK he r2 hbb hne
        go_simp
        refine (insertS_any (base := W.heap.size) (n := ns.length) (i := i) (xs := ns.map Value.string) (ys := [.string s]) HR2.out.2 HE.out.size (by rw [Hnk.out]; exact hi) (by have := HN.out; obtain ⟨_, _, _, _, _, h, _⟩ := this; omega) HBB.out rfl HNE.out (by simp [Value.oneCell']) (by simp [Value.oneCell'])).mono ?_
        rintro e w2 ⟨A2, c2, rfl, ho, hg, _⟩
        exact HK.out _ _ ⟨_, _, _, _, _, _, _, _, rfl, .inl ⟨by rw [getD_set _ _ _ (by omega)]; exact h8, by rw [getD_same _ _ (by omega)]; exact (HIv.out.s6 l2 l5 l6 ⟨⟨_, _, rfl⟩, ho⟩ hg)⟩⟩
      | 7, _ =>
        refine wpOp_plain rfl rfl fun K hK => ?_
        have HK := Lib.hid hK
        clear hK he
        go_simp
        exact HK.out _ _ ⟨_, _, _, _, _, _, _, _, rfl, .inl ⟨by rw [getD_set _ _ _ (by omega)]; exact h8, by rw [getD_same _ _ (by omega)]; exact HIv.out.s7⟩⟩
      | 8, _ =>
        refine wpOp_plain rfl rfl fun K hK => ?_
        have HK := Lib.hid hK
        have l6 := he _ rfl ⟨6, .data⟩ (by simp) rfl
        have hx7 := HIv.out.2.2.2.2.2.2.2.2.1 (he _ rfl ⟨7, .data⟩ (by simp) rfl)
        subst hx7
        have r6 := HIv.out.2.2.2.2.2.2.2.1 l6
        have HR6 := Lib.hid r6
        obtain ⟨⟨A6, c6, rfl⟩, _⟩ := r6
        have hbw := HB1.out.ext HE.out
        have hc := hbw.cell 2
        have hf := hbw.frozen 2
        clear hK he hbw
        go_simp
        exact HK.out _ _ ⟨_, _, _, _, _, _, _, _, rfl, .inr ⟨by rw [getD_set _ _ _ (by omega)]; rfl, w', HE.out, HR6.out, rfl⟩⟩
      | n + 9, h => exact absurd h (by simp)
    · rintro listed a w' hs ⟨x0, x1, x2, x3, x4, x5, x6, x7, rfl, hI⟩ hr
      have l0 := ready_nil hr (i := 0) rfl (by simp) hs
      have l3 := ready_nil hr (i := 3) rfl (by simp) hs
      have l4 := ready_nil hr (i := 4) rfl (by simp) hs
      have l1 := ready_nil hr (i := 1) rfl (by simp at l0 ⊢; simp [l0]) hs
      have l5 := ready_nil hr (i := 5) rfl (by simp at l4 ⊢; simp [l4]) hs
      have l2 := ready_nil hr (i := 2) rfl (by simp at l1 ⊢; simp [l1]) hs
      have l6 := ready_nil hr (i := 6) rfl (by simp at l2 l3 l5 ⊢; simp [l2, l3, l5]) hs
      have l7 := ready_nil hr (i := 7) rfl (by simp at l0 l1 l2 l3 l4 l5 l6 ⊢; simp [l0, l1, l2, l3, l4, l5, l6]) hs
      have l8 := ready_nil hr (i := 8) rfl (by simp at l0 l1 l2 l3 l4 l5 l6 l7 ⊢; simp [l0, l1, l2, l3, l4, l5, l6, l7]) hs
      rcases hI with ⟨h, _⟩ | ⟨_, w0, hX0, hR0, rfl⟩
      case inl => rw [l8] at h; cases h
      clear hr hs l0 l1 l2 l3 l4 l5 l6 l7 l8
      obtain ⟨A6, c6, rfl⟩ := hR0.1
      have HX0 := Lib.hid hX0
      have HR0 := Lib.hid hR0
      obtain ⟨W2, hW2⟩ : ∃ W2, W2 = w0.setCell ⟨w.heap.size, 2, none⟩ (.slice A6 (ns.length + 1) c6) := ⟨_, rfl⟩
      have hXW2 : Ext w W2 := by rw [hW2]; exact (HXW.out.trans' hX0).set1 (Nat.le_refl _) _
      have hB12 : Blk W2 w.heap.size 25 #[.int .u8 k, .string tx, .slice A6 (ns.length + 1) c6, .slice A' ks.length c'] := by rw [hW2]; exact (HB1.out.ext hX0).set2 _
      have hB22 : Blk W2 (w.heap.size + 1) 25 #[.int .u8 0, .string { data := #[] }, .slice none 0 0, .slice none 0 0] := by rw [hW2]; exact (HB2.out.ext hX0).far (by simp) _
      have hR02 : RowOf W W2 9 1 (ns.length + 1) (.slice A6 (ns.length + 1) c6) ((ns.map Value.string).take i ++ [.string s] ++ (ns.map Value.string).drop i) := ⟨⟨_, _, rfl⟩, by
        rw [hW2]
        refine ownsRow_ext hR0.2 fun g hg => Below.heap_setCell _ _ _ _ ?_
        have := (ownsRow_lt hR0.2 hg).1
        have := HWz.out
        simp; omega⟩
      have hW2z : W.heap.size ≤ W2.heap.size := by rw [hW2]; have := hX0.size; simpa [World.setCell] using this
      obtain ⟨Ak, ck, xs, ekv, _, hfl, hxa, hxs⟩ := HKD.out.flat
      have HXS := Lib.hid (show KSrc w (.slice A' ks.length c') xs from ⟨Ak, _, ck, ekv, hfl.len, hxa, hxs⟩)
      have HFL := Lib.hid hfl
      have HXW2 := Lib.hid hXW2
      have HB12 := Lib.hid hB12
      have HB22 := Lib.hid hB22
      have HR02 := Lib.hid hR02
      have HW2z := Lib.hid hW2z
      clear hX0 hR0 hXW2 hB12 hB22 hR02 hfl ekv hW2z hxa hxs
      rw [← hW2]
      clear hW2
      go_wp2_with fail
      refine wp_region_inv2 (by kernel_rfl) (fun listed a w' => ∃ x0b x1b x2b x3b x4b x5b x6b x7b : Value, a = { tmps := #[(.agg #[.int .u8 k, .string tx, .slice A ns.length c, .slice A' ks.length c']), .int .i64 (i : Int), .bool false, .pointer (some ⟨bx, 0, none⟩), .pointer (some ⟨bs, 0, none⟩), .pointer (some ⟨w.heap.size, 0, none⟩), undef, undef, .pointer (some ⟨w.heap.size + 1, 0, none⟩), .bool false, undef, undef, undef, undef, undef, undef, undef, undef, undef, undef, x0, x1, x2, x3, x4, x5, .slice A6 (ns.length + 1) c6, x7, x0b, x1b, x2b, x3b, x4b, x5b, x6b, x7b, undef], defers := [] } ∧ ((listed.getD 8 false = false ∧ SA W2 25 4 ks.length (.pointer (some ⟨w.heap.size, 3, none⟩)) (.slice A' ks.length c') xs (.int .i64 (i : Int)) (.agg #[.int .u8 x.kind, .string x.text, .slice Ax x.names.length cx, .slice Ax' x.kids.length cx']) [.int .u8 x.kind, .string x.text, .slice Ax x.names.length cx, .slice Ax' x.kids.length cx'] (xs.take (i * 4) ++ [.int .u8 x.kind, .string x.text, .slice Ax x.names.length cx, .slice Ax' x.kids.length cx'] ++ xs.drop (i * 4)) (fun j => listed.getD j false) w' x0b x1b x2b x3b x4b x5b x6b x7b) ∨ (listed.getD 8 false = true ∧ ∃ w0, Ext W2 w0 ∧ RowOf W2 w0 25 4 (ks.length + 1) x6b ((xs.take (i * 4) ++ [.int .u8 x.kind, .string x.text, .slice Ax x.names.length cx, .slice Ax' x.kids.length cx'] ++ xs.drop (i * 4))) ∧ w' = w0.setCell ⟨w.heap.size, 3, none⟩ x6b))) ?_ ?_ ?_
      · refine ⟨undef, undef, undef, undef, undef, undef, undef, undef, rfl, .inl ⟨?_, ?_⟩⟩
        · show (Array.replicate (9 : Nat) false).getD 8 false = false
          rfl
        · have e : (fun j => (Array.replicate (9 : Nat) false).getD j false) = fun _ => false := by
            funext j
            rw [Array.getD_eq_getD_getElem?, Array.getElem?_replicate]
            split <;> rfl
          show SA _ _ _ _ _ _ _ _ _ _ _ (fun j => (Array.replicate (9 : Nat) false).getD j false) _ _ _ _ _ _ _ _ _
          rw [e]
          exact SA.start W2
      · rintro listed a w' i' hs ⟨x0b, x1b, x2b, x3b, x4b, x5b, x6b, x7b, rfl, hI⟩ hr hclo
        obtain ⟨hi', hn, he⟩ := ready_mem hr
        have hs' : listed.size = 9 := hs
        have h8 : listed.getD 8 false = false := by
          cases h : listed.getD 8 false
          · rfl
          · have hc := hclo 8 _ rfl h
            have hn' := getD_false hn
            match i', hi' with
            | 0, _ => have := hc ⟨0, .phase⟩ (by simp) rfl; rw [hn'] at this; cases this
            | 1, _ => have := hc ⟨1, .phase⟩ (by simp) rfl; rw [hn'] at this; cases this
            | 2, _ => have := hc ⟨2, .phase⟩ (by simp) rfl; rw [hn'] at this; cases this
            | 3, _ => have := hc ⟨3, .phase⟩ (by simp) rfl; rw [hn'] at this; cases this
            | 4, _ => have := hc ⟨4, .phase⟩ (by simp) rfl; rw [hn'] at this; cases this
            | 5, _ => have := hc ⟨5, .phase⟩ (by simp) rfl; rw [hn'] at this; cases this
            | 6, _ => have := hc ⟨6, .phase⟩ (by simp) rfl; rw [hn'] at this; cases this
            | 7, _ => have := hc ⟨7, .data⟩ (by simp) rfl; rw [hn'] at this; cases this
            | 8, _ => rw [h] at hn'; cases hn'
            | n + 9, h => exact absurd h (by simp)
        rcases hI with ⟨_, hI⟩ | ⟨h, _⟩
        case inr => rw [h8] at h; cases h
        have HIv := Lib.hid hI
        have HE := Lib.hid hI.1
        clear hr hs hI hclo
        match i', hi' with
        | 0, _ =>
          refine wpOp_plain rfl rfl fun K hK => ?_
          have HK := Lib.hid hK
          clear hK he
          go_simp
          exact HK.out _ _ ⟨_, _, _, _, _, _, _, _, rfl, .inl ⟨by rw [getD_set _ _ _ (by omega)]; exact h8, by rw [getD_same _ _ (by omega)]; exact HIv.out.s0⟩⟩
        | 1, _ =>
          refine wpOp_plain rfl rfl fun K hK => ?_
          have HK := Lib.hid hK
          have hx0 := HIv.out.2.1 (he _ rfl ⟨0, .data⟩ (by simp) rfl)
          subst hx0
          have hc : w'.cell? ⟨w.heap.size, 3, none⟩ = some ((.slice A' ks.length c')) := (HB12.out.ext HE.out).cell 3
          clear hK he
          go_simp
          exact HK.out _ _ ⟨_, _, _, _, _, _, _, _, rfl, .inl ⟨by rw [getD_set _ _ _ (by omega)]; exact h8, by rw [getD_same _ _ (by omega)]; exact HIv.out.s1⟩⟩
        | 2, _ =>
          refine wpOp_plain rfl rfl fun K hK => ?_
          have HK := Lib.hid hK
          have hx1 := HIv.out.2.2.1 (he _ rfl ⟨1, .data⟩ (by simp) rfl)
          subst hx1
          have l2 := getD_false hn
          clear hK he
          go_simp
          refine (cloneKX (by omega) HKD.out HXS.out (HXW2.out.trans' HE.out) HFL.out.one).mono ?_
          rintro e w2 ⟨Ac, cc, rfl, hos, hx1⟩
          have hrow : RowOf W2 w2 25 4 ks.length (.slice Ac ks.length cc) xs := ⟨⟨_, _, rfl⟩, ownsRow_mono hos HE.out.size⟩
          have hnew : ∀ b, (Value.slice Ac ks.length cc).ownBlock = some b → w'.heap.size ≤ b := fun b e => (ownsRow_lt hos e).1
          exact HK.out _ _ ⟨_, _, _, _, _, _, _, _, rfl, .inl ⟨by rw [getD_set _ _ _ (by omega)]; exact h8, by rw [getD_same _ _ (by omega)]; exact (HIv.out.s2 l2 hx1 hrow hnew)⟩⟩
        | 3, _ =>
          refine wpOp_plain rfl rfl fun K hK => ?_
          have HK := Lib.hid hK
          clear hK he
          go_simp
          exact HK.out _ _ ⟨_, _, _, _, _, _, _, _, rfl, .inl ⟨by rw [getD_set _ _ _ (by omega)]; exact h8, by rw [getD_same _ _ (by omega)]; exact HIv.out.s3⟩⟩
        | 4, _ =>
          refine wpOp_plain rfl rfl fun K hK => ?_
          have HK := Lib.hid hK
          obtain ⟨hc0, hc1, hc2, hc3, _⟩ := ((HB.out.ext HXW2.out).ext HE.out).cells4
          clear hK he
          go_simp
          exact HK.out _ _ ⟨_, _, _, _, _, _, _, _, rfl, .inl ⟨by rw [getD_set _ _ _ (by omega)]; exact h8, by rw [getD_same _ _ (by omega)]; exact HIv.out.s4⟩⟩
        | 5, _ =>
          refine wpOp_plain rfl rfl fun K hK => ?_
          have HK := Lib.hid hK
          have hx4 := HIv.out.2.2.2.2.2.1 (he _ rfl ⟨4, .data⟩ (by simp) rfl)
          subst hx4
          have l5 := getD_false hn
          clear hK he
          go_simp
          exact HK.out _ _ ⟨_, _, _, _, _, _, _, _, rfl, .inl ⟨by rw [getD_set _ _ _ (by omega)]; exact h8, by rw [getD_same _ _ (by omega)]; exact (HIv.out.s5 l5)⟩⟩
        | 6, _ =>
          refine wpOp_plain rfl rfl fun K hK => ?_
          have HK := Lib.hid hK
          have l2 := he _ rfl ⟨2, .data⟩ (by simp) rfl
          have l5 := he _ rfl ⟨5, .data⟩ (by simp) rfl
          have l6 := getD_false hn
          have r2 := HIv.out.2.2.2.1 l2 l6
          have hx3 := HIv.out.2.2.2.2.1 (he _ rfl ⟨3, .data⟩ (by simp) rfl)
          subst hx3
          obtain ⟨bb, rfl, hbb, hne⟩ := HIv.out.2.2.2.2.2.2.1 l5 l6
          have HR2 := Lib.hid r2
          have HBB := Lib.hid hbb
          have HNE := Lib.hid (hne l2)
          clear hK he r2 hbb hne
          go_simp
          refine (insertN_any (base := W2.heap.size) (n := ks.length) (i := i) (xs := xs) (ys := [.int .u8 x.kind, .string x.text, .slice Ax x.names.length cx, .slice Ax' x.kids.length cx']) HR2.out.2 HE.out.size hi (by omega) HBB.out rfl HNE.out HFL.out.one (by simp [Value.oneCell'])).mono ?_
          rintro e w2 ⟨A2, c2, rfl, ho, hg, _⟩
          exact HK.out _ _ ⟨_, _, _, _, _, _, _, _, rfl, .inl ⟨by rw [getD_set _ _ _ (by omega)]; exact h8, by rw [getD_same _ _ (by omega)]; exact (HIv.out.s6 l2 l5 l6 ⟨⟨_, _, rfl⟩, ho⟩ hg)⟩⟩
        | 7, _ =>
          refine wpOp_plain rfl rfl fun K hK => ?_
          have HK := Lib.hid hK
          clear hK he
          go_simp
          exact HK.out _ _ ⟨_, _, _, _, _, _, _, _, rfl, .inl ⟨by rw [getD_set _ _ _ (by omega)]; exact h8, by rw [getD_same _ _ (by omega)]; exact HIv.out.s7⟩⟩
        | 8, _ =>
          refine wpOp_plain rfl rfl fun K hK => ?_
          have HK := Lib.hid hK
          have l6 := he _ rfl ⟨6, .data⟩ (by simp) rfl
          have hx7 := HIv.out.2.2.2.2.2.2.2.2.1 (he _ rfl ⟨7, .data⟩ (by simp) rfl)
          subst hx7
          have r6 := HIv.out.2.2.2.2.2.2.2.1 l6
          have HR6 := Lib.hid r6
          obtain ⟨⟨A6, c6, rfl⟩, _⟩ := r6
          have hbw := HB12.out.ext HE.out
          have hc := hbw.cell 3
          have hf := hbw.frozen 3
          clear hK he hbw
          go_simp
          exact HK.out _ _ ⟨_, _, _, _, _, _, _, _, rfl, .inr ⟨by rw [getD_set _ _ _ (by omega)]; rfl, w', HE.out, HR6.out, rfl⟩⟩
        | n + 9, h => exact absurd h (by simp)
      · rintro listed a w' hs ⟨x0b, x1b, x2b, x3b, x4b, x5b, x6b, x7b, rfl, hI⟩ hr
        have l0 := ready_nil hr (i := 0) rfl (by simp) hs
        have l3 := ready_nil hr (i := 3) rfl (by simp) hs
        have l4 := ready_nil hr (i := 4) rfl (by simp) hs
        have l1 := ready_nil hr (i := 1) rfl (by simp at l0 ⊢; simp [l0]) hs
        have l5 := ready_nil hr (i := 5) rfl (by simp at l4 ⊢; simp [l4]) hs
        have l2 := ready_nil hr (i := 2) rfl (by simp at l1 ⊢; simp [l1]) hs
        have l6 := ready_nil hr (i := 6) rfl (by simp at l2 l3 l5 ⊢; simp [l2, l3, l5]) hs
        have l7 := ready_nil hr (i := 7) rfl (by simp at l0 l1 l2 l3 l4 l5 l6 ⊢; simp [l0, l1, l2, l3, l4, l5, l6]) hs
        have l8 := ready_nil hr (i := 8) rfl (by simp at l0 l1 l2 l3 l4 l5 l6 l7 ⊢; simp [l0, l1, l2, l3, l4, l5, l6, l7]) hs
        rcases hI with ⟨h, _⟩ | ⟨_, w0b, hX0, hR0, rfl⟩
        case inl => rw [l8] at h; cases h
        clear hr hs l0 l1 l2 l3 l4 l5 l6 l7 l8
        obtain ⟨A7, c7, rfl⟩ := hR0.1
        have hbz := (HB12.out.ext hX0).set3 (.slice A7 (ks.length + 1) c7)
        have hb2 := (HB22.out.ext hX0).far (p := ⟨w.heap.size, 3, none⟩) (by simp) (.slice A7 (ks.length + 1) c7)
        obtain ⟨q0, q1, q2, q3, e0, e1, e2, e3⟩ := hbz.cells4
        obtain ⟨r0, r1, r2, r3, g0, g1, g2, g3⟩ := hb2.cells4
        have HX0b := Lib.hid hX0
        have HR0b := Lib.hid hR0
        have HBr := Lib.hid (hb2.set4 (.int .u8 k) (.string tx) (.slice A6 (ns.length + 1) c6) (.slice A7 (ks.length + 1) c7))
        obtain ⟨W3, hW3⟩ : ∃ W3, W3 = w0b.setCell ⟨w.heap.size, 3, none⟩ (.slice A7 (ks.length + 1) c7) := ⟨_, rfl⟩
        rw [← hW3] at q0 q1 q2 q3 e0 e1 e2 e3 r0 r1 r2 r3 g0 g1 g2 g3 HBr
        rw [← hW3]
        have HW3 := Lib.hid hW3
        clear hX0 hR0 hbz hb2 hW3
        go_wp2_with fail
        have hX3 : Ext w W3 := by rw [HW3.out]; exact (HXW2.out.trans' HX0b.out).set1 (Nat.le_refl _) _
        have hX4 : Ext w (set4 W3 (w.heap.size + 1) (.int .u8 k) (.string tx) (.slice A6 (ns.length + 1) c6) (.slice A7 (ks.length + 1) c7)) := hX3.set4 (by omega) _ _ _ _
        have hns : (ns.insertIdx i s).length = ns.length + 1 := List.length_insertIdx_of_le_length (by have := Hnk.out; omega) _
        have hks : (ks.insertIdx i x).length = ks.length + 1 := List.length_insertIdx_of_le_length hi _
        refine bodyPost_ret (results_cell rfl _ _ _ _ _ _ _ rfl HBr.out) rfl ⟨A6, c6, A7, c7, by rw [N.kids_mk, N.names_mk, hns, hks]; rfl, hX4, ?_⟩
        rw [N.kids_mk, N.names_mk, hns, hks, show d + 1 + dx = (d + dx) + 1 by omega]
        have hnr : (set4 W3 (w.heap.size + 1) (.int .u8 k) (.string tx) (.slice A6 (ns.length + 1) c6) (.slice A7 (ks.length + 1) c7)).ownsRow W.heap.size 9 1 (.slice A6 (ns.length + 1) c6) (ns.length + 1) ((ns.map Value.string).take i ++ [.string s] ++ (ns.map Value.string).drop i) := by
          refine ownsRow_ext HR02.out.2 fun g hg => ?_
          have h1 := ownsRow_lt HR02.out.2 hg
          have h2 := HWz.out
          rw [heap_set4 _ _ _ _ _ _ (by omega), HW3.out, Below.heap_setCell _ _ _ _ (by simp; omega)]
          exact HX0b.out.block g h1.2
        have hnm : (ns.map Value.string).take i ++ [.string s] ++ (ns.map Value.string).drop i = (ns.insertIdx i s).map Value.string := by
          rw [insertIdx_td (by have := Hnk.out; omega)]
          simp
        rw [hnm] at hnr
        have hnb : ns.length ≤ 4 * B := by have := HN.out; obtain ⟨_, _, _, _, _, h, _⟩ := this; exact h
        have hns' : ∀ y ∈ ns.insertIdx i s, y.size ≤ maxLen := by
          intro y hy
          have hsm : ∀ y ∈ ns, y.size ≤ maxLen := by have := HN.out; obtain ⟨_, _, _, _, _, _, h, _⟩ := this; exact h
          rcases (List.mem_insertIdx (by have := Hnk.out; omega)).1 hy with rfl | hy
          · exact Hs.out
          · exact hsm y hy
        have hos : OwnStrs (set4 W3 (w.heap.size + 1) (.int .u8 k) (.string tx) (.slice A6 (ns.length + 1) c6) (.slice A7 (ks.length + 1) c7)) W.heap.size (.slice A6 (ns.length + 1) c6) (ns.insertIdx i s) := by
          unfold OwnStrs
          rw [hns]; exact hnr
        have hst := (hos.strs (B := 4 * (B + 1)) (by rw [hns]; omega) hns').wide (S' := fun b => S b ∨ w.heap.size ≤ b) (Nat.le_refl _) (Below.refl _ _) (fun b h _ => .inr (by
          have h1 := (ownsRow_lt hnr h).1
          have h2 := HWz.out
          omega))
        refine Rep.join Htx.out hst ?_
        · have hW2w := HXW2.out.size
          have hkr : (set4 W3 (w.heap.size + 1) (.int .u8 k) (.string tx) (.slice A6 (ns.length + 1) c6) (.slice A7 (ks.length + 1) c7)).ownsRow W2.heap.size 25 4 (.slice A7 (ks.length + 1) c7) (ks.insertIdx i x).length (xs.take (i * 4) ++ [.int .u8 x.kind, .string x.text, .slice Ax x.names.length cx, .slice Ax' x.kids.length cx'] ++ xs.drop (i * 4)) := by
            rw [hks]
            refine ownsRow_ext HR0b.out.2 fun g hg => ?_
            have h1 := ownsRow_lt HR0b.out.2 hg
            have h2 := HWz.out
            have h3 := HW2z.out
            rw [heap_set4 _ _ _ _ _ _ (by omega), HW3.out, Below.heap_setCell _ _ _ _ (by simp; omega)]
          have rk : RowKids B (fun b => S b ∧ b < w.heap.size) (set4 W3 (w.heap.size + 1) (.int .u8 k) (.string tx) (.slice A6 (ns.length + 1) c6) (.slice A7 (ks.length + 1) c7)) (d + dx) W2.heap.size (.slice A7 (ks.length + 1) c7) (ks.insertIdx i x) :=
            ⟨_, hkr, Flat.insert (HFL.out.mono fun t v hr => hr.wide (Nat.le_refl _) hX4 (fun b h _ => h) (by omega)) hi (HX.out.wide (Nat.le_refl _) hX4 (fun b h hl => ⟨h, hl⟩) (by omega))⟩
          exact rk.kids (B' := B + 1) (T' := fun b => S b ∨ w.heap.size ≤ b) (by rw [hks]; omega) (by omega) (fun b h => .inl h.1) (fun b h => .inr (by omega))
end Go.Proofs.Ytocndkhgopjhhaa
