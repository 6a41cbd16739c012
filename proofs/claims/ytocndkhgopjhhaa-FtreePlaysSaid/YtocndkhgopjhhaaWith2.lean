/- touchstoneref07.With at any place. -/
import Derived.Test.YtocndkhgopjhhaaProg
import Derived.Test.YtocndkhgopjhhaaWith1
import Derived.StillTailTactics
namespace Go.Proofs.Ytocndkhgopjhhaa
open Go.RowKit

theorem well_len {t : N} (h : t.well = true) : t.names.length = t.kids.length := by
  obtain ⟨k, tx, ns, ks⟩ := t
  by_cases e : k = 2
  · subst e
    obtain ⟨_, _, hl, _, _, _⟩ := N.well_dir h
    exact hl
  · obtain ⟨rfl, rfl⟩ := N.well_leaf h e
    rfl
theorem well_kids {t : N} (h : t.well = true) : ∀ x ∈ t.kids, x.well = true := by
  obtain ⟨k, tx, ns, ks⟩ := t
  by_cases e : k = 2
  · subst e
    obtain ⟨_, _, _, _, hk, _⟩ := N.well_dir h
    exact hk
  · obtain ⟨rfl, rfl⟩ := N.well_leaf h e
    intro x hx
    cases hx

set_option maxRecDepth 100000 in
set_option maxHeartbeats 8000000 in
theorem with_any' {B Bp dx : Nat} {S Sp : Nat → Prop} {x : N} {xv : Value} (hB : B + 1 ≤ 2199023255552) : ∀ (p : List ByteArray) (d : Nat) (w : World) (t : N) (v pv : Value), p ≠ [] → (∀ b, S b → b < w.heap.size) → t.well = true → Rep B S w (d + 1) t v → Rep B S w (dx + 1) x xv → Strs Bp Sp w pv p →
    Calls Try.prog 110 #[v, pv, xv] w (ChgPost (B + 1) S (d + (dx + 1) + 1) (withN t p x) w) := by
  intro p
  induction p with
  | nil => intro d w t v pv h; exact absurd rfl h
  | cons s q ih =>
  intro d w t v pv _ hS hwell hr hxr hp
  cases q with
  | nil => exact with_one hB hS (well_len hwell) hr hxr hp
  | cons a r =>
  obtain ⟨i1, hi1, hy1, hy2, hy3⟩ := info_parts string_info
  obtain ⟨i4, hi4, hz1, hz2, hz3⟩ := info_parts node_info
  have HI1 := Lib.hid hi1
  have HY1 := Lib.hid hy1
  have HY2 := Lib.hid hy2
  have HY3 := Lib.hid hy3
  have HI4 := Lib.hid hi4
  have HZ1 := Lib.hid hz1
  have HZ2 := Lib.hid hz2
  have HZ3 := Lib.hid hz3
  have IH := Lib.hid ih
  clear hi1 hy1 hy2 hy3 hi4 hz1 hz2 hz3 ih
  have HL := Lib.hid (well_len hwell)
  have HKW := Lib.hid (well_kids hwell)
  obtain ⟨k, tx, ns, ks⟩ := t
  have HL : Hid (ns.length = ks.length) := Lib.hid HL.out
  have HKW : Hid (∀ t ∈ ks, t.well = true) := Lib.hid HKW.out
  have HS := Lib.hid hS
  have HXR := Lib.hid hxr
  obtain ⟨nv, kv, rfl, _, hn, hk⟩ := hr.split
  have HR := Lib.hid hr
  obtain ⟨Ax, cx, Ax', cx', rfl⟩ := hxr.agg
  obtain ⟨An, cn, rfl, hcn, hmn, hBn, hsn, hnc⟩ := hn
  obtain ⟨Ak, ck, rfl, hck, hmk, hBk, hkc⟩ := hk
  obtain ⟨Ap, cp, rfl, hcp, hmp, hBp, hsp, hpc⟩ := id hp
  obtain ⟨bp, op, rfl, _, hbp, hpc⟩ := hpc (by simp)
  have hp0 : w.cell? ⟨bp, op, none⟩ = some (.string s) := by simpa using hpc 0 s rfl
  have hsm : s.size ≤ maxLen := hsp s (by simp)
  have HPT := Lib.hid hp.tail
  have HSM := Lib.hid hsm
  have HSN := Lib.hid hsn
  have HNC := Lib.hid hnc
  have HKC := Lib.hid hkc
  have hBn2 : ns.length ≤ 2199023255552 := by have := HL.out; omega
  have hpl : (s :: a :: r).length = r.length + 2 := rfl
  clear hp
  rw [hpl] at hcp HPT ⊢
  have hpl2 : 2 ≤ r.length + 2 := by omega
  generalize r.length + 2 = pl at hcp HPT hpl2 ⊢
  have hpi : (1 : Int) ≤ (pl : Int) := by omega
  have hc1 : ¬ cp = 1 := by omega
  have hpq : ((pl : Int) == 1) = false := by rw [beq_eq_false_iff_ne]; omega
  have L0 : Hid (LSt (B + 1) (d + (dx + 1)) S w ((((w.alloc (.cells #[.int .u8 k, .string tx, .slice An ns.length cn, .slice Ak ks.length ck] 25)).alloc (.cells #[.int .u8 x.kind, .string x.text, .slice Ax x.names.length cx, .slice Ax' x.kids.length cx'] 25)).alloc (.cells #[.int .u8 0, .string { data := #[] }, .slice none 0 0, .slice none 0 0] 25)).alloc (.cells #[.int .u8 k, .string { data := #[] }, .slice none 0 0, .slice none 0 0] 25)) (fun _ => False)
      #[.int .u8 k, .string tx, .slice An ns.length cn, .slice Ak ks.length ck] #[.int .u8 x.kind, .string x.text, .slice Ax x.names.length cx, .slice Ax' x.kids.length cx'] k 0 0 none 0 none 0 [] []) :=
    Lib.hid ⟨WSt.start ((((Ext.alloc' _ _).trans' (Ext.alloc' _ _)).trans' (Ext.alloc' _ _)).trans' (Ext.alloc' _ _)), (((Blk.new _ _ _).alloc _).alloc _).alloc _, ((Blk.new' _ _ _ (by simp)).alloc _).alloc _, (Blk.new' _ _ _ (by simp)).alloc _, Blk.new' _ _ _ (by simp), rfl, rfl⟩
  clear hr hxr hpc hsp hBp hsn hnc hkc hBn hS hsm hcn hck hwell hpl
  unfold maxLen at hmn hmk hmp
  go_enter Try.func110, Try.ntmps110
  go_wp2_with fail
  go_loopw [8, 9] (fun dn i wr => ∃ (j : Nat) (T : Nat → Prop) (A : Option Addr) (c : Nat) (A' : Option Addr) (c' : Nat) (pN : List ByteArray) (pK : List N), j ≤ ns.length ∧ i = .int .i64 j ∧ dn = .bool false ∧
      LSt (B + 1) (d + (dx + 1)) S w wr T #[.int .u8 k, .string tx, .slice An ns.length cn, .slice Ak ks.length ck] #[.int .u8 x.kind, .string x.text, .slice Ax x.names.length cx, .slice Ax' x.kids.length cx'] k j j A c A' c' pN pK ∧ (∀ y ∈ pN, y.size ≤ maxLen) ∧
      withLN x false s (fun k => withN k (a :: r) x) false ns ks = (pN ++ (withLN x false s (fun k => withN k (a :: r) x) false (ns.drop j) (ks.drop j)).1, pK ++ (withLN x false s (fun k => withN k (a :: r) x) false (ns.drop j) (ks.drop j)).2)) (fun _ i _ => ns.length - (intOf i).toNat)
  case atStart => exact ⟨0, _, none, 0, none, 0, [], [], Nat.zero_le _, rfl, rfl, L0.out, by simp, rfl⟩
  case round =>
    obtain ⟨j, T, A, c, A', c', pN, pK, hj, rfl, rfl, hL, hps, hw⟩ := hrel
    have L := Lib.hid hL
    have HPS := Lib.hid hps
    have HW := Lib.hid hw
    have hX := hL.st.ext
    obtain ⟨hcx, hfx⟩ := hX.rules
    have hzx := hL.size
    obtain ⟨r2, r3, f2, f3, rl⟩ := hL.cells
    obtain ⟨n0, n1, n2, n3, _⟩ := hL.b0.cells4
    obtain ⟨x0, x1, x2, x3, _⟩ := hL.b1.cells4
    obtain ⟨hu, hfu⟩ := up_rules wr
    have HKB := Lib.hid (fun g (e : (Value.slice A' j c').ownBlock = some g) => (hL.st.klt e).2)
    have HNL := Lib.hid (fun g (e : (Value.slice A j c).ownBlock = some g) => (hL.st.nlt e).2)
    have HTL := Lib.hid (show ¬ T wr.heap.size from fun h => absurd (hL.st.low _ h).1 (Nat.lt_irrefl _))
    clear hL hps hw
    by_cases hlt : j < ns.length
    · have hlk : j < ks.length := by have := HL.out; omega
      have hi : (j : Int) < (ns.length : Int) := by omega
      have hik : (j : Int) < (ks.length : Int) := by omega
      obtain ⟨bn, on, rfl, hSn, hbn, hcn⟩ := HNC.out (by omega)
      obtain ⟨bk, ok, rfl, hSk, hbk, hck⟩ := HKC.out (by omega)
      have cj := hcn j _ (List.getElem?_eq_getElem hlt)
      obtain ⟨v0, v1, v2, v3, d0, d1, d2, d3, hrk⟩ := hck j _ (List.getElem?_eq_getElem hlk)
      obtain ⟨Aj, cj', Aj', cj'', rfl, rfl, rfl, rfl⟩ := hrk.shape
      have hw := HW.out
      rw [List.drop_eq_getElem_cons hlt, List.drop_eq_getElem_cons hlk] at hw
      have hny := HSN.out _ (List.getElem_mem hlt)
      have hkw := HKW.out _ (List.getElem_mem hlk)
      generalize ns[j] = n at cj hw hny
      generalize ks[j] = kk at d0 d1 d2 d3 hrk hw hkw
      have HRK := Lib.hid hrk
      have HW := Lib.hid hw
      have HNY := Lib.hid hny
      have HKK := Lib.hid hkw
      clear hcn hck hrk HNC HKC L0 HR hw hny hkw
      go_upto_region 7 with fail
      have HE := Lib.hid (Ext.alloc' wr (.cells #[.int .u8 kk.kind, .string kk.text, .slice Aj kk.names.length cj', .slice Aj' kk.kids.length cj''] 25))
      have BK := Lib.hid (Blk.new wr 25 #[.int .u8 kk.kind, .string kk.text, .slice Aj kk.names.length cj', .slice Aj' kk.kids.length cj''])
      obtain ⟨W, hW⟩ : ∃ W, W = wr.alloc (.cells #[.int .u8 kk.kind, .string kk.text, .slice Aj kk.names.length cj', .slice Aj' kk.kids.length cj''] 25) := ⟨_, rfl⟩
      rw [← hW] at HE BK ⊢
      have L := Lib.hid (L.out.grow HE.out)
      have hwz := HE.out.size
      have cp0 : W.cell? ⟨bp, op, none⟩ = some (.string s) := (L.out.st.ext.cell (p := ⟨bp, op, none⟩) hbp).trans hp0
      have cn0 : W.cell? ⟨bn, on + j, none⟩ = some (.string n) := (L.out.st.ext.cell (p := ⟨bn, on + j, none⟩) hbn).trans cj
      obtain ⟨n0, n1, n2, n3, _⟩ := L.out.b0.cells4
      obtain ⟨x0, x1, x2, x3, _⟩ := L.out.b1.cells4
      have hzw := L.out.size
      have hz0 : w.heap.size < W.heap.size := by omega
      have hz1 : w.heap.size + 1 < W.heap.size := by omega
      have hbpW : bp < W.heap.size := by omega
      have hbnW : bn < W.heap.size := by omega
      obtain ⟨hu, hfu⟩ := up_rules W
      clear hW hcx hfx d0 d1 d2 d3 r2 r3 f2 f3 rl
      go_cut [48] (fun s48 wx => s48 = .bool false ∧ Ext W wx)
      case first =>
        refine wp_region_up0 (by kernel_rfl) (by kernel_rfl) ?_
        cases q1 : Op.bytesLess n.toList s.toList <;> cases q2 : (n.toList == s.toList)
        all_goals
          repeat (go_big_quiet_step (fail))
          refine wpQuiet_nil ?_
          rintro _ ⟨u1, rfl⟩
          go_wp2_with fail
          go_meet
          case rel => exact ⟨rfl, u1.ext⟩
      case rest =>
        obtain ⟨rfl, hxc⟩ := hcut
        have L := Lib.hid (L.out.grow hxc)
        have BK := Lib.hid (BK.out.ext hxc)
        have hz9 := hxc.size
        clear hxc n0 n1 n2 n3 x0 x1 x2 x3 cp0 cn0 hbpW hbnW hz0 hz1 hu hfu hzw
        have cp0 : wc.cell? ⟨bp, op, none⟩ = some (.string s) := (L.out.st.ext.cell (p := ⟨bp, op, none⟩) hbp).trans hp0
        have cn0 : wc.cell? ⟨bn, on + j, none⟩ = some (.string n) := (L.out.st.ext.cell (p := ⟨bn, on + j, none⟩) hbn).trans cj
        obtain ⟨n0, n1, n2, n3, _⟩ := L.out.b0.cells4
        have hzc := L.out.size
        have hz0 : w.heap.size < wc.heap.size := by omega
        have hbpW : bp < wc.heap.size := by omega
        have hbnW : bn < wc.heap.size := by omega
        obtain ⟨hu, hfu⟩ := up_rules wc
        go_upto_region 11 with fail
        have q2 : (n.toList == s.toList) = decide (n = s) := by rw [Bool.eq_iff_iff, beq_iff_eq, decide_eq_true_eq]; exact ⟨toList_inj, fun e => by rw [e]⟩
        refine wp_region_up0 (by kernel_rfl) (by kernel_rfl) ?_
        repeat (go_big_quiet_step (fail))
        refine wpQuiet_nil ?_
        rintro _ ⟨u1, rfl⟩
        have L := Lib.hid (L.out.grow u1.ext)
        have BK := Lib.hid (BK.out.ext u1.ext)
        have hzu := u1.ext.size
        obtain ⟨W1, hW1⟩ : ∃ W1, W1 = u1.val := ⟨_, rfl⟩
        rw [← hW1] at L BK hzu ⊢
        clear hW1 u1 hu hfu n0 n1 n2 n3 cp0 cn0 hbpW hbnW hz0 q2
        go_upto_if 71 with fail
        go_cut [] (fun wx => ∃ (kk1 : N) (v0 v1 v2 v3 : Value) (S2 : Nat → Prop), LSt (B + 1) (d + (dx + 1)) S w wx T #[.int .u8 k, .string tx, .slice (some ⟨bn, on, none⟩) ns.length cn, .slice (some ⟨bk, ok, none⟩) ks.length ck] #[.int .u8 x.kind, .string x.text, .slice Ax x.names.length cx, .slice Ax' x.kids.length cx'] k j j A c A' c' pN pK ∧ Blk wx wr.heap.size 25 #[v0, v1, v2, v3] ∧ Rep (B + 1) S2 wx (d + (dx + 1)) kk1 (.agg #[v0, v1, v2, v3]) ∧ Beside S2 S w.heap.size wx A j c A' j c' ∧
          withLN x false s (fun k => withN k (a :: r) x) false ns ks = (pN ++ n :: (withLN x false s (fun k => withN k (a :: r) x) false (ns.drop (j + 1)) (ks.drop (j + 1))).1, pK ++ kk1 :: (withLN x false s (fun k => withN k (a :: r) x) false (ns.drop (j + 1)) (ks.drop (j + 1))).2))
        case first =>
          cases hns : decide (n = s)
          · go_wp2_with fail
            go_meet
            case rel =>
              refine ⟨kk, _, _, _, _, S, L.out, BK.out, ((HRK.out.wideB (by omega)).ext L.out.st.ext).mono (by omega), fun b hb => ?_, ?_⟩
              · have hb' := HS.out b hb
                have hzl := L.out.size
                exact ⟨.inl hb, by omega, fun e => by have := L.out.n4 e; omega, fun e => by have := L.out.k4 e; omega⟩
              · rw [HW.out, withJ (by simpa using hns)]
          · have hns' : n = s := by simpa using hns
            subst hns'
            have HWE := Lib.hid (HW.out.trans (by rw [withI]))
            cases d with
            | zero => exact HRK.out.elim
            | succ d =>
            have HX1 := Lib.hid (show Ext w W1.drew from L.out.st.ext.trans' ⟨rfl, rfl, rfl, Nat.le_refl _, fun _ _ => rfl⟩)
            have hzd := L.out.size
            have HSd := Lib.hid (show ∀ b, S b → b < W1.drew.heap.size from fun b hb => by have := HS.out b hb; show b < W1.heap.size; omega)
            obtain ⟨x0, x1, x2, x3, _⟩ := L.out.b1.cells4
            obtain ⟨k0, k1, k2, k3, _⟩ := BK.out.cells4
            have kl := BK.out.lt
            have hz1 : w.heap.size + 1 < W1.heap.size := by omega
            go_upto_region 13 with fail
            refine wp_region_still_tail 4 (by kernel_rfl) (by kernel_rfl) ?_
            simp only [List.take_succ_cons, List.take_zero, List.drop_succ_cons, List.drop_zero]
            change wpStill _ _ W1.drew _ _ _
            still_step
            still_step
            still_step
            still_step
            refine wpStill_nil ?_
            change wpList _ _ _ _ _ W1.drew
            go_wp2_with fail
            refine (IH.out d _ kk _ _ (List.cons_ne_nil _ _) HSd.out HKK.out (HRK.out.ext HX1.out) (HXR.out.ext HX1.out) (HPT.out.ext HX1.out)).mono ?_
            rintro e w4 ⟨A4, c4, A4', c4', rfl, hx4, hr4⟩
            have HX4 := Lib.hid hx4
            have HR4 := Lib.hid hr4
            have BK4 := Lib.hid (BK.out.ext (show Ext W1 w4 from ⟨hx4.os, hx4.tape, hx4.output, hx4.size, hx4.block⟩))
            obtain ⟨p0, p1, p2, p3, f0, f1, f2, f3⟩ := BK4.out.cells4
            have pl4 := BK4.out.lt
            clear hx4 hr4
            all_goals
              go_wp2_with fail
              go_meet
              case rel =>
                have hx4 : Ext W1 w4 := ⟨HX4.out.os, HX4.out.tape, HX4.out.output, HX4.out.size, HX4.out.block⟩
                have hzw : w.heap.size + 4 ≤ wr.heap.size := hzx
                have hr5 : Rep (B + 1) (fun b => S b ∨ W1.heap.size ≤ b) (set4 w4 wr.heap.size (.int .u8 (withN kk (a :: r) x).kind) (.string (withN kk (a :: r) x).text) (.slice A4 (withN kk (a :: r) x).names.length c4) (.slice A4' (withN kk (a :: r) x).kids.length c4')) (d + 1 + (dx + 1)) (withN kk (a :: r) x) (.agg #[.int .u8 (withN kk (a :: r) x).kind, .string (withN kk (a :: r) x).text, .slice A4 (withN kk (a :: r) x).names.length c4, .slice A4' (withN kk (a :: r) x).kids.length c4']) := by
                  refine Rep.mono (by omega) (Rep.keep (by rw [size_set4]; exact Nat.le_refl _) (fun b hb _ => heap_set4 _ _ _ _ _ _ ?_) (fun _ h _ => h) _ _ _ HR4.out)
                  rcases hb with hb | hb
                  · have := HS.out b hb; omega
                  · have : W1.heap.size ≤ b := hb
                    omega
                obtain ⟨hb5, hr6⟩ := L.out.beside HS.out hr5
                refine ⟨withN kk (a :: r) x, _, _, _, _, _, (L.out.grow hx4).box hzw HTL.out (fun e => by have := HNL.out _ e; omega) (fun e => by have := HKB.out _ e; omega) _ _ _ _, BK4.out.set4 _ _ _ _, hr6, hb5, HWE.out⟩
        case rest =>
          obtain ⟨kk1, v0, v1, v2, v3, S2, hL1, hbk1, hr1, hbs, he⟩ := hcut
          obtain ⟨A7, c7, A7', c7', rfl, rfl, rfl, rfl⟩ := hr1.shape
          have L1 := Lib.hid hL1
          have BK := Lib.hid hbk1
          have R1 := Lib.hid hr1
          have BS := Lib.hid hbs
          have HE2 := Lib.hid he
          clear hL1 hbk1 hr1 hbs he L
          obtain ⟨W2, hW2⟩ : ∃ W2, W2 = wc := ⟨_, rfl⟩
          subst hW2
          have hzc := L1.out.size
          have cn0 : W2.cell? ⟨bn, on + j, none⟩ = some (.string n) := (L1.out.st.ext.cell (p := ⟨bn, on + j, none⟩) hbn).trans cj
          obtain ⟨n0, n1, n2, n3, _⟩ := L1.out.b0.cells4
          obtain ⟨r2, r3, f2, f3, rl⟩ := L1.out.cells
          have hz0 : w.heap.size < W2.heap.size := by omega
          have hbnW : bn < W2.heap.size := by omega
          have L4 := Lib.hid (L1.out.grow (Ext.allocDrew W2 (.cells #[.string n] 9)))
          have BK4 := Lib.hid (BK.out.ext (Ext.allocDrew W2 (.cells #[.string n] 9)))
          have R4 := Lib.hid (R1.out.ext (Ext.allocDrew W2 (.cells #[.string n] 9)))
          have BS4 := Lib.hid (BS.out.mono (Ext.allocDrew W2 (.cells #[.string n] 9)).size)
          go_upto_region 14 with fail
          go_region_law
            ((refine stepAH rfl (.tmp 81) (.tmp 87) 22 rfl (w.heap.size + 4) 9 i1 _ 1 16 Try.underlying22 HI1.out HY1.out HY2.out HY3.out rfl (by omega) (.slice A j c) j _ rfl L4.out.nrow (some ⟨W2.heap.size, 0, none⟩) 1 1 [_] rfl rfl (fun _ => ⟨_, rfl, cells1_new rfl _ _⟩) (by simp [Value.oneCell']) (by simp only [maxLen]; omega) (by omega) (by have := L4.out.size; omega) ?_
              intro v' w3 ho hg hat
              obtain ⟨A3, c3, rfl⟩ := ownsRow_form ho
              obtain ⟨g2, g2', gl⟩ := L4.out.midN hg
              have L3 := Lib.hid (L4.out.pushN HS.out ho hg hat)
              have B3 := Lib.hid ((BK4.out.grown hg (L4.out.nBlk BK4.out)).far (p := ⟨w.heap.size + 3, 2, none⟩) (by simp; omega) (.slice A3 (j + 1) c3))
              have RB3 := Lib.hid (L4.out.aside HS.out BS4.out R4.out hg hat)
              clear ho hg hat))
          all_goals
            obtain ⟨W3, hW3⟩ : ∃ W3, W3 = w3.setCell ⟨w.heap.size + 1 + 1 + 1, 2, none⟩ (.slice A3 (j + 1) c3) := ⟨_, rfl⟩
            have L3 : Hid (LSt (B + 1) (d + (dx + 1)) S w W3 T #[.int .u8 k, .string tx, .slice (some ⟨bn, on, none⟩) ns.length cn, .slice (some ⟨bk, ok, none⟩) ks.length ck] #[.int .u8 x.kind, .string x.text, .slice Ax x.names.length cx, .slice Ax' x.kids.length cx'] k (j + 1) j A3 c3 A' c' (pN ++ [n]) pK) := Lib.hid (by rw [hW3]; exact L3.out)
            have B3 : Hid (Blk W3 wr.heap.size 25 #[.int .u8 kk1.kind, .string kk1.text, .slice A7 kk1.names.length c7, .slice A7' kk1.kids.length c7']) := Lib.hid (by rw [hW3]; exact B3.out)
            have R3 : Hid (Rep (B + 1) S2 W3 (d + (dx + 1)) kk1 (.agg #[.int .u8 kk1.kind, .string kk1.text, .slice A7 kk1.names.length c7, .slice A7' kk1.kids.length c7'])) := Lib.hid (by rw [hW3]; exact RB3.out.1)
            have BS3 : Hid (Beside S2 S w.heap.size W3 A3 (j + 1) c3 A' j c') := Lib.hid (by rw [hW3]; exact RB3.out.2)
            rw [← hW3]
            clear hW3 n0 n1 n2 n3 r2 r3 f2 f3 rl g2 g2' gl cn0 hz0 hbnW RB3
            obtain ⟨k0, k1, k2, k3, _⟩ := B3.out.cells4
            have kl := B3.out.lt
            obtain ⟨r2, r3, f2, f3, rl⟩ := L3.out.cells
            have hz3 := L3.out.size
            have L5 := Lib.hid (L3.out.grow (Ext.alloc' W3 (.cells #[.int .u8 kk1.kind, .string kk1.text, .slice A7 kk1.names.length c7, .slice A7' kk1.kids.length c7'] 25)))
            obtain ⟨xs, hxs⟩ := L5.out.krow
            have HXS := Lib.hid hxs
            clear hxs
            go_wp2_with (at_builtin; refine wpList_app _ rfl (.tmp 91) (.tmp 93) _ rfl (w.heap.size + 4) 25 i4 _ 4 72 Try.underlying23 HI4.out HZ1.out HZ2.out HZ3.out rfl (by omega) (.slice A' j c') j xs rfl HXS.out (some ⟨W3.heap.size, 0, none⟩) 1 1 [_, _, _, _] rfl rfl (fun _ => ⟨_, rfl, cells4_new _ _ _ _ _ _⟩) (by simp [Value.oneCell']) (by simp only [maxLen]; omega) (by omega) (by have := L5.out.size; omega) ?_; intro v' w5 ho hg hat; obtain ⟨A5, c5, rfl⟩ := ownsRow_form ho; obtain ⟨h2, h2', hl⟩ := L5.out.midK hg; obtain ⟨T5, l6⟩ := L5.out.pushK HS.out BS3.out.three (R3.out.ext (Ext.alloc' W3 (.cells #[.int .u8 kk1.kind, .string kk1.text, .slice A7 kk1.names.length c7, .slice A7' kk1.kids.length c7'] 25))) HXS.out ho hg hat; have L6 := Lib.hid l6; clear ho hg hat l6)
            go_roundw
            case rel =>
              refine ⟨j + 1, T5, A3, c3, A5, c5, pN ++ [n], pK ++ [kk1], by omega, by go_num, rfl, L6.out, fun y hy => ?_, ?_⟩
              · rcases List.mem_append.1 hy with hy | hy
                · exact HPS.out y hy
                · rw [List.mem_singleton.1 hy]; exact HNY.out
              · rw [HE2.out]
                simp
            case measure => simp [intOf]; omega
    · have hjn : j = ns.length := by omega
      subst hjn
      have hi : ¬ (ns.length : Int) < (ns.length : Int) := by omega
      have hw := HW.out
      rw [List.drop_eq_nil_of_le (Nat.le_refl _), List.drop_eq_nil_of_le (by have := HL.out; omega), withK] at hw
      have HWZ := Lib.hid hw
      have hLK := HL.out
      have HFF : Hid (∀ b, w.heap.size ≤ b → ¬ S b) := Lib.hid fun b hb hs => by have := HS.out b hs; omega
      clear hw L0 HR hcx hfx
      obtain ⟨y0, y1, y2, y3, y4, y5, y6, y7⟩ := L.out.b2.cells4
      have yl := L.out.b2.lt
      obtain ⟨z0, z1, z2, z3, _⟩ := L.out.b3.cells4
      have LK := Lib.hid hLK
      clear hLK
      go_wp2_with fail
      refine bodyPost_ret (results_cell rfl _ _ _ _ _ _ _ rfl (L.out.b2.set4 _ _ _ _)) rfl ?_
      refine L.out.fin (by have := LK.out; omega) (by have := LK.out; omega) HPS.out HFF.out ?_
      show N.mk k _ (withLN x (decide (a :: r = [])) s (fun k => withN k (a :: r) x) false ns ks).1 (withLN x (decide (a :: r = [])) s (fun k => withN k (a :: r) x) false ns ks).2 = _
      rw [decide_eq_false (List.cons_ne_nil _ _), HWZ.out]
      simp

theorem with_any {B Bp d dx : Nat} {S Sp : Nat → Prop} {w : World} {t x : N} {v xv pv : Value} {p : List ByteArray} (hB : B + 1 ≤ 2199023255552) (hS : ∀ b, S b → b < w.heap.size) (hw : t.well = true) (hr : Rep B S w (d + 1) t v) (hxr : Rep B S w (dx + 1) x xv) (hpn : p ≠ []) (hp : Strs Bp Sp w pv p) :
    Calls Try.prog 110 #[v, pv, xv] w (ChgPost (B + 1) S (d + (dx + 1) + 1) (withN t p x) w) := with_any' hB p d w t v pv hpn hS hw hr hxr hp
end Go.Proofs.Ytocndkhgopjhhaa
