/- touchstoneref07.With at a place of one name. -/
import Derived.Test.YtocndkhgopjhhaaProg
import Derived.Test.YtocndkhgopjhhaaLst
import Derived.Test.YtocndkhgopjhhaaTAt
import Derived.Test.YtocndkhgopjhhaaChange
import Derived.Test.YtocndkhgopjhhaaBase
import Derived.Test.YtocndkhgopjhhaaStepA
import Derived.Deep.DeepCutAuto
import Derived.Deep.RegionLaw
import Derived.Outline
namespace Go.Proofs.Ytocndkhgopjhhaa
open Go.RowKit

set_option maxRecDepth 100000 in
set_option maxHeartbeats 8000000 in
theorem with_one {B Bp d dx : Nat} {S Sp : Nat → Prop} {w : World} {t x : N} {v xv pv : Value} {s : ByteArray} (hB : B + 1 ≤ 2199023255552) (hS : ∀ b, S b → b < w.heap.size) (hl : t.names.length = t.kids.length) (hr : Rep B S w (d + 1) t v) (hxr : Rep B S w (dx + 1) x xv) (hp : Strs Bp Sp w pv [s]) :
    Calls Try.prog 110 #[v, pv, xv] w (ChgPost (B + 1) S (d + (dx + 1) + 1) (withN t [s] x) w) := by
  obtain ⟨i1, hi1, hy1, hy2, hy3⟩ := info_parts string_info
  obtain ⟨i4, hi4, hz1, hz2, hz3⟩ := info_parts node_info
  have HI1 := Lib.hid hi1
  have HY1 := Lib.hid hy1
  have HY2 := Lib.hid hy2
  have HY3 := Lib.hid hy3
  have HI4 := Lib.hid hi4
  have HZ1 := Lib.hid hz1
  have HZ2 := Lib.hid hz2
  have HZ3 := Lib.hid hz3
  clear hi1 hy1 hy2 hy3 hi4 hz1 hz2 hz3
  obtain ⟨k, tx, ns, ks⟩ := t
  replace hl : ns.length = ks.length := hl
  have HS := Lib.hid hS
  have HXR := Lib.hid hxr
  obtain ⟨nv, kv, rfl, _, hn, hk⟩ := hr.split
  have HR := Lib.hid hr
  obtain ⟨Ax, cx, Ax', cx', rfl⟩ := hxr.agg
  obtain ⟨An, cn, rfl, hcn, hmn, hBn, hsn, hnc⟩ := hn
  obtain ⟨Ak, ck, rfl, hck, hmk, hBk, hkc⟩ := hk
  obtain ⟨Ap, cp, rfl, hcp, hmp, hBp, hsp, hpc⟩ := hp
  obtain ⟨bp, op, rfl, _, hbp, hpc⟩ := hpc (by simp)
  have hp0 : w.cell? ⟨bp, op, none⟩ = some (.string s) := by simpa using hpc 0 s rfl
  have hsm : s.size ≤ maxLen := hsp s (by simp)
  have HSM := Lib.hid hsm
  have HSN := Lib.hid hsn
  have HNC := Lib.hid hnc
  have HKC := Lib.hid hkc
  have hBn2 : ns.length ≤ 2199023255552 := by omega
  have L0 : Hid (LSt (B + 1) (d + (dx + 1)) S w ((((w.alloc (.cells #[.int .u8 k, .string tx, .slice An ns.length cn, .slice Ak ks.length ck] 25)).alloc (.cells #[.int .u8 x.kind, .string x.text, .slice Ax x.names.length cx, .slice Ax' x.kids.length cx'] 25)).alloc (.cells #[.int .u8 0, .string { data := #[] }, .slice none 0 0, .slice none 0 0] 25)).alloc (.cells #[.int .u8 k, .string { data := #[] }, .slice none 0 0, .slice none 0 0] 25)) (fun _ => False)
      #[.int .u8 k, .string tx, .slice An ns.length cn, .slice Ak ks.length ck] #[.int .u8 x.kind, .string x.text, .slice Ax x.names.length cx, .slice Ax' x.kids.length cx'] k 0 0 none 0 none 0 [] []) :=
    Lib.hid ⟨WSt.start ((((Ext.alloc' _ _).trans' (Ext.alloc' _ _)).trans' (Ext.alloc' _ _)).trans' (Ext.alloc' _ _)), (((Blk.new _ _ _).alloc _).alloc _).alloc _, ((Blk.new' _ _ _ (by simp)).alloc _).alloc _, (Blk.new' _ _ _ (by simp)).alloc _, Blk.new' _ _ _ (by simp), rfl, rfl⟩
  have HL := Lib.hid hl
  have HLN := Lib.hid hpc
  clear hl HLN
  clear hr hxr hsp hcp hmp hBp hsn hnc hkc hBn hS hsm hcn hck
  unfold maxLen at hmn hmk
  go_enter Try.func110, Try.ntmps110
  go_wp2_with fail
  go_loopw [8, 9] (fun dn i wr => ∃ (j m : Nat) (bd : Bool) (T : Nat → Prop) (A : Option Addr) (c : Nat) (A' : Option Addr) (c' : Nat) (pN : List ByteArray) (pK : List N), j ≤ ns.length ∧ i = .int .i64 j ∧ dn = .bool bd ∧
      LSt (B + 1) (d + (dx + 1)) S w wr T #[.int .u8 k, .string tx, .slice An ns.length cn, .slice Ak ks.length ck] #[.int .u8 x.kind, .string x.text, .slice Ax x.names.length cx, .slice Ax' x.kids.length cx'] k m m A c A' c' pN pK ∧ m ≤ j + bd.toNat ∧ (∀ y ∈ pN, y.size ≤ maxLen) ∧
      withLN x true s (fun k => withN k [] x) false ns ks = (pN ++ (withLN x true s (fun k => withN k [] x) bd (ns.drop j) (ks.drop j)).1, pK ++ (withLN x true s (fun k => withN k [] x) bd (ns.drop j) (ks.drop j)).2)) (fun _ i _ => ns.length - (intOf i).toNat)
  case atStart => exact ⟨0, 0, false, _, none, 0, none, 0, [], [], Nat.zero_le _, rfl, rfl, L0.out, Nat.le_refl _, by simp, rfl⟩
  case round =>
    obtain ⟨j, m, bd, T, A, c, A', c', pN, pK, hj, rfl, rfl, hL, hm, hps, hw⟩ := hrel
    have L := Lib.hid hL
    have HPS := Lib.hid hps
    have HW := Lib.hid hw
    have hX := hL.st.ext
    obtain ⟨hcx, hfx⟩ := hX.rules
    have hzx := hL.size
    obtain ⟨r2, r3, f2, f3, rl⟩ := hL.cells
    obtain ⟨n0, n1, n2, n3, _⟩ := hL.b0.cells4
    obtain ⟨x0, x1, x2, x3, _⟩ := hL.b1.cells4
    obtain ⟨hu, hfu⟩ := up_rules wr
    have hmB : m ≤ 2199023255553 := by have : bd.toNat ≤ 1 := Bool.toNat_le bd; omega
    have HKB := Lib.hid (fun g (e : (Value.slice A' m c').ownBlock = some g) => (hL.st.klt e).2)
    clear hL hps hw
    by_cases hlt : j < ns.length
    · have hlk : j < ks.length := by have := HL.out; omega
      have hi : (j : Int) < (ns.length : Int) := by omega
      have hik : (j : Int) < (ks.length : Int) := by omega
      obtain ⟨bn, on, rfl, hSn, hbn, hcn⟩ := HNC.out (by omega)
      obtain ⟨bk, ok, rfl, hSk, hbk, hck⟩ := HKC.out (by omega)
      have cj := hcn j _ (List.getElem?_eq_getElem hlt)
      obtain ⟨v0, v1, v2, v3, d0, d1, d2, d3, hrk⟩ := hck j _ (List.getElem?_eq_getElem hlk)
      obtain ⟨Aj, cj', Aj', cj'', rfl, rfl, rfl, rfl⟩ := hrk.shape
      have hw := HW.out
      rw [List.drop_eq_getElem_cons hlt, List.drop_eq_getElem_cons hlk] at hw
      have hny := HSN.out _ (List.getElem_mem hlt)
      generalize ns[j] = n at cj hw hny
      generalize ks[j] = kk at d0 d1 d2 d3 hrk hw
      have HRK := Lib.hid hrk
      have HW := Lib.hid hw
      have HNY := Lib.hid hny
      clear hcn hck hrk HNC HKC L0 HR hw hny
      go_upto_region 7 with fail
      have HE := Lib.hid (Ext.alloc' wr (.cells #[.int .u8 kk.kind, .string kk.text, .slice Aj kk.names.length cj', .slice Aj' kk.kids.length cj''] 25))
      have BK := Lib.hid (Blk.new wr 25 #[.int .u8 kk.kind, .string kk.text, .slice Aj kk.names.length cj', .slice Aj' kk.kids.length cj''])
      obtain ⟨W, hW⟩ : ∃ W, W = wr.alloc (.cells #[.int .u8 kk.kind, .string kk.text, .slice Aj kk.names.length cj', .slice Aj' kk.kids.length cj''] 25) := ⟨_, rfl⟩
      rw [← hW] at HE BK ⊢
      have L := Lib.hid (L.out.grow HE.out)
      have hwz := HE.out.size
      have cp0 : W.cell? ⟨bp, op, none⟩ = some (.string s) := (L.out.st.ext.cell (p := ⟨bp, op, none⟩) hbp).trans hp0
      have cn0 : W.cell? ⟨bn, on + j, none⟩ = some (.string n) := (L.out.st.ext.cell (p := ⟨bn, on + j, none⟩) hbn).trans cj
      obtain ⟨n0, n1, n2, n3, _⟩ := L.out.b0.cells4
      obtain ⟨x0, x1, x2, x3, _⟩ := L.out.b1.cells4
      have hzw := L.out.size
      have hz0 : w.heap.size < W.heap.size := by omega
      have hz1 : w.heap.size + 1 < W.heap.size := by omega
      have hbpW : bp < W.heap.size := by omega
      have hbnW : bn < W.heap.size := by omega
      obtain ⟨hu, hfu⟩ := up_rules W
      clear hW hcx hfx d0 d1 d2 d3 r2 r3 f2 f3 rl
      go_cut [48] (fun s48 wx => s48 = .bool (ltS s n && !bd && decide (x.kind ≠ 0)) ∧ Ext W wx)
      case first =>
        refine wp_region_up0 (by kernel_rfl) (by kernel_rfl) ?_
        have q1 : Op.bytesLess n.toList s.toList = ltS n s := rfl
        have q2 : (n.toList == s.toList) = decide (n = s) := by rw [Bool.eq_iff_iff, beq_iff_eq, decide_eq_true_eq]; exact ⟨toList_inj, fun e => by rw [e]⟩
        rcases ltS_tri s n with h | h | h
        · rw [ltS_asymm h] at q1
          rw [decide_eq_false (ltS_ne h)] at q2
          have q4 := Lib.hid h
          clear h
          cases bd <;> cases q3 : (x.kind != 0)
          all_goals
            repeat (go_big_quiet_step (fail))
            refine wpQuiet_nil ?_
            rintro _ ⟨u1, rfl⟩
            go_wp2_with fail
            go_meet
            case rel =>
              rw [q4.out]
              refine ⟨?_, u1.ext⟩
              simp at q3
              simp [q3]
        · subst h
          rw [ltS_irrefl] at q1
          rw [decide_eq_true rfl] at q2
          repeat (go_big_quiet_step (fail))
          refine wpQuiet_nil ?_
          rintro _ ⟨u1, rfl⟩
          go_wp2_with fail
          go_meet
          case rel =>
            rw [ltS_irrefl]
            exact ⟨rfl, u1.ext⟩
        · rw [h] at q1
          rw [decide_eq_false (fun e => ltS_ne h e.symm)] at q2
          have q4 := Lib.hid h
          clear h
          repeat (go_big_quiet_step (fail))
          refine wpQuiet_nil ?_
          rintro _ ⟨u1, rfl⟩
          go_wp2_with fail
          go_meet
          case rel =>
            rw [ltS_asymm q4.out]
            exact ⟨rfl, u1.ext⟩
      case rest =>
        obtain ⟨rfl, hxc⟩ := hcut
        have L := Lib.hid (L.out.grow hxc)
        have BK := Lib.hid (BK.out.ext hxc)
        have hz9 := hxc.size
        clear hxc n0 n1 n2 n3 x0 x1 x2 x3 cp0 cn0 hbpW hbnW hz0 hz1 hu hfu hzw
        obtain ⟨W1, hW1⟩ : ∃ W1, W1 = wc := ⟨_, rfl⟩
        subst hW1
        go_upto_if 48 with fail
        go_cut [8] (fun s8 wx => ∃ (b1 : Bool) (m1 : Nat) (T1 : Nat → Prop) (A1 : Option Addr) (c1 : Nat) (A1' : Option Addr) (c1' : Nat) (pN1 : List ByteArray) (pK1 : List N), s8 = .bool b1 ∧ LSt (B + 1) (d + (dx + 1)) S w wx T1 #[.int .u8 k, .string tx, .slice (some ⟨bn, on, none⟩) ns.length cn, .slice (some ⟨bk, ok, none⟩) ks.length ck] #[.int .u8 x.kind, .string x.text, .slice Ax x.names.length cx, .slice Ax' x.kids.length cx'] k m1 m1 A1 c1 A1' c1' pN1 pK1 ∧
        Blk wx wr.heap.size 25 #[.int .u8 kk.kind, .string kk.text, .slice Aj kk.names.length cj', .slice Aj' kk.kids.length cj''] ∧ m1 ≤ j + b1.toNat ∧ (∀ y ∈ pN1, y.size ≤ maxLen) ∧ (n = s → withLN x true s (fun k => withN k [] x) false ns ks = (pN1 ++ (withLN x true s (fun k => withN k [] x) b1 (ns.drop (j + 1)) (ks.drop (j + 1))).1, pK1 ++ (withLN x true s (fun k => withN k [] x) b1 (ns.drop (j + 1)) (ks.drop (j + 1))).2)) ∧
        (n ≠ s → withLN x true s (fun k => withN k [] x) false ns ks = (pN1 ++ n :: (withLN x true s (fun k => withN k [] x) b1 (ns.drop (j + 1)) (ks.drop (j + 1))).1, pK1 ++ kk :: (withLN x true s (fun k => withN k [] x) b1 (ns.drop (j + 1)) (ks.drop (j + 1))).2)))
        case first =>
          have cp0 : W1.cell? ⟨bp, op, none⟩ = some (.string s) := (L.out.st.ext.cell (p := ⟨bp, op, none⟩) hbp).trans hp0
          obtain ⟨x0, x1, x2, x3, _⟩ := L.out.b1.cells4
          obtain ⟨r2, r3, f2, f3, rl⟩ := L.out.cells
          have hz1 : w.heap.size + 1 < W1.heap.size := by omega
          have hbpW : bp < W1.heap.size := by omega
          cases hins : (ltS s n && !bd && decide (x.kind ≠ 0))
          · go_wp2_with fail
            go_meet
            case rel =>
              refine ⟨bd, m, T, A, c, A', c', pN, pK, rfl, L.out, BK.out, hm, HPS.out, fun e => ?_, fun e => ?_⟩
              · rw [HW.out, e, withB]
              · rw [HW.out, withC e hins]
          · have hin := hins
            simp only [Bool.and_eq_true, Bool.not_eq_true', decide_eq_true_eq] at hin
            obtain ⟨⟨hin1, rfl⟩, hin3⟩ := hin
            have L4 := Lib.hid (L.out.grow (Ext.allocDrew W1 (.cells #[.string s] 9)))
            have BK4 := Lib.hid (BK.out.ext (Ext.allocDrew W1 (.cells #[.string s] 9)))
            go_upto_region 8 with fail
            go_region_law
              ((refine stepAH rfl (.tmp 50) (.tmp 54) 22 rfl (w.heap.size + 4) 9 i1 _ 1 16 Try.underlying22 HI1.out HY1.out HY2.out HY3.out rfl (by omega) (.slice A m c) m _ rfl L4.out.nrow (some ⟨W1.heap.size, 0, none⟩) 1 1 [_] rfl rfl (fun _ => ⟨_, rfl, cells1_new rfl _ _⟩) (by simp [Value.oneCell']) (by simp only [maxLen]; omega) (by omega) (by have := L4.out.size; omega) ?_
                intro v' w3 ho hg hat
                obtain ⟨A3, c3, rfl⟩ := ownsRow_form ho
                obtain ⟨g2, g2', gl⟩ := L4.out.midN hg
                have L3 := Lib.hid (L4.out.pushN HS.out ho hg hat)
                have B3 := Lib.hid ((BK4.out.grown hg (L4.out.nBlk BK4.out)).far (p := ⟨w.heap.size + 3, 2, none⟩) (by simp; omega) (.slice A3 (m + 1) c3))
                clear ho hg hat))
            all_goals
              obtain ⟨W3, hW3⟩ : ∃ W3, W3 = w3.setCell ⟨w.heap.size + 1 + 1 + 1, 2, none⟩ (.slice A3 (m + 1) c3) := ⟨_, rfl⟩
              have L3 : Hid (LSt (B + 1) (d + (dx + 1)) S w W3 T #[.int .u8 k, .string tx, .slice (some ⟨bn, on, none⟩) ns.length cn, .slice (some ⟨bk, ok, none⟩) ks.length ck] #[.int .u8 x.kind, .string x.text, .slice Ax x.names.length cx, .slice Ax' x.kids.length cx'] k (m + 1) m A3 c3 A' c' (pN ++ [s]) pK) := Lib.hid (by rw [hW3]; exact L3.out)
              have B3 : Hid (Blk W3 wr.heap.size 25 #[.int .u8 kk.kind, .string kk.text, .slice Aj kk.names.length cj', .slice Aj' kk.kids.length cj'']) := Lib.hid (by rw [hW3]; exact B3.out)
              rw [← hW3]
              clear hW3 x0 x1 x2 x3 r2 r3 f2 f3 rl g2 g2' gl cp0
              obtain ⟨x0, x1, x2, x3, _⟩ := L3.out.b1.cells4
              obtain ⟨r2, r3, f2, f3, rl⟩ := L3.out.cells
              have hz3 := L3.out.size
              have L5 := Lib.hid (L3.out.grow (Ext.alloc' W3 (.cells #[.int .u8 x.kind, .string x.text, .slice Ax x.names.length cx, .slice Ax' x.kids.length cx'] 25)))
              obtain ⟨xs, hxs⟩ := L5.out.krow
              have HXS := Lib.hid hxs
              clear hxs
              go_wp2_with (at_builtin; refine wpList_app _ rfl (.tmp 58) (.tmp 60) _ rfl (w.heap.size + 4) 25 i4 _ 4 72 Try.underlying23 HI4.out HZ1.out HZ2.out HZ3.out rfl (by omega) (.slice A' m c') m xs rfl HXS.out (some ⟨W3.heap.size, 0, none⟩) 1 1 [_, _, _, _] rfl rfl (fun _ => ⟨_, rfl, cells4_new _ _ _ _ _ _⟩) (by simp [Value.oneCell']) (by simp only [maxLen]; omega) (by omega) (by have := L5.out.size; omega) ?_; intro v' w5 ho hg hat; obtain ⟨A5, c5, rfl⟩ := ownsRow_form ho; obtain ⟨h2, h2', hl⟩ := L5.out.midK hg; obtain ⟨T5, l6⟩ := L5.out.pushK HS.out (L5.out.sS HS.out) (((HXR.out.wideB (by omega)).ext L5.out.st.ext).mono (by omega)) HXS.out ho hg hat; have L6 := Lib.hid l6; have B6 := Lib.hid (((B3.out.ext (Ext.alloc' W3 (.cells #[.int .u8 x.kind, .string x.text, .slice Ax x.names.length cx, .slice Ax' x.kids.length cx'] 25))).grown hg (fun e => by have := HKB.out _ e.symm; omega)).far (p := ⟨w.heap.size + 3, 3, none⟩) (by simp; omega) (.slice A5 (m + 1) c5)); clear ho hg hat l6)
              go_meet
              case rel =>
                refine ⟨true, m + 1, T5, A3, c3, A5, c5, pN ++ [s], pK ++ [x], rfl, L6.out, B6.out, by simp at hm ⊢; omega, fun y hy => ?_, fun e => absurd e (ltS_ne hin1), fun e => ?_⟩
                · rcases List.mem_append.1 hy with hy | hy
                  · exact HPS.out y hy
                  · rw [List.mem_singleton.1 hy]; exact HSM.out
                · rw [HW.out, withA hin1 hin3]
                  simp
        case rest =>
          obtain ⟨b1, m1, T1, A1, c1, A1', c1', pN1, pK1, rfl, hL1, hbk1, hm1, hps1, he, hne⟩ := hcut
          have hmB1 : m1 ≤ 2199023255553 := by have : b1.toNat ≤ 1 := Bool.toNat_le b1; omega
          have L1 := Lib.hid hL1
          have BK := Lib.hid hbk1
          have HPS1 := Lib.hid hps1
          have HNE := Lib.hid hne
          have HEQ := Lib.hid he
          clear hL1 hbk1 hps1 he hne L
          have cp0 : wc.cell? ⟨bp, op, none⟩ = some (.string s) := (L1.out.st.ext.cell (p := ⟨bp, op, none⟩) hbp).trans hp0
          have cn0 : wc.cell? ⟨bn, on + j, none⟩ = some (.string n) := (L1.out.st.ext.cell (p := ⟨bn, on + j, none⟩) hbn).trans cj
          obtain ⟨n0, n1, n2, n3, _⟩ := L1.out.b0.cells4
          have hzc := L1.out.size
          have hz0 : w.heap.size < wc.heap.size := by omega
          have hbpW : bp < wc.heap.size := by omega
          have hbnW : bn < wc.heap.size := by omega
          obtain ⟨hu, hfu⟩ := up_rules wc
          go_upto_region 11 with fail
          refine wp_region_up0 (by kernel_rfl) (by kernel_rfl) ?_
          by_cases e : n = s
          · subst e
            have q2 : (n.toList == n.toList) = true := beq_self_eq_true _
            repeat (go_big_quiet_step (fail))
            refine wpQuiet_nil ?_
            rintro _ ⟨u1, rfl⟩
            go_wp2_with fail
            go_roundw
            case rel => exact ⟨j + 1, m1, b1, T1, A1, c1, A1', c1', pN1, pK1, by omega, by go_num, rfl, L1.out.grow u1.ext, by omega, HPS1.out, HEQ.out rfl⟩
            case measure => simp [intOf]; omega
          · have q2 : (n.toList == s.toList) = false := by rw [beq_eq_false_iff_ne]; exact fun h => e (toList_inj h)
            have HE2 := Lib.hid (HNE.out e)
            clear HNE HEQ
            repeat (go_big_quiet_step (fail))
            refine wpQuiet_nil ?_
            rintro _ ⟨u1, rfl⟩
            have L1 := Lib.hid (L1.out.grow u1.ext)
            have BK := Lib.hid (BK.out.ext u1.ext)
            have hzu := u1.ext.size
            obtain ⟨W2, hW2⟩ : ∃ W2, W2 = u1.val := ⟨_, rfl⟩
            rw [← hW2] at L1 BK hzu ⊢
            clear hW2 u1 hu hfu n0 n1 n2 n3 cp0 cn0 hbpW hbnW hz0
            have cn0 : W2.cell? ⟨bn, on + j, none⟩ = some (.string n) := (L1.out.st.ext.cell (p := ⟨bn, on + j, none⟩) hbn).trans cj
            obtain ⟨n0, n1, n2, n3, _⟩ := L1.out.b0.cells4
            obtain ⟨r2, r3, f2, f3, rl⟩ := L1.out.cells
            have hz0 : w.heap.size < W2.heap.size := by omega
            have hbnW : bn < W2.heap.size := by omega
            have L4 := Lib.hid (L1.out.grow (Ext.allocDrew W2 (.cells #[.string n] 9)))
            have BK4 := Lib.hid (BK.out.ext (Ext.allocDrew W2 (.cells #[.string n] 9)))
            go_upto_region 14 with fail
            go_region_law
              ((refine stepAH rfl (.tmp 81) (.tmp 87) 22 rfl (w.heap.size + 4) 9 i1 _ 1 16 Try.underlying22 HI1.out HY1.out HY2.out HY3.out rfl (by omega) (.slice A1 m1 c1) m1 _ rfl L4.out.nrow (some ⟨W2.heap.size, 0, none⟩) 1 1 [_] rfl rfl (fun _ => ⟨_, rfl, cells1_new rfl _ _⟩) (by simp [Value.oneCell']) (by simp only [maxLen]; omega) (by omega) (by have := L4.out.size; omega) ?_
                intro v' w3 ho hg hat
                obtain ⟨A3, c3, rfl⟩ := ownsRow_form ho
                obtain ⟨g2, g2', gl⟩ := L4.out.midN hg
                have L3 := Lib.hid (L4.out.pushN HS.out ho hg hat)
                have B3 := Lib.hid ((BK4.out.grown hg (L4.out.nBlk BK4.out)).far (p := ⟨w.heap.size + 3, 2, none⟩) (by simp; omega) (.slice A3 (m1 + 1) c3))
                clear ho hg hat))
            all_goals
              obtain ⟨W3, hW3⟩ : ∃ W3, W3 = w3.setCell ⟨w.heap.size + 1 + 1 + 1, 2, none⟩ (.slice A3 (m1 + 1) c3) := ⟨_, rfl⟩
              have L3 : Hid (LSt (B + 1) (d + (dx + 1)) S w W3 T1 #[.int .u8 k, .string tx, .slice (some ⟨bn, on, none⟩) ns.length cn, .slice (some ⟨bk, ok, none⟩) ks.length ck] #[.int .u8 x.kind, .string x.text, .slice Ax x.names.length cx, .slice Ax' x.kids.length cx'] k (m1 + 1) m1 A3 c3 A1' c1' (pN1 ++ [n]) pK1) := Lib.hid (by rw [hW3]; exact L3.out)
              have B3 : Hid (Blk W3 wr.heap.size 25 #[.int .u8 kk.kind, .string kk.text, .slice Aj kk.names.length cj', .slice Aj' kk.kids.length cj'']) := Lib.hid (by rw [hW3]; exact B3.out)
              rw [← hW3]
              clear hW3 n0 n1 n2 n3 r2 r3 f2 f3 rl g2 g2' gl cn0 hz0 hbnW
              obtain ⟨k0, k1, k2, k3, _⟩ := B3.out.cells4
              have kl := B3.out.lt
              obtain ⟨r2, r3, f2, f3, rl⟩ := L3.out.cells
              have hz3 := L3.out.size
              have L5 := Lib.hid (L3.out.grow (Ext.alloc' W3 (.cells #[.int .u8 kk.kind, .string kk.text, .slice Aj kk.names.length cj', .slice Aj' kk.kids.length cj''] 25)))
              obtain ⟨xs, hxs⟩ := L5.out.krow
              have HXS := Lib.hid hxs
              clear hxs
              go_wp2_with (at_builtin; refine wpList_app _ rfl (.tmp 91) (.tmp 93) _ rfl (w.heap.size + 4) 25 i4 _ 4 72 Try.underlying23 HI4.out HZ1.out HZ2.out HZ3.out rfl (by omega) (.slice A1' m1 c1') m1 xs rfl HXS.out (some ⟨W3.heap.size, 0, none⟩) 1 1 [_, _, _, _] rfl rfl (fun _ => ⟨_, rfl, cells4_new _ _ _ _ _ _⟩) (by simp [Value.oneCell']) (by simp only [maxLen]; omega) (by omega) (by have := L5.out.size; omega) ?_; intro v' w5 ho hg hat; obtain ⟨A5, c5, rfl⟩ := ownsRow_form ho; obtain ⟨h2, h2', hl⟩ := L5.out.midK hg; obtain ⟨T5, l6⟩ := L5.out.pushK HS.out (L5.out.sS HS.out) (((HRK.out.wideB (by omega)).ext L5.out.st.ext).mono (by omega)) HXS.out ho hg hat; have L6 := Lib.hid l6; clear ho hg hat l6)
              go_roundw
              case rel =>
                refine ⟨j + 1, m1 + 1, b1, T5, A3, c3, A5, c5, pN1 ++ [n], pK1 ++ [kk], by omega, by go_num, rfl, L6.out, by omega, fun y hy => ?_, ?_⟩
                · rcases List.mem_append.1 hy with hy | hy
                  · exact HPS1.out y hy
                  · rw [List.mem_singleton.1 hy]; exact HNY.out
                · rw [HE2.out]
                  simp
              case measure => simp [intOf]; omega
    · have hjn : j = ns.length := by omega
      subst hjn
      have hi : ¬ (ns.length : Int) < (ns.length : Int) := by omega
      have hw := HW.out
      rw [List.drop_eq_nil_of_le (Nat.le_refl _), List.drop_eq_nil_of_le (by have := HL.out; omega)] at hw
      have hLK := HL.out
      have HF := Lib.hid (fun b (hb : w.heap.size ≤ b) (hs : S b) => by have := HS.out b hs; omega)
      have HFF : Hid (∀ b, w.heap.size ≤ b → ¬ S b) := Lib.hid fun b hb hs => by have := HS.out b hs; omega
      clear HF L0 HR hcx hfx
      obtain ⟨y0, y1, y2, y3, y4, y5, y6, y7⟩ := L.out.b2.cells4
      have yl := L.out.b2.lt
      obtain ⟨z0, z1, z2, z3, _⟩ := L.out.b3.cells4
      cases hins : (!bd && decide (x.kind ≠ 0))
      · rw [withE' hins] at hw
        have HWZ := Lib.hid hw
        clear hw
        have hq : bd = true ∨ (bd = false ∧ (x.kind != 0) = false) := by
          cases bd
          · refine .inr ⟨rfl, ?_⟩
            simpa using hins
          · exact .inl rfl
        rcases hq with rfl | ⟨rfl, q3⟩
        all_goals
          go_wp2_with fail
          refine bodyPost_ret (results_cell rfl _ _ _ _ _ _ _ rfl (L.out.b2.set4 _ _ _ _)) rfl ?_
          refine L.out.fin (by simp at hm; omega) (by simp at hm; omega) HPS.out HFF.out ?_
          show N.mk k _ (withLN x true s (fun k => withN k [] x) false ns ks).1 (withLN x true s (fun k => withN k [] x) false ns ks).2 = _
          rw [HWZ.out]
          simp
      · rw [withE hins] at hw
        have HWZ := Lib.hid hw
        clear hw
        simp only [Bool.and_eq_true, Bool.not_eq_true', decide_eq_true_eq] at hins
        obtain ⟨rfl, hin3⟩ := hins
        have q3 : (x.kind != 0) = true := by simpa using hin3
        have cp0 : wr.cell? ⟨bp, op, none⟩ = some (.string s) := (L.out.st.ext.cell (p := ⟨bp, op, none⟩) hbp).trans hp0
        have hbpW : bp < wr.heap.size := by omega
        have L4 := Lib.hid (L.out.grow (Ext.allocDrew wr (.cells #[.string s] 9)))
        go_upto_region 17 with fail
        go_region_law
          ((refine stepAH rfl (.tmp 109) (.tmp 113) 22 rfl (w.heap.size + 4) 9 i1 _ 1 16 Try.underlying22 HI1.out HY1.out HY2.out HY3.out rfl (by omega) (.slice A m c) m _ rfl L4.out.nrow (some ⟨wr.heap.size, 0, none⟩) 1 1 [_] rfl rfl (fun _ => ⟨_, rfl, cells1_new rfl _ _⟩) (by simp [Value.oneCell']) (by simp only [maxLen]; omega) (by omega) (by have := L4.out.size; omega) ?_
            intro v' w3 ho hg hat
            obtain ⟨A3, c3, rfl⟩ := ownsRow_form ho
            obtain ⟨g2, g2', gl⟩ := L4.out.midN hg
            have L3 := Lib.hid (L4.out.pushN HS.out ho hg hat)
            clear ho hg hat))
        all_goals
          obtain ⟨W3, hW3⟩ : ∃ W3, W3 = w3.setCell ⟨w.heap.size + 1 + 1 + 1, 2, none⟩ (.slice A3 (m + 1) c3) := ⟨_, rfl⟩
          have L3 : Hid (LSt (B + 1) (d + (dx + 1)) S w W3 T #[.int .u8 k, .string tx, .slice An ns.length cn, .slice Ak ks.length ck] #[.int .u8 x.kind, .string x.text, .slice Ax x.names.length cx, .slice Ax' x.kids.length cx'] k (m + 1) m A3 c3 A' c' (pN ++ [s]) pK) := Lib.hid (by rw [hW3]; exact L3.out)
          rw [← hW3]
          clear hW3 n0 n1 n2 n3 x0 x1 x2 x3 r2 r3 f2 f3 rl g2 g2' gl cp0 hbpW y0 y1 y2 y3 y4 y5 y6 y7 yl z0 z1 z2 z3 hu hfu
          obtain ⟨x0, x1, x2, x3, _⟩ := L3.out.b1.cells4
          obtain ⟨r2, r3, f2, f3, rl⟩ := L3.out.cells
          have hz3 := L3.out.size
          have L5 := Lib.hid (L3.out.grow (Ext.alloc' W3 (.cells #[.int .u8 x.kind, .string x.text, .slice Ax x.names.length cx, .slice Ax' x.kids.length cx'] 25)))
          obtain ⟨xs, hxs⟩ := L5.out.krow
          have HXS := Lib.hid hxs
          clear hxs
          go_wp2_with (at_builtin; refine wpList_app _ rfl (.tmp 117) (.tmp 119) _ rfl (w.heap.size + 4) 25 i4 _ 4 72 Try.underlying23 HI4.out HZ1.out HZ2.out HZ3.out rfl (by omega) (.slice A' m c') m xs rfl HXS.out (some ⟨W3.heap.size, 0, none⟩) 1 1 [_, _, _, _] rfl rfl (fun _ => ⟨_, rfl, cells4_new _ _ _ _ _ _⟩) (by simp [Value.oneCell']) (by simp only [maxLen]; omega) (by omega) (by have := L5.out.size; omega) ?_; intro v' w5 ho hg hat; obtain ⟨A5, c5, rfl⟩ := ownsRow_form ho; obtain ⟨h2, h2', hl⟩ := L5.out.midK hg; obtain ⟨T5, l6⟩ := L5.out.pushK HS.out (L5.out.sS HS.out) (((HXR.out.wideB (by omega)).ext L5.out.st.ext).mono (by omega)) HXS.out ho hg hat; have L6 := Lib.hid l6; obtain ⟨z0, z1, z2, z3, _⟩ := l6.b3.cells4; obtain ⟨y0, y1, y2, y3, y4, y5, y6, y7⟩ := l6.b2.cells4; have yl := l6.b2.lt; clear ho hg hat l6)
          refine bodyPost_ret (results_cell rfl _ _ _ _ _ _ _ rfl (L6.out.b2.set4 _ _ _ _)) rfl ?_
          refine L6.out.fin (by simp at hm; omega) (by simp at hm; omega) (fun y hy => ?_) HFF.out ?_
          · rcases List.mem_append.1 hy with hy | hy
            · exact HPS.out y hy
            · rw [List.mem_singleton.1 hy]; exact HSM.out
          · show N.mk k _ (withLN x true s (fun k => withN k [] x) false ns ks).1 (withLN x true s (fun k => withN k [] x) false ns ks).2 = _
            rw [HWZ.out]
end Go.Proofs.Ytocndkhgopjhhaa
