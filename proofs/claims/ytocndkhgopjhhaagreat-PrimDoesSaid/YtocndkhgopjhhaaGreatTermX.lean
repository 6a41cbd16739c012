/- touchstoneref07.with on terms that are made whole. -/
import Derived.Test.YtocndkhgopjhhaaGreatProg
import Derived.Test.YtocndkhgopjhhaaGreatTermW
import Derived.Deep.DeepCutAuto
import Derived.Deep.RegionLaw
import Derived.StillTailTactics
namespace Go.Proofs.YtocndkhgopjhhaaGreat
open Go.RowKit

theorem Ext.allocDrewT (w : World) (o : Obj) : Ext w (w.alloc o).drew := (Ext.alloc' w o).trans' (Below.drew (Below.refl _ _))

section
variable {x n kk : N} {s y : ByteArray} {ns : List ByteArray} {ks : List N} {bd : Bool}
theorem tw_skip (h : (!ltS s s && !bd) = false) : withTL x s bd (s :: ns) (kk :: ks) = withTL x s bd ns ks := by
  rw [withTL, if_neg (by rw [h]; simp), if_pos rfl]
theorem tw_keep (h : (!ltS y s && !bd) = false) (e : y ≠ s) : withTL x s bd (y :: ns) (kk :: ks) = (y :: (withTL x s bd ns ks).1, kk :: (withTL x s bd ns ks).2) := by
  rw [withTL, if_neg (by rw [h]; simp), if_neg e]
theorem tw_over (h : (!ltS s s && !bd) = true) : withTL x s bd (s :: ns) (kk :: ks) = (s :: (withTL x s true ns ks).1, x :: (withTL x s true ns ks).2) := by
  rw [withTL, if_pos h, if_pos rfl]
theorem tw_ins (h : (!ltS y s && !bd) = true) (e : y ≠ s) : withTL x s bd (y :: ns) (kk :: ks) = (s :: y :: (withTL x s true ns ks).1, x :: kk :: (withTL x s true ns ks).2) := by
  rw [withTL, if_pos h, if_neg e]
theorem tw_end : withTL x s bd [] [] = if bd = true then ([], []) else ([s], [x]) := by
  rw [withTL]
  intros; simp_all
end

set_option maxRecDepth 100000 in
set_option maxHeartbeats 8000000 in
theorem twith_any {B d dx : Nat} {S : Nat → Prop} {w : World} {t x : N} {tv xv : Value} {s : ByteArray} (hB : B + 1 ≤ 2199023255552) (hS : ∀ b, S b → b < w.heap.size) (hl : t.names.length = t.kids.length) (hs : s.size ≤ maxLen) (hr : TRep B S w (d + 1) t tv) (hxr : TRep B S w (dx + 1) x xv) :
    Calls Tryz.prog 88 #[tv, .string s, xv] w (TPostW (B + 1) S (d + (dx + 1) + 1) (withT t s x) w) := by
  obtain ⟨i1, hi1, hy1, hy2, hy3⟩ := info_parts string_info
  obtain ⟨i6, hi6, hz1, hz2, hz3⟩ := info_parts term_info
  have HI1 := Lib.hid hi1
  have HY1 := Lib.hid hy1
  have HY2 := Lib.hid hy2
  have HY3 := Lib.hid hy3
  have HI6 := Lib.hid hi6
  have HZ1 := Lib.hid hz1
  have HZ2 := Lib.hid hz2
  have HZ3 := Lib.hid hz3
  clear hi1 hy1 hy2 hy3 hi6 hz1 hz2 hz3
  obtain ⟨k, tx, ns, ks⟩ := t
  have HL : Hid (ns.length = ks.length) := Lib.hid hl
  have HS := Lib.hid hS
  have HXR := Lib.hid (TRep.keep (B' := B + 1) (S' := S) (w' := w) (d' := (d + (dx + 1))) (by omega) (Nat.le_refl _) (fun _ _ _ => rfl) (fun _ h _ => h) (by omega) _ _ hxr)
  obtain ⟨nv, kv, rfl, htx, hn, hk⟩ := hr.split
  obtain ⟨Ax, cx, Ax', cx', rfl⟩ := hxr.agg
  obtain ⟨An, cn, rfl, hcn, hmn, hBn, hsn, hnc⟩ := hn
  obtain ⟨Ak, ck, rfl, hck, hmk, hBk, hkc⟩ := hk
  have HSM := Lib.hid hs
  have HTX := Lib.hid htx
  have HSN := Lib.hid hsn
  have HNC := Lib.hid hnc
  have HKC := Lib.hid hkc
  have hBn2 : ns.length ≤ 2199023255552 := by have := HL.out; omega
  have hBn3 : ns.length ≤ B := by have := HL.out; omega
  obtain ⟨b0, hb0⟩ : ∃ b0, b0 = decide (x.kind = 0) := ⟨_, rfl⟩
  have hq0 : (x.kind == 0) = b0 := by rw [hb0, Bool.eq_iff_iff, beq_iff_eq, decide_eq_true_eq]
  have HB0 := Lib.hid hb0
  clear hr hxr hsn hnc hkc hBn hS hs hcn hck hl hb0 htx
  unfold maxLen at hmn hmk
  have e0 : Ext w (((w.alloc (.cells #[.int .i64 (-1), .int .u8 k, .string tx, .int .i64 (-1), .slice An ns.length cn, .slice Ak ks.length ck] 45)).alloc (.cells #[.int .i64 (-1), .int .u8 x.kind, .string x.text, .int .i64 (-1), .slice Ax x.names.length cx, .slice Ax' x.kids.length cx'] 45)).alloc (.cells tz6 45)) := ((Ext.alloc' _ _).trans' (Ext.alloc' _ _)).trans' (Ext.alloc' _ _)
  have E0 := Lib.hid e0
  have X5 := Lib.hid ((Blk.new' (w.alloc (.cells #[.int .i64 (-1), .int .u8 k, .string tx, .int .i64 (-1), .slice An ns.length cn, .slice Ak ks.length ck] 45)) 45 #[.int .i64 (-1), .int .u8 x.kind, .string x.text, .int .i64 (-1), .slice Ax x.names.length cx, .slice Ax' x.kids.length cx'] (n := w.heap.size + 1) (by simp)).alloc (.cells tz6 45))
  have X6 := Lib.hid (Blk.new' ((w.alloc (.cells #[.int .i64 (-1), .int .u8 k, .string tx, .int .i64 (-1), .slice An ns.length cn, .slice Ak ks.length ck] 45)).alloc (.cells #[.int .i64 (-1), .int .u8 x.kind, .string x.text, .int .i64 (-1), .slice Ax x.names.length cx, .slice Ax' x.kids.length cx'] 45)) 45 tz6 (n := w.heap.size + 1 + 1) (by simp))
  clear e0
  go_enter Tryz.func88, Tryz.ntmps88
  go_wp2_with fail
  refine (over_any _).mono ?_
  rintro e w1 ⟨rfl, x1⟩
  have hz1 : w.heap.size + 1 + 1 < w1.heap.size := by have := x1.size; simp at this; omega
  have b7 : Blk ((w1.alloc (.cells #[.int .i64 (-1), .int .u8 k, .string tx, .int .i64 (-1), .slice none 0 0, .slice none 0 0] 45)).alloc (.cells #[.int .i64 (-1), .int .u8 k, .string tx, .int .i64 (-1), .slice An ns.length cn, .slice Ak ks.length ck] 45)) w1.heap.size 45 #[.int .i64 (-1), .int .u8 k, .string tx, .int .i64 (-1), .slice none 0 0, .slice none 0 0] := (Blk.new w1 45 #[.int .i64 (-1), .int .u8 k, .string tx, .int .i64 (-1), .slice none 0 0, .slice none 0 0]).alloc _
  have b8 := Blk.new' (w1.alloc (.cells #[.int .i64 (-1), .int .u8 k, .string tx, .int .i64 (-1), .slice none 0 0, .slice none 0 0] 45)) 45 #[.int .i64 (-1), .int .u8 k, .string tx, .int .i64 (-1), .slice An ns.length cn, .slice Ak ks.length ck] (n := w1.heap.size + 1) (by simp)
  have ea : Ext w1 ((w1.alloc (.cells #[.int .i64 (-1), .int .u8 k, .string tx, .int .i64 (-1), .slice none 0 0, .slice none 0 0] 45)).alloc (.cells #[.int .i64 (-1), .int .u8 k, .string tx, .int .i64 (-1), .slice An ns.length cn, .slice Ak ks.length ck] 45)) := (Ext.alloc' _ _).trans' (Ext.alloc' _ _)
  have L0 : Hid (TW (B + 1) (d + (dx + 1)) S w ((w1.alloc (.cells #[.int .i64 (-1), .int .u8 k, .string tx, .int .i64 (-1), .slice none 0 0, .slice none 0 0] 45)).alloc (.cells #[.int .i64 (-1), .int .u8 k, .string tx, .int .i64 (-1), .slice An ns.length cn, .slice Ak ks.length ck] 45)) (w1.heap.size + 1 + 1) (w.heap.size + 1) (w.heap.size + 1 + 1) w1.heap.size (w1.heap.size + 1) #[.int .i64 (-1), .int .u8 x.kind, .string x.text, .int .i64 (-1), .slice Ax x.names.length cx, .slice Ax' x.kids.length cx'] #[.int .i64 (-1), .int .u8 k, .string tx, .int .i64 (-1), .slice An ns.length cn, .slice Ak ks.length ck] k tx 0 0 none 0 none 0 [] []) :=
    Lib.hid ⟨(E0.out.trans' x1).trans' ea, ⟨by omega, by omega, by omega, by omega, by omega, by omega, by omega, by omega, by omega, by omega⟩, (X5.out.ext x1).ext ea, (X6.out.ext x1).ext ea, b7, b8, World.ownsRow_nil _ _ _ _, ⟨[], World.ownsRow_nil _ _ _ _, TFlat.nil⟩, rfl, rfl⟩
  have X5b := Lib.hid ((X5.out.ext x1).ext ea)
  obtain ⟨⟨y0, y1, _, y3, _, _⟩, _⟩ := X5b.out.cells6
  obtain ⟨⟨z0, z1, _, z3, z4, z5⟩, _⟩ := b7.cells6
  have yl := X5b.out.lt
  have zl := b7.lt
  clear x1 b7 b8 ea X5 X6 E0
  go_upto_region 5 with fail
  go_cut [9] (fun s9 wx => s9 = .bool b0 ∧ wx = ((w1.alloc (.cells #[.int .i64 (-1), .int .u8 k, .string tx, .int .i64 (-1), .slice none 0 0, .slice none 0 0] 45)).alloc (.cells #[.int .i64 (-1), .int .u8 k, .string tx, .int .i64 (-1), .slice An ns.length cn, .slice Ak ks.length ck] 45)))
  case first =>
    cases b0
    all_goals
      go_wp2_with fail
      go_meet
      case rel => exact ⟨rfl, rfl⟩
  case rest =>
  obtain ⟨rfl, rfl⟩ := hcut
  clear hq0 y0 y1 y3 z0 z1 z3 z4 z5 yl zl X5b
  go_wp2_with fail
  go_loopw [10, 11] (fun dn i wr => ∃ (j m : Nat) (bd : Bool) (A : Option Addr) (c : Nat) (A' : Option Addr) (c' : Nat) (pN : List ByteArray) (pK : List N), j ≤ ns.length ∧ i = .int .i64 j ∧ dn = .bool bd ∧
      TW (B + 1) (d + (dx + 1)) S w wr (w1.heap.size + 1 + 1) (w.heap.size + 1) (w.heap.size + 1 + 1) w1.heap.size (w1.heap.size + 1) #[.int .i64 (-1), .int .u8 x.kind, .string x.text, .int .i64 (-1), .slice Ax x.names.length cx, .slice Ax' x.kids.length cx'] #[.int .i64 (-1), .int .u8 k, .string tx, .int .i64 (-1), .slice An ns.length cn, .slice Ak ks.length ck] k tx m m A c A' c' pN pK ∧ m ≤ j + bd.toNat ∧ (∀ y ∈ pN, y.size ≤ maxLen) ∧
      withTL x s b0 ns ks = (pN ++ (withTL x s bd (ns.drop j) (ks.drop j)).1, pK ++ (withTL x s bd (ns.drop j) (ks.drop j)).2)) (fun _ i _ => ns.length - (intOf i).toNat)
  case atStart => exact ⟨0, 0, b0, none, 0, none, 0, [], [], Nat.zero_le _, rfl, rfl, L0.out, Nat.zero_le _, by simp, rfl⟩
  case round =>
    obtain ⟨j, m, bd, A, c, A', c', pN, pK, hj, rfl, rfl, hL, hm, hps, hw⟩ := hrel
    have L := Lib.hid hL
    have HPS := Lib.hid hps
    have HW := Lib.hid hw
    obtain ⟨hcx, hfx⟩ := hL.ext.rules
    have hzx := hL.size
    have hzw := hzx.1
    obtain ⟨r2, r3, f2, f3, rl⟩ := hL.cells
    obtain ⟨⟨n0, n1, n2, n3, n4, n5⟩, _⟩ := hL.b8.cells6
    have nl := hL.b8.lt
    have hmB : m ≤ B + 1 := by have : bd.toNat ≤ 1 := Bool.toNat_le bd; omega
    have HBR := Lib.hid (show w1.heap.size + 1 + 1 ≤ wr.heap.size by have := hzx.2.2.2.2; omega)
    have HBW := HBR
    clear hL hps hw L0
    by_cases hlt : j < ns.length
    · have hlk : j < ks.length := by have := HL.out; omega
      have hi : (j : Int) < (ns.length : Int) := by omega
      have hik : (j : Int) < (ks.length : Int) := by omega
      obtain ⟨bn, on, rfl, hSn, hbn, hcn⟩ := HNC.out (by omega)
      obtain ⟨bk, ok, rfl, hSk, hbk, hck⟩ := HKC.out (by omega)
      have cj := hcn j _ (List.getElem?_eq_getElem hlt)
      obtain ⟨v0, v1, v2, v3, v4, v5, d0, d1, d2, d3, d4, d5, hrk⟩ := hck j _ (List.getElem?_eq_getElem hlk)
      obtain ⟨Aj, cj', Aj', cj'', rfl, rfl, rfl, rfl, rfl, rfl⟩ := hrk.shape
      have hw := HW.out
      rw [List.drop_eq_getElem_cons hlt, List.drop_eq_getElem_cons hlk] at hw
      have hny := HSN.out _ (List.getElem_mem hlt)
      generalize ns[j] = n at cj hw hny
      generalize ks[j] = kk at d0 d1 d2 d3 d4 d5 hrk hw
      have HRK := Lib.hid (TRep.keep (B' := B + 1) (S' := S) (w' := w) (d' := (d + (dx + 1))) (by omega) (Nat.le_refl _) (fun _ _ _ => rfl) (fun _ h _ => h) (by omega) _ _ hrk)
      have HW := Lib.hid hw
      have HNY := Lib.hid hny
      have CJ := Lib.hid cj
      have DJ := Lib.hid (show _ ∧ _ ∧ _ ∧ _ ∧ _ ∧ _ from ⟨d0, d1, d2, d3, d4, d5⟩)
      have hbnr : bn < wr.heap.size := by omega
      clear hcn hck hrk HNC HKC hw hny d0 d1 d2 d3 d4 d5
      have cn0 : wr.cell? ⟨bn, on + j, none⟩ = some (.string n) := (hcx bn (on + j) hbn).trans cj
      clear cj hcx hfx
      go_upto_region 10 with fail
      go_cut [48] (fun s48 wx => s48 = .bool (!ltS n s && !bd) ∧ wr = wx)
      case first =>
        cases h1 : ltS n s
        · have q1 : Op.bytesLess n.toList s.toList = false := h1
          have H1 := Lib.hid h1
          clear h1
          cases bd
          all_goals
            go_wp2_with fail
            go_meet
            case rel => exact ⟨by rw [H1.out]; rfl, rfl⟩
        · have q1 : Op.bytesLess n.toList s.toList = true := h1
          have H1 := Lib.hid h1
          clear h1
          go_wp2_with fail
          go_meet
          case rel => exact ⟨by rw [H1.out]; rfl, rfl⟩
      case rest =>
      obtain ⟨rfl, rfl⟩ := hcut
      go_upto_if 48 with fail
      go_cut [10] (fun s10 wx => ∃ (b1 : Bool) (m1 : Nat) (A1 : Option Addr) (c1 : Nat) (A1' : Option Addr) (c1' : Nat) (pN1 : List ByteArray) (pK1 : List N), s10 = .bool b1 ∧ TW (B + 1) (d + (dx + 1)) S w wx (w1.heap.size + 1 + 1) (w.heap.size + 1) (w.heap.size + 1 + 1) w1.heap.size (w1.heap.size + 1) #[.int .i64 (-1), .int .u8 x.kind, .string x.text, .int .i64 (-1), .slice Ax x.names.length cx, .slice Ax' x.kids.length cx'] #[.int .i64 (-1), .int .u8 k, .string tx, .int .i64 (-1), .slice (some ⟨bn, on, none⟩) ns.length cn, .slice (some ⟨bk, ok, none⟩) ks.length ck] k tx m1 m1 A1 c1 A1' c1' pN1 pK1 ∧ m1 ≤ j + b1.toNat ∧ (∀ y ∈ pN1, y.size ≤ maxLen) ∧
        (n = s → withTL x s b0 ns ks = (pN1 ++ (withTL x s b1 (ns.drop (j + 1)) (ks.drop (j + 1))).1, pK1 ++ (withTL x s b1 (ns.drop (j + 1)) (ks.drop (j + 1))).2)) ∧
        (n ≠ s → withTL x s b0 ns ks = (pN1 ++ n :: (withTL x s b1 (ns.drop (j + 1)) (ks.drop (j + 1))).1, pK1 ++ kk :: (withTL x s b1 (ns.drop (j + 1)) (ks.drop (j + 1))).2)))
      case first =>
        cases hins : (!ltS n s && !bd)
        · have HINS := Lib.hid hins
          clear hins
          go_wp2_with fail
          go_meet
          case rel =>
            refine ⟨bd, m, A, c, A', c', pN, pK, rfl, L.out, hm, HPS.out, fun e => ?_, fun e => ?_⟩
            · have h2 := HINS.out
              rw [e] at h2
              rw [HW.out, e, tw_skip h2]
            · rw [HW.out, tw_keep HINS.out e]
        · have hin := hins
          simp only [Bool.and_eq_true, Bool.not_eq_true'] at hin
          obtain ⟨h1, rfl⟩ := hin
          have HINS := Lib.hid hins
          obtain ⟨⟨x0, x1, x2, x3, x4, x5⟩, _⟩ := L.out.b5.cells6
          have xl := L.out.b5.lt
          have L4 := Lib.hid (L.out.grow (Ext.alloc' wr (.cells #[.string s] 9)))
          clear hins h1
          go_upto_region 12 with (at_builtin; refine wpList_app _ rfl (.tmp 50) (.tmp 52) _ rfl (w1.heap.size + 1 + 1) 9 i1 _ 1 16 Tryz.underlying22 HI1.out HY1.out HY2.out HY3.out rfl (by omega) (.slice A m c) m _ rfl L4.out.nrow (some ⟨wr.heap.size, 0, none⟩) 1 1 [_] rfl rfl (fun _ => ⟨_, rfl, cells1_new rfl _ _⟩) (by simp [Value.oneCell']) (by simp only [maxLen]; omega) (by omega) (by have := L4.out.size; have := HBW.out; omega) ?_; intro v' w3 ho hg hat; obtain ⟨A3, c3, rfl⟩ := ownsRow_form ho; obtain ⟨g2, g2', gl⟩ := L4.out.midN hg; have L3 := Lib.hid (L4.out.pushN ho hg); clear ho hg hat)
          obtain ⟨W3, hW3⟩ : ∃ W3, W3 = w3.setCell ⟨w1.heap.size, 4, none⟩ (.slice A3 (m + 1) c3) := ⟨_, rfl⟩
          have L3 : Hid (TW (B + 1) (d + (dx + 1)) S w W3 (w1.heap.size + 1 + 1) (w.heap.size + 1) (w.heap.size + 1 + 1) w1.heap.size (w1.heap.size + 1) #[.int .i64 (-1), .int .u8 x.kind, .string x.text, .int .i64 (-1), .slice Ax x.names.length cx, .slice Ax' x.kids.length cx'] #[.int .i64 (-1), .int .u8 k, .string tx, .int .i64 (-1), .slice (some ⟨bn, on, none⟩) ns.length cn, .slice (some ⟨bk, ok, none⟩) ks.length ck] k tx (m + 1) m A3 c3 A' c' (pN ++ [s]) pK) := Lib.hid (by rw [hW3]; exact L3.out)
          rw [← hW3]
          clear hW3 x0 x1 x2 x3 x4 x5 xl r2 r3 f2 f3 rl g2 g2' gl n0 n1 n2 n3 n4 n5 nl cn0 hbnr
          obtain ⟨⟨x0, x1, x2, x3, x4, x5⟩, _⟩ := L3.out.b5.cells6
          have xl := L3.out.b5.lt
          obtain ⟨r2, r3, f2, f3, rl⟩ := L3.out.cells
          have hz3 := L3.out.size
          have L5 := Lib.hid (L3.out.grow (Ext.alloc' W3 (.cells #[.int .i64 (-1), .int .u8 x.kind, .string x.text, .int .i64 (-1), .slice Ax x.names.length cx, .slice Ax' x.kids.length cx'] 45)))
          obtain ⟨xs, hxs, hfl⟩ := L5.out.krow
          have HXS := Lib.hid hxs
          have HFL := Lib.hid hfl
          have HBW := Lib.hid (show w1.heap.size + 1 + 1 ≤ W3.heap.size by have := hz3.2.2.2.2; omega)
          clear hxs hfl
          go_wp2_with (at_builtin; refine wpList_app _ rfl (.tmp 56) (.tmp 58) _ rfl (w1.heap.size + 1 + 1) 45 i6 _ 6 88 Tryz.underlying43 HI6.out HZ1.out HZ2.out HZ3.out rfl (by omega) (.slice A' m c') m xs rfl HXS.out (some ⟨W3.heap.size, 0, none⟩) 1 1 [_, _, _, _, _, _] rfl rfl (fun _ => ⟨_, rfl, cells6_new rfl _ _ _ _ _ _ _⟩) (by simp [Value.oneCell']) (by simp only [maxLen]; omega) (by omega) (by have := L5.out.size; have := HBW.out; omega) ?_; intro v' w5 ho hg hat; obtain ⟨A5, c5, rfl⟩ := ownsRow_form ho; obtain ⟨h2, h2', hl⟩ := L5.out.midK hg; have L6 := Lib.hid (L5.out.pushK HXR.out HFL.out ho hg); clear ho hg hat)
          go_meet
          case rel =>
            refine ⟨true, m + 1, A3, c3, A5, c5, pN ++ [s], pK ++ [x], rfl, L6.out, by simp at hm ⊢; omega, fun y hy => ?_, fun e => ?_, fun e => ?_⟩
            · rcases List.mem_append.1 hy with hy | hy
              · exact HPS.out y hy
              · rw [List.mem_singleton.1 hy]; exact HSM.out
            · have h2 := HINS.out
              rw [e] at h2
              rw [HW.out, e, tw_over h2]
              simp
            · rw [HW.out, tw_ins HINS.out e]
              simp
      case rest =>
        obtain ⟨b1, m1, A1, c1, A1', c1', pN1, pK1, rfl, hL1, hm1, hps1, he, hne⟩ := hcut
        have hmB1 : m1 ≤ j + 1 := by have : b1.toNat ≤ 1 := Bool.toNat_le b1; omega
        have L1 := Lib.hid hL1
        have HPS1 := Lib.hid hps1
        have HNE := Lib.hid hne
        have HEQ := Lib.hid he
        have hzc := hL1.size
        clear hL1 hps1 he hne L cn0 hbnr n0 n1 n2 n3 n4 n5 nl r2 r3 f2 f3 rl
        have cn0 : wc.cell? ⟨bn, on + j, none⟩ = some (.string n) := (L1.out.ext.cell (p := ⟨bn, on + j, none⟩) hbn).trans CJ.out
        have hbnr : bn < wc.heap.size := by omega
        obtain ⟨⟨n0, n1, n2, n3, n4, n5⟩, _⟩ := L1.out.b8.cells6
        have nl := L1.out.b8.lt
        by_cases e : n = s
        · have q2 : (n.toList == s.toList) = true := by rw [e]; exact beq_self_eq_true _
          have q3 : (n.toList != s.toList) = false := by rw [e]; exact bne_self_eq_false _
          have HE2 := Lib.hid (HEQ.out e)
          clear HNE HEQ e
          go_wp2_with fail
          go_roundw
          case rel => exact ⟨j + 1, m1, b1, A1, c1, A1', c1', pN1, pK1, by omega, by go_num, rfl, L1.out, by omega, HPS1.out, HE2.out⟩
          case measure => simp [intOf]; omega
        · have q2 : (n.toList == s.toList) = false := by rw [beq_eq_false_iff_ne]; exact fun h => e (toList_inj h)
          have q3 : (n.toList != s.toList) = true := by rw [bne_iff_ne]; exact fun h => e (toList_inj h)
          have HE2 := Lib.hid (HNE.out e)
          clear HNE HEQ e
          go_upto_region 15 with fail
          obtain ⟨W2, hW2⟩ : ∃ W2, W2 = wc := ⟨_, rfl⟩
          subst hW2
          obtain ⟨r2, r3, f2, f3, rl⟩ := L1.out.cells
          have L4 := Lib.hid (L1.out.grow (Ext.allocDrewT W2 (.cells #[.string n] 9)))
          have HBW := Lib.hid (show w1.heap.size + 1 + 1 ≤ W2.heap.size by have := hzc.2.2.2.2; omega)
          go_region_law
            ((refine stepAH rfl (.tmp 69) (.tmp 75) 22 rfl (w1.heap.size + 1 + 1) 9 i1 _ 1 16 Tryz.underlying22 HI1.out HY1.out HY2.out HY3.out rfl (by omega) (.slice A1 m1 c1) m1 _ rfl L4.out.nrow (some ⟨W2.heap.size, 0, none⟩) 1 1 [_] rfl rfl (fun _ => ⟨_, rfl, cells1_new rfl _ _⟩) (by simp [Value.oneCell']) (by simp only [maxLen]; omega) (by omega) (by have := L4.out.size; have := HBW.out; omega) ?_
              intro v' w3 ho hg hat
              obtain ⟨A3, c3, rfl⟩ := ownsRow_form ho
              obtain ⟨g2, g2', gl⟩ := L4.out.midN hg
              have L3 := Lib.hid (L4.out.pushN ho hg)
              clear ho hg hat))
          all_goals
            obtain ⟨W3, hW3⟩ : ∃ W3, W3 = w3.setCell ⟨w1.heap.size, 4, none⟩ (.slice A3 (m1 + 1) c3) := ⟨_, rfl⟩
            have L3 : Hid (TW (B + 1) (d + (dx + 1)) S w W3 (w1.heap.size + 1 + 1) (w.heap.size + 1) (w.heap.size + 1 + 1) w1.heap.size (w1.heap.size + 1) #[.int .i64 (-1), .int .u8 x.kind, .string x.text, .int .i64 (-1), .slice Ax x.names.length cx, .slice Ax' x.kids.length cx'] #[.int .i64 (-1), .int .u8 k, .string tx, .int .i64 (-1), .slice (some ⟨bn, on, none⟩) ns.length cn, .slice (some ⟨bk, ok, none⟩) ks.length ck] k tx (m1 + 1) m1 A3 c3 A1' c1' (pN1 ++ [n]) pK1) := Lib.hid (by rw [hW3]; exact L3.out)
            rw [← hW3]
            clear hW3 r2 r3 f2 f3 rl g2 g2' gl n0 n1 n2 n3 n4 n5 nl cn0 hbnr L4
            obtain ⟨⟨n0, n1, n2, n3, n4, n5⟩, _⟩ := L3.out.b8.cells6
            have nl := L3.out.b8.lt
            obtain ⟨r2, r3, f2, f3, rl⟩ := L3.out.cells
            have hz3 := L3.out.size
            have hbkW : bk < W3.heap.size := by omega
            obtain ⟨d0, d1, d2, d3, d4, d5⟩ := DJ.out
            have k0 : W3.cell? ⟨bk, ok + j * 6, none⟩ = _ := (L3.out.ext.cell (p := ⟨bk, ok + j * 6, none⟩) hbk).trans d0
            have k1 : W3.cell? ⟨bk, ok + j * 6 + 1, none⟩ = _ := (L3.out.ext.cell (p := ⟨bk, ok + j * 6 + 1, none⟩) hbk).trans d1
            have k2 : W3.cell? ⟨bk, ok + j * 6 + 2, none⟩ = _ := (L3.out.ext.cell (p := ⟨bk, ok + j * 6 + 2, none⟩) hbk).trans d2
            have k3 : W3.cell? ⟨bk, ok + j * 6 + 3, none⟩ = _ := (L3.out.ext.cell (p := ⟨bk, ok + j * 6 + 3, none⟩) hbk).trans d3
            have k4 : W3.cell? ⟨bk, ok + j * 6 + 4, none⟩ = _ := (L3.out.ext.cell (p := ⟨bk, ok + j * 6 + 4, none⟩) hbk).trans d4
            have k5 : W3.cell? ⟨bk, ok + j * 6 + 5, none⟩ = _ := (L3.out.ext.cell (p := ⟨bk, ok + j * 6 + 5, none⟩) hbk).trans d5
            have L5 := Lib.hid (L3.out.grow (Ext.allocDrewT W3 (.cells #[.int .i64 (-1), .int .u8 kk.kind, .string kk.text, .int .i64 (-1), .slice Aj kk.names.length cj', .slice Aj' kk.kids.length cj''] 45)))
            obtain ⟨xs, hxs, hfl⟩ := L5.out.krow
            have HXS := Lib.hid hxs
            have HFL := Lib.hid hfl
            have HBW := Lib.hid (show w1.heap.size + 1 + 1 ≤ W3.heap.size by have := hz3.2.2.2.2; omega)
            clear hxs hfl d0 d1 d2 d3 d4 d5
            go_upto_region 16 with fail
            go_region_law
              ((refine stepAH rfl (.tmp 79) (.tmp 85) 43 rfl (w1.heap.size + 1 + 1) 45 i6 _ 6 88 Tryz.underlying43 HI6.out HZ1.out HZ2.out HZ3.out rfl (by omega) (.slice A1' m1 c1') m1 xs rfl HXS.out (some ⟨W3.heap.size, 0, none⟩) 1 1 [_, _, _, _, _, _] rfl rfl (fun _ => ⟨_, rfl, cells6_new rfl _ _ _ _ _ _ _⟩) (by simp [Value.oneCell']) (by simp only [maxLen]; omega) (by omega) (by have := L5.out.size; have := HBW.out; omega) ?_
                intro v' w5 ho hg hat
                obtain ⟨A5, c5, rfl⟩ := ownsRow_form ho
                obtain ⟨h2, h2', hl⟩ := L5.out.midK hg
                have L6 := Lib.hid (L5.out.pushK HRK.out HFL.out ho hg)
                clear ho hg hat))
            all_goals
              go_wp2_with fail
              go_roundw
              case rel =>
                refine ⟨j + 1, m1 + 1, b1, A3, c3, A5, c5, pN1 ++ [n], pK1 ++ [kk], by omega, by go_num, rfl, L6.out, by omega, fun y hy => ?_, ?_⟩
                · rcases List.mem_append.1 hy with hy | hy
                  · exact HPS1.out y hy
                  · rw [List.mem_singleton.1 hy]; exact HNY.out
                · rw [HE2.out]
                  simp
              case measure => simp [intOf]; omega
    · have hjn : j = ns.length := by omega
      subst hjn
      have hi : ¬ (ns.length : Int) < (ns.length : Int) := by omega
      have hw := HW.out
      rw [List.drop_eq_nil_of_le (Nat.le_refl _), List.drop_eq_nil_of_le (by have := HL.out; omega), tw_end] at hw
      have HWZ := Lib.hid hw
      have HLK := HL
      clear hw hcx hfx HW
      cases bd
      case true =>
        obtain ⟨y0, y1, y2, y3, y4, y5⟩ := L.out.b6.cells6.1
        obtain ⟨z0, z1, z2, z3, z4, z5⟩ := L.out.b7.cells6.1
        obtain ⟨t0, t1, t2, t3, t4, t5⟩ := L.out.b6.cells6.2
        have yl := L.out.b6.lt
        go_wp2_with fail
        refine bodyPost_ret (results_tcell rfl _ _ _ _ _ _ _ _ _ rfl (L.out.b6.set6 _ _ _ _ _ _)) rfl ?_
        refine L.out.fin HS.out HTX.out (by have := HLK.out; simp at hm; omega) (by have := HLK.out; simp at hm; omega) HPS.out ?_
        show N.mk k tx (withTL x s (decide (x.kind = 0)) ns ks).1 (withTL x s (decide (x.kind = 0)) ns ks).2 = _
        rw [← HB0.out, HWZ.out]
        simp
      case false =>
        obtain ⟨⟨x0, x1, x2, x3, x4, x5⟩, _⟩ := L.out.b5.cells6
        have xl := L.out.b5.lt
        have HBW := Lib.hid (show w1.heap.size + 1 + 1 ≤ wr.heap.size by have := hzx.2.2.2.2; omega)
        have L4 := Lib.hid (L.out.grow (Ext.alloc' wr (.cells #[.string s] 9)))
        go_upto_region 19 with (at_builtin; refine wpList_app _ rfl (.tmp 91) (.tmp 93) _ rfl (w1.heap.size + 1 + 1) 9 i1 _ 1 16 Tryz.underlying22 HI1.out HY1.out HY2.out HY3.out rfl (by omega) (.slice A m c) m _ rfl L4.out.nrow (some ⟨wr.heap.size, 0, none⟩) 1 1 [_] rfl rfl (fun _ => ⟨_, rfl, cells1_new rfl _ _⟩) (by simp [Value.oneCell']) (by simp only [maxLen]; omega) (by omega) (by have := L4.out.size; have := HBW.out; omega) ?_; intro v' w3 ho hg hat; obtain ⟨A3, c3, rfl⟩ := ownsRow_form ho; obtain ⟨g2, g2', gl⟩ := L4.out.midN hg; have L3 := Lib.hid (L4.out.pushN ho hg); clear ho hg hat)
        obtain ⟨W3, hW3⟩ : ∃ W3, W3 = w3.setCell ⟨w1.heap.size, 4, none⟩ (.slice A3 (m + 1) c3) := ⟨_, rfl⟩
        have L3 : Hid (TW (B + 1) (d + (dx + 1)) S w W3 (w1.heap.size + 1 + 1) (w.heap.size + 1) (w.heap.size + 1 + 1) w1.heap.size (w1.heap.size + 1) #[.int .i64 (-1), .int .u8 x.kind, .string x.text, .int .i64 (-1), .slice Ax x.names.length cx, .slice Ax' x.kids.length cx'] #[.int .i64 (-1), .int .u8 k, .string tx, .int .i64 (-1), .slice An ns.length cn, .slice Ak ks.length ck] k tx (m + 1) m A3 c3 A' c' (pN ++ [s]) pK) := Lib.hid (by rw [hW3]; exact L3.out)
        rw [← hW3]
        clear hW3 x0 x1 x2 x3 x4 x5 xl r2 r3 f2 f3 rl g2 g2' gl n0 n1 n2 n3 n4 n5 nl
        obtain ⟨⟨x0, x1, x2, x3, x4, x5⟩, _⟩ := L3.out.b5.cells6
        have xl := L3.out.b5.lt
        obtain ⟨r2, r3, f2, f3, rl⟩ := L3.out.cells
        have hz3 := L3.out.size
        have L5 := Lib.hid (L3.out.grow (Ext.alloc' W3 (.cells #[.int .i64 (-1), .int .u8 x.kind, .string x.text, .int .i64 (-1), .slice Ax x.names.length cx, .slice Ax' x.kids.length cx'] 45)))
        obtain ⟨xs, hxs, hfl⟩ := L5.out.krow
        have HXS := Lib.hid hxs
        have HFL := Lib.hid hfl
        have HBW := Lib.hid (show w1.heap.size + 1 + 1 ≤ W3.heap.size by have := hz3.2.2.2.2; omega)
        clear hxs hfl
        go_upto_region 20 with (at_builtin; refine wpList_app _ rfl (.tmp 97) (.tmp 99) _ rfl (w1.heap.size + 1 + 1) 45 i6 _ 6 88 Tryz.underlying43 HI6.out HZ1.out HZ2.out HZ3.out rfl (by omega) (.slice A' m c') m xs rfl HXS.out (some ⟨W3.heap.size, 0, none⟩) 1 1 [_, _, _, _, _, _] rfl rfl (fun _ => ⟨_, rfl, cells6_new rfl _ _ _ _ _ _ _⟩) (by simp [Value.oneCell']) (by simp only [maxLen]; omega) (by omega) (by have := L5.out.size; have := HBW.out; omega) ?_; intro v' w5 ho hg hat; obtain ⟨A5, c5, rfl⟩ := ownsRow_form ho; obtain ⟨h2, h2', hl⟩ := L5.out.midK hg; have L6 := Lib.hid (L5.out.pushK HXR.out HFL.out ho hg); clear ho hg hat)
        obtain ⟨W5, hW5⟩ : ∃ W5, W5 = w5.setCell ⟨w1.heap.size, 5, none⟩ (.slice A5 (m + 1) c5) := ⟨_, rfl⟩
        have L6 : Hid (TW (B + 1) (d + (dx + 1)) S w W5 (w1.heap.size + 1 + 1) (w.heap.size + 1) (w.heap.size + 1 + 1) w1.heap.size (w1.heap.size + 1) #[.int .i64 (-1), .int .u8 x.kind, .string x.text, .int .i64 (-1), .slice Ax x.names.length cx, .slice Ax' x.kids.length cx'] #[.int .i64 (-1), .int .u8 k, .string tx, .int .i64 (-1), .slice An ns.length cn, .slice Ak ks.length ck] k tx (m + 1) (m + 1) A3 c3 A5 c5 (pN ++ [s]) (pK ++ [x])) := Lib.hid (by rw [hW5]; exact L6.out)
        rw [← hW5]
        clear hW5 x0 x1 x2 x3 x4 x5 xl r2 r3 f2 f3 rl h2 h2' hl
        obtain ⟨y0, y1, y2, y3, y4, y5⟩ := L6.out.b6.cells6.1
        obtain ⟨z0, z1, z2, z3, z4, z5⟩ := L6.out.b7.cells6.1
        obtain ⟨t0, t1, t2, t3, t4, t5⟩ := L6.out.b6.cells6.2
        have yl := L6.out.b6.lt
        go_wp2_with fail
        refine bodyPost_ret (results_tcell rfl _ _ _ _ _ _ _ _ _ rfl (L6.out.b6.set6 _ _ _ _ _ _)) rfl ?_
        refine L6.out.fin HS.out HTX.out (by have := HLK.out; simp at hm; omega) (by have := HLK.out; simp at hm; omega) (fun y hy => ?_) ?_
        · rcases List.mem_append.1 hy with hy | hy
          · exact HPS.out y hy
          · rw [List.mem_singleton.1 hy]; exact HSM.out
        · show N.mk k tx (withTL x s (decide (x.kind = 0)) ns ks).1 (withTL x s (decide (x.kind = 0)) ns ks).2 = _
          rw [← HB0.out, HWZ.out]
          simp

end Go.Proofs.YtocndkhgopjhhaaGreat
