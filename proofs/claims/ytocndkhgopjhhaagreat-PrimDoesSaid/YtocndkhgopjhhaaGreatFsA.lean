/- touchstoneref07's file system over a term that is made whole: Stop, kind, kid, at, Kind. -/
import Derived.Test.YtocndkhgopjhhaaGreatProg
import Derived.Test.YtocndkhgopjhhaaGreatTermX
import Derived.Test.YtocndkhgopjhhaaGreatWithP
import Derived.Outline
namespace Go.Proofs.YtocndkhgopjhhaaGreat
open Go.RowKit

/-- the cells of a file system over a term. -/
abbrev fsC (t : N) (A : Option Addr) (c : Nat) (A' : Option Addr) (c' : Nat) : Array Value := #[.slice none 0 0, .int .i64 (-1), .int .u8 t.kind, .string t.text, .int .i64 (-1), .slice A t.names.length c, .slice A' t.kids.length c', .int .i64 (-1), .bool false, .bool false]
/-- 'The pointer to block g is the file system of the node t', its terms in blocks of S, none of which is g. -/
def FSAt (B : Nat) (S : Nat → Prop) (w : World) (g d : Nat) (t : N) : Prop := ∃ A c A' c', Blk w g 47 (fsC t A c A' c') ∧ TRep B S w d t (termV t A c A' c') ∧ ∀ b, S b → b ≠ g
/-- block g says that nothing must be known first. -/
def FS0 (w : World) (g : Nat) : Prop := w.cell? ⟨g, 7, none⟩ = some (.int .i64 (-1)) ∧ w.cell? ⟨g, 9, none⟩ = some (.bool false) ∧ g < w.heap.size
theorem FS0.ext {w w' : World} {g : Nat} (h : FS0 w g) (hx : Ext w w') : FS0 w' g := ⟨(hx.cell (p := ⟨g, 7, none⟩) h.2.2).trans h.1, (hx.cell (p := ⟨g, 9, none⟩) h.2.2).trans h.2.1, Nat.lt_of_lt_of_le h.2.2 hx.size⟩
section
variable {B : Nat} {S : Nat → Prop} {w w' : World} {g d : Nat} {t : N}
theorem FSAt.zero (h : FSAt B S w g d t) : FS0 w g := by
  obtain ⟨A, c, A', c', hb, _⟩ := h
  exact ⟨hb.cell 7, hb.cell 9, hb.lt⟩
theorem FSAt.lt (h : FSAt B S w g d t) : g < w.heap.size := h.zero.2.2
theorem FSAt.ne (h : FSAt B S w g d t) {b : Nat} (hb : S b) : b ≠ g := by obtain ⟨_, _, _, _, _, _, hS⟩ := h; exact hS b hb
theorem FSAt.ext (h : FSAt B S w g d t) (hx : Ext w w') : FSAt B S w' g d t := by
  obtain ⟨A, c, A', c', hb, hr, hS⟩ := h
  exact ⟨A, c, A', c', hb.ext hx, hr.ext hx, hS⟩
theorem FSAt.keep {B' d' : Nat} {S' : Nat → Prop} (h : FSAt B S w g d t) (hB : B ≤ B') (hd : d ≤ d') (hz : w.heap.size ≤ w'.heap.size) (hg : w'.heap[g]? = w.heap[g]?) (hS : ∀ b, S b → b < w.heap.size → w'.heap[b]? = w.heap[b]?) (hSS : ∀ b, S b → b < w.heap.size → S' b) (hS' : ∀ b, S' b → b ≠ g) : FSAt B' S' w' g d' t := by
  obtain ⟨A, c, A', c', hb, hr, _⟩ := h
  exact ⟨A, c, A', c', hg.trans hb, TRep.keep hB hz hS hSS hd _ _ hr, hS'⟩
end

set_option maxRecDepth 100000 in
theorem stop_any {w : World} {g : Nat} (h : FS0 w g) : Calls Tryz.prog 60 #[.pointer (some ⟨g, 0, none⟩)] w fun e w' => e = .returned (.bool false) ∧ Ext w w' := by
  obtain ⟨c7, c9, hl⟩ := h
  go_enter Tryz.func60, Tryz.ntmps60
  go_wp2_with fail
  go_ret
  exact ⟨rfl, Below.refl _ _⟩

set_option maxRecDepth 100000 in
theorem kindT_any {w : World} {g : Nat} {k : Int} {tx : ByteArray} {A : Option Addr} {n c : Nat} {A' : Option Addr} {n' c' : Nat} (h : FS0 w g) :
    Calls Tryz.prog 77 #[.pointer (some ⟨g, 0, none⟩), .agg #[.int .i64 (-1), .int .u8 k, .string tx, .int .i64 (-1), .slice A n c, .slice A' n' c']] w fun e w' => e = .returned (.int .u8 k) ∧ Ext w w' := by
  have H := Lib.hid (h.ext (Ext.alloc' w (.cells #[.int .i64 (-1), .int .u8 k, .string tx, .int .i64 (-1), .slice A n c, .slice A' n' c'] 45)))
  have HB := Lib.hid (Blk.new w 45 #[.int .i64 (-1), .int .u8 k, .string tx, .int .i64 (-1), .slice A n c, .slice A' n' c'])
  clear h
  go_enter Tryz.func77, Tryz.ntmps77
  go_wp2_with fail
  refine (stop_any H.out).mono ?_
  rintro e w1 ⟨rfl, x1⟩
  have HX := Lib.hid ((Ext.alloc' w (.cells #[.int .i64 (-1), .int .u8 k, .string tx, .int .i64 (-1), .slice A n c, .slice A' n' c'] 45)).trans' x1)
  have hb1 := HB.out.ext x1
  obtain ⟨⟨p0, p1, _, _, _, _⟩, _⟩ := hb1.cells6
  have pl := hb1.lt
  clear x1 hb1
  go_wp2_with fail
  go_ret
  exact ⟨rfl, HX.out⟩

/-- a term comes out: what stands there, or what is not there. -/
def KidPost (B : Nat) (S : Nat → Prop) (d : Nat) (o : Option N) (w : World) (e : Ending) (w' : World) : Prop :=
  ∃ v, e = .returned v ∧ Ext w w' ∧ TRep B S w' d (o.getD N.zero) v

theorem ixFrom_drop {s : ByteArray} {ns : List ByteArray} {j : Nat} (hj : j < ns.length) : ixFrom s j (ns.drop j) = if ns[j] = s then some j else ixFrom s (j + 1) (ns.drop (j + 1)) := by
  rw [List.drop_eq_getElem_cons hj, ixFrom]

set_option maxRecDepth 100000 in
set_option maxHeartbeats 4000000 in
theorem kid_any {B d : Nat} {S : Nat → Prop} {w : World} {g : Nat} {t : N} {v : Value} {s : ByteArray} (_hg : g < w.heap.size) (hl : t.names.length = t.kids.length) (hr : TRep B S w (d + 1) t v) :
    Calls Tryz.prog 87 #[.pointer (some ⟨g, 0, none⟩), v, .string s] w (KidPost B S (d + 1) (t.kid s) w) := by
  obtain ⟨k, tx, ns, ks⟩ := t
  have HL : Hid (ns.length = ks.length) := Lib.hid hl
  obtain ⟨nv, kv, rfl, _, hn, hk⟩ := hr.split
  obtain ⟨An, cn, rfl, hcn, hmn, hBn, hsn, hnc⟩ := hn
  obtain ⟨Ak, ck, rfl, hck, hmk, hBk, hkc⟩ := hk
  have HNC := Lib.hid hnc
  have HKC := Lib.hid hkc
  have hkid : (N.mk k tx ns ks).kid s = match ixFrom s 0 ns with | none => none | some i => ks[i]? := rfl
  obtain ⟨o, ho⟩ : ∃ o, o = (N.mk k tx ns ks).kid s := ⟨_, rfl⟩
  rw [← ho]
  have HO := Lib.hid (ho.trans hkid)
  have e0 := (Ext.alloc' w (.cells #[.int .i64 (-1), .int .u8 k, .string tx, .int .i64 (-1), .slice An ns.length cn, .slice Ak ks.length ck] 45)).trans' (Ext.alloc' _ (.cells tz6 45))
  have F0 := Lib.hid e0
  have F1 := Lib.hid ((Blk.new w 45 #[.int .i64 (-1), .int .u8 k, .string tx, .int .i64 (-1), .slice An ns.length cn, .slice Ak ks.length ck]).alloc (.cells tz6 45))
  have F2 := Lib.hid (Blk.new' (w.alloc (.cells #[.int .i64 (-1), .int .u8 k, .string tx, .int .i64 (-1), .slice An ns.length cn, .slice Ak ks.length ck] 45)) 45 tz6 (n := w.heap.size + 1) (by simp))
  obtain ⟨W, hW⟩ : ∃ W, W = (w.alloc (.cells #[.int .i64 (-1), .int .u8 k, .string tx, .int .i64 (-1), .slice An ns.length cn, .slice Ak ks.length ck] 45)).alloc (.cells tz6 45) := ⟨_, rfl⟩
  have E0 : Hid (Ext w W) := Lib.hid (by rw [hW]; exact F0.out)
  have X1 : Hid (Blk W w.heap.size 45 #[.int .i64 (-1), .int .u8 k, .string tx, .int .i64 (-1), .slice An ns.length cn, .slice Ak ks.length ck]) := Lib.hid (by rw [hW]; exact F1.out)
  have X2 : Hid (Blk W (w.heap.size + 1) 45 tz6) := Lib.hid (by rw [hW]; exact F2.out)
  clear hl hr hnc hkc hkid ho e0 F0 F1 F2 hBn hsn hck
  unfold maxLen at hmn hmk
  have hnb : ns.length ≤ 9223372036854775807 := by omega
  have HW := Lib.hid hW
  clear hW
  go_enter Tryz.func87, Tryz.ntmps87
  go_upto_region 1 with fail
  rw [← HW.out]
  obtain ⟨⟨p0, p1, p2, p3, p4, p5⟩, _⟩ := X1.out.cells6
  have pl := X1.out.lt
  obtain ⟨⟨z0, z1, z2, z3, z4, z5⟩, f0, f1, f2, f3, f4, f5⟩ := X2.out.cells6
  have zl := X2.out.lt
  go_wp2_with fail
  go_loopw [8] (fun i wr => ∃ j : Nat, j ≤ ns.length ∧ i = .int .i64 j ∧ W = wr ∧ ixFrom s 0 ns = ixFrom s j (ns.drop j)) (fun i _ => ns.length - (intOf i).toNat)
  case atStart => exact ⟨0, Nat.zero_le _, rfl, rfl, rfl⟩
  case round =>
    obtain ⟨j, hj, rfl, rfl, hix⟩ := hrel
    have HIX := Lib.hid hix
    clear hix
    by_cases hlt : j < ns.length
    · have hlk : j < ks.length := by have := HL.out; omega
      have hi : (j : Int) < (ns.length : Int) := by omega
      have hik : (j : Int) < (ks.length : Int) := by omega
      obtain ⟨bn, on, rfl, hSn, hbn, hcn⟩ := HNC.out (by omega)
      obtain ⟨bk, ok, rfl, hSk, hbk, hck⟩ := HKC.out (by omega)
      have cj := hcn j _ (List.getElem?_eq_getElem hlt)
      obtain ⟨v0, v1, v2, v3, v4, v5, d0, d1, d2, d3, d4, d5, hrk⟩ := hck j _ (List.getElem?_eq_getElem hlk)
      obtain ⟨Aj, cj', Aj', cj'', rfl, rfl, rfl, rfl, rfl, rfl⟩ := hrk.shape
      have hst := ixFrom_drop (s := s) hlt
      have hkj : ks[j]? = some ks[j] := List.getElem?_eq_getElem hlk
      generalize ns[j] = n at cj hst
      generalize ks[j] = kk at d0 d1 d2 d3 d4 d5 hrk hkj
      have HST := Lib.hid (HIX.out.trans hst)
      have HKJ := Lib.hid hkj
      have HRK := Lib.hid hrk
      have DJ := Lib.hid (show _ ∧ _ ∧ _ ∧ _ ∧ _ ∧ _ from ⟨d0, d1, d2, d3, d4, d5⟩)
      have zs := E0.out.size
      have cj0 : W.cell? ⟨bn, on + j, none⟩ = some (.string n) := (E0.out.cell (p := ⟨bn, on + j, none⟩) hbn).trans cj
      have hbnW : bn < W.heap.size := by omega
      clear hcn hck hst hkj hrk d0 d1 d2 d3 d4 d5 cj HNC HKC
      by_cases e : n = s
      · have q2 : (n.toList == s.toList) = true := by rw [e]; exact beq_self_eq_true _
        have HE := Lib.hid (HST.out.trans (by rw [if_pos e]))
        clear e HST
        have hbkW : bk < W.heap.size := by omega
        obtain ⟨d0, d1, d2, d3, d4, d5⟩ := DJ.out
        have k0 : W.cell? ⟨bk, ok + j * 6, none⟩ = _ := (E0.out.cell (p := ⟨bk, ok + j * 6, none⟩) hbk).trans d0
        have k1 : W.cell? ⟨bk, ok + j * 6 + 1, none⟩ = _ := (E0.out.cell (p := ⟨bk, ok + j * 6 + 1, none⟩) hbk).trans d1
        have k2 : W.cell? ⟨bk, ok + j * 6 + 2, none⟩ = _ := (E0.out.cell (p := ⟨bk, ok + j * 6 + 2, none⟩) hbk).trans d2
        have k3 : W.cell? ⟨bk, ok + j * 6 + 3, none⟩ = _ := (E0.out.cell (p := ⟨bk, ok + j * 6 + 3, none⟩) hbk).trans d3
        have k4 : W.cell? ⟨bk, ok + j * 6 + 4, none⟩ = _ := (E0.out.cell (p := ⟨bk, ok + j * 6 + 4, none⟩) hbk).trans d4
        have k5 : W.cell? ⟨bk, ok + j * 6 + 5, none⟩ = _ := (E0.out.cell (p := ⟨bk, ok + j * 6 + 5, none⟩) hbk).trans d5
        clear d0 d1 d2 d3 d4 d5
        go_wp2_with fail
        refine bodyPost_ret (results_tcell rfl _ _ _ _ _ _ _ _ _ rfl (X2.out.set6 _ _ _ _ _ _)) rfl ?_
        rw [HO.out, HE.out]
        have hx : Ext w (set6 W (w.heap.size + 1) (.int .i64 (-1)) (.int .u8 kk.kind) (.string kk.text) (.int .i64 (-1)) (.slice Aj kk.names.length cj') (.slice Aj' kk.kids.length cj'')) := E0.out.set6 (by omega) _ _ _ _ _ _
        refine ⟨_, rfl, hx, ?_⟩
        show TRep B S _ (d + 1) (ks[j]?.getD N.zero) _
        rw [HKJ.out]
        exact TRep.keep (Nat.le_refl _) hx.size (fun b _ hb => hx.block b hb) (fun _ h _ => h) (by omega) _ _ HRK.out
      · have q2 : (n.toList == s.toList) = false := by rw [beq_eq_false_iff_ne]; exact fun h => e (toList_inj h)
        have HE := Lib.hid (HST.out.trans (by rw [if_neg e]))
        clear e HST DJ
        go_wp2_with fail
        go_roundw
        case rel => exact ⟨j + 1, by omega, by go_num, (by first | rfl | trivial), HE.out⟩
        case measure => simp [intOf]; omega
    · have hi : ¬ (j : Int) < (ns.length : Int) := by omega
      have HE : Hid (ixFrom s 0 ns = none) := Lib.hid (HIX.out.trans (by rw [List.drop_eq_nil_of_le (by omega), ixFrom]))
      go_wp2_with fail
      refine (absent_any _).mono ?_
      rintro e w2 ⟨rfl, x2⟩
      have X3 := Lib.hid (E0.out.trans' x2)
      have hb2 := X2.out.ext x2
      have B2 := Lib.hid hb2
      obtain ⟨⟨y0, y1, y2, y3, y4, y5⟩, h0, h1, h2, h3, h4, h5⟩ := hb2.cells6
      have yl := hb2.lt
      clear x2 hb2
      go_wp2_with fail
      refine bodyPost_ret (results_tcell rfl _ _ _ _ _ _ _ _ _ rfl (B2.out.set6 _ _ _ _ _ _)) rfl ?_
      rw [HO.out, HE.out]
      exact ⟨_, rfl, X3.out.set6 (by omega) _ _ _ _ _ _, TRep.zero⟩
end Go.Proofs.YtocndkhgopjhhaaGreat
