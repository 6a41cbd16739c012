/- touchstoneref07.Made: a node as a term; New. -/
import Derived.Test.YtocndkhgopjhhaaGreatProg
import Derived.Test.YtocndkhgopjhhaaGreatFsD
import Derived.Test.YtocndkhgopjhhaaGreatOwn
import Derived.Deep.RegionLaw
import Derived.Outline
namespace Go.Proofs.YtocndkhgopjhhaaGreat
open Go.RowKit

/-- the blocks in which the terms of a row of the call's own may lie: none of the two rows. -/
def Asd (base sz : Nat) (A : Option Addr) (m c : Nat) (A' : Option Addr) (m' c' : Nat) (b : Nat) : Prop := base ≤ b ∧ b < sz ∧ (Value.slice A m c).ownBlock ≠ some b ∧ (Value.slice A' m' c').ownBlock ≠ some b
structure MW (B D : Nat) (w wr : World) (nc : Array Value) (k : Int) (tx : ByteArray) (mN mK : Nat) (A : Option Addr) (c : Nat) (A' : Option Addr) (c' : Nat) (pN : List ByteArray) (pK : List N) : Prop where
  ext : Ext w wr
  b1 : Blk wr w.heap.size 25 nc
  b2 : Blk wr (w.heap.size + 1) 45 tz6
  b3 : Blk wr (w.heap.size + 1 + 1) 45 #[.int .i64 (-1), .int .u8 k, .string tx, .int .i64 (-1), .slice A mN c, .slice A' mK c']
  nrow : wr.ownsRow (w.heap.size + 3) 9 1 (.slice A mN c) mN (pN.map Value.string)
  krow : ∃ xs, wr.ownsRow (w.heap.size + 3) 45 6 (.slice A' mK c') mK xs ∧ TFlat (TRep B (Asd (w.heap.size + 3) wr.heap.size A mN c A' mK c') wr D) xs pK
  lN : pN.length = mN
  lK : pK.length = mK
section
variable {B D : Nat} {w wr w1 : World} {nc : Array Value} {k : Int} {tx : ByteArray} {mN mK : Nat} {A : Option Addr} {c : Nat} {A' : Option Addr} {c' : Nat} {pN : List ByteArray} {pK : List N}
theorem MW.grow (h : MW B D w wr nc k tx mN mK A c A' c' pN pK) (hx : Ext wr w1) : MW B D w w1 nc k tx mN mK A c A' c' pN pK := by
  obtain ⟨xs, hk, hf⟩ := h.krow
  have hz := hx.size
  exact ⟨h.ext.trans' hx, h.b1.ext hx, h.b2.ext hx, h.b3.ext hx, ownsRow_ext h.nrow fun g hg => hx.block g (ownsRow_lt h.nrow hg).2, ⟨xs, ownsRow_ext hk fun g hg => hx.block g (ownsRow_lt hk hg).2, hf.mono fun t v hr => hr.wide (Nat.le_refl _) hx (fun b hb _ => ⟨hb.1, by have := hb.2.1; omega, hb.2.2⟩) (Nat.le_refl _)⟩, h.lN, h.lK⟩
theorem MW.size (h : MW B D w wr nc k tx mN mK A c A' c' pN pK) : w.heap.size + 3 ≤ wr.heap.size := by have := h.b3.lt; omega
theorem MW.cells (h : MW B D w wr nc k tx mN mK A c A' c' pN pK) : wr.cell? ⟨w.heap.size + 1 + 1, 4, none⟩ = some (.slice A mN c) ∧ wr.cell? ⟨w.heap.size + 1 + 1, 5, none⟩ = some (.slice A' mK c') ∧ wr.frozen? ⟨w.heap.size + 1 + 1, 4, none⟩ = false ∧ wr.frozen? ⟨w.heap.size + 1 + 1, 5, none⟩ = false ∧ w.heap.size + 1 + 1 < wr.heap.size :=
  ⟨h.b3.cell 4, h.b3.cell 5, h.b3.frozen 4, h.b3.frozen 5, h.b3.lt⟩
theorem MW.farN (h : MW B D w wr nc k tx mN mK A c A' c' pN pK) {g : Nat} (hg : g < w.heap.size + 3) : some g ≠ (Value.slice A mN c).ownBlock := fun e => by have := (ownsRow_lt h.nrow e.symm).1; omega
theorem MW.farK (h : MW B D w wr nc k tx mN mK A c A' c' pN pK) {g : Nat} (hg : g < w.heap.size + 3) : some g ≠ (Value.slice A' mK c').ownBlock := fun e => by
  obtain ⟨xs, hk, _⟩ := h.krow
  have := (ownsRow_lt hk e.symm).1
  omega
theorem MW.midN (h : MW B D w wr nc k tx mN mK A c A' c' pN pK) (hg : wr.grownBy w1 (Value.slice A mN c).ownBlock) : w1.frozen? ⟨w.heap.size + 1 + 1, 4, none⟩ = false ∧ w1.cell? ⟨w.heap.size + 1 + 1, 4, none⟩ = some (.slice A mN c) ∧ w.heap.size + 1 + 1 < w1.heap.size := by
  have hb := h.b3.grown hg (h.farN (by omega))
  exact ⟨hb.frozen 4, hb.cell 4, hb.lt⟩
theorem MW.midK (h : MW B D w wr nc k tx mN mK A c A' c' pN pK) (hg : wr.grownBy w1 (Value.slice A' mK c').ownBlock) : w1.frozen? ⟨w.heap.size + 1 + 1, 5, none⟩ = false ∧ w1.cell? ⟨w.heap.size + 1 + 1, 5, none⟩ = some (.slice A' mK c') ∧ w.heap.size + 1 + 1 < w1.heap.size := by
  have hb := h.b3.grown hg (h.farK (by omega))
  exact ⟨hb.frozen 5, hb.cell 5, hb.lt⟩
theorem MW.pushN (h : MW B D w wr nc k tx mN mK A c A' c' pN pK) {s : ByteArray} {A3 : Option Addr} {c3 : Nat} (ho : w1.ownsRow (w.heap.size + 3) 9 1 (.slice A3 (mN + 1) c3) (mN + 1) (pN.map Value.string ++ [.string s])) (hg : wr.grownBy w1 (Value.slice A mN c).ownBlock) (hat : At wr (.slice A mN c) (.slice A3 (mN + 1) c3)) :
    MW B D w (w1.setCell ⟨w.heap.size + 1 + 1, 4, none⟩ (.slice A3 (mN + 1) c3)) nc k tx (mN + 1) mK A3 c3 A' c' (pN ++ [s]) pK := by
  obtain ⟨xs, hk, hf⟩ := h.krow
  have hz := hg.size
  have hkn : ∀ g, (Value.slice A' mK c').ownBlock = some g → some g ≠ (Value.slice A mN c).ownBlock := fun g hg' e => ownsRow_ne h.nrow hk (by decide) e.symm hg'
  have hzs : (w1.setCell ⟨w.heap.size + 1 + 1, 4, none⟩ (.slice A3 (mN + 1) c3)).heap.size = w1.heap.size := by simp [World.setCell]
  refine ⟨(Ext.grown h.ext hg fun g e => by have := (ownsRow_lt h.nrow e).1; omega).setCell (p := ⟨w.heap.size + 1 + 1, 4, none⟩) (by simp; omega) _, ?_, ?_, ?_, ?_, ⟨xs, ?_, ?_⟩, by simp [h.lN], h.lK⟩
  · exact (h.b1.grown hg (h.farN (by omega))).far (p := ⟨w.heap.size + 1 + 1, 4, none⟩) (by show w.heap.size ≠ w.heap.size + 1 + 1; omega) _
  · exact (h.b2.grown hg (h.farN (by omega))).far (p := ⟨w.heap.size + 1 + 1, 4, none⟩) (by show w.heap.size + 1 ≠ w.heap.size + 1 + 1; omega) _
  · have := (h.b3.grown hg (h.farN (by omega))).set_ 4 (.slice A3 (mN + 1) c3)
    simpa using this
  · rw [List.map_append]
    refine ownsRow_ext ho fun g e => Below.heap_setCell _ _ _ _ ?_
    have := (ownsRow_lt ho e).1
    show g ≠ w.heap.size + 1 + 1
    omega
  · refine ownsRow_ext hk fun g e => (Below.heap_setCell _ _ _ _ ?_).trans (hg.block g (ownsRow_lt hk e).2 (hkn g e))
    have := (ownsRow_lt hk e).1
    show g ≠ w.heap.size + 1 + 1
    omega
  · refine hf.mono fun t v hr => TRep.keep (Nat.le_refl _) (by rw [hzs]; exact hz) (fun b hb hl => (Below.heap_setCell _ _ _ _ ?_).trans (hg.block b hl fun e => hb.2.2.1 e.symm)) (fun b hb hl => ⟨hb.1, by rw [hzs]; omega, fun e => ?_, hb.2.2.2⟩) (Nat.le_refl _) _ _ hr
    · have := hb.1
      show b ≠ w.heap.size + 1 + 1
      omega
    · rcases hat with h2 | h2
      · rw [h2] at e; exact hb.2.2.1 e
      · have := h2 b e; omega
theorem MW.pushK (h : MW B D w wr nc k tx mN mK A c A' c' pN pK) {t : N} {v0 v1 v2 v3 v4 v5 : Value} (hr : TRep B (Asd (w.heap.size + 3) wr.heap.size A mN c A' mK c') wr D t (.agg #[v0, v1, v2, v3, v4, v5])) {A3 : Option Addr} {c3 : Nat}
    {xs : List Value} (hxs : TFlat (TRep B (Asd (w.heap.size + 3) wr.heap.size A mN c A' mK c') wr D) xs pK) (ho : w1.ownsRow (w.heap.size + 3) 45 6 (.slice A3 (mK + 1) c3) (mK + 1) (xs ++ [v0, v1, v2, v3, v4, v5])) (hg : wr.grownBy w1 (Value.slice A' mK c').ownBlock) (hat : At wr (.slice A' mK c') (.slice A3 (mK + 1) c3)) :
    MW B D w (w1.setCell ⟨w.heap.size + 1 + 1, 5, none⟩ (.slice A3 (mK + 1) c3)) nc k tx mN (mK + 1) A c A3 c3 pN (pK ++ [t]) := by
  obtain ⟨ys, hk, _⟩ := h.krow
  have hz := hg.size
  have hkn : ∀ g, (Value.slice A mN c).ownBlock = some g → some g ≠ (Value.slice A' mK c').ownBlock := fun g hg' e => ownsRow_ne h.nrow hk (by decide) hg' e.symm
  have hzs : (w1.setCell ⟨w.heap.size + 1 + 1, 5, none⟩ (.slice A3 (mK + 1) c3)).heap.size = w1.heap.size := by simp [World.setCell]
  refine ⟨(Ext.grown h.ext hg fun g e => by have := (ownsRow_lt hk e).1; omega).setCell (p := ⟨w.heap.size + 1 + 1, 5, none⟩) (by simp; omega) _, ?_, ?_, ?_, ?_, ⟨_, ?_, (hxs.push hr).mono ?_⟩, h.lN, by simp [h.lK]⟩
  · exact (h.b1.grown hg (h.farK (by omega))).far (p := ⟨w.heap.size + 1 + 1, 5, none⟩) (by show w.heap.size ≠ w.heap.size + 1 + 1; omega) _
  · exact (h.b2.grown hg (h.farK (by omega))).far (p := ⟨w.heap.size + 1 + 1, 5, none⟩) (by show w.heap.size + 1 ≠ w.heap.size + 1 + 1; omega) _
  · have := (h.b3.grown hg (h.farK (by omega))).set_ 5 (.slice A3 (mK + 1) c3)
    simpa using this
  · refine ownsRow_ext h.nrow fun g e => (Below.heap_setCell _ _ _ _ ?_).trans (hg.block g (ownsRow_lt h.nrow e).2 (hkn g e))
    have := (ownsRow_lt h.nrow e).1
    show g ≠ w.heap.size + 1 + 1
    omega
  · refine ownsRow_ext ho fun g e => Below.heap_setCell _ _ _ _ ?_
    have := (ownsRow_lt ho e).1
    show g ≠ w.heap.size + 1 + 1
    omega
  · refine fun t v hr => TRep.keep (Nat.le_refl _) (by rw [hzs]; exact hz) (fun b hb hl => (Below.heap_setCell _ _ _ _ ?_).trans (hg.block b hl fun e => hb.2.2.2 e.symm)) (fun b hb hl => ⟨hb.1, by rw [hzs]; omega, hb.2.2.1, fun e => ?_⟩) (Nat.le_refl _) _ _ hr
    · have := hb.1
      show b ≠ w.heap.size + 1 + 1
      omega
    · rcases hat with h2 | h2
      · rw [h2] at e; exact hb.2.2.2 e
      · have := h2 b e; omega
/-- a term that a call made behind the world wc lies beside. -/
theorem MW.beside {wc : World} (h : MW B D w wc nc k tx mN mK A c A' c' pN pK) {t : N} {v : Value} (_hx : Ext wc wr) (hr : TRep B (fun b => wc.heap.size ≤ b) wr D t v) (hx1 : Ext wr w1) : TRep B (Asd (w.heap.size + 3) w1.heap.size A mN c A' mK c') w1 D t v := by
  have hz := h.size
  have hz1 := hx1.size
  obtain ⟨xs, hk, _⟩ := h.krow
  refine hr.wide (Nat.le_refl _) hx1 (fun b hb hl => ⟨by omega, by omega, fun e => ?_, fun e => ?_⟩) (Nat.le_refl _)
  · have := (ownsRow_lt h.nrow e).2; omega
  · have := (ownsRow_lt hk e).2; omega
/-- What Made comes to. -/
def MadePost (B d : Nat) (t : N) (w : World) (e : Ending) (w' : World) : Prop := ∃ A c A' c', e = .returned (termV t A c A' c') ∧ Ext w w' ∧ TRep B (fun b => w.heap.size ≤ b) w' d t (termV t A c A' c')
theorem MW.fin (h : MW B D w wr nc k tx mN mK A c A' c' pN pK) (htx : tx.size ≤ maxLen) (h1 : mN ≤ 4 * B) (h2 : mK ≤ B) (h3 : ∀ s ∈ pN, s.size ≤ maxLen) {t : N} (ht : t = .mk k tx pN pK) :
    MadePost B (D + 1) t w (.returned (.agg #[.int .i64 (-1), .int .u8 k, .string tx, .int .i64 (-1), .slice A mN c, .slice A' mK c'])) (set6 wr (w.heap.size + 1) (.int .i64 (-1)) (.int .u8 k) (.string tx) (.int .i64 (-1)) (.slice A mN c) (.slice A' mK c')) := by
  subst ht
  obtain ⟨xs, hk, hf⟩ := h.krow
  have hlN := h.lN
  have hlK := h.lK
  have hx := h.ext.set6 (g := w.heap.size + 1) (by omega) (.int .i64 (-1)) (.int .u8 k) (.string tx) (.int .i64 (-1)) (.slice A mN c) (.slice A' mK c')
  have hn := h.nrow
  rw [← hlN] at hn h1
  have hss := OwnStrs.strs (B := 4 * B) hn h1 h3
  have hkk := own_tkids (B := B) hk hlK h2 hf
  subst hlN hlK
  refine ⟨A, c, A', c', rfl, hx, ?_⟩
  have hne : ∀ b, b ≠ w.heap.size + 1 → (set6 wr (w.heap.size + 1) (.int .i64 (-1)) (.int .u8 k) (.string tx) (.int .i64 (-1)) (.slice A pN.length c) (.slice A' pK.length c')).heap[b]? = wr.heap[b]? := fun b hb => heap_set6 _ _ _ _ _ _ _ _ hb
  refine TRep.of htx (hss.keep (by rw [size_set6]; exact Nat.le_refl _) (fun b e _ => hne b ?_) (fun b e _ => ?_)) (hkk.keep (Nat.le_refl _) (by rw [size_set6]; exact Nat.le_refl _) (fun b e _ => hne b ?_) (fun b e _ => ?_) (Nat.le_refl _))
  · have := (ownsRow_lt hn e).1; omega
  · have := (ownsRow_lt hn e).1; omega
  · rcases e with e | e
    · have := e.1; omega
    · have := (ownsRow_lt hk e).1; omega
  · rcases e with e | e
    · have := e.1; omega
    · have := (ownsRow_lt hk e).1; omega
end

set_option maxRecDepth 100000 in
set_option maxHeartbeats 8000000 in
theorem made_any (B : Nat) (hB : B ≤ 2199023255552) (S : Nat → Prop) (d : Nat) : ∀ (t : N) (v : Value) (w : World), t.well = true → Rep B S w d t v → Calls Tryz.prog 24 #[v] w (MadePost B d t w) := by
  obtain ⟨i1, hi1, hy1, hy2, hy3⟩ := info_parts string_info
  obtain ⟨i6, hi6, hz1, hz2, hz3⟩ := info_parts term_info
  have HI1 := Lib.hid hi1
  have HY1 := Lib.hid hy1
  have HY2 := Lib.hid hy2
  have HY3 := Lib.hid hy3
  have HI6 := Lib.hid hi6
  have HZ1 := Lib.hid hz1
  have HZ2 := Lib.hid hz2
  have HZ3 := Lib.hid hz3
  clear hi1 hy1 hy2 hy3 hi6 hz1 hz2 hz3
  induction d with
  | zero => intro t v w _ h; exact h.elim
  | succ d ih =>
  intro t v w hwell hr
  have IH := Lib.hid ih
  have HL := Lib.hid ((show Wz t from .inl hwell).len)
  have HKW := Lib.hid ((show Wz t from .inl hwell).kids)
  obtain ⟨k, tx, ns, ks⟩ := t
  have HL : Hid (ns.length = ks.length) := Lib.hid HL.out
  have HKW : Hid (∀ x ∈ ks, x.well = true) := Lib.hid HKW.out
  obtain ⟨nv, kv, rfl, htx, hn, hk⟩ := hr.split
  obtain ⟨An, cn, rfl, hcn, hmn, hBn, hsn, hnc⟩ := hn
  obtain ⟨Ak, ck, rfl, hck, hmk, hBk, hkc⟩ := hk
  have HTX := Lib.hid htx
  have HSN := Lib.hid hsn
  have HNC := Lib.hid hnc
  have HKC := Lib.hid hkc
  have hBn3 : ns.length ≤ B := by have := HL.out; omega
  clear ih hr hsn hnc hkc hBn hcn hck htx hwell
  unfold maxLen at hmn hmk
  have L0 : Hid (MW B d w (((w.alloc (.cells #[.int .u8 k, .string tx, .slice An ns.length cn, .slice Ak ks.length ck] 25)).alloc (.cells tz6 45)).alloc (.cells #[.int .i64 (-1), .int .u8 k, .string tx, .int .i64 (-1), .slice none 0 0, .slice none 0 0] 45)) #[.int .u8 k, .string tx, .slice An ns.length cn, .slice Ak ks.length ck] k tx 0 0 none 0 none 0 [] []) :=
    Lib.hid ⟨((Ext.alloc' _ _).trans' (Ext.alloc' _ _)).trans' (Ext.alloc' _ _), ((Blk.new _ _ _).alloc _).alloc _, (Blk.new' _ _ _ (by simp)).alloc _, Blk.new' _ _ _ (by simp), World.ownsRow_nil _ _ _ _, ⟨[], World.ownsRow_nil _ _ _ _, TFlat.nil⟩, rfl, rfl⟩
  go_enter Tryz.func24, Tryz.ntmps24
  go_wp2_with fail
  go_loopw [4] (fun i wr => ∃ (j : Nat) (A : Option Addr) (c : Nat) (A' : Option Addr) (c' : Nat), j ≤ ks.length ∧ i = .int .i64 j ∧ MW B d w wr #[.int .u8 k, .string tx, .slice An ns.length cn, .slice Ak ks.length ck] k tx j j A c A' c' (ns.take j) (ks.take j)) (fun i _ => ks.length - (intOf i).toNat)
  case atStart => exact ⟨0, none, 0, none, 0, Nat.zero_le _, rfl, L0.out⟩
  case round =>
    obtain ⟨j, A, c, A', c', hj, rfl, hL⟩ := hrel
    have L := Lib.hid hL
    obtain ⟨hcx, hfx⟩ := hL.ext.rules
    have hzx := hL.size
    obtain ⟨r2, r3, f2, f3, rl⟩ := hL.cells
    obtain ⟨n0, n1, n2, n3, _⟩ := hL.b1.cells4
    have nl := hL.b1.lt
    have hjB : j ≤ B := by omega
    clear hL L0
    by_cases hlt : j < ks.length
    · have hln : j < ns.length := by have := HL.out; omega
      have hi : (j : Int) < (ns.length : Int) := by omega
      have hik : (j : Int) < (ks.length : Int) := by omega
      obtain ⟨bn, on, rfl, hSn, hbn, hcn⟩ := HNC.out (by omega)
      obtain ⟨bk, ok, rfl, hSk, hbk, hck⟩ := HKC.out (by omega)
      have cj := hcn j _ (List.getElem?_eq_getElem hln)
      obtain ⟨v0, v1, v2, v3, d0, d1, d2, d3, hrk⟩ := hck j _ (List.getElem?_eq_getElem hlt)
      obtain ⟨Aj, cj', Aj', cj'', rfl, rfl, rfl, rfl⟩ := hrk.shape
      have htn : ns.take (j + 1) = ns.take j ++ [ns[j]] := List.take_succ_eq_append_getElem hln
      have htk : ks.take (j + 1) = ks.take j ++ [ks[j]] := List.take_succ_eq_append_getElem hlt
      have hkw := HKW.out _ (List.getElem_mem hlt)
      generalize ns[j] = n at cj htn
      generalize ks[j] = kk at d0 d1 d2 d3 hrk htk hkw
      have HRK := Lib.hid hrk
      have HTN := Lib.hid htn
      have HTK := Lib.hid htk
      have HWK := Lib.hid hkw
      have DJ := Lib.hid (show _ ∧ _ ∧ _ ∧ _ from ⟨d0, d1, d2, d3⟩)
      have cn0 : wr.cell? ⟨bn, on + j, none⟩ = some (.string n) := (hcx bn (on + j) hbn).trans cj
      have hbnr : bn < wr.heap.size := by omega
      clear hcn hck hrk HNC HKC d0 d1 d2 d3 cj hcx hfx htn htk hkw
      go_upto_region 5 with fail
      have L4 := Lib.hid (L.out.grow (Ext.allocDrewT wr (.cells #[.string n] 9)))
      go_region_law
        ((refine stepAH rfl (.tmp 18) (.tmp 24) 22 rfl (w.heap.size + 3) 9 i1 _ 1 16 Tryz.underlying22 HI1.out HY1.out HY2.out HY3.out rfl (by omega) (.slice A j c) j _ rfl L4.out.nrow (some ⟨wr.heap.size, 0, none⟩) 1 1 [_] rfl rfl (fun _ => ⟨_, rfl, cells1_new rfl _ _⟩) (by simp [Value.oneCell']) (by simp only [maxLen]; omega) (by omega) (by have := L4.out.size; omega) ?_
          intro v' w3 ho hg hat
          obtain ⟨A3, c3, rfl⟩ := ownsRow_form ho
          obtain ⟨g2, g2', gl⟩ := L4.out.midN hg
          have L3 := Lib.hid (L4.out.pushN ho hg hat)
          clear ho hg hat))
      all_goals
        obtain ⟨W3, hW3⟩ : ∃ W3, W3 = w3.setCell ⟨w.heap.size + 1 + 1, 4, none⟩ (.slice A3 (j + 1) c3) := ⟨_, rfl⟩
        have L3 : Hid (MW B d w W3 #[.int .u8 k, .string tx, .slice (some ⟨bn, on, none⟩) ns.length cn, .slice (some ⟨bk, ok, none⟩) ks.length ck] k tx (j + 1) j A3 c3 A' c' (ns.take j ++ [n]) (ks.take j)) := Lib.hid (by rw [hW3]; exact L3.out)
        rw [← hW3]
        clear hW3 r2 r3 f2 f3 rl g2 g2' gl n0 n1 n2 n3 nl cn0 hbnr L4
        obtain ⟨n0, n1, n2, n3, _⟩ := L3.out.b1.cells4
        have nl := L3.out.b1.lt
        obtain ⟨r2, r3, f2, f3, rl⟩ := L3.out.cells
        have hz3 := L3.out.size
        have hbkW : bk < W3.heap.size := by omega
        obtain ⟨d0, d1, d2, d3⟩ := DJ.out
        have k0 : W3.cell? ⟨bk, ok + j * 4, none⟩ = _ := (L3.out.ext.cell (p := ⟨bk, ok + j * 4, none⟩) hbk).trans d0
        have k1 : W3.cell? ⟨bk, ok + j * 4 + 1, none⟩ = _ := (L3.out.ext.cell (p := ⟨bk, ok + j * 4 + 1, none⟩) hbk).trans d1
        have k2 : W3.cell? ⟨bk, ok + j * 4 + 2, none⟩ = _ := (L3.out.ext.cell (p := ⟨bk, ok + j * 4 + 2, none⟩) hbk).trans d2
        have k3 : W3.cell? ⟨bk, ok + j * 4 + 3, none⟩ = _ := (L3.out.ext.cell (p := ⟨bk, ok + j * 4 + 3, none⟩) hbk).trans d3
        clear d0 d1 d2 d3
        go_upto_region 6 with fail
        go_region_law (first
          | (refine stepCall rfl 24 #[.tmp 33] #[25] rfl #[.agg #[.int .u8 kk.kind, .string kk.text, .slice Aj kk.names.length cj', .slice Aj' kk.kids.length cj'']] (by simp [Act.eval]) (fun _ _ => by kernel_rfl) (IH.out kk _ _ HWK.out (HRK.out.ext (L3.out.ext.trans' (Below.drew (Below.refl _ W3))))) ?_
             rintro e w4 ⟨A4, c4, A4', c4', rfl, x4, hr4⟩
             refine ⟨_, rfl, ?_⟩
             have hx4 := Ext.trans' (Below.drew (Below.refl _ W3)) x4
             have L4 := Lib.hid (L3.out.grow (hx4.trans' (Ext.alloc' w4 (.cells #[.int .i64 (-1), .int .u8 kk.kind, .string kk.text, .int .i64 (-1), .slice A4 kk.names.length c4, .slice A4' kk.kids.length c4'] 45))))
             have R4 := Lib.hid (L3.out.beside hx4 (show TRep B (fun b => W3.heap.size ≤ b) w4 d kk _ from hr4) (Ext.alloc' w4 (.cells #[.int .i64 (-1), .int .u8 kk.kind, .string kk.text, .int .i64 (-1), .slice A4 kk.names.length c4, .slice A4' kk.kids.length c4'] 45)))
             obtain ⟨xs, hxs, hfl⟩ := L4.out.krow
             have HXS := Lib.hid hxs
             have HFL := Lib.hid hfl
             have hb4 := L3.out.b3.ext hx4
             have s3 : w4.cell? ⟨w.heap.size + 1 + 1, 5, none⟩ = some (.slice A' j c') := hb4.cell 5
             have sl := hb4.lt
             have hz4 := hx4.size
             clear x4 hx4 hr4 hxs hfl hb4)
          | (refine stepAH rfl (.tmp 28) (.tmp 35) 43 rfl (w.heap.size + 3) 45 i6 _ 6 88 Tryz.underlying43 HI6.out HZ1.out HZ2.out HZ3.out rfl (by omega) (.slice A' j c') j _ rfl HXS.out (some ⟨w4.heap.size, 0, none⟩) 1 1 [_, _, _, _, _, _] rfl rfl (fun _ => ⟨_, rfl, cells6_new rfl _ _ _ _ _ _ _⟩) (by simp [Value.oneCell']) (by simp only [maxLen]; omega) (by omega) (by simp; omega) ?_
             intro v' w5 ho hg hat
             obtain ⟨A5, c5, rfl⟩ := ownsRow_form ho
             obtain ⟨h2, h2', hl⟩ := L4.out.midK hg
             have L6 := Lib.hid (L4.out.pushK R4.out HFL.out ho hg hat)
             clear ho hg hat))
        all_goals
          go_wp2_with fail
          go_roundw
          case rel => exact ⟨j + 1, A3, c3, A5, c5, by omega, by go_num, by rw [HTN.out, HTK.out]; exact L6.out⟩
          case measure => simp [intOf]; omega
    · have hjn : j = ks.length := by omega
      subst hjn
      have hi : ¬ (ks.length : Int) < (ks.length : Int) := by omega
      obtain ⟨y0, y1, y2, y3, y4, y5⟩ := L.out.b2.cells6.1
      obtain ⟨z0, z1, z2, z3, z4, z5⟩ := L.out.b3.cells6.1
      obtain ⟨t0, t1, t2, t3, t4, t5⟩ := L.out.b2.cells6.2
      have yl := L.out.b2.lt
      clear hcx hfx
      go_wp2_with fail
      refine bodyPost_ret (results_tcell rfl _ _ _ _ _ _ _ _ _ rfl (L.out.b2.set6 _ _ _ _ _ _)) rfl ?_
      refine L.out.fin HTX.out (by omega) hBk (fun y hy => HSN.out y (List.mem_of_mem_take hy)) ?_
      rw [List.take_of_length_le (by have := HL.out; omega), List.take_of_length_le (Nat.le_refl _)]
end Go.Proofs.YtocndkhgopjhhaaGreat
