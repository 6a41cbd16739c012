/- touchstoneref07's Open, Put, Del, Copy, Move: what they compute. -/
import Derived.Test.YtocndkhgopjhhaaProg
import Derived.Test.YtocndkhgopjhhaaWith2
import Derived.Test.YtocndkhgopjhhaaAt7
import Derived.Test.YtocndkhgopjhhaaWell7
import Derived.Test.YtocndkhgopjhhaaTreeB
import Derived.Test.YtocndkhgopjhhaaTSet
import Derived.Test.YtocndkhgopjhhaaLst
import Derived.Outline
namespace Go.Proofs.Ytocndkhgopjhhaa
open Go.RowKit

theorem Strs.initC {B : Nat} {S : Nat → Prop} {w : World} {A : Option Addr} {n c : Nat} {s : ByteArray} {q : List ByteArray} (h : Strs B S w (.slice A n c) (q ++ [s])) : Strs B S w (.slice A q.length c) q := by
  obtain ⟨rfl, h1, h2, h3, h4, h5⟩ := h.at'
  simp only [List.length_append, List.length_cons, List.length_nil] at h1 h3 h5
  refine ⟨A, c, rfl, by omega, by omega, by omega, fun x hx => h4 x (by simp [hx]), fun _ => ?_⟩
  obtain ⟨b, o, e, hS, hl, hc⟩ := h5 (by omega)
  exact ⟨b, o, e, hS, hl, fun i x hi => hc i x (by rw [List.getElem?_append_left (List.getElem?_eq_some_iff.1 hi).1]; exact hi)⟩

theorem rOpen_nil (t : N) : rOpen t [] = false := rfl
theorem rOpen_snoc (t : N) (q : List ByteArray) (s : ByteArray) : rOpen t (q ++ [s]) = (nameB s && ((t.get q).isSome && decide (((t.get q).getD N.zero).kind = 2))) := by
  unfold rOpen
  rw [List.getLast?_append, List.dropLast_concat]
  simp only [List.getLast?_singleton, Option.some_or]
  cases t.get q <;> rfl

set_option maxRecDepth 100000 in
set_option maxHeartbeats 2000000 in
theorem open7_any {B Bp d : Nat} {S Sp : Nat → Prop} {w : World} {t : N} {v pv : Value} {p : List ByteArray} (hr : Rep B S w d t v) (hp : Strs Bp Sp w pv p) :
    Calls Try.prog 109 #[v, pv] w fun e w' => e = .returned (.bool (rOpen t p)) ∧ Ext w w' := by
  have HP := Lib.hid hp
  have HR := Lib.hid hr
  obtain ⟨A0, c0, A0', c0', rfl⟩ := hr.agg
  clear hr
  rcases snoc_or p with rfl | ⟨q, s, rfl⟩
  · obtain ⟨Ap, cp, rfl, _⟩ := hp
    go_enter Try.func109, Try.ntmps109
    go_wp2_with fail
    go_ret
    exact ⟨rfl, Ext.alloc' _ _⟩
  · obtain ⟨Ap, cp, rfl, _⟩ := id hp
    obtain ⟨bp, op, rfl, hn, hcp, hcm, _, hbp, hc, hs⟩ := hp.last
    have HPI := Lib.hid hp.initC
    have Ho := Lib.hid (rOpen_snoc t q s)
    have Hs := Lib.hid hs
    have HX0 := Lib.hid (Ext.alloc' w (.cells #[.int .u8 t.kind, .string t.text, .slice A0 t.names.length c0, .slice A0' t.kids.length c0'] 25))
    have HB0 := Lib.hid (Blk.new w 25 #[.int .u8 t.kind, .string t.text, .slice A0 t.names.length c0, .slice A0' t.kids.length c0'])
    rw [hn] at HP ⊢
    unfold maxLen at hcm
    have hql : (0 : Int) ≤ (q.length : Int) := by omega
    have hqc : (q.length : Int) ≤ (cp : Int) := by omega
    have hqw : IntKind.i64.wrap (q.length : Int) = (q.length : Int) := by rw [IntKind.wrap_i64]; omega
    clear hp hn hs
    cases hnb : nameB s
    · have Hnb := Lib.hid hnb
      clear hnb
      go_enter Try.func109, Try.ntmps109
      go_wp2_with (go_at_call 82; refine (name6_any s _ Hs.out).mono ?_; rw [Hnb.out]; rintro e w1 ⟨rfl, rfl⟩)
      go_ret
      exact ⟨ret_bool (by rw [Ho.out, Hnb.out]; rfl), HX0.out⟩
    · have Hnb := Lib.hid hnb
      clear hnb
      go_enter Try.func109, Try.ntmps109
      go_upto_region 3 with (go_at_call 82; refine (name6_any s _ Hs.out).mono ?_; rw [Hnb.out]; rintro e w1 ⟨rfl, rfl⟩)
      obtain ⟨W, hW⟩ : ∃ W, W = w.alloc (.cells #[.int .u8 t.kind, .string t.text, .slice A0 t.names.length c0, .slice A0' t.kids.length c0'] 25) := ⟨_, rfl⟩
      rw [← hW] at HX0 HB0 ⊢
      obtain ⟨p0, p1, p2, p3, _⟩ := HB0.out.cells4
      have pl := HB0.out.lt
      clear hW
      have HXa := Lib.hid (show Ext W W.drew from Below.drew (Below.refl _ _))
      have HXb := Lib.hid (Ext.allocDrew W (.cells #[.int .u8 0, .string { data := #[] }, .slice none 0 0, .slice none 0 0] 25))
      have HBZ := Lib.hid (show Blk (W.alloc (.cells #[.int .u8 0, .string { data := #[] }, .slice none 0 0, .slice none 0 0] 25)).drew W.heap.size 25 #[.int .u8 0, .string { data := #[] }, .slice none 0 0, .slice none 0 0] from Blk.new W _ _)
      go_region_with (first
        | (go_at_call 23; (with_reducible refine (at7_any _ _ _ _ _ _ _ _ q _ (HR.out.ext (HX0.out.trans' HXa.out)) (HPI.out.ext (HX0.out.trans' HXa.out))).mono ?_); rintro e w2 ⟨vg, rfl, hx2, hr2⟩; obtain ⟨A2, c2, A2', c2', rfl⟩ := hr2.agg; have HX2 := Lib.hid (HXa.out.trans' hx2); clear hx2 hr2)
        | (go_at_call 23; (with_reducible refine (at7_any _ _ _ _ _ _ _ _ q _ (HR.out.ext (HX0.out.trans' HXb.out)) (HPI.out.ext (HX0.out.trans' HXb.out))).mono ?_); rintro e w2 ⟨vg, rfl, hx2, hr2⟩; obtain ⟨A2, c2, A2', c2', rfl⟩ := hr2.agg; have HX2 := Lib.hid (HXb.out.trans' hx2); obtain ⟨z0, z1, z2, z3, f0, f1, f2, f3⟩ := (HBZ.out.ext hx2).cells4; have zl := (HBZ.out.ext hx2).lt; clear hx2 hr2))
      all_goals
        cases hg : (t.get q).isSome
        all_goals
          go_wp2_with fail
          go_ret
          refine ⟨ret_bool ?_, ?_⟩
          · rw [Ho.out, Hnb.out, hg]
            first
              | rfl
              | (rw [Bool.true_and, Bool.true_and, Bool.eq_iff_iff]
                 simp only [beq_iff_eq, decide_eq_true_eq]
                 exact Int.cast_inj)
              | (rw [Bool.true_and, Bool.true_and, Bool.eq_iff_iff]
                 simp only [beq_iff_eq, decide_eq_true_eq])
          · first
              | exact (HX0.out.trans' HX2.out).trans' (Ext.alloc' _ _)
              | exact (HX0.out.trans' HX2.out).set4 (g := W.heap.size) HX0.out.size _ _ _ _

/-- 'The value v reads as the node t', its cells in blocks of S. -/
def NIs (B : Nat) (S : Nat → Prop) (w : World) (t : N) (v : Value) : Prop := ∃ d, Rep B S w (d + 1) t v
theorem NIs.of {B : Nat} {S S' : Nat → Prop} {w : World} {d : Nat} {t : N} {v : Value} (h : Rep B S w d t v) (hS : ∀ b, S b → b < w.heap.size → S' b) : NIs B S' w t v := by
  cases d with
  | zero => exact h.elim
  | succ d => exact ⟨d, Rep.keep (Nat.le_refl _) (fun _ _ _ => rfl) hS _ _ _ h⟩
theorem NIs.ext {B : Nat} {S : Nat → Prop} {w w' : World} {t : N} {v : Value} (h : NIs B S w t v) (hx : Ext w w') : NIs B S w' t v := by
  obtain ⟨d, h⟩ := h
  exact ⟨d, h.ext hx⟩
theorem NIs.imp {B : Nat} {S S' : Nat → Prop} {w : World} {t : N} {v : Value} (h : NIs B S w t v) (hS : ∀ b, S b → b < w.heap.size → S' b) : NIs B S' w t v := by
  obtain ⟨d, h⟩ := h
  exact .of h hS
theorem NIs.wideB {B B' : Nat} {S : Nat → Prop} {w : World} {t : N} {v : Value} (h : NIs B S w t v) (hB : B ≤ B') : NIs B' S w t v := by
  obtain ⟨d, h⟩ := h
  exact ⟨d, h.wideB hB⟩
theorem NIs.agg {B : Nat} {S : Nat → Prop} {w : World} {t : N} {v : Value} (h : NIs B S w t v) : ∃ A c A' c', v = .agg #[.int .u8 t.kind, .string t.text, .slice A t.names.length c, .slice A' t.kids.length c'] := by
  obtain ⟨d, h⟩ := h
  exact h.agg
/-- What comes out. -/
def RPost (B : Nat) (S : Nat → Prop) (t : N) (w : World) (e : Ending) (w' : World) : Prop := ∃ A c A' c', e = .returned (.agg #[.int .u8 t.kind, .string t.text, .slice A t.names.length c, .slice A' t.kids.length c']) ∧ Ext w w' ∧ NIs B (fun b => S b ∨ w.heap.size ≤ b) w' t (.agg #[.int .u8 t.kind, .string t.text, .slice A t.names.length c, .slice A' t.kids.length c'])
theorem RPost.wideB {B B' : Nat} {S : Nat → Prop} {t : N} {w : World} {e : Ending} {w' : World} (h : RPost B S t w e w') (hB : B ≤ B') : RPost B' S t w e w' := by
  obtain ⟨A, c, A', c', e, hx, hr⟩ := h
  exact ⟨A, c, A', c', e, hx, hr.wideB hB⟩
theorem fin_ext {B : Nat} {S : Nat → Prop} {t : N} {w w' : World} {A A' : Option Addr} {c c' : Nat} (h : NIs B S w t (.agg #[.int .u8 t.kind, .string t.text, .slice A t.names.length c, .slice A' t.kids.length c'])) (hx : Ext w w') :
    RPost B S t w (.returned (.agg #[.int .u8 t.kind, .string t.text, .slice A t.names.length c, .slice A' t.kids.length c'])) w' := ⟨A, c, A', c', rfl, hx, (h.ext hx).imp fun _ hb _ => .inl hb⟩
theorem fin_same {B : Nat} {S : Nat → Prop} {t : N} {w w' : World} {A A' : Option Addr} {c c' : Nat} (h : NIs B S w t (.agg #[.int .u8 t.kind, .string t.text, .slice A t.names.length c, .slice A' t.kids.length c'])) (hx : Ext w w') {g : Nat} (hg : w.heap.size ≤ g) :
    RPost B S t w (.returned (.agg #[.int .u8 t.kind, .string t.text, .slice A t.names.length c, .slice A' t.kids.length c'])) (set4 w' g (.int .u8 t.kind) (.string t.text) (.slice A t.names.length c) (.slice A' t.kids.length c')) :=
  fin_ext h (hx.set4 hg _ _ _ _)
theorem fin_with {B d : Nat} {S S2 : Nat → Prop} {t : N} {w wc w5 : World} {A A' : Option Addr} {c c' : Nat} (hx : Ext w wc) (hx5 : Ext wc w5) {g : Nat} (hg : w.heap.size ≤ g) (hgl : g < wc.heap.size) (hS : ∀ b, S2 b → b ≠ g ∧ (S b ∨ w.heap.size ≤ b)) (h : Rep B (fun b => S2 b ∨ wc.heap.size ≤ b) w5 d t (.agg #[.int .u8 t.kind, .string t.text, .slice A t.names.length c, .slice A' t.kids.length c'])) :
    RPost B S t w (.returned (.agg #[.int .u8 t.kind, .string t.text, .slice A t.names.length c, .slice A' t.kids.length c'])) (set4 w5 g (.int .u8 t.kind) (.string t.text) (.slice A t.names.length c) (.slice A' t.kids.length c')) :=
  ⟨A, c, A', c', rfl, (hx.trans' hx5).set4 hg _ _ _ _, NIs.of (Rep.keep (by rw [size_set4]; exact Nat.le_refl _) (fun b hb _ => heap_set4 _ _ _ _ _ _ (by rcases hb with hb | hb; exact (hS b hb).1; omega)) (fun _ h _ => h) _ _ _ h) (fun b hb _ => by
    rcases hb with hb | hb
    · exact (hS b hb).2
    · have := hx.size
      exact .inr (by omega))⟩

theorem with_ris {B Bp : Nat} {S Sp : Nat → Prop} {w0 w : World} {d dx : Nat} {t x : N} {v xv pv : Value} {p : List ByteArray} (hB : B + 1 ≤ 2199023255552) (h0 : Ext w0 w) (hS : ∀ b, S b → b < w0.heap.size) (hw : t.well = true) (hr : Rep B S w (d + 1) t v) (hxr : Rep B S w (dx + 1) x xv) (hpn : p ≠ []) (hp : Strs Bp Sp w pv p) :
    Calls Try.prog 110 #[v, pv, xv] w (ChgPost (B + 1) S (d + (dx + 1) + 1) (withN t p x) w) :=
  with_any hB (fun b hb => Nat.lt_of_lt_of_le (hS b hb) h0.size) hw hr hxr hpn hp
end Go.Proofs.Ytocndkhgopjhhaa
