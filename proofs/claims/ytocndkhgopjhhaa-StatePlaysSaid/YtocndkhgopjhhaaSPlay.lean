/- like: is what is told of a queue the document's? -/
import Derived.Test.YtocndkhgopjhhaaProg
import Derived.Test.YtocndkhgopjhhaaDo28
import Derived.Test.YtocndkhgopjhhaaRowsW
import Derived.Test.YtocndkhgopjhhaaUnder
import Derived.Test.YtocndkhgopjhhaaQF
import Derived.Test.YtocndkhgopjhhaaLong28
import Derived.Test.YtocndkhgopjhhaaAwakeW
import Derived.Outline
import Derived.Deep.RegionWith
namespace Go.Proofs.Ytocndkhgopjhhaa
open Go.RowKit

theorem SimT.mono {F G : Nat → Prop} {w w' : World} (h : SimT F w w') (hs : ∀ b, F b → G b) : SimT G w w' := ⟨h.turns.mono hs, h.cell, h.frozen⟩

/-- the rows up to j are written over. -/
def LkF (G : List Int → Nat → Prop) (R : List (List Int)) (j : Nat) (b : Nat) : Prop := ∃ r ∈ R.take j, G r b
theorem LkF.step {G : List Int → Nat → Prop} {R : List (List Int)} {j b : Nat} (h : LkF G R j b) : LkF G R (j + 1) b := by
  obtain ⟨r, hr, hb⟩ := h
  exact ⟨r, (List.take_sublist_take_left (by omega)).mem hr, hb⟩
theorem LkF.here {G : List Int → Nat → Prop} {R : List (List Int)} {j b : Nat} {r : List Int} (hr : R[j]? = some r) (hb : G r b) : LkF G R (j + 1) b := by
  refine ⟨r, List.mem_iff_getElem?.2 ⟨j, ?_⟩, hb⟩
  rw [List.getElem?_take_of_lt (by omega)]; exact hr
/-- the row j stands yet. -/
theorem lk_row {G : List Int → Nat → Prop} {R : List (List Int)} {w1 wr : World} {j : Nat} {u : Value} {r : List Int} (hd : R.Nodup) (h1 : ∀ r r' b, G r b → G r' b → r = r') (h : SimT (LkF G R j) w1 wr) (hr : R[j]? = some r) (hi : Ints 128 (G r) w1 u r) : Ints 128 (G r) wr u r := by
  refine hi.keep h.size (fun b hb hl => h.turns.block b hl fun hf => ?_) fun _ h _ => h
  obtain ⟨r', hr', hb'⟩ := hf
  have e := h1 _ _ _ hb' hb
  subst e
  obtain ⟨i, hi'⟩ := List.mem_iff_getElem?.1 hr'
  have hil : i < j := by
    have := (List.getElem?_eq_some_iff.1 hi').1
    rw [List.length_take] at this; omega
  rw [List.getElem?_take_of_lt hil] at hi'
  have hjl := (List.getElem?_eq_some_iff.1 hr).1
  have := (List.getElem?_inj (by omega) hd).1 (hi'.trans hr.symm)
  omega
theorem like_rowsv {w : World} {lo : Nat} {v : Value} {L : List Td} (h : RowsV w lo v (L.map (·.row))) :
    ∃ (A : Option Addr) (c : Nat) (G : List Int → Nat → Prop) (us : List Value), v = .slice A L.length c ∧ L.length ≤ c ∧ c ≤ maxLen ∧ us.length = L.length ∧ (0 < L.length → ∃ b, A = some ⟨b, 0, none⟩ ∧ lo ≤ b ∧ b < w.heap.size ∧ (∀ r x, G r x → x ≠ b) ∧ ∀ (i : Nat) u, us[i]? = some u → w.cell? ⟨b, i, none⟩ = some u) ∧
      (∀ (i : Nat) u t, us[i]? = some u → L[i]? = some t → Ints 128 (G t.row) w u t.row) ∧ (∀ r x, G r x → lo ≤ x ∧ x < w.heap.size ∧ Nfz w x) ∧ ∀ r r' x, G r x → G r' x → r = r' := by
  obtain ⟨A, c, G, us, h1, h2, h3, h4, h5, h6, h7, h8⟩ := h
  rw [List.length_map] at h1 h2 h4 h5
  exact ⟨A, c, G, us, h1, h2, h3, h4, h5, fun i u t hi ht => h6 i u t.row hi (by rw [List.getElem?_map, ht]; rfl), h7, h8⟩
theorem like_len {F : List Int → Nat → Prop} {T M : Nat → Prop} {w0 w : World} {q : Nat} {most : Int} {ts L : List Td} (h : QF F T M w0 w q most ts) (hl : ts.length = L.length) : Calls Try.prog 34 #[.pointer (some ⟨q, 0, none⟩)] w fun e w' => e = .returned (.int .i64 L.length) ∧ Ext w w' := by
  refine h.len.mono ?_
  rintro e w' ⟨rfl, rfl⟩
  exact ⟨by rw [hl], Below.refl _ _⟩
theorem ints_val {B1 B2 : Nat} {S1 S2 : Nat → Prop} {w : World} {v1 v2 : Value} {a : List Int} (h1 : Ints B1 S1 w v1 a) (h2 : Ints B2 S2 w v2 a) :
    Calls Try.prog 97 #[v1, v2] w fun e w' => e = .returned (.bool true) ∧ Ext w w' := by
  refine (ints28_any h1 h2).mono ?_
  rintro e w' ⟨rfl, hx⟩
  exact ⟨by rw [decide_eq_true rfl], hx⟩
theorem inord_nodup {L : List Td} (h : InOrd L) : (L.map (·.row)).Nodup := by
  rw [List.Nodup, List.pairwise_map]
  exact h.imp fun {a b} hab e => by rw [e, lessR_irrefl] at hab; cases hab

set_option maxRecDepth 100000 in
set_option maxHeartbeats 4000000 in
theorem like28_any {O R : Nat → Prop} {w0 w : World} {q g : Nat} {most : Int} {L : List Td} (h : Pr O R w0 w q g most L) (hm : most ≤ 256) :
    Calls Try.prog 77 #[.pointer (some ⟨q, 0, none⟩), .pointer (some ⟨g, 0, none⟩)] w fun e w' => e = .returned (.bool true) ∧ Ext w w' := by
  obtain ⟨F, T, M, ts, hq, hr, hp, ho, hml, _⟩ := h
  have HQ := Lib.hid hq
  have HR := Lib.hid hr
  have HPm := Lib.hid hp
  have HO := Lib.hid ho
  have HRL := Lib.hid hr.low
  have hl := hp.length_eq
  have HL := Lib.hid hl
  have hts : ts.length ≤ 1000 := by omega
  have hL : L.length ≤ 256 := by omega
  have hgl := hr.lt
  obtain ⟨RA, Rc, hb0, _, hcm, _⟩ := hr
  have q0 : w.cell? ⟨g, 0, none⟩ = some (.slice RA L.length Rc) := hb0.cell 0
  unfold maxLen at hcm
  clear hq hp ho hb0 hl
  go_enter Try.func77, Try.ntmps77
  go_upto_region 2 with (go_at_call 78; refine (qrows_any HQ.out hts).mono ?_; rintro e w1 ⟨v1, R1, rfl, hx1, hv1, hp1, hs1⟩; obtain rfl := rows_eq HO.out HPm.out hp1 hs1; have HX1 := Lib.hid hx1; obtain ⟨A, c, G, us, rfl, hc1, hc2, hul, hcell, hint, hsub, hone⟩ := like_rowsv hv1; have HCELL := Lib.hid hcell; have HINT := Lib.hid hint; have HSUB := Lib.hid hsub; have HONE := Lib.hid hone; clear hx1 hv1 hp1 hs1 hcell hint hsub hone)
  have q1 := (HX1.out.cell (p := ⟨g, 0, none⟩) hgl).trans q0
  have hgl1 := Nat.lt_of_lt_of_le hgl HX1.out.size
  have hu := (up_rules w1).1
  unfold maxLen at hc2
  refine wp_region_up0 (by kernel_rfl) (by kernel_rfl) ?_
  repeat (go_big_quiet_step ((go_at_call 34; exact Calls.up (like_len ((HQ.out.ext HX1.out).ext (Up.ext _)) HL.out))))
  refine wpQuiet_nil ?_
  rintro _ ⟨u2, rfl⟩
  obtain ⟨W2, hW⟩ : ∃ W2, W2 = u2.val := ⟨_, rfl⟩
  have HX2 : Hid (Ext w1 W2) := Lib.hid (by rw [hW]; exact u2.ext)
  rw [← hW]
  clear hW hu q0 q1 hgl1
  have HCELL2 : Hid (∀ (i : Nat) u, us[i]? = some u → ∃ b, A = some ⟨b, 0, none⟩ ∧ b < W2.heap.size ∧ W2.cell? ⟨b, i, none⟩ = some u) := Lib.hid (fun i u hi => by
    obtain ⟨b, e, _, hbl, _, hc⟩ := HCELL.out (by have := (List.getElem?_eq_some_iff.1 hi).1; omega)
    exact ⟨b, e, Nat.lt_of_lt_of_le hbl HX2.out.size, (HX2.out.cell (p := ⟨b, i, none⟩) hbl).trans (hc i u hi)⟩)
  have HINT2 : Hid (∀ (i : Nat) u t, us[i]? = some u → L[i]? = some t → Ints 128 (G t.row) W2 u t.row) := Lib.hid (fun i u t hi ht => (HINT.out i u t hi ht).ext HX2.out)
  have HSUB2 : Hid (∀ r x, G r x → w.heap.size ≤ x ∧ x < W2.heap.size ∧ Nfz W2 x) := Lib.hid (fun r x hx => by
    have := HSUB.out r x hx
    exact ⟨this.1, Nat.lt_of_lt_of_le this.2.1 HX2.out.size, this.2.2.same (HX2.out.block x this.2.1)⟩)
  have HW2 := Lib.hid (HX1.out.trans' HX2.out)
  have HFW : Hid (∀ j b, LkF G (L.map (·.row)) j b → w.heap.size ≤ b) := Lib.hid (fun j b ⟨r, _, hb⟩ => (HSUB2.out r b hb).1)
  clear HCELL HINT HSUB
  go_wp2_with fail
  go_loopw [6] (fun i wr => ∃ j : Nat, j ≤ L.length ∧ i = .int .i64 j ∧ SimT (LkF G (L.map (·.row)) j) W2 wr) (fun i _ => L.length - (intOf i).toNat)
  case atStart => exact ⟨0, Nat.zero_le _, rfl, SimT.ofExt (Below.refl _ _)⟩
  case round =>
    obtain ⟨j, hj, rfl, hs⟩ := hrel
    have HS := Lib.hid hs
    have hzr := hs.size
    clear hs
    by_cases hlt : j < L.length
    · obtain ⟨x, hx⟩ : ∃ x, L[j]? = some x := ⟨_, List.getElem?_eq_getElem hlt⟩
      obtain ⟨u, hu⟩ : ∃ u, us[j]? = some u := ⟨_, List.getElem?_eq_getElem (by omega)⟩
      have hxr : (L.map (·.row))[j]? = some x.row := by rw [List.getElem?_map, hx]; rfl
      have hi2 := HINT2.out j u x hu hx
      have hir := lk_row (inord_nodup HO.out) HONE.out HS.out hxr hi2
      obtain ⟨b, rfl, hbl, hc⟩ := HCELL2.out j u hu
      obtain ⟨Au, cu, rfl, hcu, hmu, _⟩ := id hi2
      have cr := HS.out.slice hc
      have hblr : b < wr.heap.size := by omega
      have hrq : RQ 128 R wr g most L := (HR.out.ext HW2.out).turn HS.out.turns fun y hy => by
        have := HFW.out j y hy
        exact ⟨fun h => by have := (HRL.out y h).2; omega, by omega⟩
      obtain ⟨b', o', c', rv, fv', A0, c0, p0, hc'1, hc'2, hRb, hbl', rfl, p2, p3, hi, _⟩ := hrq.get hx
      have hglr := hrq.lt
      have HI2 := Lib.hid hi2
      have HIR := Lib.hid hir
      have HI := Lib.hid hi
      have HC := Lib.hid hc
      have HXR := Lib.hid hxr
      have hij : (j : Int) < (L.length : Int) := by omega
      have hj0 : (0 : Int) ≤ (j : Int) := by omega
      have hup := (up_rules wr).1
      unfold maxLen at hmu hc'2
      clear hx hu hxr hi2 hir hc hrq hi
      go_wp2_with fail
      refine wp_region_up0 (by kernel_rfl) (by kernel_rfl) ?_
      repeat (go_big_quiet_step ((go_at_call 97; exact Calls.up (ints_val (HIR.out.up _) (HI.out.up _)))))
      refine wpQuiet_nil ?_
      rintro _ ⟨u3, rfl⟩
      have HS3 := Lib.hid ((HS.out.mono fun _ h => h.step).trans (SimT.ofExt u3.ext))
      go_wp2_with fail
      go_loopw [7] (fun k wi => ∃ m : Nat, m ≤ x.row.length ∧ k = .int .i64 m ∧ SimT (LkF G (L.map (·.row)) (j + 1)) W2 wi) (fun k _ => x.row.length - (intOf k).toNat)
      case atStart => exact ⟨0, Nat.zero_le _, rfl, HS3.out⟩
      case round =>
        obtain ⟨m, hmm, rfl, hsi⟩ := hrel
        have HSI := Lib.hid hsi
        have ci := hsi.slice HC.out
        have hbli : b < wr.heap.size := by have := hsi.size; omega
        clear hsi cr p0 p2 p3 hblr hbl' hglr hup
        by_cases hlm : m < x.row.length
        · obtain ⟨_, _, e, _, _, _, _, hcells⟩ := HI2.out
          injection e with e1 _ _
          subst e1
          obtain ⟨bu, ou, rfl, hGb, hbu, hcu'⟩ := hcells (by omega)
          have hci := hcu' m _ (List.getElem?_eq_getElem hlm)
          obtain ⟨z', hz'⟩ := HSI.out.int hci
          have hsb := HSUB2.out _ _ hGb
          have hfr := (HSI.out.frozen bu (ou + m) hbu).trans (hsb.2.2 (ou + m))
          have hbui : bu < wr.heap.size := by have := HSI.out.size; omega
          have hst := HSI.out.trans (SimT.set (u := .int .i64 (-7)) hz' (.inr (.inr ⟨_, _, _, rfl, rfl⟩)) (LkF.here HXR.out hGb))
          have HST := Lib.hid hst
          have him : (m : Int) < (x.row.length : Int) := by omega
          have hm0 : (0 : Int) ≤ (m : Int) := by omega
          clear hcells hcu' hci hsb hst
          go_wp2_with fail
          go_roundw
          case rel => exact ⟨m + 1, by omega, by go_num, HST.out⟩
          case measure => simp [intOf]; omega
        · have him : ¬ (m : Int) < (x.row.length : Int) := by omega
          go_wp2_with fail
          go_roundw
          case rel => exact ⟨j + 1, by omega, by go_num, HSI.out⟩
          case measure => simp [intOf]; omega
    · have hij : ¬ (j : Int) < (L.length : Int) := by omega
      go_wp2_with fail
      go_ret
      exact ⟨rfl, Ext.turn HW2.out HS.out.turns fun y hy => HFW.out j y hy⟩
end Go.Proofs.Ytocndkhgopjhhaa
/- Two pairs of queues, apart from each other. -/
namespace Go.Proofs.Ytocndkhgopjhhaa
open Go.RowKit

/-- A pair alone. -/
def On (w0 w : World) (q g : Nat) (most : Int) : Prop := ∃ O R L, Pr O R w0 w q g most L ∧ Ext w0 w
/-- Two pairs: what one writes the other neither writes nor reads. -/
def Tw (w0 w : World) (q g c y : Nat) (most : Int) : Prop :=
  ∃ O R L O1 R1 L1, Pr O R w0 w q g most L ∧ Pr O1 R1 w0 w c y most L1 ∧ (∀ b, O b → ¬ O1 b ∧ ¬ R1 b) ∧ (∀ b, O1 b → ¬ O b ∧ ¬ R b) ∧ Ext w0 w
section
variable {w0 w w' : World} {q g c y : Nat} {most : Int} {S : Nat → Prop}
theorem Tw.swap (h : Tw w0 w q g c y most) : Tw w0 w c y q g most := by
  obtain ⟨O, R, L, O1, R1, L1, h1, h2, h3, h4, hx⟩ := h
  exact ⟨O1, R1, L1, O, R, L, h2, h1, h4, h3, hx⟩
theorem Tw.ext (h : Tw w0 w q g c y most) (hx : Ext w w') : Tw w0 w' q g c y most := by
  obtain ⟨O, R, L, O1, R1, L1, h1, h2, h3, h4, h5⟩ := h
  exact ⟨O, R, L, O1, R1, L1, h1.ext hx, h2.ext hx, h3, h4, h5.trans' hx⟩
theorem Tw.on (h : Tw w0 w q g c y most) : On w0 w q g most := by
  obtain ⟨O, R, L, O1, R1, L1, h1, h2, h3, h4, h5⟩ := h
  exact ⟨O, R, L, h1, h5⟩
theorem Tw.do (h : Tw w0 w q g c y most) (hm : most ≤ 256) (hS : ∀ b, S b → b < w0.heap.size) {k : Int} {t : Td} {rv fv : Value} (ht : Tdv 128 S w t (.agg #[rv, fv])) :
    Calls Try.prog 76 #[.agg #[.int .u8 k, rv, fv], .pointer (some ⟨q, 0, none⟩), .pointer (some ⟨g, 0, none⟩)] w fun e w' => e = .returned (.bool true) ∧ Tw w0 w' q g c y most := by
  obtain ⟨O, R, L, O1, R1, L1, h1, h2, h3, h4, h5⟩ := h
  refine (do28_any h1 hm h5.size hS ht).mono ?_
  rintro e w' ⟨rfl, O', R', L', hp, hO, hR, htn⟩
  have hl1 := h2.low
  have hr1 := h2.lowR
  refine ⟨rfl, O', R', L', O1, R1, L1, hp, h2.turn htn h3, fun b hb => ?_, fun b hb => ⟨fun hb' => ?_, fun hb' => ?_⟩, h5.turn htn fun b hb => (h1.low b hb).1⟩
  · rcases hO b hb with h | h
    · exact h3 b h
    · exact ⟨fun k => by have := (hl1 b k).2; omega, fun k => by have := (hr1 b k).1; omega⟩
  · rcases hO b hb' with h | h
    · exact (h4 b hb).1 h
    · have := (hl1 b hb).2; omega
  · rcases hR b hb' with h | h | h
    · exact (h4 b hb).2 h
    · have := hS b h; have := (hl1 b hb).1; omega
    · have := (hl1 b hb).2; omega
theorem Tw.do2 (h : Tw w0 w q g c y most) (hm : most ≤ 256) (hS : ∀ b, S b → b < w0.heap.size) {k : Int} {t : Td} {rv fv : Value} (ht : Tdv 128 S w t (.agg #[rv, fv])) :
    Calls Try.prog 76 #[.agg #[.int .u8 k, rv, fv], .pointer (some ⟨c, 0, none⟩), .pointer (some ⟨y, 0, none⟩)] w fun e w' => e = .returned (.bool true) ∧ Tw w0 w' q g c y most :=
  (h.swap.do hm hS ht).mono fun _ _ ⟨he, h⟩ => ⟨he, h.swap⟩
theorem Tw.like (h : Tw w0 w q g c y most) (hm : most ≤ 256) : Calls Try.prog 77 #[.pointer (some ⟨q, 0, none⟩), .pointer (some ⟨g, 0, none⟩)] w fun e w' => e = .returned (.bool true) ∧ Tw w0 w' q g c y most := by
  have h0 := h
  obtain ⟨O, R, L, O1, R1, L1, h1, _⟩ := h
  exact (like28_any h1 hm).mono fun _ _ ⟨he, hx⟩ => ⟨he, h0.ext hx⟩
theorem Tw.like2 (h : Tw w0 w q g c y most) (hm : most ≤ 256) : Calls Try.prog 77 #[.pointer (some ⟨c, 0, none⟩), .pointer (some ⟨y, 0, none⟩)] w fun e w' => e = .returned (.bool true) ∧ Tw w0 w' q g c y most :=
  (h.swap.like hm).mono fun _ _ ⟨he, h⟩ => ⟨he, h.swap⟩

/-- the program's queue is copied. -/
def Mid (w0 w1 : World) (q g c : Nat) (most : Int) : Prop :=
  ∃ O R L F T M ts z, Pr O R w0 w1 q g most L ∧ QF F T M w0 w1 c most ts ∧ List.Perm ts L ∧ (∀ b, T b ∨ M b → z ≤ b) ∧ (∀ b, O b → b < z) ∧ (∀ b, R b → b < z) ∧ Ext w0 w1
theorem On.copyQ (h : On w0 w q g most) (hm : most ≤ 256) : Calls Try.prog 74 #[.pointer (some ⟨q, 0, none⟩)] w fun e w' => ∃ c, e = .returned (.pointer (some ⟨c, 0, none⟩)) ∧ Mid w0 w' q g c most := by
  obtain ⟨O, R, L, hp, hx⟩ := h
  have hp0 := hp
  obtain ⟨F, T, M, ts, hq, hr, hpm, ho, hml, _⟩ := hp
  have hl := hpm.length_eq
  refine (qcopy_any hq (by omega) hx.size).mono ?_
  rintro e w' ⟨c, F', T', M', rfl, hx', hq', hn⟩
  exact ⟨c, rfl, O, R, L, F', T', M', ts, w.heap.size, hp0.ext hx', hq', hpm, hn, fun b hb => (hp0.low b hb).2, fun b hb => (hp0.lowR b hb).1, hx.trans' hx'⟩
theorem Mid.copyX (h : Mid w0 w q g c most) (hm : most ≤ 256) : Calls Try.prog 75 #[.pointer (some ⟨g, 0, none⟩)] w fun e w' => ∃ y, e = .returned (.pointer (some ⟨y, 0, none⟩)) ∧ Tw w0 w' q g c y most := by
  obtain ⟨O, R, L, F, T, M, ts, z, hp, hq, hpm, hz, hO, hR, hx⟩ := h
  have hp0 := hp
  obtain ⟨F0, T0, M0, ts0, hq0, hr, hpm0, ho, hml, _⟩ := hp
  refine (rcopy_any (by omega) hr).mono ?_
  rintro e w' ⟨y, rfl, hy, hx', hr'⟩
  have hq' := hq.ext hx'
  have hTl : ∀ b, T b → b < w.heap.size := fun b hb => (hq.apart.1 b hb).1
  have hMl : ∀ b, M b → b < w.heap.size := fun b hb => (hq.apart.2 b hb).1
  have hzw := hx.size
  have hOl := hp0.low
  have hRl := hp0.lowR
  have hzz : z ≤ w.heap.size := by
    have := hz c (.inr (by obtain ⟨v, ys, _, _, _, _, _, _, h4, _⟩ := hq; exact (h4 c).2 (.inl rfl)))
    have := hMl c (by obtain ⟨v, ys, _, _, _, _, _, _, h4, _⟩ := hq; exact (h4 c).2 (.inl rfl))
    omega
  refine ⟨y, rfl, O, R, L, fun b => T b ∨ M b ∨ b = y, fun b => R b ∨ (w.heap.size ≤ b ∧ b ≠ y ∧ b < w'.heap.size), L, hp0.ext hx', ⟨F, T, M, ts, hq', hr', hpm, ho, hml, fun _ => Iff.rfl, fun h => by have := hTl y h; omega, fun h => by have := hMl y h; omega, by omega, fun b hb hk => ?_⟩, fun b hb => ⟨fun hk => ?_, fun hk => ?_⟩, fun b hb => ⟨fun hk => ?_, fun hk => ?_⟩, hx.trans' hx'⟩
  · rcases hk with hk | hk | hk
    · have h1 := hTl b hk
      have h2 := hz b (.inl hk)
      rcases hb with hb | hb
      · have := hR b hb; omega
      · omega
    · have h1 := hMl b hk
      have h2 := hz b (.inr hk)
      rcases hb with hb | hb
      · have := hR b hb; omega
      · omega
    · rcases hb with hb | hb
      · have := (hRl b hb).1; omega
      · exact hb.2.1 hk
  · have h0 := hO b hb
    rcases hk with hk | hk | hk
    · have := hz b (.inl hk); omega
    · have := hz b (.inr hk); omega
    · omega
  · have h0 := hO b hb
    rcases hk with hk | hk
    · exact (hRl b hk).2 hb
    · omega
  · have h0 := hO b hk
    rcases hb with hb | hb | hb
    · have := hz b (.inl hb); omega
    · have := hz b (.inr hb); omega
    · omega
  · have h0 := hR b hk
    rcases hb with hb | hb | hb
    · have := hz b (.inl hb); omega
    · have := hz b (.inr hb); omega
    · omega
theorem On.start (w0 w : World) (hx : Ext w0 w) (most : Int) (h1 : 1 ≤ most) : On w0 (((w.alloc (.cells #[.slice none 0 0, .int .i64 most] 116))).alloc (.cells #[.slice none 0 0, .int .i64 most] 144)) w.heap.size (w.heap.size + 1) most := by
  have hq := QF.new w0 w hx.size most
  have hr := RQ.new (B := 128) (w.alloc (.cells #[.slice none 0 0, .int .i64 most] 116)) most
  have hs : (w.alloc (.cells #[.slice none 0 0, .int .i64 most] 116)).heap.size = w.heap.size + 1 := by simp
  rw [hs] at hr
  have := hx.size
  refine ⟨fun b => False ∨ b = w.heap.size ∨ b = w.heap.size + 1, _, [], ⟨_, _, _, [], hq.ext (Ext.alloc' _ _), hr, List.Perm.refl _, List.Pairwise.nil, by simp; omega, fun _ => Iff.rfl, fun h => h, by omega, by omega, fun _ h => h.elim⟩, (hx.trans' (Ext.alloc' _ _)).trans' (Ext.alloc' _ _)⟩
end
end Go.Proofs.Ytocndkhgopjhhaa
/- StatePlays, walked: it answers true. -/
namespace Go.Proofs.Ytocndkhgopjhhaa
open Go.RowKit

theorem Tw.ex {w0 w : World} {q g c y : Nat} {most : Int} (h : Tw w0 w q g c y most) : Ext w0 w := by
  obtain ⟨_, _, _, _, _, _, _, _, _, _, hx⟩ := h; exact hx
theorem On.ex {w0 w : World} {q g : Nat} {most : Int} (h : On w0 w q g most) : Ext w0 w := by
  obtain ⟨_, _, _, _, hx⟩ := h; exact hx
theorem long_no {l : List (Int × Td)} (h : longF l = false) : l.length ≤ 60 ∧ ∀ k t, (k, t) ∈ l → bigTd t = false := by
  unfold longF at h
  rw [Bool.or_eq_false_iff] at h
  have h1 := of_decide_eq_false h.1
  refine ⟨by omega, fun k t ht => ?_⟩
  have := (List.any_eq_false.1 h.2) (k, t) ht
  simpa using this

set_option maxRecDepth 100000 in
set_option maxHeartbeats 8000000 in
theorem splays_any {w : World} {v : Value} {l : List (Int × Td)} {most : Int} (h : OpsV B44 (fun b => b < w.heap.size) w v l) :
    Calls Try.prog 12 #[.int .i64 most, v] w fun e w' => e = .returned (.bool true) ∧ Ext w w' := by
  have HOP := Lib.hid h
  obtain ⟨A, c, rfl, hc, hm, g⟩ := h
  have G := Lib.hid g
  unfold maxLen at hm
  clear g
  cases hlong : longF l
  case true =>
    have HL := Lib.hid hlong
    clear hlong
    go_enter Try.func12, Try.ntmps12
    go_wp2_with (first
      | (go_at_call 26; refine (long28_any HOP.out).mono ?_; rw [HL.out]; rintro e w1 ⟨rfl, hw1⟩; subst w1)
      | (go_at_call 27; refine (awake28_any _).mono ?_; rintro e w2 ⟨rfl, hx2⟩; have HX2 := Lib.hid hx2; clear hx2))
    go_ret
    exact ⟨rfl, HX2.out⟩
  case false =>
    have HL := Lib.hid hlong
    obtain ⟨hl60, hbig⟩ := long_no hlong
    have HBG := Lib.hid hbig
    clear hlong hbig
    by_cases hmo : most < 1 ∨ 256 < most
    · have HM := Lib.hid hmo
      clear hmo
      go_enter Try.func12, Try.ntmps12
      go_wp2_with (first
        | (go_at_call 26; refine (long28_any HOP.out).mono ?_; rw [HL.out]; rintro e w1 ⟨rfl, hw1⟩; subst w1)
        | (go_at_call 28; refine (qnew_no most _ HM.out).mono ?_; rintro e w2 ⟨rfl, hx2⟩; have HX2 := Lib.hid hx2; clear hx2)
        | (go_at_call 73; refine (rnew_no most _ HM.out).mono ?_; rintro e w3 ⟨rfl, hx3⟩; have HX3 := Lib.hid (HX2.out.trans' hx3); clear hx3)
        | (go_at_call 27; refine (awake28_any _).mono ?_; rintro e w4 ⟨rfl, hx4⟩; have HX4 := Lib.hid (HX3.out.trans' hx4); clear hx4))
      go_ret
      exact ⟨rfl, HX4.out⟩
    · have h1 : 1 ≤ most := by omega
      have h2 : most ≤ 256 := by omega
      have HON := Lib.hid (On.start w w (Below.refl _ _) most h1)
      clear hmo
      go_enter Try.func12, Try.ntmps12
      go_wp2_with (first
        | (go_at_call 26; refine (long28_any HOP.out).mono ?_; rw [HL.out]; rintro e w1 ⟨rfl, hw1⟩; subst w1)
        | (go_at_call 28; refine (qnew_any most _ h1 h2).mono ?_; rintro e w2 ⟨rfl, hw2⟩; subst w2)
        | (go_at_call 73; refine (rnew_any most _ h1 h2).mono ?_; rintro e w3 ⟨rfl, hw3⟩; subst w3))
      go_loopw [9] (fun i wr => ∃ j : Nat, j ≤ l.length ∧ i = .int .i64 j ∧ On w wr w.heap.size (w.heap.size + 1) most) (fun i _ => l.length - (intOf i).toNat)
      case atStart => exact ⟨0, Nat.zero_le _, rfl, HON.out⟩
      case round =>
        obtain ⟨j, hj, rfl, ho⟩ := hrel
        have HO := Lib.hid ho
        clear ho
        by_cases hlt : j < l.length
        · obtain ⟨⟨k, t⟩, ht⟩ : ∃ o, l[j]? = some o := ⟨_, List.getElem?_eq_getElem hlt⟩
          obtain ⟨b, o, rfl, hb, hcell⟩ := G.out (by omega)
          obtain ⟨rv, fv, c0, c1, c2, htd⟩ := hcell j k t ht
          have hts := htd.small (HBG.out k t (List.mem_of_getElem? ht))
          obtain ⟨X1, X2, X3, X4, e⟩ := htd.form
          injection e with e
          simp only [Array.mk.injEq, List.cons.injEq, and_true] at e
          obtain ⟨rfl, rfl⟩ := e
          have HCL : Hid (∀ W, Ext w W → W.cell? ⟨b, o + j * 3, none⟩ = some (.int .u8 k) ∧ W.cell? ⟨b, o + j * 3 + 1, none⟩ = some (.slice X1 t.row.length X2) ∧ W.cell? ⟨b, o + j * 3 + 2, none⟩ = some (.slice X3 t.facts.length X4) ∧ b < W.heap.size) := Lib.hid (fun W hx => ⟨(hx.cell (p := ⟨b, o + j * 3, none⟩) hb).trans c0, (hx.cell (p := ⟨b, o + j * 3 + 1, none⟩) hb).trans c1, (hx.cell (p := ⟨b, o + j * 3 + 2, none⟩) hb).trans c2, Nat.lt_of_lt_of_le hb hx.size⟩)
          have HTS := Lib.hid hts
          have hij : (j : Int) < (l.length : Int) := by omega
          have hj0 : (0 : Int) ≤ (j : Int) := by omega
          clear hcell htd hts ht c0 c1 c2
          go_wp2_with (first
            | (go_at_call 74; refine (HO.out.copyQ h2).mono ?_; rintro e w2 ⟨cq, rfl, hmid⟩; have HMID := Lib.hid hmid; clear hmid)
            | (go_at_call 75; refine (HMID.out.copyX h2).mono ?_; rintro e w3 ⟨cy, rfl, htw⟩; have HTW := Lib.hid htw; obtain ⟨c0, c1, c2, hbw⟩ := HCL.out _ htw.ex; clear htw)
            | (go_at_call_of 76 (Value.pointer (some ⟨cq, 0, none⟩)); refine (HTW.out.do2 h2 (fun _ h => h) (HTS.out.ext HTW.out.ex)).mono ?_; rintro e w4 ⟨rfl, htw⟩; have HTW := Lib.hid htw; clear htw)
            | (go_at_call 76; refine (HTW.out.do h2 (fun _ h => h) (HTS.out.ext HTW.out.ex)).mono ?_; rintro e w4 ⟨rfl, htw⟩; have HTW := Lib.hid htw; clear htw)
            | (go_at_call_of 77 (Value.pointer (some ⟨cq, 0, none⟩)); refine (HTW.out.like2 h2).mono ?_; rintro e w5 ⟨rfl, htw⟩; have HTW := Lib.hid htw; obtain ⟨c0, c1, c2, hbw⟩ := HCL.out _ htw.ex; clear htw)
            | (go_at_call 77; refine (HTW.out.like h2).mono ?_; rintro e w5 ⟨rfl, htw⟩; have HTW := Lib.hid htw; clear htw))
          go_roundw
          case rel => exact ⟨j + 1, by omega, by go_num, HTW.out.on⟩
          case measure => simp [intOf]; omega
        · have hij : ¬ (j : Int) < (l.length : Int) := by omega
          go_wp2_with (go_at_call 27; refine (awake28_any _).mono ?_; rintro e w4 ⟨rfl, hx4⟩; have HX4 := Lib.hid (HO.out.ex.trans' hx4); clear hx4)
          go_ret
          exact ⟨rfl, HX4.out⟩
end Go.Proofs.Ytocndkhgopjhhaa
