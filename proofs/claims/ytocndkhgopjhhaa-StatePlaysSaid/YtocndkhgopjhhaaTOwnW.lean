/- state.Todo.own, walked. -/
import Derived.Test.YtocndkhgopjhhaaProg
import Derived.Test.YtocndkhgopjhhaaTOwnV
import Derived.Deep.RegionHeld3
import Derived.Deep.DeepCutAuto
import Derived.Deep.CutBlock
import Derived.Outline
namespace Go.Proofs.Ytocndkhgopjhhaa
open Go.RowKit

set_option maxRecDepth 100000 in
set_option maxHeartbeats 4000000 in
theorem town_any {B : Nat} (hB : B ≤ 1000000) {S : Nat → Prop} {w : World} {t : Td} {v : Value} (h : Tdv B S w t v) :
    Calls Try.prog 95 #[v] w (TOwnPost B t w) := by
  obtain ⟨rv, fv, rfl, hr, hf⟩ := h
  have HR := Lib.hid hr
  have HF := Lib.hid hf
  obtain ⟨A0, c0, rfl, _⟩ := hr
  obtain ⟨A1, c1, rfl, _⟩ := hf
  go_enter Try.func95, Try.ntmps95
  go_upto_region 1 with fail
  obtain ⟨W1, hW⟩ : ∃ W1, W1 = ((w.alloc (.cells #[.slice A0 t.row.length c0, .slice A1 t.facts.length c1] 48)).alloc (.cells #[.slice none 0 0, .slice none 0 0] 48)) := ⟨_, rfl⟩
  have hXW : Ext w W1 := by rw [hW]; exact (Ext.alloc' _ _).trans' (Ext.alloc' _ _)
  have HR1 := Lib.hid (HR.out.ext hXW)
  have HF1 := Lib.hid (HF.out.ext hXW)
  have HXW := Lib.hid hXW
  have hB1 : Blk W1 w.heap.size 48 #[.slice A0 t.row.length c0, .slice A1 t.facts.length c1] := by rw [hW]; exact (Blk.new _ _ _).alloc _
  have p0 : W1.cell? ⟨w.heap.size, 0, none⟩ = some (.slice A0 t.row.length c0) := hB1.cell 0
  have p1 : W1.cell? ⟨w.heap.size, 1, none⟩ = some (.slice A1 t.facts.length c1) := hB1.cell 1
  have hz1 : w.heap.size < W1.heap.size := hB1.lt
  have hS0 : W1.drew.cell? ⟨w.heap.size, 0, none⟩ = some (.slice A0 t.row.length c0) ∧ W1.drew.cell? ⟨w.heap.size, 1, none⟩ = some (.slice A1 t.facts.length c1) ∧ Ext W1 W1.drew := ⟨p0, p1, ⟨rfl, rfl, rfl, Nat.le_refl _, fun _ _ => rfl⟩⟩
  have HB1 := Lib.hid hB1
  have hB2 : Blk W1 (w.heap.size + 1) 48 #[.slice none 0 0, .slice none 0 0] := by rw [hW]; exact Blk.new' _ _ _ (by simp)
  have HB2 := Lib.hid hB2
  rw [← hW]
  clear hW hXW hB1 hB2
  go_cut [3] (fun s3 wx => ∃ A c A' c' gz, s3 = .pointer (some ⟨gz, 0, none⟩) ∧ TCut B t W1 A A' c c' gz wx)
  case first =>
    go_region_held3 (fun w' => w'.cell? ⟨w.heap.size, 0, none⟩ = some (.slice A0 t.row.length c0) ∧ w'.cell? ⟨w.heap.size, 1, none⟩ = some (.slice A1 t.facts.length c1) ∧ Ext W1 w')
      (first | exact hS0 | exact keepA (by assumption) hz1 hz1 (Ext.alloc' _ _) | exact keepA (by assumption) hz1 hz1 (by assumption) | exact keepC (by assumption) hz1 hz1 (by omega) | exact keepB (by assumption) hz1 hz1 (by simp <;> omega) (by simp <;> omega))
      (first
        | (go_at_call 124; refine (cloneI_any (by omega) (HR1.out.ext (extOf (by assumption)))).mono ?_; rintro e w8 ⟨A8, c8, rfl, hi8, hb8, hx8⟩; obtain ⟨hc8, hf8⟩ := hx8.rules; have hz8 := hx8.size; (try simp at hz8); (try ((first | have hbz := (Blk.new _ 48 #[.slice none 0 0, .slice none 0 0]).ext hx8 | have hbz := (Blk.newD _ 48 #[.slice none 0 0, .slice none 0 0]).ext hx8); have k0 := hbz.cell 0; have k1 := hbz.cell 1; have k2 := hbz.frozen 0; have k3 := hbz.frozen 1; have Hbz := Lib.hid hbz; clear hbz; (try simp at k0 k1); (try simp only [show ∀ W : World, W.drew.heap = W.heap from fun _ => rfl] at k2 k3))))
        | (go_at_call 136; refine (cloneF_any (by omega) (HF1.out.ext (extOf (by assumption)))).mono ?_; rintro e w9 ⟨A9, c9, xs9, rfl, ho9, hxs9, hx9⟩; obtain ⟨hc9, hf9⟩ := hx9.rules; have hz9 := hx9.size; (try simp at hz9); (try ((first | have hbz := (Blk.new _ 48 #[.slice none 0 0, .slice none 0 0]).ext hx9 | have hbz := (Blk.newD _ 48 #[.slice none 0 0, .slice none 0 0]).ext hx9); have k0 := hbz.cell 0; have k1 := hbz.cell 1; have k2 := hbz.frozen 0; have k3 := hbz.frozen 1; have Hbz := Lib.hid hbz; clear hbz; (try simp at k0 k1); (try simp only [show ∀ W : World, W.drew.heap = W.heap from fun _ => rfl] at k2 k3))); (try (have hbz := Hbz.out.ext hx9; have k0 := hbz.cell 0; have k1 := hbz.cell 1; have k2 := hbz.frozen 0; have k3 := hbz.frozen 1; have Hbz2 := Lib.hid hbz; clear hbz; (try simp at k0 k1); (try simp only [show ∀ W : World, W.drew.heap = W.heap from fun _ => rfl] at k2 k3)))))
    · have hx89 : Ext W1 w9 := (Ext.ofDrew hx8).trans' hx9
      have hcut : TCut B t W1 A8 A9 c8 c9 w9.heap.size (w9.alloc (.cells #[.slice A8 t.row.length c8, .slice A9 t.facts.length c9] 48)) :=
        tcut_of (b8 := W1.heap.size) hi8 hb8 hx9 ho9 hxs9 (Nat.le_refl _) (Nat.le_refl _) (by omega) (by omega) (.inr (by omega)) (.inr (Nat.le_refl _)) (hx89.trans' (Ext.alloc' _ _)) (fun b hb _ => Below.heap_alloc _ _ _ hb) (by simp) (Blk.new _ _ _)
      have HC := Lib.hid hcut
      clear hcut hx89 hi8 hb8 hx8 hc8 hf8 ho9 hxs9 hx9 hc9 hf9
      go_wp2_with fail
      go_meet
      case rel => exact ⟨A8, c8, A9, c9, _, rfl, HC.out⟩
    · have hx89 : Ext W1 w9 := ((Ext.ofDrew hx8).trans' (Ext.alloc' _ _)).trans' hx9
      have hcut : TCut B t W1 A8 A9 c8 c9 w8.heap.size ((w9.setCell ⟨w8.heap.size, 0, none⟩ (.slice A8 t.row.length c8)).setCell ⟨w8.heap.size, 1, none⟩ (.slice A9 t.facts.length c9)) :=
        tcut_of (b8 := W1.heap.size) hi8 hb8 ((Ext.alloc' _ _).trans' hx9) ho9 hxs9 (Nat.le_refl _) (by simp) (by omega) (by omega) (.inr (by omega)) (.inl (by simp)) ((hx89.setCell (by simp; omega) _).setCell (by simp; omega) _) (fun b hb hn => (Below.heap_setCell _ _ _ _ hn).trans (Below.heap_setCell _ _ _ _ hn)) (by simp [World.setCell]) Hbz.out.set01
      have HC := Lib.hid hcut
      clear hcut hx89 hi8 hb8 hx8 hc8 hf8 ho9 hxs9 hx9 hc9 hf9 k0 k1 k2 k3
      go_wp2_with fail
      go_meet
      case rel => exact ⟨A8, c8, A9, c9, _, rfl, HC.out⟩
    · have hx89 : Ext W1 w9 := (Ext.trans' (Ext.alloc' W1 (.cells #[.slice none 0 0, .slice none 0 0] 48)).drew hx8).trans' hx9
      have hcut : TCut B t W1 A8 A9 c8 c9 W1.heap.size ((w9.setCell ⟨W1.heap.size, 0, none⟩ (.slice A8 t.row.length c8)).setCell ⟨W1.heap.size, 1, none⟩ (.slice A9 t.facts.length c9)) :=
        tcut_of (b8 := W1.heap.size + 1) hi8 (fun b hb => by have := hb8 b hb; simpa using this) hx9 ho9 hxs9 (by omega) (Nat.le_refl _) (by omega) (Nat.le_refl _) (.inl (by omega)) (.inl (by omega)) ((hx89.setCell (by simp) _).setCell (by simp) _) (fun b hb hn => (Below.heap_setCell _ _ _ _ hn).trans (Below.heap_setCell _ _ _ _ hn)) (by simp [World.setCell]) Hbz2.out.set01
      have HC := Lib.hid hcut
      clear hcut hx89 hi8 hb8 hx8 hc8 hf8 ho9 hxs9 hx9 hc9 hf9 k0 k1 k2 k3
      go_wp2_with fail
      go_meet
      case rel => exact ⟨A8, c8, A9, c9, _, rfl, HC.out⟩
  case rest =>
    obtain ⟨A, c, A', c', gz, rfl, hcut⟩ := hcut
    obtain ⟨hx, hgz, hbz, hi, ⟨xs, ho, hxs⟩, hb, hg⟩ := hcut
    have hT0 : TLoop B t W1 A A' c c' gz 0 wc := by
      refine ⟨xs, _, hx, hbz, hi, ho, hxs.keep (Nat.le_refl _) (fun _ h _ => h.elim) (fun _ h _ => h.elim), fun b hb' => hb b hb'⟩
    have HT0 := Lib.hid hT0
    have q1 : wc.cell? ⟨w.heap.size, 1, none⟩ = some (.slice A1 t.facts.length c1) := (hx.cell (p := ⟨w.heap.size, 1, none⟩) hz1).trans p1
    have hff := HF.out.form
    obtain ⟨_, _, e, hc1, hm1, hn1⟩ := hff
    injection e with e1 _ e2
    subst e1 e2
    unfold maxLen at hm1
    clear hx hgz hbz hi ho hxs hb hg hT0 p0 p1 hS0
    go_wp2_with fail
    go_loopw [16] (fun i wr => ∃ j : Nat, j ≤ t.facts.length ∧ i = .int .i64 j ∧ TLoop B t W1 A A' c c' gz j wr) (fun i _ => t.facts.length - (intOf i).toNat)
    case atStart => exact ⟨0, Nat.zero_le _, rfl, HT0.out⟩
    case round =>
      obtain ⟨j, hj, rfl, hT⟩ := hrel
      have HT := Lib.hid hT
      obtain ⟨xs, T, hx, hbz, hi, ho, hxs, hb⟩ := hT
      have hz1' : W1.heap.size ≤ wr.heap.size := hx.size
      clear q1
      by_cases hlt : j < t.facts.length
      · obtain ⟨f, hf⟩ : ∃ f, t.facts[j]? = some f := ⟨_, List.getElem?_eq_getElem hlt⟩
        have hXr := Lib.hid (HXW.out.trans' hx)
        obtain ⟨hcx, hfx⟩ := hXr.out.rules
        obtain ⟨b0, o0, nv, kv, rfl, hSb, hbl, d0, d1, d2, d3, d4, d5, hsn, hik, hF⟩ := HF.out.get hf
        have HSN := Lib.hid hsn
        have HIK := Lib.hid hik
        obtain ⟨An, cn, rfl, _, _, hnB, hns, _⟩ := hsn
        obtain ⟨Ak, ck, rfl, _, _, _⟩ := hik
        have Hns := Lib.hid hns
        have Hf := Lib.hid hf
        obtain ⟨gF, cur, rfl, hgF, hcur, hcz, hcc, hcm⟩ := own_row ho (by omega)
        have hgzF : gz ≠ gF := by
          rintro rfl
          unfold Blk at hbz
          rw [hcur] at hbz
          injection hbz with hbz
          injection hbz with _ hbz
          cases hbz
        have hgFl := (ownsRow_lt ho (g := gF) rfl).2
        have hgzl := hbz.lt
        have hbzc : wr.cell? ⟨gz, 1, none⟩ = some (.slice (some ⟨gF, 0, none⟩) t.facts.length c') := hbz.cell 1
        have hbz2 := hbz.alloc (.cells #[.bool f.known, .int .u8 f.kind, .slice An f.names.length cn, .slice Ak f.kids.length ck, .int .i64 f.rest, .int .i64 f.beside] 106)
        have HBZ2 := Lib.hid hbz2
        have HX := Lib.hid hx
        have HCUR := Lib.hid hcur
        have hj1 : (0 : Int) ≤ (j : Int) := by omega
        have hj2 : (j : Int) < (t.facts.length : Int) := by omega
        unfold maxLen at hcm
        clear hx hbz hbz2 hi ho hxs hb hF hf hns hcur
        go_upto_region 5 with fail
        obtain ⟨W2, hW⟩ : ∃ W2, W2 = wr.alloc (.cells #[.bool f.known, .int .u8 f.kind, .slice An f.names.length cn, .slice Ak f.kids.length ck, .int .i64 f.rest, .int .i64 f.beside] 106) := ⟨_, rfl⟩
        have hX2 : Ext wr W2 := by rw [hW]; exact Ext.alloc' _ _
        have hB2 : Blk W2 wr.heap.size 106 #[.bool f.known, .int .u8 f.kind, .slice An f.names.length cn, .slice Ak f.kids.length ck, .int .i64 f.rest, .int .i64 f.beside] := by rw [hW]; exact Blk.new _ _ _
        have hz2 := hB2.lt
        have hz3 : gz < W2.heap.size := by omega
        have hSt : StoOK gF (t.facts.length * 6) W2 := (show StoOK gF (t.facts.length * 6) wr from ⟨cur, HCUR.out, hcz⟩).ext hX2
        have sA : ∀ w', StoOK gF (t.facts.length * 6) w' → w'.cell? ⟨gF, j * 6 + 2, none⟩ = some (cellOf w' ⟨gF, j * 6 + 2, none⟩) := fun w' h => (h.cell (by omega)).1
        have sB : ∀ w', StoOK gF (t.facts.length * 6) w' → w'.frozen? ⟨gF, j * 6 + 2, none⟩ = false := fun w' h => (h.cell (by omega)).2
        have sC : ∀ w', StoOK gF (t.facts.length * 6) w' → w'.cell? ⟨gF, j * 6 + 3, none⟩ = some (cellOf w' ⟨gF, j * 6 + 3, none⟩) := fun w' h => (h.cell (by omega)).1
        have sD : ∀ w', StoOK gF (t.facts.length * 6) w' → w'.frozen? ⟨gF, j * 6 + 3, none⟩ = false := fun w' h => (h.cell (by omega)).2
        have r1 : W2.cell? ⟨gz, 1, none⟩ = some (.slice (some ⟨gF, 0, none⟩) t.facts.length c') := (hX2.cell (p := ⟨gz, 1, none⟩) hgzl).trans hbzc
        have r2 : W2.cell? ⟨wr.heap.size, 2, none⟩ = some (.slice An f.names.length cn) := hB2.cell 2
        have r3 : W2.cell? ⟨wr.heap.size, 3, none⟩ = some (.slice Ak f.kids.length ck) := hB2.cell 3
        have hS2 : W2.drew.cell? ⟨gz, 1, none⟩ = some (.slice (some ⟨gF, 0, none⟩) t.facts.length c') ∧ W2.drew.cell? ⟨wr.heap.size, 2, none⟩ = some (.slice An f.names.length cn) ∧ W2.drew.cell? ⟨wr.heap.size, 3, none⟩ = some (.slice Ak f.kids.length ck) ∧ StoOK gF (t.facts.length * 6) W2.drew ∧ Turns (fun k => k = gF) W2 W2.drew :=
          ⟨r1, r2, r3, hSt, ⟨rfl, rfl, rfl, Nat.le_refl _, fun _ _ _ => rfl⟩⟩
        have hne : wr.heap.size ≠ gF := by omega
        have kp : ∀ w', Turns (fun k => k = gF) W2 w' → ∀ b, S b → b < w.heap.size → w'.heap[b]? = w.heap[b]? := fun w' ht b _ hb => by
          rw [ht.block b (by have := hX2.size; omega) (by omega), hX2.block b (by omega), hXr.out.block b hb]
        have kz : ∀ w', Turns (fun k => k = gF) W2 w' → w.heap.size ≤ w'.heap.size := fun w' ht => by have := ht.size; have := hX2.size; omega
        have KP := Lib.hid kp
        have KZ := Lib.hid kz
        have HX2 := Lib.hid hX2
        rw [← hW]
        clear hW hX2 hB2 kp kz hSt hcx hfx d0 d1 d2 d3 d4 d5 hbzc r1 r2 r3
        go_region_held3 (fun w' => w'.cell? ⟨gz, 1, none⟩ = some (.slice (some ⟨gF, 0, none⟩) t.facts.length c') ∧ w'.cell? ⟨wr.heap.size, 2, none⟩ = some (.slice An f.names.length cn) ∧ w'.cell? ⟨wr.heap.size, 3, none⟩ = some (.slice Ak f.kids.length ck) ∧ StoOK gF (t.facts.length * 6) w' ∧ Turns (fun k => k = gF) W2 w')
          (first | exact hS2 | exact keepT (by assumption) hz3 hz2 hz2 (by assumption) | exact keepU (by assumption) hgzF hne hne)
          (first
            | (go_at_call 104; refine (cloneS_any (by omega) (HSN.out.keep (KZ.out _ (turnsOf (by assumption))) (KP.out _ (turnsOf (by assumption))) (fun _ h _ => h))).mono ?_; rintro e w8 ⟨A8, c8, rfl, ho8, hx8⟩)
            | (go_at_call 124; refine (cloneI_any (by omega) (HIK.out.keep (KZ.out _ (turnsOf (by assumption))) (KP.out _ (turnsOf (by assumption))) (fun _ h _ => h))).mono ?_; rintro e w9 ⟨A9, c9, rfl, hi9, hb9, hx9⟩))
        all_goals
          have hl := tloop_step rfl HT.out Hf.out HX2.out (Ext.ofDrew hx8) ho8 hnB Hns.out hx9 hi9 hb9
          have HL := Lib.hid hl
          clear hl ho8 hx8 hi9 hb9 hx9
          go_wp2_with fail
          go_roundw
          case rel => exact ⟨j + 1, by omega, by go_num, HL.out⟩
          case measure => simp [intOf]; omega
      · have hjn : j = t.facts.length := by omega
        subst hjn
        have hB2 := HB2.out.ext hx
        have k0 : wr.cell? ⟨gz, 0, none⟩ = some (.slice A t.row.length c) := hbz.cell 0
        have k1 : wr.cell? ⟨gz, 1, none⟩ = some (.slice A' t.facts.length c') := hbz.cell 1
        have k2 : wr.cell? ⟨w.heap.size + 1, 0, none⟩ = some (.slice none 0 0) := hB2.cell 0
        have k3 : wr.cell? ⟨w.heap.size + 1, 1, none⟩ = some (.slice none 0 0) := hB2.cell 1
        have k4 := hB2.frozen 0
        have k5 := hB2.frozen 1
        have hW2 := HB2.out.lt
        have HB3 := Lib.hid hB2
        have hfc := own_facts ho rfl hn1 hxs
        have hown : ∀ g, (Value.slice A' t.facts.length c').ownBlock = some g → W1.heap.size ≤ g ∧ Nfz wr g := fun g hg => ⟨(ownsRow_lt ho hg).1, ownsRow_nfz ho hg⟩
        have HX := Lib.hid hx
        have HI := Lib.hid hi
        have HFC := Lib.hid hfc
        have Hown := Lib.hid hown
        have Hb := Lib.hid hb
        clear hB2 hbz hx hi ho hxs hb hfc hown
        go_wp2_with fail
        refine bodyPost_ret (results_td rfl _ _ _ _ _ rfl HB3.out.set01) rfl ?_
        have hF : ∀ b, W1.heap.size ≤ b → ((wr.setCell ⟨w.heap.size + 1, 0, none⟩ (.slice A t.row.length c)).setCell ⟨w.heap.size + 1, 1, none⟩ (.slice A' t.facts.length c')).heap[b]? = wr.heap[b]? := fun b hb =>
          (Below.heap_setCell _ _ _ _ (show b ≠ w.heap.size + 1 by omega)).trans (Below.heap_setCell _ _ _ _ (show b ≠ w.heap.size + 1 by omega))
        refine ⟨A, c, A', c', rfl, ((HXW.out.trans' HX.out).setCell (p := ⟨w.heap.size + 1, 0, none⟩) (by simp) _).setCell (p := ⟨w.heap.size + 1, 1, none⟩) (by simp) _, _, _, rfl, ?_, ?_⟩
        · exact HI.out.keep (by simp [World.setCell]) (fun b hb _ => hF b (Hb.out b hb).1) (fun b hb _ => ⟨by have := (Hb.out b hb).1; omega, (Hb.out b hb).2.2.2.2.same (hF b (Hb.out b hb).1)⟩)
        · refine HFC.out.keep (by simp [World.setCell]) (fun b hb _ => hF b ?_) (fun b hb _ => ?_)
          · rcases hb with hb | hb
            · exact (Hb.out b hb).1
            · exact (Hown.out b hb).1
          · rcases hb with hb | hb
            · exact ⟨by have := (Hb.out b hb).1; omega, (Hb.out b hb).2.2.2.2.same (hF b (Hb.out b hb).1)⟩
            · exact ⟨by have := (Hown.out b hb).1; omega, (Hown.out b hb).2.same (hF b (Hown.out b hb).1)⟩
end Go.Proofs.Ytocndkhgopjhhaa
