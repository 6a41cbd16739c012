/- touchstonelaw07.spoil writes over what was handed out: only texts and numbers of blocks of its own kind. -/
import Derived.Test.YtocndkhgopjhhaaProg
import Derived.Test.YtocndkhgopjhhaaBase
import Derived.Outline
namespace Go.Proofs.Ytocndkhgopjhhaa
open Go.RowKit

/-- what may come of a cell: what it was, or a text for a text, a byte for a byte. -/
def CellTo (v v' : Value) : Prop := v' = v ∨ (∃ s s', v = .string s ∧ v' = .string s') ∨ (∃ a a', v = .int .u8 a ∧ v' = .int .u8 a')
theorem CellTo.trans {a b c : Value} (h : CellTo a b) (k : CellTo b c) : CellTo a c := by
  rcases h with rfl | ⟨s, s', rfl, rfl⟩ | ⟨x, x', rfl, rfl⟩
  · exact k
  · rcases k with rfl | ⟨t, t', e, rfl⟩ | ⟨x, x', e, _⟩
    · exact .inr (.inl ⟨_, _, rfl, rfl⟩)
    · exact .inr (.inl ⟨_, _, rfl, rfl⟩)
    · cases e
  · rcases k with rfl | ⟨t, t', e, _⟩ | ⟨y, y', e, rfl⟩
    · exact .inr (.inr ⟨_, _, rfl, rfl⟩)
    · cases e
    · exact .inr (.inr ⟨_, _, rfl, rfl⟩)
theorem CellTo.slice {v : Value} {A : Option Addr} {n c : Nat} (h : CellTo (.slice A n c) v) : v = .slice A n c := by
  rcases h with rfl | ⟨s, s', e, _⟩ | ⟨x, x', e, _⟩
  · rfl
  · cases e
  · cases e
theorem CellTo.string {v : Value} {s : ByteArray} (h : CellTo (.string s) v) : ∃ s', v = .string s' := by
  rcases h with rfl | ⟨_, s', _, rfl⟩ | ⟨x, x', e, _⟩
  · exact ⟨_, rfl⟩
  · exact ⟨_, rfl⟩
  · cases e
theorem CellTo.u8 {v : Value} {a : Int} (h : CellTo (.int .u8 a) v) : ∃ a', v = .int .u8 a' := by
  rcases h with rfl | ⟨_, s', e, _⟩ | ⟨x, x', _, rfl⟩
  · exact ⟨_, rfl⟩
  · cases e
  · exact ⟨_, rfl⟩

/-- blocks out of F stand as they stood; of the others each cell is what it was, or of its kind. -/
structure Sim (F : Nat → Prop) (w w' : World) : Prop where
  turns : Turns F w w'
  cell : ∀ b o v, w.cell? ⟨b, o, none⟩ = some v → ∃ v', w'.cell? ⟨b, o, none⟩ = some v' ∧ CellTo v v'
  frozen : ∀ b o, b < w.heap.size → w'.frozen? ⟨b, o, none⟩ = w.frozen? ⟨b, o, none⟩

theorem cell_lt {w : World} {b o : Nat} {v : Value} (h : w.cell? ⟨b, o, none⟩ = some v) : b < w.heap.size := by
  rcases Nat.lt_or_ge b w.heap.size with hl | hl
  · exact hl
  · simp [World.cell?, Array.getElem?_eq_none hl] at h
theorem Sim.size {F : Nat → Prop} {w w' : World} (h : Sim F w w') : w.heap.size ≤ w'.heap.size := h.turns.size
theorem Sim.ofExt {F : Nat → Prop} {w w' : World} (h : Ext w w') : Sim F w w' :=
  ⟨Turns.ofExt h, fun b o v hv => ⟨v, (h.cell (p := ⟨b, o, none⟩) (cell_lt hv)).trans hv, .inl rfl⟩, fun b o hb => h.frozen (p := ⟨b, o, none⟩) hb⟩
theorem Sim.trans {F : Nat → Prop} {a b c : World} (h : Sim F a b) (k : Sim F b c) : Sim F a c :=
  ⟨h.turns.trans k.turns (fun _ h _ => h), fun x o v hv => by
    obtain ⟨v1, h1, t1⟩ := h.cell x o v hv
    obtain ⟨v2, h2, t2⟩ := k.cell x o v1 h1
    exact ⟨v2, h2, t1.trans t2⟩, fun x o hx => (k.frozen x o (Nat.lt_of_lt_of_le hx h.size)).trans (h.frozen x o hx)⟩
theorem Sim.set {F : Nat → Prop} {w : World} {b o : Nat} {v u : Value} (h : w.cell? ⟨b, o, none⟩ = some v) (hu : CellTo v u) (hb : F b) : Sim F w (w.setCell ⟨b, o, none⟩ u) := by
  refine ⟨(Turns.ofSet w ⟨b, o, none⟩ u).mono fun x hx => by have e : x = b := hx; rw [e]; exact hb, fun b' o' v' hv => ?_, fun b' o' _ => World.frozen?_setCell _ _ _ _⟩
  by_cases e : (⟨b, o, none⟩ : Addr) = ⟨b', o', none⟩
  · rw [← e] at hv ⊢
    rw [h] at hv
    injection hv with hv
    subst hv
    exact ⟨u, World.cell?_setCell_same _ _ _ h, hu⟩
  · exact ⟨v', (World.cell?_setCell_other _ _ _ _ e).trans hv, .inl rfl⟩

/-- the frame of a node: which slices stand where; texts and numbers are any. -/
def Skel (S : Nat → Prop) (w : World) : Nat → Value → Prop
  | 0, _ => False
  | d + 1, v => ∃ k tx A n c A' m c', v = .agg #[.int .u8 k, .string tx, .slice A n c, .slice A' m c'] ∧ n ≤ maxLen ∧ m ≤ maxLen ∧
      (0 < n → ∃ b o, A = some ⟨b, o, none⟩ ∧ S b ∧ b < w.heap.size ∧ ∀ i, i < n → w.frozen? ⟨b, o + i, none⟩ = false ∧ ∃ s, w.cell? ⟨b, o + i, none⟩ = some (.string s)) ∧
      (0 < m → ∃ b o, A' = some ⟨b, o, none⟩ ∧ S b ∧ b < w.heap.size ∧ ∀ i, i < m → w.frozen? ⟨b, o + i * 4, none⟩ = false ∧ ∃ v0 v1 v2 v3, w.cell? ⟨b, o + i * 4, none⟩ = some v0 ∧ w.cell? ⟨b, o + i * 4 + 1, none⟩ = some v1 ∧ w.cell? ⟨b, o + i * 4 + 2, none⟩ = some v2 ∧ w.cell? ⟨b, o + i * 4 + 3, none⟩ = some v3 ∧ Skel S w d (.agg #[v0, v1, v2, v3]))

theorem Skel.sim {S F : Nat → Prop} {w w' : World} (h : Sim F w w') : ∀ (d : Nat) (a b c e a' b' c' e' : Value), CellTo a a' → CellTo b b' → CellTo c c' → CellTo e e' → Skel S w d (.agg #[a, b, c, e]) → Skel S w' d (.agg #[a', b', c', e'])
  | 0, _, _, _, _, _, _, _, _, _, _, _, _, hs => hs.elim
  | d + 1, a, b, c, e, a', b', c', e', ha, hb, hc, he, hs => by
    obtain ⟨k, tx, A, n, cn, A', m, cm, hv, h1, h2, h3, h4⟩ := hs
    injection hv with hv
    simp at hv
    obtain ⟨rfl, rfl, rfl, rfl⟩ := hv
    obtain ⟨k', rfl⟩ := ha.u8
    obtain ⟨tx', rfl⟩ := hb.string
    obtain rfl := hc.slice
    obtain rfl := he.slice
    refine ⟨k', tx', A, n, cn, A', m, cm, rfl, h1, h2, fun hp => ?_, fun hp => ?_⟩
    · obtain ⟨b, o, hA, hS, hl, hx⟩ := h3 hp
      refine ⟨b, o, hA, hS, Nat.lt_of_lt_of_le hl h.size, fun i hi => ?_⟩
      obtain ⟨hf, s, hs⟩ := hx i hi
      obtain ⟨v', hv', ht⟩ := h.cell _ _ _ hs
      obtain ⟨s', rfl⟩ := ht.string
      exact ⟨(h.frozen _ _ hl).trans hf, s', hv'⟩
    · obtain ⟨b, o, hA, hS, hl, hx⟩ := h4 hp
      refine ⟨b, o, hA, hS, Nat.lt_of_lt_of_le hl h.size, fun i hi => ?_⟩
      obtain ⟨hf, v0, v1, v2, v3, c0, c1, c2, c3, hs⟩ := hx i hi
      obtain ⟨u0, g0, t0⟩ := h.cell _ _ _ c0
      obtain ⟨u1, g1, t1⟩ := h.cell _ _ _ c1
      obtain ⟨u2, g2, t2⟩ := h.cell _ _ _ c2
      obtain ⟨u3, g3, t3⟩ := h.cell _ _ _ c3
      exact ⟨(h.frozen _ _ hl).trans hf, u0, u1, u2, u3, g0, g1, g2, g3, Skel.sim h d _ _ _ _ _ _ _ _ t0 t1 t2 t3 hs⟩

theorem Rep.skel {B : Nat} {S : Nat → Prop} {w : World} (hS : ∀ b, S b → Nfz w b) : ∀ (d : Nat) (t : N) (v : Value), Rep B S w d t v → Skel S w d v
  | 0, _, _, h => h.elim
  | d + 1, .mk k tx ns ks, v, h => by
    obtain ⟨nv, A', c', rfl, htx, ⟨A, c, rfl, g1, g2, g3, g4, g5⟩, h1, h2, h3, h4⟩ := h
    refine ⟨k, tx, A, ns.length, c, A', ks.length, c', rfl, by omega, by omega, fun hp => ?_, fun hp => ?_⟩
    · obtain ⟨b, o, hA, hb, hl, hx⟩ := g5 hp
      exact ⟨b, o, hA, hb, hl, fun i hi => ⟨hS b hb _, _, hx i _ (List.getElem?_eq_getElem hi)⟩⟩
    · obtain ⟨b, o, hA, hb, hl, hx⟩ := h4 hp
      refine ⟨b, o, hA, hb, hl, fun i hi => ?_⟩
      obtain ⟨v0, v1, v2, v3, c0, c1, c2, c3, hr⟩ := hx i _ (List.getElem?_eq_getElem hi)
      exact ⟨hS b hb _, v0, v1, v2, v3, c0, c1, c2, c3, Rep.skel hS d _ _ hr⟩

set_option maxRecDepth 100000 in
set_option maxHeartbeats 4000000 in
theorem spoil_any {S : Nat → Prop} : ∀ (d : Nat) (v : Value) (w : World), Skel S w d v →
    Calls Try.prog 53 #[v] w fun e w' => e = .returned (.tuple #[]) ∧ Sim S w w' := by
  intro d
  induction d with
  | zero => intro v w h; exact h.elim
  | succ d ih =>
    intro v w h
    have HK := Lib.hid h
    have IH := Lib.hid ih
    obtain ⟨k, tx, A, n, c, A', m, c', rfl, hn, hm, hnn, hmm⟩ := h
    have HN := Lib.hid hnn
    have HM := Lib.hid hmm
    have S0 := Lib.hid (Sim.ofExt (F := S) (Ext.alloc' w (.cells #[.int .u8 k, .string tx, .slice A n c, .slice A' m c'] 25)))
    have B0 := Lib.hid (Blk.new w 25 #[.int .u8 k, .string tx, .slice A n c, .slice A' m c'])
    unfold maxLen at hn hm
    clear hnn hmm ih
    go_enter Try.func53, Try.ntmps53
    go_wp2_with fail
    go_loopw [2] (fun i wr => ∃ j : Nat, j ≤ n ∧ i = .int .i64 j ∧ Sim S w wr ∧ wr.cell? ⟨w.heap.size, 2, none⟩ = some (.slice A n c) ∧ wr.cell? ⟨w.heap.size, 3, none⟩ = some (.slice A' m c')) (fun i _ => n - (intOf i).toNat)
    case atStart => exact ⟨0, Nat.zero_le _, rfl, S0.out, B0.out.cell 2, B0.out.cell 3⟩
    case round =>
      obtain ⟨j, hj, rfl, hs, g2, g3⟩ := hrel
      have HSM := Lib.hid hs
      have gl := cell_lt g2
      have hz := hs.size
      clear hs
      by_cases hlt : j < n
      · obtain ⟨b, o, rfl, hSb, hbl, hx⟩ := HN.out (by omega)
        obtain ⟨hf, s, hc⟩ := hx j hlt
        obtain ⟨v', hv', ht⟩ := HSM.out.cell _ _ _ hc
        obtain ⟨s', rfl⟩ := ht.string
        have hfr := (HSM.out.frozen b (o + j) hbl).trans hf
        have hbr : b < wr.heap.size := by omega
        have hi : (j : Int) < (n : Int) := by omega
        have HC := Lib.hid hv'
        clear hx hf hc ht
        go_wp2_with fail
        go_roundw
        case rel =>
          have hne : (⟨b, o + j, none⟩ : Addr) ≠ ⟨w.heap.size, 2, none⟩ := fun e => by injection e with e _; omega
          have hne3 : (⟨b, o + j, none⟩ : Addr) ≠ ⟨w.heap.size, 3, none⟩ := fun e => by injection e with e _; omega
          exact ⟨j + 1, by omega, by go_num, HSM.out.trans (Sim.set HC.out (.inr (.inl ⟨_, _, rfl, rfl⟩)) hSb), (World.cell?_setCell_other _ _ _ _ hne).trans g2, (World.cell?_setCell_other _ _ _ _ hne3).trans g3⟩
        case measure => simp [intOf]; omega
      · have hi : ¬ (j : Int) < (n : Int) := by omega
        go_wp2_with fail
        go_loopw [3] (fun i wx => ∃ j : Nat, j ≤ m ∧ i = .int .i64 j ∧ Sim S w wx ∧ wx.cell? ⟨w.heap.size, 2, none⟩ = some (.slice A n c) ∧ wx.cell? ⟨w.heap.size, 3, none⟩ = some (.slice A' m c')) (fun i _ => m - (intOf i).toNat)
        case atStart => exact ⟨0, Nat.zero_le _, rfl, HSM.out, g2, g3⟩
        case round =>
          clear g2 g3 gl HSM hz hi hlt hj
          obtain ⟨j, hj, rfl, hs, g2, g3⟩ := hrel
          have HSM := Lib.hid hs
          have gl := cell_lt g2
          have hz := hs.size
          clear hs
          by_cases hlt : j < m
          · obtain ⟨b, o, rfl, hSb, hbl, hx⟩ := HM.out (by omega)
            obtain ⟨hf, v0, v1, v2, v3, c0, c1, c2, c3, hsk⟩ := hx j hlt
            obtain ⟨u0, d0, t0⟩ := HSM.out.cell _ _ _ c0
            obtain ⟨u1, d1, t1⟩ := HSM.out.cell _ _ _ c1
            obtain ⟨u2, d2, t2⟩ := HSM.out.cell _ _ _ c2
            obtain ⟨u3, d3, t3⟩ := HSM.out.cell _ _ _ c3
            have hsk2 := Skel.sim HSM.out d _ _ _ _ _ _ _ _ t0 t1 t2 t3 hsk
            have hfr := (HSM.out.frozen b (o + j * 4) hbl).trans hf
            have hbr : b < wr.heap.size := by omega
            have hi : (j : Int) < (m : Int) := by omega
            have HSK := Lib.hid hsk2
            have HFR := Lib.hid hfr
            have HD0 := Lib.hid d0
            clear hx hf c0 c1 c2 c3 hsk t0 t1 t2 t3 hsk2 hfr
            obtain ⟨a0, rfl⟩ : ∃ a, u0 = .int .u8 a := by
              have hk := HSK.out
              cases d with
              | zero => exact hk.elim
              | succ d =>
                obtain ⟨k', tx', _, _, _, _, _, _, e, _⟩ := hk
                injection e with e
                simp at e
                exact ⟨k', e.1⟩
            go_wp2_with fail
            refine (IH.out _ _ HSK.out).mono ?_
            rintro e w5 ⟨rfl, hs5⟩
            have HS5 := Lib.hid (HSM.out.trans hs5)
            obtain ⟨y2, e2, q2⟩ := hs5.cell _ _ _ g2
            obtain ⟨y3, e3, q3⟩ := hs5.cell _ _ _ g3
            obtain rfl := q2.slice
            obtain rfl := q3.slice
            obtain ⟨y0, e0, q0⟩ := hs5.cell _ _ _ HD0.out
            obtain ⟨a1, rfl⟩ := q0.u8
            have hf5 := (hs5.frozen b (o + j * 4) hbr).trans HFR.out
            have hz5 := hs5.size
            have hb5 : b < w5.heap.size := by omega
            have HE0 := Lib.hid e0
            have gl5 := cell_lt e2
            have hgz : w.heap.size < w5.heap.size := by omega
            clear hs5 q2 q3 q0 d0 d1 d2 d3 g2 g3
            go_wp2_with fail
            go_roundw
            case rel =>
              have hne : (⟨b, o + j * 4, none⟩ : Addr) ≠ ⟨w.heap.size, 2, none⟩ := fun e => by injection e with e _; omega
              have hne3 : (⟨b, o + j * 4, none⟩ : Addr) ≠ ⟨w.heap.size, 3, none⟩ := fun e => by injection e with e _; omega
              exact ⟨j + 1, by omega, by go_num, HS5.out.trans (Sim.set HE0.out (.inr (.inr ⟨_, _, rfl, rfl⟩)) hSb), (World.cell?_setCell_other _ _ _ _ hne).trans e2, (World.cell?_setCell_other _ _ _ _ hne3).trans e3⟩
            case measure => simp [intOf]; omega
          · have hi : ¬ (j : Int) < (m : Int) := by omega
            go_wp2_with fail
            go_end0
            exact ⟨rfl, HSM.out⟩

/-- a copy that was handed out is written over: only its own blocks have changed. -/
theorem spoil_own {B d : Nat} {S : Nat → Prop} {t : N} {w : World} {v : Value} (hS : ∀ b, S b → Nfz w b) (h : Rep B S w d t v) : Calls Try.prog 53 #[v] w fun e w' => e = .returned (.tuple #[]) ∧ Turns S w w' :=
  (spoil_any d v w (Rep.skel hS d t v h)).mono fun _ _ ⟨he, hs⟩ => ⟨he, hs.turns⟩
end Go.Proofs.Ytocndkhgopjhhaa
