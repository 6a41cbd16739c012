/- touchstonelaw28.spoil writes over a thing to be done: only texts and numbers of blocks of its own kind. -/
import Derived.Test.YtocndkhgopjhhaaProg
import Derived.Test.YtocndkhgopjhhaaSt
import Derived.Test.YtocndkhgopjhhaaPushPop
import Derived.Outline
namespace Go.Proofs.Ytocndkhgopjhhaa
open Go.RowKit

/-- what may come of a cell: what it was, or a text for a text, a number for a number. -/
def CellT (v v' : Value) : Prop := v' = v ∨ (∃ s s', v = .string s ∧ v' = .string s') ∨ (∃ k a a', v = .int k a ∧ v' = .int k a')
theorem CellT.trans {a b c : Value} (h : CellT a b) (k : CellT b c) : CellT a c := by
  rcases h with rfl | ⟨s, s', rfl, rfl⟩ | ⟨n, x, x', rfl, rfl⟩
  · exact k
  · rcases k with rfl | ⟨t, t', e, rfl⟩ | ⟨n, x, x', e, _⟩
    · exact .inr (.inl ⟨_, _, rfl, rfl⟩)
    · exact .inr (.inl ⟨_, _, rfl, rfl⟩)
    · cases e
  · rcases k with rfl | ⟨t, t', e, _⟩ | ⟨m, y, y', e, rfl⟩
    · exact .inr (.inr ⟨_, _, _, rfl, rfl⟩)
    · cases e
    · injection e with e _; subst e; exact .inr (.inr ⟨_, _, _, rfl, rfl⟩)

/-- blocks out of F stand as they stood; of the others each cell is what it was, or of its kind. -/
structure SimT (F : Nat → Prop) (w w' : World) : Prop where
  turns : Turns F w w'
  cell : ∀ b o v, w.cell? ⟨b, o, none⟩ = some v → ∃ v', w'.cell? ⟨b, o, none⟩ = some v' ∧ CellT v v'
  frozen : ∀ b o, b < w.heap.size → w'.frozen? ⟨b, o, none⟩ = w.frozen? ⟨b, o, none⟩

theorem cellT_lt {w : World} {b o : Nat} {v : Value} (h : w.cell? ⟨b, o, none⟩ = some v) : b < w.heap.size := by
  rcases Nat.lt_or_ge b w.heap.size with hl | hl
  · exact hl
  · simp [World.cell?, Array.getElem?_eq_none hl] at h
theorem SimT.size {F : Nat → Prop} {w w' : World} (h : SimT F w w') : w.heap.size ≤ w'.heap.size := h.turns.size
theorem SimT.ofExt {F : Nat → Prop} {w w' : World} (h : Ext w w') : SimT F w w' :=
  ⟨Turns.ofExt h, fun b o v hv => ⟨v, (h.cell (p := ⟨b, o, none⟩) (cellT_lt hv)).trans hv, .inl rfl⟩, fun b o hb => h.frozen (p := ⟨b, o, none⟩) hb⟩
theorem SimT.trans {F : Nat → Prop} {a b c : World} (h : SimT F a b) (k : SimT F b c) : SimT F a c :=
  ⟨h.turns.trans k.turns (fun _ h _ => h), fun x o v hv => by
    obtain ⟨v1, h1, t1⟩ := h.cell x o v hv
    obtain ⟨v2, h2, t2⟩ := k.cell x o v1 h1
    exact ⟨v2, h2, t1.trans t2⟩, fun x o hx => (k.frozen x o (Nat.lt_of_lt_of_le hx h.size)).trans (h.frozen x o hx)⟩
theorem SimT.set {F : Nat → Prop} {w : World} {b o : Nat} {v u : Value} (h : w.cell? ⟨b, o, none⟩ = some v) (hu : CellT v u) (hb : F b) : SimT F w (w.setCell ⟨b, o, none⟩ u) := by
  refine ⟨(Turns.ofSet w ⟨b, o, none⟩ u).mono fun x hx => by have e : x = b := hx; rw [e]; exact hb, fun b' o' v' hv => ?_, fun b' o' _ => World.frozen?_setCell _ _ _ _⟩
  by_cases e : (⟨b, o, none⟩ : Addr) = ⟨b', o', none⟩
  · rw [← e] at hv ⊢
    rw [h] at hv
    injection hv with hv
    subst hv
    exact ⟨u, World.cell?_setCell_same _ _ _ h, hu⟩
  · exact ⟨v', (World.cell?_setCell_other _ _ _ _ e).trans hv, .inl rfl⟩
theorem SimT.slice {F : Nat → Prop} {w w' : World} (h : SimT F w w') {b o : Nat} {A : Option Addr} {n c : Nat} (hc : w.cell? ⟨b, o, none⟩ = some (.slice A n c)) : w'.cell? ⟨b, o, none⟩ = some (.slice A n c) := by
  obtain ⟨v', h1, h2⟩ := h.cell _ _ _ hc
  rcases h2 with rfl | ⟨s, s', e, _⟩ | ⟨k, x, x', e, _⟩
  · exact h1
  · cases e
  · cases e
theorem SimT.str {F : Nat → Prop} {w w' : World} (h : SimT F w w') {b o : Nat} {s : ByteArray} (hc : w.cell? ⟨b, o, none⟩ = some (.string s)) : ∃ s', w'.cell? ⟨b, o, none⟩ = some (.string s') := by
  obtain ⟨v', h1, h2⟩ := h.cell _ _ _ hc
  rcases h2 with rfl | ⟨s, s', e, rfl⟩ | ⟨k, x, x', e, _⟩
  · exact ⟨_, h1⟩
  · exact ⟨_, h1⟩
  · cases e
theorem SimT.int {F : Nat → Prop} {w w' : World} (h : SimT F w w') {b o : Nat} {k : IntKind} {z : Int} (hc : w.cell? ⟨b, o, none⟩ = some (.int k z)) : ∃ z', w'.cell? ⟨b, o, none⟩ = some (.int k z') := by
  obtain ⟨v', h1, h2⟩ := h.cell _ _ _ hc
  rcases h2 with rfl | ⟨s, s', e, _⟩ | ⟨k', x, x', e, rfl⟩
  · exact ⟨_, h1⟩
  · cases e
  · injection e with e _; subst e; exact ⟨_, h1⟩

/-- the frame of a row of numbers, and of facts: which slices stand where; texts and numbers are any. -/
def RowSk (S : Nat → Prop) (w : World) (A : Option Addr) (n : Nat) : Prop := 0 < n → ∃ b o, A = some ⟨b, o, none⟩ ∧ S b ∧ b < w.heap.size ∧ ∀ i, i < n → w.frozen? ⟨b, o + i, none⟩ = false ∧ ∃ z, w.cell? ⟨b, o + i, none⟩ = some (.int .i64 z)
def FctSk (S : Nat → Prop) (w : World) (A : Option Addr) (m : Nat) : Prop := 0 < m → ∃ b o, A = some ⟨b, o, none⟩ ∧ S b ∧ b < w.heap.size ∧ ∀ i, i < m → w.frozen? ⟨b, o + i * 6 + 4, none⟩ = false ∧ (∃ z, w.cell? ⟨b, o + i * 6 + 4, none⟩ = some (.int .i64 z)) ∧
  ∃ An nn cn, w.cell? ⟨b, o + i * 6 + 2, none⟩ = some (.slice An nn cn) ∧ nn ≤ maxLen ∧ (0 < nn → ∃ b' o', An = some ⟨b', o', none⟩ ∧ S b' ∧ b' < w.heap.size ∧ ∀ k, k < nn → w.frozen? ⟨b', o' + k, none⟩ = false ∧ ∃ s, w.cell? ⟨b', o' + k, none⟩ = some (.string s))
theorem Ints.sk {B : Nat} {S : Nat → Prop} {w : World} {A : Option Addr} {n c : Nat} {zs : List Int} (h : Ints B S w (.slice A n c) zs) (hS : ∀ b, S b → Nfz w b) : n = zs.length ∧ n ≤ c ∧ c ≤ maxLen ∧ RowSk S w A n := by
  obtain ⟨A', c', e, h1, h2, _, _, h3⟩ := h
  injection e with e1 e2 e3
  subst e1 e2 e3
  refine ⟨rfl, h1, h2, fun hp => ?_⟩
  obtain ⟨b, o, e, hb, hl, hx⟩ := h3 hp
  exact ⟨b, o, e, hb, hl, fun i hi => ⟨hS b hb _, _, hx i _ (List.getElem?_eq_getElem hi)⟩⟩
theorem Facts.sk {B : Nat} {S : Nat → Prop} {w : World} {A : Option Addr} {n c : Nat} {fs : List Fc} (h : Facts B S w (.slice A n c) fs) (hS : ∀ b, S b → Nfz w b) : n = fs.length ∧ n ≤ c ∧ c ≤ maxLen ∧ FctSk S w A n := by
  obtain ⟨A', c', e, h1, h2, _, h3⟩ := h
  injection e with e1 e2 e3
  subst e1 e2 e3
  refine ⟨rfl, h1, h2, fun hp => ?_⟩
  obtain ⟨b, o, e, hb, hl, hx⟩ := h3 hp
  refine ⟨b, o, e, hb, hl, fun i hi => ?_⟩
  obtain ⟨nv, kv, _, _, c2, _, c4, _, _, _, _, ⟨An, cn, rfl, hcn, hmn, _, _, hn⟩, _⟩ := hx i _ (List.getElem?_eq_getElem hi)
  refine ⟨hS b hb _, ⟨_, c4⟩, An, _, cn, c2, by omega, fun hp => ?_⟩
  obtain ⟨b', o', e', hb', hl', hx'⟩ := hn hp
  exact ⟨b', o', e', hb', hl', fun k hk => ⟨hS b' hb' _, _, hx' k _ (List.getElem?_eq_getElem hk)⟩⟩

set_option maxRecDepth 100000 in
set_option maxHeartbeats 4000000 in
theorem spoil28_any {S : Nat → Prop} {w : World} {A A' : Option Addr} {n c m c' : Nat} (hn : n ≤ c) (hc : c ≤ maxLen) (hm : m ≤ c') (hc' : c' ≤ maxLen) (hr : RowSk S w A n) (hf : FctSk S w A' m) :
    Calls Try.prog 122 #[.agg #[.slice A n c, .slice A' m c']] w fun e w' => e = .returned (.tuple #[]) ∧ Turns S w w' := by
  have HR := Lib.hid hr
  have HF := Lib.hid hf
  have S0 := Lib.hid (SimT.ofExt (F := S) (Ext.alloc' w (.cells #[.slice A n c, .slice A' m c'] 48)))
  have B0 := Lib.hid (Blk.new w 48 #[.slice A n c, .slice A' m c'])
  unfold maxLen at hc hc'
  clear hr hf
  go_enter Try.func122, Try.ntmps122
  go_wp2_with fail
  go_loopw [2] (fun i wr => ∃ j : Nat, j ≤ n ∧ i = .int .i64 j ∧ SimT S w wr ∧ wr.cell? ⟨w.heap.size, 0, none⟩ = some (.slice A n c) ∧ wr.cell? ⟨w.heap.size, 1, none⟩ = some (.slice A' m c')) (fun i _ => n - (intOf i).toNat)
  case atStart => exact ⟨0, Nat.zero_le _, rfl, S0.out, B0.out.cell 0, B0.out.cell 1⟩
  case round =>
    obtain ⟨j, hj, rfl, hs, g0, g1⟩ := hrel
    have HSM := Lib.hid hs
    have gl := cellT_lt g0
    have hz := hs.size
    clear hs
    by_cases hlt : j < n
    · obtain ⟨b, o, rfl, hSb, hbl, hx⟩ := HR.out (by omega)
      obtain ⟨hfz, z, hcl⟩ := hx j hlt
      obtain ⟨z', hv'⟩ := HSM.out.int hcl
      have hfr := (HSM.out.frozen b (o + j) hbl).trans hfz
      have hbr : b < wr.heap.size := by omega
      have hi : (j : Int) < (n : Int) := by omega
      have HC := Lib.hid hv'
      clear hx hfz hcl
      go_wp2_with fail
      go_roundw
      case rel =>
        have hne : (⟨b, o + j, none⟩ : Addr) ≠ ⟨w.heap.size, 0, none⟩ := fun e => by injection e with e _; omega
        have hne1 : (⟨b, o + j, none⟩ : Addr) ≠ ⟨w.heap.size, 1, none⟩ := fun e => by injection e with e _; omega
        exact ⟨j + 1, by omega, by go_num, HSM.out.trans (SimT.set HC.out (.inr (.inr ⟨_, _, _, rfl, rfl⟩)) hSb), (World.cell?_setCell_other _ _ _ _ hne).trans g0, (World.cell?_setCell_other _ _ _ _ hne1).trans g1⟩
      case measure => simp [intOf]; omega
    · have hi : ¬ (j : Int) < (n : Int) := by omega
      go_wp2_with fail
      go_loopw [3] (fun i wx => ∃ j : Nat, j ≤ m ∧ i = .int .i64 j ∧ SimT S w wx ∧ wx.cell? ⟨w.heap.size, 1, none⟩ = some (.slice A' m c')) (fun i _ => m - (intOf i).toNat)
      case atStart => exact ⟨0, Nat.zero_le _, rfl, HSM.out, g1⟩
      case round =>
        clear g0 g1 gl HSM hz hi hlt hj
        obtain ⟨j, hj, rfl, hs, g1⟩ := hrel
        have HSM := Lib.hid hs
        have gl := cellT_lt g1
        have hz := hs.size
        clear hs
        by_cases hlt : j < m
        · obtain ⟨b, o, rfl, hSb, hbl, hx⟩ := HF.out (by omega)
          obtain ⟨hfz, ⟨z, hrest⟩, An, nn, cn, hnv, hnm, hstr⟩ := hx j hlt
          have HST := Lib.hid hstr
          have HNV := Lib.hid hnv
          have HRS := Lib.hid hrest
          have HFZ := Lib.hid hfz
          have hi : (j : Int) < (m : Int) := by omega
          unfold maxLen at hnm
          clear hx hstr hnv hrest hfz
          go_wp2_with fail
          go_loopw [4] (fun i wy => ∃ k : Nat, k ≤ nn ∧ i = .int .i64 k ∧ SimT S w wy ∧ wy.cell? ⟨w.heap.size, 1, none⟩ = some (.slice (some ⟨b, o, none⟩) m c')) (fun i _ => nn - (intOf i).toNat)
          case atStart => exact ⟨0, Nat.zero_le _, rfl, HSM.out, g1⟩
          case round =>
            clear g1 gl HSM hz
            obtain ⟨k, hk, rfl, hs, g1⟩ := hrel
            have HSM := Lib.hid hs
            have gl := cellT_lt g1
            have hz := hs.size
            have hnv := hs.slice HNV.out
            have hbr : b < wr.heap.size := by omega
            clear hs
            by_cases hlk : k < nn
            · obtain ⟨b', o', rfl, hSb', hbl', hx⟩ := HST.out (by omega)
              obtain ⟨hfz, s, hcl⟩ := hx k hlk
              obtain ⟨s', hv'⟩ := HSM.out.str hcl
              have hfr := (HSM.out.frozen b' (o' + k) hbl').trans hfz
              have hbr' : b' < wr.heap.size := by omega
              have hik : (k : Int) < (nn : Int) := by omega
              have HC := Lib.hid hv'
              clear hx hfz hcl
              go_wp2_with fail
              go_roundw
              case rel =>
                have hne1 : (⟨b', o' + k, none⟩ : Addr) ≠ ⟨w.heap.size, 1, none⟩ := fun e => by injection e with e _; omega
                exact ⟨k + 1, by omega, by go_num, HSM.out.trans (SimT.set HC.out (.inr (.inl ⟨_, _, rfl, rfl⟩)) hSb'), (World.cell?_setCell_other _ _ _ _ hne1).trans g1⟩
              case measure => simp [intOf]; omega
            · have hik : ¬ (k : Int) < (nn : Int) := by omega
              obtain ⟨z', hv'⟩ := HSM.out.int HRS.out
              have hfr := (HSM.out.frozen b (o + j * 6 + 4) hbl).trans HFZ.out
              have HC := Lib.hid hv'
              go_wp2_with fail
              go_roundw
              case rel =>
                have hne1 : (⟨b, o + j * 6 + 4, none⟩ : Addr) ≠ ⟨w.heap.size, 1, none⟩ := fun e => by injection e with e _; omega
                exact ⟨j + 1, by omega, by go_num, HSM.out.trans (SimT.set HC.out (.inr (.inr ⟨_, _, _, rfl, rfl⟩)) hSb), (World.cell?_setCell_other _ _ _ _ hne1).trans g1⟩
              case measure => simp [intOf]; omega
        · have hi : ¬ (j : Int) < (m : Int) := by omega
          go_wp2_with fail
          go_end0
          exact ⟨rfl, HSM.out.turns⟩

/-- a thing to be done is written over: only the blocks that it reads from have changed. -/
theorem spoilT_own {B : Nat} {S : Nat → Prop} {w : World} {t : Td} {v : Value} (hS : ∀ b, S b → Nfz w b) (h : Tdv B S w t v) : Calls Try.prog 122 #[v] w fun e w' => e = .returned (.tuple #[]) ∧ Turns S w w' := by
  obtain ⟨rv, fv, rfl, hr, hf⟩ := h
  have hr0 := hr
  have hf0 := hf
  obtain ⟨A, c, e1, _⟩ := hr0
  obtain ⟨A', c', e2, _⟩ := hf0
  subst e1 e2
  obtain ⟨_, a1, a2, a3⟩ := hr.sk hS
  obtain ⟨_, b1, b2, b3⟩ := hf.sk hS
  exact spoil28_any a1 a2 b1 b2 a3 b3
end Go.Proofs.Ytocndkhgopjhhaa
