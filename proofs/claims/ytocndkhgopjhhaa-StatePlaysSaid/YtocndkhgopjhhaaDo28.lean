/- The program's queue and the document's, side by side. -/
import Derived.Test.YtocndkhgopjhhaaProg
import Derived.Test.YtocndkhgopjhhaaQF
import Derived.Test.YtocndkhgopjhhaaRQ
import Derived.Test.YtocndkhgopjhhaaSpoil28
import Derived.Test.YtocndkhgopjhhaaGiv28
import Derived.Outline
namespace Go.Proofs.Ytocndkhgopjhhaa
open Go.RowKit

/-- The two hold the same things; O: all that the two write; R: what the document's reads. -/
def Pr (O R : Nat → Prop) (w0 w : World) (q g : Nat) (most : Int) (L : List Td) : Prop :=
  ∃ F T M ts, QF F T M w0 w q most ts ∧ RQ 128 R w g most L ∧ List.Perm ts L ∧ InOrd L ∧ (L.length : Int) ≤ most ∧ (∀ b, O b ↔ (T b ∨ M b ∨ b = g)) ∧ ¬ T g ∧ ¬ M g ∧ w0.heap.size ≤ g ∧ ∀ b, R b → ¬ O b
section
variable {O R : Nat → Prop} {w0 w : World} {q g : Nat} {most : Int} {L : List Td}
theorem Pr.low (h : Pr O R w0 w q g most L) : ∀ b, O b → w0.heap.size ≤ b ∧ b < w.heap.size := by
  obtain ⟨F, T, M, ts, h1, h2, _, _, _, h5, _, _, h6, _⟩ := h
  intro b hb
  rcases (h5 b).1 hb with hb | hb | rfl
  · exact ⟨(h1.apart.1 b hb).2.1, (h1.apart.1 b hb).1⟩
  · exact ⟨(h1.apart.2 b hb).2, (h1.apart.2 b hb).1⟩
  · exact ⟨h6, h2.lt⟩
theorem Pr.lowR (h : Pr O R w0 w q g most L) : ∀ b, R b → b < w.heap.size ∧ ¬ O b := by
  obtain ⟨F, T, M, ts, h1, h2, _, _, _, h5, _, _, h6, h7⟩ := h
  exact fun b hb => ⟨(h2.low b hb).2, h7 b hb⟩
theorem Pr.turn (h : Pr O R w0 w q g most L) {w' : World} {G : Nat → Prop} (ht : Turns G w w') (hG : ∀ b, G b → ¬ O b ∧ ¬ R b) : Pr O R w0 w' q g most L := by
  obtain ⟨F, T, M, ts, h1, h2, h3, h4, h45, h5, h6⟩ := h
  refine ⟨F, T, M, ts, h1.turn ht fun b hb => ⟨fun k => (hG b hb).1 ((h5 b).2 (.inl k)), fun k => (hG b hb).1 ((h5 b).2 (.inr (.inl k)))⟩, h2.turn ht fun b hb => ⟨(hG b hb).2, fun k => (hG b hb).1 ((h5 b).2 (.inr (.inr k)))⟩, h3, h4, h45, h5, h6⟩
theorem Pr.ext (h : Pr O R w0 w q g most L) {w' : World} (hx : Ext w w') : Pr O R w0 w' q g most L := h.turn (G := fun _ => False) (Turns.ofExt hx) (fun _ h => h.elim)

/-- What a step leaves of a pair. -/
def Pr' (O R S : Nat → Prop) (w0 : World) (q g : Nat) (most : Int) (w w' : World) : Prop :=
  ∃ O' R' L', Pr O' R' w0 w' q g most L' ∧ (∀ b, O' b → O b ∨ w.heap.size ≤ b) ∧ (∀ b, R' b → R b ∨ S b ∨ w.heap.size ≤ b) ∧ Turns O w w'
theorem Pr'.of {S : Nat → Prop} {wa w' : World} (h : Pr' O R S w0 q g most wa w') (hx : Ext w wa) : Pr' O R S w0 q g most w w' := by
  obtain ⟨O', R', L', h1, h2, h3, h4⟩ := h
  have hz := hx.size
  exact ⟨O', R', L', h1, fun b hb => (h2 b hb).imp id fun h => by omega, fun b hb => (h3 b hb).imp id fun h => h.imp id fun h => by omega, Turns.trans (Turns.ofExt hx) h4 fun _ h _ => h⟩

/-- Both are pushed the same thing; what was handed to the program's is written over then. -/
theorem Pr.push {S : Nat → Prop} (hS : ∀ b, S b → b < w0.heap.size) {t : Td} {w1 w2 w3 w4 : World} (hx1 : Ext w w1)
    {F : List Int → Nat → Prop} {T M : Nat → Prop} {ts : List Td} (hq : QF F T M w0 w q most ts) (hr : RQ 128 R w g most L) (hp : List.Perm ts L) (ho : InOrd L) (hm : (L.length : Int) ≤ most) (hO : ∀ b, O b ↔ (T b ∨ M b ∨ b = g)) (hTg : ¬ T g) (hMg : ¬ M g) (hg0 : w0.heap.size ≤ g) (hRO : ∀ b, R b → ¬ O b)
    (h2 : QFPushed T M w0 q most (if pushC t most ts = 0 then t :: ts else ts) w1 w2) (h3 : RPushed 128 R S g most t L w2 w3) (h4 : Turns (fun b => (w.heap.size ≤ b ∧ Nfz w1 b) ∧ b < w1.heap.size) w3 w4) :
    Pr' O R S w0 q g most w w4 := by
  obtain ⟨F', T', M', hq', hT', hM', ht2⟩ := h2
  obtain ⟨R', hr', hR', ht3⟩ := h3
  have hz1 := hx1.size
  have hz2 := ht2.size
  have hz3 := ht3.size
  have hz4 := h4.size
  have hgl := hr.lt
  have hT := hq.apart.1
  have hM := hq.apart.2
  have hT2 := hq'.apart.1
  have hM2 := hq'.apart.2
  have hRl := hr.low
  have hTg' : ¬ T' g := fun h => by
    rcases hT' g h with h | h
    · exact hTg h
    · omega
  have hMg' : ¬ M' g := fun h => by
    rcases hM' g h with h | h
    · exact hMg h
    · omega
  have hcode := refC_eq (t := t) (most := most) ho hp
  have hq3 : QF F' T' M' w0 w3 q most (if pushC t most ts = 0 then t :: ts else ts) := hq'.turn ht3 fun b hb => by subst hb; exact ⟨hTg', hMg'⟩
  have hq4 : QF F' T' M' w0 w4 q most (if pushC t most ts = 0 then t :: ts else ts) := hq3.turn h4 fun b hb => ⟨fun k => by
    rcases hT' b k with k | k
    · have := (hT b k).1; omega
    · omega, fun k => by
    rcases hM' b k with k | k
    · have := (hM b k).1; omega
    · omega⟩
  have hr4 : RQ 128 R' w4 g most (if refC t most L = 0 then refL t L else L) := hr'.turn h4 fun b hb => ⟨fun k => by
    rcases hR' b k with k | k | k
    · have := (hRl b k).2; omega
    · have := hS b k; omega
    · omega, by omega⟩
  refine ⟨fun b => T' b ∨ M' b ∨ b = g, R', _, ⟨F', T', M', _, hq4, hr4, ?_, ?_, ?_, fun _ => Iff.rfl, hTg', hMg', hg0, fun b hb hk => ?_⟩, fun b hb => ?_, fun b hb => ?_, ?_⟩
  · rw [← hcode]
    split
    · exact (hp.cons t).trans (refL_perm (List.Perm.refl L))
    · exact hp
  · split
    · next hc => exact refL_ord ho hc
    · exact ho
  · split
    · next hc =>
      have : (refL t L).length = L.length + 1 := by
        have := (refL_perm (t := t) (List.Perm.refl L)).length_eq
        rw [← this, List.length_cons]
      have hlt : ¬ most ≤ (L.length : Int) := by
        intro hh
        unfold refC at hc
        split at hc
        · cases hc
        · split at hc
          · cases hc
          · (try rw [if_pos hh] at hc); omega
      omega
    · exact hm
  · rcases hk with hk | hk | hk
    · rcases hR' b hb with k | k | k
      · rcases hT' b hk with h' | h'
        · exact hRO b k ((hO b).2 (.inl h'))
        · have := (hRl b k).2; omega
      · have := hS b k
        have := (hT2 b hk).2.1; omega
      · have := (hT2 b hk).1; omega
    · rcases hR' b hb with k | k | k
      · rcases hM' b hk with h' | h'
        · exact hRO b k ((hO b).2 (.inr (.inl h')))
        · have := (hRl b k).2; omega
      · have := hS b k
        have := (hM2 b hk).2; omega
      · have := (hM2 b hk).1; omega
    · exact (hr4.low b hb).1 hk
  · rcases hb with hb | hb | hb
    · rcases hT' b hb with h' | h'
      · exact .inl ((hO b).2 (.inl h'))
      · exact .inr (by omega)
    · rcases hM' b hb with h' | h'
      · exact .inl ((hO b).2 (.inr (.inl h')))
      · exact .inr (by omega)
    · exact .inl ((hO b).2 (.inr (.inr hb)))
  · rcases hR' b hb with k | k | k
    · exact .inl k
    · exact .inr (.inl k)
    · exact .inr (.inr (by omega))
  · have t1 : Turns O w w1 := Turns.ofExt hx1
    have t2 : Turns O w w2 := Turns.trans t1 ht2 fun b hb _ => (hO b).2 (.inr (.inl hb))
    have t3 : Turns O w w3 := Turns.trans t2 ht3 fun b hb _ => (hO b).2 (.inr (.inr hb))
    exact Turns.trans t3 h4 fun b hb hl => by omega

/-- Both are asked for the first one; what the program's gives is written over then. -/
theorem Pr.pop {S : Nat → Prop} {w1 w2 w3 w4 : World} {r x : Td} {L : List Td}
    {F' : List Int → Nat → Prop} {T T' Q M : Nat → Prop} {ts rest : List Td} (hr : RQ 128 R w g most (x :: L)) (hp : List.Perm ts (x :: L)) (ho : InOrd (x :: L)) (hm : ((x :: L).length : Int) ≤ most) (hO : ∀ b, O b ↔ (T b ∨ M b ∨ b = g)) (hTg : ¬ T g) (hMg : ¬ M g) (hg0 : w0.heap.size ≤ g) (hRO : ∀ b, R b → ¬ O b)
    (hTM : ∀ b, T b → ¬ M b) (hpr : List.Perm (r :: rest) ts) (hmin : ∀ x ∈ ts, lessR x.row r.row = false) (hq1 : QF F' T' M w0 w1 q most rest) (ht1 : Turns M w w1) (hT' : ∀ b, T' b → T b ∧ ¬ Q b) (hQ : ∀ b, Q b → T b)
    (ht2 : Turns (fun b => b = g) w1 w2) (hr2 : RQ 128 R w2 g most L) (hx3 : Ext w2 w3) (h4 : Turns Q w3 w4) :
    Pr' O R S w0 q g most w w4 := by
  have hpf := pop_first ho hp hpr hmin
  have hTg' : ¬ T' g := fun h => hTg (hT' g h).1
  have hQM : ∀ b, Q b → ¬ M b := fun b hb hm => hTM b (hQ b hb) hm
  have hq2 : QF F' T' M w0 w2 q most rest := hq1.turn ht2 fun b hb => by subst hb; exact ⟨hTg', hMg⟩
  have hq4 : QF F' T' M w0 w4 q most rest := (hq2.ext hx3).turn h4 fun b hb => ⟨fun k => (hT' b k).2 hb, hQM b hb⟩
  have hr4 : RQ 128 R w4 g most L := (hr2.ext hx3).turn h4 fun b hb => ⟨fun k => hRO b k ((hO b).2 (.inl (hQ b hb))), fun e => hTg (by subst e; exact hQ _ hb)⟩
  refine ⟨fun b => T' b ∨ M b ∨ b = g, R, L, ⟨F', T', M, rest, hq4, hr4, hpf.2, (List.pairwise_cons.1 ho).2, ?_, fun _ => Iff.rfl, hTg', hMg, hg0, fun b hb hk => ?_⟩, fun b hb => .inl ?_, fun b hb => .inl hb, ?_⟩
  · simp at hm; omega
  · refine hRO b hb ((hO b).2 ?_)
    rcases hk with hk | hk | hk
    · exact .inl (hT' b hk).1
    · exact .inr (.inl hk)
    · exact .inr (.inr hk)
  · refine (hO b).2 ?_
    rcases hb with hk | hk | hk
    · exact .inl (hT' b hk).1
    · exact .inr (.inl hk)
    · exact .inr (.inr hk)
  · have t1 : Turns O w w1 := ht1.mono fun b hb => (hO b).2 (.inr (.inl hb))
    have t2 : Turns O w w2 := Turns.trans t1 ht2 fun b hb _ => (hO b).2 (.inr (.inr hb))
    have t3 : Turns O w w3 := Turns.trans t2 (Turns.ofExt hx3) fun _ h _ => h
    exact Turns.trans t3 h4 fun b hb _ => (hO b).2 (.inl (hQ b hb))
end
end Go.Proofs.Ytocndkhgopjhhaa
/- (Op).do: a step, by the program's queue and by the document's. -/
namespace Go.Proofs.Ytocndkhgopjhhaa
open Go.RowKit

theorem RQ.inc {B : Nat} {R R' : Nat → Prop} {w : World} {g : Nat} {most : Int} {L : List Td} (h : RQ B R w g most L) (hs : ∀ b, R b → R' b) (hl : ∀ b, R' b → b ≠ g ∧ b < w.heap.size) : RQ B R' w g most L := by
  obtain ⟨A, c, hb, h1, h2, h3, h4⟩ := h
  refine ⟨A, c, hb, h1, h2, fun hp => ?_, hl⟩
  obtain ⟨b, o, e, hr, hc⟩ := h3 hp
  refine ⟨b, o, e, hs b hr, fun i t hi => ?_⟩
  obtain ⟨rv, fv, c0, c1, hd⟩ := hc i t hi
  exact ⟨rv, fv, c0, c1, hd.keep (Nat.le_refl _) (fun _ _ _ => rfl) fun b hb _ => hs b hb⟩
section
variable {O R S : Nat → Prop} {w0 w : World} {q g : Nat} {most : Int} {L : List Td}

theorem do28_z {M : Nat → Prop} {w1 w2 : World} {T : Nat → Prop} {ts' : List Td} (h2 : QFPushed T M w0 q most ts' w1 w2) : (∀ b, b < w1.heap.size → ¬ M b → w2.heap[b]? = w1.heap[b]?) ∧ w1.heap.size ≤ w2.heap.size := by
  obtain ⟨_, _, _, _, _, _, ht⟩ := h2
  exact ⟨fun b hl hn => ht.block b hl hn, ht.size⟩
theorem do28_r {M : Nat → Prop} {w1 w2 : World} {T : Nat → Prop} {ts' : List Td} (hr : RQ 128 R w g most L) (hO : ∀ b, O b ↔ (T b ∨ M b ∨ b = g)) (hMg : ¬ M g) (hRO : ∀ b, R b → ¬ O b) (hx : Ext w w1) (h2 : QFPushed T M w0 q most ts' w1 w2) : RQ 128 R w2 g most L := by
  obtain ⟨_, _, _, _, _, _, ht⟩ := h2
  exact (hr.ext hx).turn ht fun b hb => ⟨fun h => hRO b h ((hO b).2 (.inr (.inl hb))), fun e => hMg (e ▸ hb)⟩
theorem do28_t {M : Nat → Prop} {w1 w2 : World} {T : Nat → Prop} {F : List Int → Nat → Prop} {ts ts' : List Td} {t : Td} {v : Value} (hq : QF F T M w0 w q most ts) (hS : ∀ b, S b → b < w0.heap.size) (ht : Tdv 128 S w t v) (hx : Ext w w1) (h2 : QFPushed T M w0 q most ts' w1 w2) : Tdv 128 S w2 t v := by
  obtain ⟨k, hz⟩ := do28_z h2
  have hz1 := hx.size
  refine (ht.ext hx).keep hz (fun b hb hl => k b hl fun hm => ?_) fun _ h _ => h
  have := (hq.apart.2 b hm).2
  have := hS b hb
  omega
theorem do28_s {M : Nat → Prop} {w1 w2 : World} {T : Nat → Prop} {ts' : List Td} (hS : ∀ b, S b → b < w0.heap.size) (h0 : w0.heap.size ≤ w.heap.size) (hg0 : w0.heap.size ≤ g) (hx : Ext w w1) (h2 : QFPushed T M w0 q most ts' w1 w2) : ∀ b, S b → b ≠ g ∧ b < w2.heap.size := fun b hb => by
  have := hS b hb
  have := hx.size
  have := (do28_z h2).2
  exact ⟨by omega, by omega⟩
theorem do28_r2 {M : Nat → Prop} {w1 : World} {T : Nat → Prop} (hr : RQ 128 R w g most L) (hO : ∀ b, O b ↔ (T b ∨ M b ∨ b = g)) (hMg : ¬ M g) (hRO : ∀ b, R b → ¬ O b) (ht : Turns M w w1) : RQ 128 R w1 g most L :=
  hr.turn ht fun b hb => ⟨fun h => hRO b h ((hO b).2 (.inr (.inl hb))), fun e => hMg (e ▸ hb)⟩
theorem do28_q {Q T : Nat → Prop} {w1 w2 : World} {r : Td} {v : Value} (htd : Tdv 128 Q w1 r v) (ht : Turns (fun b => b = g) w1 w2) (hQ : ∀ b, Q b → T b ∧ Nfz w1 b) (hTg : ¬ T g) : Tdv 128 Q w2 r v :=
  htd.keep ht.size (fun b hb hl => ht.block b hl fun e => hTg (e ▸ (hQ b hb).1)) fun _ h _ => h
theorem do28_qa {Q T : Nat → Prop} {w1 : World} {X : Obj} (hQ : ∀ b, Q b → T b ∧ Nfz w1 b) (hl : ∀ b, T b → b < w1.heap.size) : ∀ b, Q b → T b ∧ Nfz (w1.alloc X) b := fun b hb => ⟨(hQ b hb).1, (hQ b hb).2.same (Below.heap_alloc _ _ _ (hl b (hQ b hb).1))⟩
theorem do28_ta {w1 w2 : World} {X : Obj} (h : Turns (fun b => b = g) (w1.alloc X) w2) : Turns (fun b => b = g) w1 w2 := Turns.trans (Turns.ofExt (Ext.alloc' w1 X)) h fun _ h _ => h
theorem do28_l {M T : Nat → Prop} {w1 : World} {F : List Int → Nat → Prop} {ts : List Td} (hq : QF F T M w0 w q most ts) (ht : Turns M w w1) : ∀ b, T b → b < w1.heap.size := fun b hb => Nat.lt_of_lt_of_le (hq.apart.1 b hb).1 ht.size
theorem do28_f {Q T : Nat → Prop} {w1 w2 w3 : World} (hl : ∀ b, T b → b < w1.heap.size) (hQ : ∀ b, Q b → T b ∧ Nfz w1 b) (ht : Turns (fun b => b = g) w1 w2) (hx : Ext w2 w3) (hTg : ¬ T g) : ∀ b, Q b → Nfz w3 b := fun b hb => by
  have h1 := (hQ b hb).2.same (ht.block b (hl b (hQ b hb).1) fun e => hTg (e ▸ (hQ b hb).1))
  exact h1.same (hx.block b (Nat.lt_of_lt_of_le (hl b (hQ b hb).1) ht.size))
theorem do28_k {M : Nat → Prop} {w1 w2 w3 : World} {T : Nat → Prop} {F : List Int → Nat → Prop} {ts ts' : List Td} {t : Td} (hq : QF F T M w0 w q most ts) (hr : RQ 128 R w g most L) (h2 : QFPushed T M w0 q most ts' w1 w2) (h3 : RPushed 128 R S g most t L w2 w3) : (∀ b, w.heap.size ≤ b → b < w1.heap.size → w3.heap[b]? = w1.heap[b]?) ∧ w1.heap.size ≤ w3.heap.size := by
  obtain ⟨k, hz⟩ := do28_z h2
  obtain ⟨_, _, _, ht3⟩ := h3
  have := ht3.size
  refine ⟨fun b h1 h2 => ?_, by omega⟩
  rw [ht3.block b (by omega) (by have := hr.lt; omega), k b h2 fun hm => by have := (hq.apart.2 b hm).1; omega]
theorem do28_n {M : Nat → Prop} {w1 w2 w3 : World} {T : Nat → Prop} {F : List Int → Nat → Prop} {ts ts' : List Td} {t : Td} (hq : QF F T M w0 w q most ts) (hr : RQ 128 R w g most L) (h2 : QFPushed T M w0 q most ts' w1 w2) (h3 : RPushed 128 R S g most t L w2 w3) : ∀ b, ((w.heap.size ≤ b ∧ Nfz w1 b) ∧ b < w1.heap.size) → Nfz w3 b := fun b hb =>
  hb.1.2.same ((do28_k hq hr h2 h3).1 b hb.1.1 hb.2)
theorem do28_i {M : Nat → Prop} {w1 w2 w3 : World} {T : Nat → Prop} {F : List Int → Nat → Prop} {ts ts' : List Td} {t : Td} {v : Value} (hq : QF F T M w0 w q most ts) (hr : RQ 128 R w g most L) (h2 : QFPushed T M w0 q most ts' w1 w2) (h3 : RPushed 128 R S g most t L w2 w3) (ht : Tdv 128 (fun b => w.heap.size ≤ b ∧ Nfz w1 b) w1 t v) : Tdv 128 (fun b => (w.heap.size ≤ b ∧ Nfz w1 b) ∧ b < w1.heap.size) w3 t v :=
  ht.keep (do28_k hq hr h2 h3).2 (fun b hb hl => (do28_k hq hr h2 h3).1 b hb.1 hl) fun _ hb hl => ⟨hb, hl⟩

theorem Blk.cells3 {w : World} {g : Nat} {t : TypeId} {a b c : Value} (h : Blk w g t #[a, b, c]) : w.cell? ⟨g, 0, none⟩ = some a ∧ w.cell? ⟨g, 1, none⟩ = some b ∧ w.cell? ⟨g, 2, none⟩ = some c ∧ g < w.heap.size := ⟨h.cell 0, h.cell 1, h.cell 2, h.lt⟩
theorem do28_b2 {M : Nat → Prop} {w1 w2 : World} {T : Nat → Prop} {F : List Int → Nat → Prop} {ts ts' : List Td} (hq : QF F T M w0 w q most ts) (h2 : QFPushed T M w0 q most ts' w1 w2) {x : Nat} {ty : TypeId} {cs : Array Value} (hx : w.heap.size ≤ x) (hb : Blk w1 x ty cs) : Blk w2 x ty cs :=
  ((do28_z h2).1 x hb.lt fun hm => by have := (hq.apart.2 x hm).1; omega).trans hb
theorem do28_b3 {M : Nat → Prop} {w1 w2 w3 : World} {T : Nat → Prop} {F : List Int → Nat → Prop} {ts ts' : List Td} {t : Td} (hq : QF F T M w0 w q most ts) (hr : RQ 128 R w g most L) (h2 : QFPushed T M w0 q most ts' w1 w2) (h3 : RPushed 128 R S g most t L w2 w3) {x : Nat} {ty : TypeId} {cs : Array Value} (hxl : w.heap.size ≤ x) (hb : Blk w1 x ty cs) : Blk w3 x ty cs :=
  ((do28_k hq hr h2 h3).1 x hxl hb.lt).trans hb
theorem turn_blk {w w' : World} {g x : Nat} {ty : TypeId} {cs : Array Value} (ht : Turns (fun b => b = g) w w') (hx : x ≠ g) (hb : Blk w x ty cs) : Blk w' x ty cs := (ht.block x hb.lt hx).trans hb

set_option maxRecDepth 100000 in
set_option maxHeartbeats 4000000 in
theorem do28_push (h : Pr O R w0 w q g most L) (hm : most ≤ 256) (h0 : w0.heap.size ≤ w.heap.size) (hS : ∀ b, S b → b < w0.heap.size) {t : Td} {rv fv : Value} (ht : Tdv 128 S w t (.agg #[rv, fv])) :
    Calls Try.prog 76 #[.agg #[.int .u8 0, rv, fv], .pointer (some ⟨q, 0, none⟩), .pointer (some ⟨g, 0, none⟩)] w fun e w' => e = .returned (.bool true) ∧ Pr' O R S w0 q g most w w' := by
  obtain ⟨F, T, M, ts, hq, hr, hp, ho, hml, hO, hTg, hMg, hg0, hRO⟩ := h
  have HQ := Lib.hid hq
  have HR := Lib.hid hr
  have HPm := Lib.hid hp
  have HO := Lib.hid ho
  have HOO := Lib.hid hO
  have HTG := Lib.hid hTg
  have HMG := Lib.hid hMg
  have HRO := Lib.hid hRO
  have HS := Lib.hid hS
  have HT := Lib.hid ht
  have hn : ts.length ≤ 1000 := by have := hp.length_eq; omega
  have hL : L.length ≤ 1000 := by omega
  obtain ⟨z, hz0⟩ : ∃ z, pushC t most ts = z := ⟨_, rfl⟩
  have HZ := Lib.hid hz0
  have HZ2 : Hid (refC t most L = z) := Lib.hid ((refC_eq ho hp).trans hz0)
  obtain ⟨A0, c0, A1, c1, e⟩ := ht.form
  injection e with e
  simp only [Array.mk.injEq, List.cons.injEq, and_true] at e
  obtain ⟨rfl, rfl⟩ := e
  obtain ⟨Wb, hWb⟩ : ∃ Wb, Wb = w.alloc (.cells #[.int .u8 0, .slice A0 t.row.length c0, .slice A1 t.facts.length c1] 40) := ⟨_, rfl⟩
  have hXb : Ext w Wb := by rw [hWb]; exact Ext.alloc' _ _
  have hBb : Blk Wb w.heap.size 40 #[.int .u8 0, .slice A0 t.row.length c0, .slice A1 t.facts.length c1] := by rw [hWb]; exact Blk.new _ _ _
  have HXB := Lib.hid hXb
  have HBB := Lib.hid hBb
  obtain ⟨o0, o1, o2, ol⟩ := hBb.cells3
  clear hq hr hp ho hO hTg hMg hRO hS ht hz0 hXb hBb
  go_enter Try.func76, Try.ntmps76
  go_upto_region 1 with fail
  rw [← hWb]
  clear hWb
  go_upto_region 3 with (go_at_call 30; refine (giv28_any (B := 128) (by omega) (HT.out.ext HXB.out)).mono ?_; rintro e w1 ⟨A3, c3, A3', c3', rfl, hx1, ht1⟩; have HX1 := Lib.hid hx1; have HT1 := Lib.hid ht1; clear hx1 ht1)
  obtain ⟨W1, hW⟩ : ∃ W1, W1 = w1.alloc (.cells #[.slice A3 t.row.length c3, .slice A3' t.facts.length c3'] 48) := ⟨_, rfl⟩
  have hx1 : Ext w W1.drew := by rw [hW]; exact Below.drew ((HXB.out.trans' HX1.out).trans' (Ext.alloc' _ _))
  have hbb : Blk W1 w.heap.size 40 #[.int .u8 0, .slice A0 t.row.length c0, .slice A1 t.facts.length c1] := by rw [hW]; exact (HBB.out.ext HX1.out).alloc _
  have hbi : Blk W1 w1.heap.size 48 #[.slice A3 t.row.length c3, .slice A3' t.facts.length c3'] := by rw [hW]; exact Blk.new _ _ _
  have hti : Tdv 128 (fun b => w.heap.size ≤ b ∧ Nfz W1.drew b) W1.drew t (.agg #[.slice A3 t.row.length c3, .slice A3' t.facts.length c3']) := by
    rw [hW]
    have hzb := HXB.out.size
    exact HT1.out.keep (by simp [World.drew]) (fun b _ hl => Below.heap_alloc _ _ _ hl) fun b hb hl => ⟨by omega, hb.2.same (Below.heap_alloc _ _ _ hl)⟩
  have hzi : w.heap.size ≤ w1.heap.size := by have := HXB.out.size; have := HX1.out.size; omega
  have HX := Lib.hid hx1
  have HBX := Lib.hid (show Blk W1.drew _ _ _ from hbb)
  have HBI := Lib.hid (show Blk W1.drew _ _ _ from hbi)
  have HTI := Lib.hid hti
  rw [← hW]
  clear hW hx1 hti o0 o1 o2 ol
  obtain ⟨o0, o1, o2, ol⟩ := hbb.cells3
  obtain ⟨i0, i1, il⟩ := hbi.cells2
  clear hbb hbi
  go_region_with (first
    | (go_at_call 29; refine ((HQ.out.ext HX.out).push hn (Nat.le_trans h0 HX.out.size) HTI.out).mono ?_; rintro e w2 ⟨rfl, hp2⟩; obtain ⟨o0, o1, o2, ol⟩ := (do28_b2 HQ.out hp2 (Nat.le_refl _) HBX.out).cells3; have HP2 := Lib.hid hp2; rw [HZ.out]; clear hp2)
    | (go_at_call 121; refine (rpush_any (B := 128) (S := S) (by omega) hL (do28_r HR.out HOO.out HMG.out HRO.out HX.out HP2.out) (do28_s HS.out h0 hg0 HX.out HP2.out) (do28_t HQ.out HS.out HT.out HX.out HP2.out)).mono ?_; rintro e w3 ⟨rfl, hp3⟩; obtain ⟨i0, i1, il⟩ := (do28_b3 HQ.out HR.out HP2.out hp3 hzi HBI.out).cells2; have HP3 := Lib.hid hp3; rw [HZ2.out]; clear hp3))
  all_goals
    go_wp2_with (go_at_call 122; refine (spoilT_own (do28_n HQ.out HR.out HP2.out HP3.out) (do28_i HQ.out HR.out HP2.out HP3.out HTI.out)).mono ?_; rintro e w4 ⟨rfl, ht4⟩; have HT4 := Lib.hid ht4; clear ht4)
    go_ret
    exact ⟨rfl, Pr.push HS.out HX.out HQ.out HR.out HPm.out HO.out hml HOO.out HTG.out HMG.out hg0 HRO.out HP2.out HP3.out HT4.out⟩

set_option maxRecDepth 100000 in
set_option maxHeartbeats 4000000 in
theorem do28_nil (h : Pr O R w0 w q g most []) {k : Int} (hk : k ≠ 0) {rv fv : Value} {t : Td} (ht : Tdv 128 S w t (.agg #[rv, fv])) :
    Calls Try.prog 76 #[.agg #[.int .u8 k, rv, fv], .pointer (some ⟨q, 0, none⟩), .pointer (some ⟨g, 0, none⟩)] w fun e w' => e = .returned (.bool true) ∧ Pr' O R S w0 q g most w w' := by
  have HH := Lib.hid h
  obtain ⟨F, T, M, ts, hq, hr, hp, _⟩ := h
  have : ts = [] := by simpa using hp.length_eq
  subst this
  have HQ := Lib.hid hq
  have HR := Lib.hid hr
  obtain ⟨A0, c0, A1, c1, e⟩ := ht.form
  injection e with e
  simp only [Array.mk.injEq, List.cons.injEq, and_true] at e
  obtain ⟨rfl, rfl⟩ := e
  have hk' : (k == 0) = false := by rw [beq_eq_false_iff_ne]; exact hk
  have HXB := Lib.hid (Ext.alloc' w (.cells #[.int .u8 k, .slice A0 t.row.length c0, .slice A1 t.facts.length c1] 40))
  clear hq hr hp ht
  go_enter Try.func76, Try.ntmps76
  go_wp2_with (first
    | (go_at_call 31; refine (HQ.out.ext HXB.out).popNil.mono ?_; rintro e w1 ⟨rfl, hx1⟩; have HX1 := Lib.hid (HXB.out.trans' hx1); clear hx1)
    | (go_at_call 123; refine (rpop_nil (HR.out.ext (HX1.out.trans' (Ext.alloc' w1 _)))).mono ?_; rintro e w2 ⟨rfl, hx2⟩; have HX2 := Lib.hid ((HX1.out.trans' (Ext.alloc' w1 _)).trans' hx2); have HBA := Lib.hid ((Blk.new w1 48 #[.slice none 0 0, .slice none 0 0]).ext hx2); obtain ⟨a0, a1, al⟩ := HBA.out.cells2; clear hx2)
    | (go_at_call 32; refine (same28_any (B1 := 0) (B2 := 0) (S1 := fun _ => False) (S2 := fun _ => False) (a := ⟨[], []⟩) (b := ⟨[], []⟩) ⟨_, _, rfl, Ints.nil, Facts.nil⟩ ⟨_, _, rfl, Ints.nil, Facts.nil⟩).mono ?_; rintro e w3 ⟨rfl, hx3⟩; rw [decide_eq_true rfl]; have HX3 := Lib.hid ((HX2.out.trans' (Ext.alloc' w2 _)).trans' hx3); obtain ⟨a0, a1, al⟩ := ((HBA.out.alloc _).ext hx3).cells2; clear hx3)
    | (go_at_call 122; refine (spoilT_own (B := 0) (S := fun _ => False) (t := ⟨[], []⟩) (fun _ h => h.elim) ⟨_, _, rfl, Ints.nil, Facts.nil⟩).mono ?_; rintro e w4 ⟨rfl, ht4⟩; have HT4 := Lib.hid ht4; clear ht4))
  go_ret
  exact ⟨rfl, O, R, [], HH.out.turn (Turns.trans (F := fun _ => False) (Turns.ofExt HX3.out) HT4.out fun _ h _ => h) (fun _ h => h.elim), fun _ h => .inl h, fun _ h => .inl h, Turns.trans (Turns.ofExt HX3.out) HT4.out fun _ h _ => h.elim⟩

set_option maxRecDepth 100000 in
set_option maxHeartbeats 4000000 in
theorem do28_pop {x : Td} (h : Pr O R w0 w q g most (x :: L)) (hm : most ≤ 256) {k : Int} (hk : k ≠ 0) {rv fv : Value} {t : Td} (ht : Tdv 128 S w t (.agg #[rv, fv])) :
    Calls Try.prog 76 #[.agg #[.int .u8 k, rv, fv], .pointer (some ⟨q, 0, none⟩), .pointer (some ⟨g, 0, none⟩)] w fun e w' => e = .returned (.bool true) ∧ Pr' O R S w0 q g most w w' := by
  obtain ⟨A0, c0, A1, c1, e⟩ := ht.form
  injection e with e
  simp only [Array.mk.injEq, List.cons.injEq, and_true] at e
  obtain ⟨rfl, rfl⟩ := e
  obtain ⟨Wb, hWb⟩ : ∃ Wb, Wb = w.alloc (.cells #[.int .u8 k, .slice A0 t.row.length c0, .slice A1 t.facts.length c1] 40) := ⟨_, rfl⟩
  have hXb : Ext w Wb := by rw [hWb]; exact Ext.alloc' _ _
  have hBb : Blk Wb w.heap.size 40 #[.int .u8 k, .slice A0 t.row.length c0, .slice A1 t.facts.length c1] := by rw [hWb]; exact Blk.new _ _ _
  obtain ⟨o0, o1, o2, ol⟩ := hBb.cells3
  have HXB := Lib.hid hXb
  obtain ⟨F, T, M, ts, hq, hr, hp, ho, hml, hO, hTg, hMg, hg0, hRO⟩ := h.ext hXb
  have HQ := Lib.hid hq
  have HR := Lib.hid hr
  have HPm := Lib.hid hp
  have HO := Lib.hid ho
  have HOO := Lib.hid hO
  have HTG := Lib.hid hTg
  have HMG := Lib.hid hMg
  have HRO := Lib.hid hRO
  have hl := hp.length_eq
  have hml0 := hml
  simp only [List.length_cons] at hl hml
  have hn : ts.length ≤ 1000 := by omega
  have hn0 : 0 < ts.length := by omega
  have hk' : (k == 0) = false := by rw [beq_eq_false_iff_ne]; exact hk
  have hgW := hr.lt
  clear hq hr hp ho hO hTg hMg hRO ht hXb hBb
  go_enter Try.func76, Try.ntmps76
  go_upto_region 1 with fail
  rw [← hWb]
  clear hWb
  go_wp2_with (first
    | (go_at_call 31; refine (HQ.out.pop hn hn0).mono ?_; rintro e w1 ⟨A, c, A', c', r, rest, F', T', Q, rfl, hpr, hmin, hq1, ht1, htd, hT', hQ⟩; obtain rfl := (pop_first HO.out HPm.out hpr hmin).1; have HPR := Lib.hid hpr; have HMN := Lib.hid hmin; have HQ1 := Lib.hid hq1; have HT1 := Lib.hid ht1; have HTD := Lib.hid htd; have HT' := Lib.hid hT'; have HQQ := Lib.hid hQ; have hz1 := ht1.size; clear hpr hmin hq1 ht1 htd hT' hQ)
    | (go_at_call 123; refine (rpop_any ((do28_r2 HR.out HOO.out HMG.out HRO.out HT1.out).ext (Ext.alloc' w1 _))).mono ?_; rintro e w2 ⟨Ax, cx, Ay, cy, rfl, ht2, hr2, htd2⟩; have HBA := Lib.hid (turn_blk ht2 (by omega) (Blk.new w1 48 #[.slice A r.row.length c, .slice A' r.facts.length c'])); have HTDa := Lib.hid (do28_q (HTD.out.ext (Ext.alloc' w1 (.cells #[.slice A r.row.length c, .slice A' r.facts.length c'] 48))) ht2 (do28_qa HQQ.out (do28_l HQ.out HT1.out)) HTG.out); have HT2 := Lib.hid (do28_ta ht2); have HR2 := Lib.hid hr2; have HTD2 := Lib.hid htd2; clear ht2 hr2 htd2; obtain ⟨a0, a1, al⟩ := HBA.out.cells2)
    | (go_at_call 32; refine (same28_any (HTDa.out.ext (Ext.alloc' w2 _)) (HTD2.out.ext (Ext.alloc' w2 _))).mono ?_; rintro e w3 ⟨rfl, hx3⟩; rw [decide_eq_true rfl]; have HX3 := Lib.hid ((Ext.alloc' w2 _).trans' hx3); obtain ⟨a0, a1, al⟩ := ((HBA.out.alloc _).ext hx3).cells2; clear hx3)
    | (go_at_call 122; refine (spoilT_own (do28_f (do28_l HQ.out HT1.out) HQQ.out HT2.out HX3.out HTG.out) (HTDa.out.ext HX3.out)).mono ?_; rintro e w4 ⟨rfl, ht4⟩; have HT4 := Lib.hid ht4; clear ht4))
  go_ret
  exact ⟨rfl, (Pr.pop HR.out HPm.out HO.out hml0 HOO.out HTG.out HMG.out hg0 HRO.out (fun b hb => (HQ.out.apart.1 b hb).2.2) HPR.out HMN.out HQ1.out HT1.out HT'.out (fun b hb => (HQQ.out b hb).1) HT2.out HR2.out HX3.out HT4.out).of HXB.out⟩
theorem do28_any (h : Pr O R w0 w q g most L) (hm : most ≤ 256) (h0 : w0.heap.size ≤ w.heap.size) (hS : ∀ b, S b → b < w0.heap.size) {k : Int} {t : Td} {rv fv : Value} (ht : Tdv 128 S w t (.agg #[rv, fv])) :
    Calls Try.prog 76 #[.agg #[.int .u8 k, rv, fv], .pointer (some ⟨q, 0, none⟩), .pointer (some ⟨g, 0, none⟩)] w fun e w' => e = .returned (.bool true) ∧ Pr' O R S w0 q g most w w' := by
  by_cases hk : k = 0
  · subst hk; exact do28_push h hm h0 hS ht
  · cases L with
    | nil => exact do28_nil h hk ht
    | cons x L => exact do28_pop h hm hk ht
end
end Go.Proofs.Ytocndkhgopjhhaa
