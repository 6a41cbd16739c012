/- What a slice that came in reads as, whatever its elements. -/
import Derived.Test.YtocndkhgopjhhaaProg
import Derived.Test.YtocndkhgopjhhaaOpen
import Derived.Test.YtocndkhgopjhhaaFlat
import Derived.Test.YtocndkhgopjhhaaTreeB
import Derived.Test.YtocndkhgopjhhaaWell7
namespace Go.Proofs.Ytocndkhgopjhhaa
open Go.ChangeShapes Go.WideShapes Go.ChangeAt Go.RowKit

section
variable {H : Type} {enc : TypeId × Value → H} {w : World}

theorem slice_open {t e : TypeId} {size bytes n : Nat} {cs : List Value} {x : DataW H × List MemPlace} (ht : Try.prog.underlying t = some (.slice e)) (hcs : Try.prog.cellsOf e = size) (hby : Try.prog.bytesOf e = bytes) (hsz : 0 < size)
    (h : DataW.trod enc Try.prog w 0 (fun _ => true) true n t cs = some x) (hw : ∀ m ∈ x.1.weights Try.prog t, m ≤ reachBytes) {α : Type} (Q : α → List Value → Prop)
    (hQ : ∀ n cs x, DataW.trod enc Try.prog w 0 (fun _ => true) true n e cs = some x → (∀ m ∈ x.1.weights Try.prog e, m ≤ reachBytes) → ∃ a, Q a cs) :
    ∃ (l : List α) (A : Option Addr) (c : Nat), cs = [.slice A l.length c] ∧ l.length ≤ c ∧ c ≤ maxLen ∧ l.length * bytes ≤ reachBytes ∧
      (0 < l.length → ∃ b o, A = some ⟨b, o, none⟩ ∧ b < w.heap.size ∧ ∀ i a, l[i]? = some a → ∃ cs, cs.length = size ∧ Q a cs ∧ ∀ k, k < size → w.cell? ⟨b, o + i * size + k, none⟩ = cs[k]?) := by
  rcases DataW.trod_slice ht h with ⟨rfl, _⟩ | ⟨a, len, cap, el, rest, n, rfl, rfl, rfl, _, hlc, hcm, hel, hce, hre, _⟩
  · exact ⟨[], none, 0, rfl, Nat.le_refl _, by simp [maxLen], by simp [reachBytes], by simp⟩
  · obtain ⟨hrl, _⟩ := hre rfl
    have hws : ∀ m, m ∈ (DataW.slice (el.map (·.1)) (rest.map (·.1))).weights Try.prog t → m ≤ reachBytes := hw
    have hb : len * bytes ≤ reachBytes := by
      have := hws ((el.length + rest.length) * Try.prog.bytesOf e) (by simp [DataW.weights, ht])
      rw [hby] at this
      exact Nat.le_trans (Nat.mul_le_mul_right _ (by omega)) this
    rcases Nat.eq_zero_or_pos len with rfl | hpos
    · exact ⟨[], some a, cap, rfl, Nat.zero_le _, hcm, by simp [reachBytes], by simp⟩
    have hkid : ∀ i, i < len → ∃ t, ∃ cs', w.cells? 0 (a.add (i * size)) size = some cs' ∧ Q t cs' := by
      intro i hi
      have h1 := hce i hi
      rw [hcs, List.getElem?_eq_getElem (by omega : i < el.length), Option.bind_eq_some_iff] at h1
      obtain ⟨cs', h1, h2⟩ := h1
      obtain ⟨t, ht'⟩ := hQ n cs' _ h2 (fun k hk => hws k (by
        simp only [DataW.weights, ht]
        refine List.mem_cons_of_mem _ (List.mem_append_left _ (weightsAll_mem (i := i) ?_ k hk))
        rw [List.getElem?_map, List.getElem?_eq_getElem (by omega : i < el.length)]; rfl))
      exact ⟨t, cs', h1, ht'⟩
    have hsp : a.spot = none := by
      obtain ⟨t, cs', h0, _⟩ := hkid 0 hpos
      have h1 := World.cells?_some h0
      have hl := h1.2.1
      have h2 := h1.2.2 0 hsz
      obtain ⟨v, hv⟩ : ∃ v, cs'[0]? = some v := ⟨_, List.getElem?_eq_getElem (by omega)⟩
      rw [hv] at h2
      have := World.cell?_spot h2
      simpa [Addr.add] using this
    obtain ⟨ks, hks, hq⟩ := list_of (Q := fun i (t : α) => ∃ cs', w.cells? 0 (a.add (i * size)) size = some cs' ∧ Q t cs') len hkid
    subst hks
    have hbl : a.block < w.heap.size := by
      obtain ⟨cs', h0, _⟩ := hq 0 _ (List.getElem?_eq_getElem hpos)
      have h1 := World.cells?_block h0 hsz
      simpa [Addr.add] using h1
    refine ⟨ks, some a, cap, rfl, hlc, hcm, hb, fun _ => ⟨a.block, a.off, ?_, hbl, fun i t ht' => ?_⟩⟩
    · obtain ⟨b, o, s⟩ := a
      simp only at hsp
      subst hsp; rfl
    · obtain ⟨cs', h0, hr⟩ := hq i t ht'
      obtain ⟨hl, hc⟩ := cells_at hsp h0
      exact ⟨cs', hl, hr, hc⟩
end
end Go.Proofs.Ytocndkhgopjhhaa
/- touchstonelaw07.Step in memory, alone and in slices; large; what such a datum that came in reads as; a node in narrower bounds. -/
namespace Go.Proofs.Ytocndkhgopjhhaa
open Go.ChangeShapes Go.WideShapes Go.ChangeAt Go.RowKit

theorem Rep.narrow {B K : Nat} (hK : K ≤ B) {S : Nat → Prop} {w : World} : ∀ {d : Nat} {t : N} {v : Value}, Rep B S w d t v → t.well = true → t.wide K → Rep K S w d t v
  | 0, _, _, h, _, _ => h.elim
  | d + 1, .mk k tx ns ks, v, h, hw, hd => by
    rw [N.wide, wideL_iff] at hd
    obtain ⟨nv, A, c, e, htx, hn, h1, h2, hb, h3⟩ := h
    have hlen : ns.length ≤ 4 * K ∧ ∀ t ∈ ks, t.well = true := by
      by_cases e : k = 2
      · subst e
        obtain ⟨_, _, hl, _, hk, _⟩ := N.well_dir hw
        exact ⟨by omega, hk⟩
      · obtain ⟨rfl, rfl⟩ := N.well_leaf hw e
        exact ⟨by simp, by simp⟩
    obtain ⟨An, cn, en, g1, g2, g3, g4, g5⟩ := hn
    refine ⟨nv, A, c, e, htx, ⟨An, cn, en, g1, g2, hlen.1, g4, g5⟩, h1, h2, hd.1, fun hp => ?_⟩
    obtain ⟨b, o, e2, hS, hl, hx⟩ := h3 hp
    refine ⟨b, o, e2, hS, hl, fun i t hi => ?_⟩
    obtain ⟨v0, v1, v2, v3, c0, c1, c2, c3, hr⟩ := hx i t hi
    have hm := List.mem_of_getElem? hi
    exact ⟨v0, v1, v2, v3, c0, c1, c2, c3, Rep.narrow hK hr (hlen.2 t hm) (hd.2 t hm)⟩

/-- A step: what is done, at which places, with which node. -/
structure Stp where
  kind : Int
  a : List ByteArray
  b : List ByteArray
  n : N

/-- seven cells that read as a step -/
def StpV (B : Nat) (S : Nat → Prop) (w : World) (s : Stp) (cs : List Value) : Prop :=
  ∃ av bv v0 v1 v2 v3 d, cs = [.int .u8 s.kind, av, bv, v0, v1, v2, v3] ∧ 0 ≤ s.kind ∧ s.kind ≤ 255 ∧ Strs (4 * B) S w av s.a ∧ Strs (4 * B) S w bv s.b ∧ Rep B S w d s.n (.agg #[v0, v1, v2, v3])
theorem StpV.ext {B : Nat} {S : Nat → Prop} {w w' : World} {s : Stp} {cs : List Value} (h : StpV B S w s cs) (hx : Ext w w') : StpV B S w' s cs := by
  obtain ⟨av, bv, v0, v1, v2, v3, d, e, k1, k2, h1, h2, h3⟩ := h
  exact ⟨av, bv, v0, v1, v2, v3, d, e, k1, k2, h1.ext hx, h2.ext hx, h3.ext hx⟩

/-- 'The slice value v reads as the steps l'. -/
def Steps (B : Nat) (S : Nat → Prop) (w : World) (v : Value) (l : List Stp) : Prop :=
  ∃ A c, v = .slice A l.length c ∧ l.length ≤ c ∧ c ≤ maxLen ∧ (0 < l.length → ∃ b o, A = some ⟨b, o, none⟩ ∧ S b ∧ b < w.heap.size ∧ ∀ i s, l[i]? = some s →
    ∃ cs, StpV B S w s cs ∧ ∀ k, k < 7 → w.cell? ⟨b, o + i * 7 + k, none⟩ = cs[k]?)

theorem Steps.ext {B : Nat} {S : Nat → Prop} {w w' : World} {v : Value} {l : List Stp} (h : Steps B S w v l) (hx : Ext w w') : Steps B S w' v l := by
  obtain ⟨A, c, e, h1, h2, h3⟩ := h
  refine ⟨A, c, e, h1, h2, fun hp => ?_⟩
  obtain ⟨b, o, e, hS, hb, hc⟩ := h3 hp
  have hz := hx.size
  refine ⟨b, o, e, hS, by omega, fun i s hi => ?_⟩
  obtain ⟨cs, hs, hk⟩ := hc i s hi
  exact ⟨cs, hs.ext hx, fun k hk' => (hx.cell (p := ⟨b, o + i * 7 + k, none⟩) hb).trans (hk k hk')⟩

theorem Steps.at' {B : Nat} {S : Nat → Prop} {w : World} {v : Value} {l : List Stp} (h : Steps B S w v l) {i : Nat} {s : Stp} (hi : l[i]? = some s) :
    ∃ b o c av bv v0 v1 v2 v3 d, v = .slice (some ⟨b, o, none⟩) l.length c ∧ b < w.heap.size ∧ l.length ≤ c ∧ c ≤ maxLen ∧ w.cell? ⟨b, o + i * 7, none⟩ = some (.int .u8 s.kind) ∧ w.cell? ⟨b, o + i * 7 + 1, none⟩ = some av ∧ w.cell? ⟨b, o + i * 7 + 2, none⟩ = some bv ∧
      w.cell? ⟨b, o + i * 7 + 3, none⟩ = some v0 ∧ w.cell? ⟨b, o + i * 7 + 4, none⟩ = some v1 ∧ w.cell? ⟨b, o + i * 7 + 5, none⟩ = some v2 ∧ w.cell? ⟨b, o + i * 7 + 6, none⟩ = some v3 ∧
      0 ≤ s.kind ∧ s.kind ≤ 255 ∧ Strs (4 * B) S w av s.a ∧ Strs (4 * B) S w bv s.b ∧ Rep B S w d s.n (.agg #[v0, v1, v2, v3]) := by
  obtain ⟨A, c, e, h1, h2, h3⟩ := h
  have hil := (List.getElem?_eq_some_iff.1 hi).1
  obtain ⟨b, o, rfl, hS, hb, hc⟩ := h3 (by omega)
  obtain ⟨cs, ⟨av, bv, v0, v1, v2, v3, d, rfl, k1, k2, g1, g2, g3⟩, hk⟩ := hc i s hi
  exact ⟨b, o, c, av, bv, v0, v1, v2, v3, d, e, hb, h1, h2, hk 0 (by omega), hk 1 (by omega), hk 2 (by omega), hk 3 (by omega), hk 4 (by omega), hk 5 (by omega), hk 6 (by omega), k1, k2, g1, g2, g3⟩

/-- What large counts of a place. -/
def strN : Int → List ByteArray → Int
  | n, [] => n
  | n, s :: l => strN (wrap64 (wrap64 (n + 1) + wrap64 ((s.size : Int) / 64))) l
def largeL : Int → List Stp → Option Int
  | n, [] => some n
  | n, s :: l => if n < 3000 then (if 60 < s.a.length ∨ 60 < s.b.length then none else largeL (strN (strN (wrap64 (wrap64 (n + 5) + s.n.weight)) s.a) s.b) l) else some n
def largeB (l : List Stp) : Bool :=
  match largeL 0 l with
  | none => true
  | some n => decide (3000 ≤ n) || decide (60 < l.length)
theorem largeB_len {l : List Stp} (h : largeB l = false) : l.length ≤ 60 := by
  unfold largeB at h
  cases hl : largeL 0 l with
  | none => rw [hl] at h; cases h
  | some n =>
    rw [hl] at h
    simp at h
    omega

section
variable {H : Type} {enc : TypeId × Value → H} {w : World}
abbrev B41 : Nat := 2199023255552
theorem cellsStep : Try.prog.cellsOf 80 = 7 := by kernel_rfl
theorem bytesStep : Try.prog.bytesOf 80 = 128 := by kernel_rfl

set_option maxRecDepth 20000 in
theorem step_of_trod {n : Nat} {cs : List Value} {x : DataW H × List MemPlace} (h : DataW.trod enc Try.prog w 0 (fun _ => true) true n 80 cs = some x) (hw : ∀ m ∈ x.1.weights Try.prog 80, m ≤ reachBytes) :
    ∃ s, StpV B41 (fun b => b < w.heap.size) w s cs ∧ s.n.wide K41 := by
  obtain ⟨xs, m, rfl, rfl, hl, hxl, hf⟩ := DataW.trod_struct Try.underlying80 h
  rw [cellsStep] at hl
  obtain ⟨v0, v1, v2, v3, v4, v5, v6, rfl⟩ : ∃ v0 v1 v2 v3 v4 v5 v6, cs = [v0, v1, v2, v3, v4, v5, v6] := by
    match cs, hl with
    | [a, b, c, d, e, f, g], _ => exact ⟨_, _, _, _, _, _, _, rfl⟩
  obtain ⟨x0, x1, x2, x3, rfl⟩ : ∃ x0 x1 x2 x3, xs = [x0, x1, x2, x3] := by
    match xs, hxl with
    | [a, b, c, d], _ => exact ⟨_, _, _, _, rfl⟩
  have f0 := hf 0 _ rfl
  have f1 := hf 1 _ rfl
  have f2 := hf 2 _ rfl
  have f3 := hf 3 _ rfl
  change DataW.trod enc Try.prog w 0 (fun _ => true) true m 5 [v0] = some x0 at f0
  change DataW.trod enc Try.prog w 0 (fun _ => true) true m 22 [v1] = some x1 at f1
  change DataW.trod enc Try.prog w 0 (fun _ => true) true m 22 [v2] = some x2 at f2
  change DataW.trod enc Try.prog w 0 (fun _ => true) true m 25 [v3, v4, v5, v6] = some x3 at f3
  have hws : ∀ k, k ∈ x1.1.weights Try.prog 22 ∨ k ∈ x2.1.weights Try.prog 22 ∨ k ∈ x3.1.weights Try.prog 25 → k ≤ reachBytes := by
    intro k hk
    refine hw k ?_
    simp only [DataW.weights, Try.underlying80, List.map_cons, List.map_nil, DataW.weightsEach, List.mem_append]
    rcases hk with hk | hk | hk
    · exact .inr (.inl hk)
    · exact .inr (.inr (.inl hk))
    · exact .inr (.inr (.inr (.inl hk)))
  obtain ⟨k, e0, _, w0⟩ := DataW.trod_int Try.underlying5 f0
  obtain ⟨a, av, e1, ha⟩ := strs_of_trod (B := 2199023255552) rfl f1 (fun k hk => hws k (.inl hk))
  obtain ⟨b, bv, e2, hb⟩ := strs_of_trod (B := 2199023255552) rfl f2 (fun k hk => hws k (.inr (.inl hk)))
  obtain ⟨t, u0, u1, u2, u3, e3, hr, hwd⟩ := node_of_trodW (B := 2199023255552) rfl _ f3 (fun k hk => hws k (.inr (.inr hk)))
  simp only [List.cons.injEq, and_true] at e0 e1 e2 e3
  obtain ⟨rfl, rfl, rfl, rfl⟩ := e3
  subst e0 e1 e2
  have hk := bounds_u8 w0
  exact ⟨⟨k, a, b, t⟩, ⟨_, _, _, _, _, _, m, rfl, hk.1, hk.2, ha, hb, hr⟩, hwd⟩

theorem steps_of_trod {n : Nat} {cs : List Value} {x : DataW H × List MemPlace} (h : DataW.trod enc Try.prog w 0 (fun _ => true) true n 76 cs = some x) (hw : ∀ m ∈ x.1.weights Try.prog 76, m ≤ reachBytes) :
    ∃ l v, cs = [v] ∧ Steps B41 (fun b => b < w.heap.size) w v l ∧ ∀ s ∈ l, s.n.wide K41 := by
  obtain ⟨l, A, c, rfl, h1, h2, h3, h4⟩ := slice_open Try.underlying76 cellsStep bytesStep (by omega) h hw (Q := fun (s : Stp) cs => StpV B41 (fun b => b < w.heap.size) w s cs ∧ s.n.wide K41) (fun n cs x h hw => step_of_trod h hw)
  refine ⟨l, _, rfl, ⟨A, c, rfl, h1, h2, fun hp => ?_⟩, fun s hs => ?_⟩
  · obtain ⟨b, o, e, hl, hc⟩ := h4 hp
    refine ⟨b, o, e, hl, hl, fun i s hi => ?_⟩
    obtain ⟨cs, _, ⟨hs, _⟩, hk⟩ := hc i s hi
    exact ⟨cs, hs, hk⟩
  · obtain ⟨b, o, e, hl, hc⟩ := h4 (List.length_pos_of_mem hs)
    obtain ⟨i, hi⟩ := List.mem_iff_getElem?.1 hs
    obtain ⟨cs, _, ⟨_, hwd⟩, _⟩ := hc i s hi
    exact hwd
end
end Go.Proofs.Ytocndkhgopjhhaa
