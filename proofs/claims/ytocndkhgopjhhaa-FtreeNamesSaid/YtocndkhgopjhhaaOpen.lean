/- What a datum that came in reads as: nodes, lists of texts. -/
import Derived.Test.YtocndkhgopjhhaaProg
import Derived.Test.YtocndkhgopjhhaaBase
import Derived.WalkKit
import Derived.ProofKit
import Derived.OpenShut
import Derived.ShutString
import Derived.ChangeOld
import Derived.Below
import Derived.SizedLaws
namespace Go.Proofs.Ytocndkhgopjhhaa
open Go.ChangeShapes Go.WideShapes Go.ChangeAt Go.RowKit

theorem list_of {α : Type} {Q : Nat → α → Prop} : ∀ (n : Nat), (∀ i, i < n → ∃ t, Q i t) → ∃ l : List α, l.length = n ∧ ∀ (i : Nat) t, l[i]? = some t → Q i t
  | 0, _ => ⟨[], rfl, by simp⟩
  | n + 1, h => by
    obtain ⟨l, hl, hq⟩ := list_of n (fun i hi => h i (by omega))
    obtain ⟨t, ht⟩ := h n (by omega)
    refine ⟨l ++ [t], by simp [hl], fun i u hi => ?_⟩
    rcases Nat.lt_or_ge i l.length with hlt | hge
    · rw [List.getElem?_append_left hlt] at hi; exact hq i u hi
    · rw [List.getElem?_append_right hge] at hi
      have : i - l.length = 0 := by
        rcases Nat.eq_zero_or_pos (i - l.length) with h0 | h0
        · exact h0
        · rw [List.getElem?_eq_none (by simp; omega)] at hi; cases hi
      rw [this] at hi
      simp at hi
      subst hi
      have : i = n := by omega
      subst this; exact ht

theorem weightsAll_mem {H : Type} {P : Program} {e : TypeId} : ∀ {l : List (DataW H)} {i : Nat} {d : DataW H}, l[i]? = some d → ∀ m ∈ d.weights P e, m ∈ DataW.weightsAll P e l
  | [], _, _, h, _, _ => by simp at h
  | a :: l, 0, d, h, m, hm => by
    simp at h; subst h
    rw [DataW.weightsAll]; exact List.mem_append_left _ hm
  | a :: l, i + 1, d, h, m, hm => by
    rw [DataW.weightsAll]; exact List.mem_append_right _ (weightsAll_mem (by simpa using h) m hm)

theorem cellsNode : Try.prog.cellsOf 25 = 4 := by kernel_rfl
theorem cellsStr : Try.prog.cellsOf 9 = 1 := by kernel_rfl
theorem cellsStrs : Try.prog.cellsOf 22 = 1 := by kernel_rfl
theorem cellsNodes : Try.prog.cellsOf 23 = 1 := by kernel_rfl
theorem bytesNode : Try.prog.bytesOf 25 = 72 := by kernel_rfl
theorem bytesStr : Try.prog.bytesOf 9 = 16 := by kernel_rfl

section
variable {H : Type} {enc : TypeId × Value → H} {w : World}

theorem cells_at {base : Nat} {a : Addr} {n i : Nat} {cs : List Value} (hs : a.spot = none) (h : w.cells? base (a.add i) n = some cs) : cs.length = n ∧ ∀ k, k < n → w.cell? ⟨a.block, a.off + i + k, none⟩ = cs[k]? := by
  obtain ⟨_, hl, hc⟩ := World.cells?_some h
  refine ⟨hl, fun k hk => ?_⟩
  have := hc k hk
  obtain ⟨b, o, s⟩ := a
  simp only at hs
  subst hs
  have e : ((⟨b, o, none⟩ : Addr).add i).add k = ⟨b, o + i + k, none⟩ := by
    unfold Addr.add
    split <;> split <;> simp_all
  rw [e] at this
  exact this

theorem strs_of_trod {B n : Nat} {cs : List Value} {x : DataW H × List MemPlace} (hB : B = 2199023255552) (h : DataW.trod enc Try.prog w 0 (fun _ => true) true n 22 cs = some x)
    (hw : ∀ m ∈ x.1.weights Try.prog 22, m ≤ reachBytes) : ∃ ns v, cs = [v] ∧ Strs (4 * B) (fun b => b < w.heap.size) w v ns := by
  rcases DataW.trod_slice Try.underlying22 h with ⟨rfl, _⟩ | ⟨a, len, cap, el, rest, n, rfl, rfl, rfl, _, hlc, hcm, hel, hce, hre, _⟩
  · exact ⟨[], _, rfl, none, 0, rfl, Nat.le_refl _, by simp [maxLen], by simp, by simp, by simp⟩
  · obtain ⟨hrl, _⟩ := hre rfl
    have hb : len ≤ 4 * B := by
      have := hw ((el.length + rest.length) * Try.prog.bytesOf 9) (by simp [DataW.weights, Try.underlying22])
      rw [bytesStr] at this
      unfold reachBytes at this
      omega
    rcases Nat.eq_zero_or_pos len with rfl | hpos
    · exact ⟨[], _, rfl, some a, cap, rfl, Nat.zero_le _, hcm, by simp, by simp, by simp⟩
    have hel0 : ∀ i, i < len → ∃ s : ByteArray, w.cell? (a.add i) = some (.string s) ∧ s.size ≤ maxLen := by
      intro i hi
      have := hce i hi
      rw [cellsStr, Nat.mul_one, List.getElem?_eq_getElem (by omega : i < el.length), Option.bind_eq_some_iff] at this
      obtain ⟨cs, h1, h2⟩ := this
      obtain ⟨s, rfl, _, hs⟩ := DataW.trod_string Try.underlying9 h2
      exact ⟨s, cell_of_cells?_one h1, hs⟩
    have hsp : a.spot = none := by
      obtain ⟨s, h0, _⟩ := hel0 0 hpos
      have := World.cell?_spot h0
      simpa [Addr.add] using this
    obtain ⟨b, o, sp⟩ := a
    simp only at hsp
    subst hsp
    obtain ⟨ns, hns, hq⟩ := list_of (Q := fun i (s : ByteArray) => w.cell? ⟨b, o + i, none⟩ = some (.string s) ∧ s.size ≤ maxLen) len (fun i hi => by
      obtain ⟨s, h0, h1⟩ := hel0 i hi
      refine ⟨s, ?_, h1⟩
      rcases Nat.eq_zero_or_pos i with rfl | h2
      · simpa [Addr.add] using h0
      · rw [Addr.add, if_neg (by omega)] at h0; exact h0)
    subst hns
    refine ⟨ns, _, rfl, _, cap, rfl, hlc, hcm, hb, fun s hs => ?_, fun _ => ⟨b, o, rfl, ?_, ?_, fun i s hs => (hq i s hs).1⟩⟩
    · obtain ⟨i, hi, rfl⟩ := List.mem_iff_getElem.1 hs
      exact (hq i _ (List.getElem?_eq_getElem hi)).2
    all_goals
      have h0 := (hq 0 _ (List.getElem?_eq_getElem hpos)).1
      exact World.cells?_block (cells?_one (base := 0) (Nat.zero_le _) h0) Nat.zero_lt_one

mutual
/-- No directory of more than K nodes. -/
def N.wide (K : Nat) : N → Prop
  | .mk _ _ _ ks => ks.length ≤ K ∧ wideL K ks
def wideL (K : Nat) : List N → Prop
  | [] => True
  | k :: ks => k.wide K ∧ wideL K ks
end
theorem wideL_iff {K : Nat} : ∀ {ks : List N}, wideL K ks ↔ ∀ k ∈ ks, k.wide K
  | [] => by simp [wideL]
  | k :: ks => by rw [wideL, wideL_iff]; simp
/-- how many nodes fit into what may come in -/
abbrev K41 : Nat := 1954687338268

set_option maxRecDepth 20000 in
theorem node_of_trodW {B : Nat} (hB : B = 2199023255552) : ∀ (n : Nat) {cs : List Value} {x : DataW H × List MemPlace}, DataW.trod enc Try.prog w 0 (fun _ => true) true n 25 cs = some x →
    (∀ m ∈ x.1.weights Try.prog 25, m ≤ reachBytes) → ∃ t v0 v1 v2 v3, cs = [v0, v1, v2, v3] ∧ Rep B (fun b => b < w.heap.size) w n t (.agg #[v0, v1, v2, v3]) ∧ t.wide K41
  | n, cs, x, h, hw => by
    obtain ⟨xs, m, rfl, rfl, hl, hxl, hf⟩ := DataW.trod_struct Try.underlying25 h
    rw [cellsNode] at hl
    obtain ⟨v0, v1, v2, v3, rfl⟩ : ∃ v0 v1 v2 v3, cs = [v0, v1, v2, v3] := by
      match cs, hl with
      | [a, b, c, d], _ => exact ⟨_, _, _, _, rfl⟩
    obtain ⟨x0, x1, x2, x3, rfl⟩ : ∃ x0 x1 x2 x3, xs = [x0, x1, x2, x3] := by
      match xs, hxl with
      | [a, b, c, d], _ => exact ⟨_, _, _, _, rfl⟩
    have f0 := hf 0 _ rfl
    have f1 := hf 1 _ rfl
    have f2 := hf 2 _ rfl
    have f3 := hf 3 _ rfl
    change DataW.trod enc Try.prog w 0 (fun _ => true) true m 5 [v0] = some x0 at f0
    change DataW.trod enc Try.prog w 0 (fun _ => true) true m 9 [v1] = some x1 at f1
    change DataW.trod enc Try.prog w 0 (fun _ => true) true m 22 [v2] = some x2 at f2
    change DataW.trod enc Try.prog w 0 (fun _ => true) true m 23 [v3] = some x3 at f3
    have hws : ∀ k, k ∈ x2.1.weights Try.prog 22 ∨ k ∈ x3.1.weights Try.prog 23 → k ≤ reachBytes := by
      intro k hk
      refine hw k ?_
      simp only [DataW.weights, Try.underlying25, List.map_cons, List.map_nil, DataW.weightsEach, List.mem_append]
      rcases hk with hk | hk
      · exact .inr (.inr (.inl hk))
      · exact .inr (.inr (.inr (.inl hk)))
    obtain ⟨k, hk, _, _⟩ := DataW.trod_int Try.underlying5 f0
    obtain ⟨tx, htx, _, hts⟩ := DataW.trod_string Try.underlying9 f1
    obtain ⟨ns, nv, hnv, hns⟩ := strs_of_trod (B := B) hB f2 (fun k hk => hws k (.inl hk))
    simp only [List.cons.injEq, and_true] at hk htx hnv
    subst hk htx hnv
    rcases DataW.trod_slice Try.underlying23 f3 with ⟨hv, _⟩ | ⟨a, len, cap, el, rest, m', rfl, hv, rfl, _, hlc, hcm, hel, hce, hre, _⟩
    · simp only [List.cons.injEq, and_true] at hv
      subst hv
      exact ⟨.mk k tx ns [], _, _, _, _, rfl, Rep.join hts hns ⟨none, 0, rfl, Nat.le_refl _, by simp [maxLen], by simp, by simp⟩, by simp [N.wide, wideL]⟩
    · simp only [List.cons.injEq, and_true] at hv
      subst hv
      obtain ⟨hrl, _⟩ := hre rfl
      have hb0 : len ≤ K41 := by
        have := hws ((el.length + rest.length) * Try.prog.bytesOf 25) (.inr (by simp [DataW.weights, Try.underlying23]))
        rw [bytesNode] at this
        unfold reachBytes at this
        unfold K41
        omega
      have hb : len ≤ B := by unfold K41 at hb0; omega
      rcases Nat.eq_zero_or_pos len with rfl | hpos
      · exact ⟨.mk k tx ns [], _, _, _, _, rfl, Rep.join hts hns ⟨some a, cap, rfl, Nat.zero_le _, hcm, by simp, by simp⟩, by simp [N.wide, wideL]⟩
      have hkid : ∀ i, i < len → ∃ t v0 v1 v2 v3, w.cells? 0 (a.add (i * 4)) 4 = some [v0, v1, v2, v3] ∧ Rep B (fun b => b < w.heap.size) w m' t (.agg #[v0, v1, v2, v3]) ∧ t.wide K41 := by
        intro i hi
        have h1 := hce i hi
        rw [cellsNode, List.getElem?_eq_getElem (by omega : i < el.length), Option.bind_eq_some_iff] at h1
        obtain ⟨cs, h1, h2⟩ := h1
        obtain ⟨t, u0, u1, u2, u3, rfl, hr, hwd⟩ := node_of_trodW hB m' h2 (fun k hk => hws k (.inr (by
          simp only [DataW.weights, Try.underlying23]
          refine List.mem_cons_of_mem _ (List.mem_append_left _ (weightsAll_mem (i := i) ?_ k hk))
          rw [List.getElem?_map, List.getElem?_eq_getElem (by omega : i < el.length)]; rfl)))
        exact ⟨t, u0, u1, u2, u3, h1, hr, hwd⟩
      have hsp : a.spot = none := by
        obtain ⟨t, u0, u1, u2, u3, h0, _⟩ := hkid 0 hpos
        have h1 := (World.cells?_some h0).2.2 0 (by omega)
        have := World.cell?_spot h1
        simpa [Addr.add] using this
      obtain ⟨ks, hks, hq⟩ := list_of (Q := fun i (t : N) => ∃ v0 v1 v2 v3, w.cells? 0 (a.add (i * 4)) 4 = some [v0, v1, v2, v3] ∧ Rep B (fun b => b < w.heap.size) w m' t (.agg #[v0, v1, v2, v3]) ∧ t.wide K41) len hkid
      subst hks
      have hbl : a.block < w.heap.size := by
        obtain ⟨u0, u1, u2, u3, h0, _, _⟩ := hq 0 _ (List.getElem?_eq_getElem hpos)
        have h1 := World.cells?_block h0 (by omega)
        simpa [Addr.add] using h1
      refine ⟨.mk k tx ns ks, _, _, _, _, rfl, Rep.join hts hns ⟨some a, cap, rfl, hlc, hcm, hb, fun _ => ⟨a.block, a.off, ?_, hbl, hbl, fun i t ht => ?_⟩⟩, ?_⟩
      · obtain ⟨b, o, s⟩ := a
        simp only at hsp
        subst hsp; rfl
      · obtain ⟨u0, u1, u2, u3, h0, hr, _⟩ := hq i t ht
        have hc := (cells_at hsp h0).2
        exact ⟨u0, u1, u2, u3, hc 0 (by omega), hc 1 (by omega), hc 2 (by omega), hc 3 (by omega), Rep.mono (by omega) hr⟩
      · rw [N.wide, wideL_iff]
        refine ⟨hb0, fun t ht => ?_⟩
        obtain ⟨i, hi⟩ := List.mem_iff_getElem?.1 ht
        obtain ⟨_, _, _, _, _, _, h⟩ := hq i t hi
        exact h
termination_by n => n
decreasing_by all_goals omega

theorem node_of_trod {B : Nat} (hB : B = 2199023255552) (n : Nat) {cs : List Value} {x : DataW H × List MemPlace} (h : DataW.trod enc Try.prog w 0 (fun _ => true) true n 25 cs = some x)
    (hw : ∀ m ∈ x.1.weights Try.prog 25, m ≤ reachBytes) : ∃ t v0 v1 v2 v3, cs = [v0, v1, v2, v3] ∧ Rep B (fun b => b < w.heap.size) w n t (.agg #[v0, v1, v2, v3]) := by
  obtain ⟨t, v0, v1, v2, v3, e, hr, _⟩ := node_of_trodW hB n h hw
  exact ⟨t, v0, v1, v2, v3, e, hr⟩

end
end Go.Proofs.Ytocndkhgopjhhaa
