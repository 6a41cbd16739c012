/- What a slice that came in reads as, whatever its elements. -/
import Derived.Test.YtocndkhgopjhhaaProg
import Derived.Test.YtocndkhgopjhhaaOpen
namespace Go.Proofs.Ytocndkhgopjhhaa
open Go.ChangeShapes Go.WideShapes Go.ChangeAt Go.RowKit

section
variable {H : Type} {enc : TypeId × Value → H} {w : World}

theorem slice_open {t e : TypeId} {size bytes n : Nat} {cs : List Value} {x : DataW H × List MemPlace} (ht : Try.prog.underlying t = some (.slice e)) (hcs : Try.prog.cellsOf e = size) (hby : Try.prog.bytesOf e = bytes) (hsz : 0 < size)
    (h : DataW.trod enc Try.prog w 0 (fun _ => true) true n t cs = some x) (hw : ∀ m ∈ x.1.weights Try.prog t, m ≤ reachBytes) {α : Type} (Q : α → List Value → Prop)
    (hQ : ∀ n cs x, DataW.trod enc Try.prog w 0 (fun _ => true) true n e cs = some x → (∀ m ∈ x.1.weights Try.prog e, m ≤ reachBytes) → ∃ a, Q a cs) :
    ∃ (l : List α) (A : Option Addr) (c : Nat), cs = [.slice A l.length c] ∧ l.length ≤ c ∧ c ≤ maxLen ∧ l.length * bytes ≤ reachBytes ∧
      (0 < l.length → ∃ b o, A = some ⟨b, o, none⟩ ∧ b < w.heap.size ∧ ∀ i a, l[i]? = some a → ∃ cs, cs.length = size ∧ Q a cs ∧ ∀ k, k < size → w.cell? ⟨b, o + i * size + k, none⟩ = cs[k]?) := by
  rcases DataW.trod_slice ht h with ⟨rfl, _⟩ | ⟨a, len, cap, el, rest, n, rfl, rfl, rfl, _, hlc, hcm, hel, hce, hre, _⟩
  · exact ⟨[], none, 0, rfl, Nat.le_refl _, by simp [maxLen], by simp [reachBytes], by simp⟩
  · obtain ⟨hrl, _⟩ := hre rfl
    have hws : ∀ m, m ∈ (DataW.slice (el.map (·.1)) (rest.map (·.1))).weights Try.prog t → m ≤ reachBytes := hw
    have hb : len * bytes ≤ reachBytes := by
      have := hws ((el.length + rest.length) * Try.prog.bytesOf e) (by simp [DataW.weights, ht])
      rw [hby] at this
      exact Nat.le_trans (Nat.mul_le_mul_right _ (by omega)) this
    rcases Nat.eq_zero_or_pos len with rfl | hpos
    · exact ⟨[], some a, cap, rfl, Nat.zero_le _, hcm, by simp [reachBytes], by simp⟩
    have hkid : ∀ i, i < len → ∃ t, ∃ cs', w.cells? 0 (a.add (i * size)) size = some cs' ∧ Q t cs' := by
      intro i hi
      have h1 := hce i hi
      rw [hcs, List.getElem?_eq_getElem (by omega : i < el.length), Option.bind_eq_some_iff] at h1
      obtain ⟨cs', h1, h2⟩ := h1
      obtain ⟨t, ht'⟩ := hQ n cs' _ h2 (fun k hk => hws k (by
        simp only [DataW.weights, ht]
        refine List.mem_cons_of_mem _ (List.mem_append_left _ (weightsAll_mem (i := i) ?_ k hk))
        rw [List.getElem?_map, List.getElem?_eq_getElem (by omega : i < el.length)]; rfl))
      exact ⟨t, cs', h1, ht'⟩
    have hsp : a.spot = none := by
      obtain ⟨t, cs', h0, _⟩ := hkid 0 hpos
      have h1 := World.cells?_some h0
      have hl := h1.2.1
      have h2 := h1.2.2 0 hsz
      obtain ⟨v, hv⟩ : ∃ v, cs'[0]? = some v := ⟨_, List.getElem?_eq_getElem (by omega)⟩
      rw [hv] at h2
      have := World.cell?_spot h2
      simpa [Addr.add] using this
    obtain ⟨ks, hks, hq⟩ := list_of (Q := fun i (t : α) => ∃ cs', w.cells? 0 (a.add (i * size)) size = some cs' ∧ Q t cs') len hkid
    subst hks
    have hbl : a.block < w.heap.size := by
      obtain ⟨cs', h0, _⟩ := hq 0 _ (List.getElem?_eq_getElem hpos)
      have h1 := World.cells?_block h0 hsz
      simpa [Addr.add] using h1
    refine ⟨ks, some a, cap, rfl, hlc, hcm, hb, fun _ => ⟨a.block, a.off, ?_, hbl, fun i t ht' => ?_⟩⟩
    · obtain ⟨b, o, s⟩ := a
      simp only at hsp
      subst hsp; rfl
    · obtain ⟨cs', h0, hr⟩ := hq i t ht'
      obtain ⟨hl, hc⟩ := cells_at hsp h0
      exact ⟨cs', hl, hr, hc⟩
end
end Go.Proofs.Ytocndkhgopjhhaa
