/- A region that draws its order, by an invariant: each operation that may come up keeps it. -/
import Derived.Test.YtocndkhgopjhhaaProg
import Derived.Test.YtocndkhgopjhhaaOwnB
import Derived.Orders
import Derived.RegionTactic
namespace Go.Proofs.Ytocndkhgopjhhaa
open Go.RowKit

theorem wpAny_inv {P : Program} {md : Region.Mode} {ops : Array Oper} {Q : Exit → Act → World → Prop} (Inv : Array Bool → Act → World → Prop)
    (hstep : ∀ listed a w i, listed.size = ops.size → Inv listed a w → i ∈ Region.ready md ops listed → wpOp P ops Q i (Inv (listed.setIfInBounds i true)) a w)
    (hend : ∀ listed a w, listed.size = ops.size → Inv listed a w → Region.ready md ops listed = [] → Q .normal a w) :
    ∀ (fuel : Nat) (listed : Array Bool) (a : Act) (w : World), listed.size = ops.size → (listed.toList.filter (fun b => !b)).length ≤ fuel → Inv listed a w → wpAny P md ops Q fuel listed a w
  | 0, listed, a, w, hs, hf, hi => by
    have hr : Region.ready md ops listed = [] := by
      have hall : ∀ b ∈ listed.toList, b = true := by
        intro b hb
        cases b
        · have : (false : Bool) ∈ listed.toList.filter (fun b => !b) := List.mem_filter.2 ⟨hb, rfl⟩
          have := List.length_pos_of_mem this
          omega
        · rfl
      unfold Region.ready
      rw [List.filter_eq_nil_iff]
      intro i hi
      have hil : i < listed.size := by rw [hs]; simpa using hi
      have : listed.getD i true = true := by
        rw [Array.getD_eq_getD_getElem?, Array.getElem?_eq_getElem hil]
        exact hall _ (by simp)
      rw [this]; simp
    exact ⟨hr, hend listed a w hs hi hr⟩
  | fuel + 1, listed, a, w, hs, hf, hi => by
    refine ⟨fun hr => hend listed a w hs hi hr, fun i hr => ?_⟩
    have hin : i < listed.size ∧ listed.getD i true = false := by
      unfold Region.ready at hr
      rw [List.mem_filter] at hr
      obtain ⟨h1, h2⟩ := hr
      simp at h1
      rw [Bool.and_eq_true] at h2
      exact ⟨by omega, by simpa using h2.1⟩
    refine wpOp_mono (fun a' w' hi' => wpAny_inv Inv hstep hend fuel (listed.setIfInBounds i true) a' w' (by simpa using hs) ?_ hi') (hstep listed a w i hs hi hr)
    have hl : listed[i]? = some false := by
      have := hin.2
      rw [Array.getD_eq_getD_getElem?, Array.getElem?_eq_getElem hin.1] at this
      rw [Array.getElem?_eq_getElem hin.1]
      simp at this
      rw [this]
    have hcount : ∀ (l : List Bool) (i : Nat), l[i]? = some false → ((l.set i true).filter (fun b => !b)).length + 1 = (l.filter (fun b => !b)).length := by
      intro l
      induction l with
      | nil => intro i h; simp at h
      | cons b l ih =>
        intro i h
        cases i with
        | zero => simp at h; subst h; simp
        | succ i =>
          have := ih i (by simpa using h)
          cases b <;> simp <;> omega
    have := hcount listed.toList i (by simpa using hl)
    rw [Array.toList_setIfInBounds]
    omega

theorem wp_region_inv {P : Program} {id : Nat} {ops : Array Oper} {Q : Exit → Act → World → Prop} {a : Act} {w : World} (hm : P.follows .mixedOrders = true) (Inv : Array Bool → Act → World → Prop)
    (h0 : Inv (Array.replicate ops.size false) a w.drew)
    (hstep : ∀ listed a w i, listed.size = ops.size → Inv listed a w → i ∈ Region.ready .any ops listed → wpOp P ops Q i (Inv (listed.setIfInBounds i true)) a w)
    (hend : ∀ listed a w, listed.size = ops.size → Inv listed a w → Region.ready .any ops listed = [] → Q .normal a w) : (Code.region id ops true).wp P Q a w := by
  refine wp_region_any hm (wpAny_inv Inv hstep hend ops.size _ a _ (by simp) ?_ h0)
  simp

theorem ready_mem {md : Region.Mode} {ops : Array Oper} {listed : Array Bool} {i : Nat} (h : i ∈ Region.ready md ops listed) :
    i < ops.size ∧ listed.getD i true = false ∧ ∀ o, ops[i]? = some o → ∀ e ∈ o.after, Region.binds md e = true → listed.getD e.on false = true := by
  unfold Region.ready at h
  rw [List.mem_filter] at h
  obtain ⟨h1, h2⟩ := h
  have hi : i < ops.size := by simpa using h1
  rw [Bool.and_eq_true] at h2
  refine ⟨hi, by simpa using h2.1, fun o ho e he hb => ?_⟩
  have h3 := h2.2
  rw [ho] at h3
  simp only [Option.map_some, Option.getD_some] at h3
  have := (Array.all_eq_true_iff_forall_mem.1 h3) e he
  rw [hb] at this
  simpa using this
theorem ready_nil {md : Region.Mode} {ops : Array Oper} {listed : Array Bool} (h : Region.ready md ops listed = []) {i : Nat} {o : Oper} (ho : ops[i]? = some o) (ha : ∀ e ∈ o.after, listed.getD e.on false = true) (hs : listed.size = ops.size) : listed.getD i false = true := by
  unfold Region.ready at h
  rw [List.filter_eq_nil_iff] at h
  have hi := (Array.getElem?_eq_some_iff.1 ho).1
  have := h i (by simpa using hi)
  rw [ho] at this
  simp only [Option.map_some, Option.getD_some] at this
  have hall : (o.after.all fun e => !Region.binds md e || listed.getD e.on false) = true := Array.all_eq_true_iff_forall_mem.2 fun e he => by rw [ha e he]; simp
  rw [hall] at this
  simp only [Bool.and_true, Bool.not_eq_true', Bool.not_eq_false] at this
  have hil : i < listed.size := by omega
  rw [Array.getD_eq_getD_getElem?, Array.getElem?_eq_getElem hil] at this ⊢
  simpa using this
theorem wpOp_plain {P : Program} {ops : Array Oper} {Q : Exit → Act → World → Prop} {i : Nat} {o : Oper} {a : Act} {w : World} {I : Act → World → Prop} (ho : ops[i]? = some o) (hg : o.guard = none)
    (h : ∀ K : Act → World → Prop, (∀ a w, I a w → K a w) → o.wp P a w K Q) : wpOp P ops Q i I a w := by
  unfold wpOp
  rw [ho]
  simp only
  rw [if_pos (by simp [Region.wanted, hg])]
  exact .inl (h I (fun _ _ h => h))
theorem getD_set (listed : Array Bool) (i j : Nat) (h : i < listed.size) : (listed.setIfInBounds i true).getD j false = if j = i then true else listed.getD j false := by
  rw [Array.getD_eq_getD_getElem?, Array.getD_eq_getD_getElem?, Array.getElem?_setIfInBounds]
  by_cases e : i = j
  · subst e; simp [h]
  · rw [if_neg e, if_neg (fun h => e h.symm)]
theorem getD_same (listed : Array Bool) (i : Nat) (h : i < listed.size) : (fun j => (listed.setIfInBounds i true).getD j false) = fun j => if j = i then true else listed.getD j false := funext fun j => getD_set listed i j h
theorem getD_false {listed : Array Bool} {i : Nat} (h : listed.getD i true = false) : listed.getD i false = false := by
  rw [Array.getD_eq_getD_getElem?] at h ⊢
  cases hl : listed[i]? with
  | none => rfl
  | some b => rw [hl] at h; exact h
/-- The same, and what has come up is closed: whatever an operation waits for has come up before it. -/
theorem wp_region_inv2 {P : Program} {id : Nat} {ops : Array Oper} {Q : Exit → Act → World → Prop} {a : Act} {w : World} (hm : P.follows .mixedOrders = true) (Inv : Array Bool → Act → World → Prop)
    (h0 : Inv (Array.replicate ops.size false) a w.drew)
    (hstep : ∀ listed a w i, listed.size = ops.size → Inv listed a w → i ∈ Region.ready .any ops listed → (∀ j o, ops[j]? = some o → listed.getD j false = true → ∀ e ∈ o.after, Region.binds .any e = true → listed.getD e.on false = true) → wpOp P ops Q i (Inv (listed.setIfInBounds i true)) a w)
    (hend : ∀ listed a w, listed.size = ops.size → Inv listed a w → Region.ready .any ops listed = [] → Q .normal a w) : (Code.region id ops true).wp P Q a w := by
  refine wp_region_inv hm (fun listed a w => Inv listed a w ∧ ∀ j o, ops[j]? = some o → listed.getD j false = true → ∀ e ∈ o.after, Region.binds .any e = true → listed.getD e.on false = true) ⟨h0, ?_⟩ ?_ ?_
  · intro j o _ hj
    rw [Array.getD_eq_getD_getElem?, Array.getElem?_replicate] at hj
    split at hj <;> simp at hj
  · rintro listed a w i hs ⟨hi, hc⟩ hr
    obtain ⟨hil, hn, he⟩ := ready_mem hr
    refine wpOp_mono (fun a' w' h => ⟨h, fun j o ho hj e hee hb => ?_⟩) (hstep listed a w i hs hi hr hc)
    rw [getD_set _ _ _ (by omega)]
    by_cases e1 : e.on = i
    · rw [if_pos e1]
    · rw [if_neg e1]
      rw [getD_set _ _ _ (by omega)] at hj
      by_cases e2 : j = i
      · subst e2; exact he o ho e hee hb
      · rw [if_neg e2] at hj
        exact hc j o ho hj e hee hb
  · rintro listed a w hs ⟨hi, _⟩ hr
    exact hend listed a w hs hi hr
end Go.Proofs.Ytocndkhgopjhhaa
