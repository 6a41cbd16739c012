/- The order of texts; sorted names; where a name stands, or would stand. -/
import Derived.Test.YtocndkhgopjhhaaBase2
import Derived.Test.YtocndkhgopjhhaaLibs
import Derived.Test.YtocndkhgopjhhaaSame
import Derived.Sort.Walk0
namespace Go.Proofs.Ytocndkhgopjhhaa
open Go.RowKit

def ltS (a b : ByteArray) : Bool := Op.bytesLess a.toList b.toList

theorem bl_irrefl : ∀ x : List UInt8, Op.bytesLess x x = false
  | [] => rfl
  | a :: x => by simp [Op.bytesLess, bl_irrefl x]
theorem bl_trans : ∀ {x y z : List UInt8}, Op.bytesLess x y = true → Op.bytesLess y z = true → Op.bytesLess x z = true
  | _, [], _, h, _ => by cases ‹List UInt8› <;> simp [Op.bytesLess] at h
  | [], _ :: _, [], _, h => by simp [Op.bytesLess] at h
  | _ :: _, _ :: _, [], _, h => by simp [Op.bytesLess] at h
  | [], _ :: _, _ :: _, _, _ => rfl
  | a :: x, b :: y, c :: z, h1, h2 => by
    simp only [Op.bytesLess, Bool.or_eq_true, decide_eq_true_eq, Bool.and_eq_true, beq_iff_eq] at h1 h2 ⊢
    rcases h1 with h1 | ⟨rfl, h1⟩
    · rcases h2 with h2 | ⟨rfl, h2⟩
      · exact .inl (UInt8.lt_trans h1 h2)
      · exact .inl h1
    · rcases h2 with h2 | ⟨rfl, h2⟩
      · exact .inl h2
      · exact .inr ⟨rfl, bl_trans h1 h2⟩
theorem bl_tri : ∀ x y : List UInt8, Op.bytesLess x y = true ∨ x = y ∨ Op.bytesLess y x = true
  | [], [] => .inr (.inl rfl)
  | [], _ :: _ => .inl rfl
  | _ :: _, [] => .inr (.inr rfl)
  | a :: x, b :: y => by
    simp only [Op.bytesLess, Bool.or_eq_true, decide_eq_true_eq, Bool.and_eq_true, beq_iff_eq, List.cons.injEq]
    by_cases h : a < b
    · exact .inl (.inl h)
    · by_cases h' : b < a
      · exact .inr (.inr (.inl h'))
      · have e : a = b := by
          apply UInt8.toNat_inj.1
          rw [UInt8.lt_iff_toNat_lt] at h h'
          omega
        subst e
        rcases bl_tri x y with h1 | h1 | h1
        · exact .inl (.inr ⟨rfl, h1⟩)
        · exact .inr (.inl ⟨rfl, h1⟩)
        · exact .inr (.inr (.inr ⟨rfl, h1⟩))

theorem ltS_irrefl (a : ByteArray) : ltS a a = false := bl_irrefl _
theorem ltS_trans {a b c : ByteArray} (h1 : ltS a b = true) (h2 : ltS b c = true) : ltS a c = true := bl_trans h1 h2
theorem ltS_tri (a b : ByteArray) : ltS a b = true ∨ a = b ∨ ltS b a = true := by
  rcases bl_tri a.toList b.toList with h | h | h
  · exact .inl h
  · exact .inr (.inl (toList_inj h))
  · exact .inr (.inr h)
theorem ltS_asymm {a b : ByteArray} (h : ltS a b = true) : ltS b a = false := by
  cases h' : ltS b a
  · rfl
  · have := ltS_trans h h'; rw [ltS_irrefl] at this; cases this
theorem leS_not {a b : ByteArray} : leS a b = false ↔ ltS b a = true := by
  unfold leS
  constructor
  · intro h
    simp only [Bool.or_eq_false_iff, beq_eq_false_iff_ne] at h
    rcases ltS_tri a b with h1 | h1 | h1
    · unfold ltS at h1; rw [h1] at h; simp at h
    · exact absurd (by rw [h1]) h.2
    · exact h1
  · intro h
    have h1 := ltS_asymm h
    unfold ltS at h1
    rw [h1]
    simp only [Bool.false_or, beq_eq_false_iff_ne]
    intro e
    rw [toList_inj e, ltS_irrefl] at h
    cases h

abbrev Sorted (ns : List ByteArray) : Prop := ns.Pairwise (fun a b => ltS a b = true)

theorem wellL_sorted : ∀ {p : Option ByteArray} {ns : List ByteArray} {ks : List N}, wellL p ns ks = true → Sorted ns ∧ (∀ q, p = some q → ∀ x ∈ ns, ltS q x = true) ∧ (∀ x ∈ ns, nameB x = true) ∧ ∀ i, i < ns.length → ∃ k, ks[i]? = some k ∧ k.well = true
  | p, [], ks, _ => ⟨List.Pairwise.nil, by simp, by simp, by simp⟩
  | p, s :: ns, [], h => by rw [wellL] at h; cases h
  | p, s :: ns, k :: ks, h => by
    rw [wellL] at h
    simp only [Bool.and_eq_true, Bool.not_eq_true'] at h
    obtain ⟨⟨⟨h1, h2⟩, h3⟩, h4⟩ := h
    obtain ⟨i1, i2, i3, i4⟩ := wellL_sorted h4
    refine ⟨List.Pairwise.cons (fun x hx => i2 s rfl x hx) i1, ?_, ?_, ?_⟩
    · rintro q rfl x hx
      have hq : ltS q s = true := leS_not.1 (by simpa using h2)
      rcases List.mem_cons.1 hx with rfl | hx
      · exact hq
      · exact ltS_trans hq (i2 s rfl x hx)
    · intro x hx
      rcases List.mem_cons.1 hx with rfl | hx
      · exact h1
      · exact i3 x hx
    · intro i hi
      cases i with
      | zero => exact ⟨k, rfl, h3⟩
      | succ i => exact i4 i (by simpa using hi)

/-- How many names stand ahead of a name. -/
def posOf (s : ByteArray) : List ByteArray → Nat
  | [] => 0
  | x :: l => if ltS x s then posOf s l + 1 else 0

theorem posOf_le (s : ByteArray) : ∀ l : List ByteArray, posOf s l ≤ l.length
  | [] => Nat.le_refl _
  | x :: l => by
    rw [posOf]; split
    · have := posOf_le s l; simp; omega
    · simp
theorem posOf_below (s : ByteArray) : ∀ (l : List ByteArray) (t : Nat) (x : ByteArray), t < posOf s l → l[t]? = some x → ltS x s = true
  | [], t, x, h, _ => by simp [posOf] at h
  | y :: l, t, x, h, hx => by
    rw [posOf] at h
    split at h
    · rename_i hy
      cases t with
      | zero => simp at hx; rw [← hx]; exact hy
      | succ t => exact posOf_below s l t x (by omega) (by simpa using hx)
    · omega
theorem posOf_above (s : ByteArray) : ∀ (l : List ByteArray), Sorted l → ∀ (t : Nat) (x : ByteArray), posOf s l ≤ t → l[t]? = some x → ltS x s = false
  | [], _, t, x, _, hx => by simp at hx
  | y :: l, hs, t, x, h, hx => by
    rw [posOf] at h
    have hs' := List.pairwise_cons.1 hs
    split at h
    · cases t with
      | zero => omega
      | succ t => exact posOf_above s l hs'.2 t x (by omega) (by simpa using hx)
    · rename_i hy
      have hy' : ltS y s = false := by simpa using hy
      cases t with
      | zero => simp at hx; rw [← hx]; exact hy'
      | succ t =>
        have hm : x ∈ l := List.mem_of_getElem? (by simpa using hx)
        have hyx := hs'.1 x hm
        cases h2 : ltS x s
        · rfl
        · have := ltS_trans hyx h2; rw [hy'] at this; cases this
theorem ixFrom_pos (s : ByteArray) : ∀ (l : List ByteArray) (j : Nat), Sorted l → ixFrom s j l = if l[posOf s l]? = some s then some (j + posOf s l) else none
  | [], j, _ => by simp [ixFrom]
  | y :: l, j, hs => by
    have hs' := List.pairwise_cons.1 hs
    rw [ixFrom, posOf]
    by_cases e : y = s
    · subst e
      simp [ltS_irrefl]
    · rw [if_neg e]
      by_cases hy : ltS y s = true
      · rw [if_pos hy, ixFrom_pos s l (j + 1) hs'.2]
        simp only [List.getElem?_cons_succ]
        split
        · congr 1; omega
        · rfl
      · rw [if_neg hy]
        have : ¬ (y :: l)[0]? = some s := by simpa using e
        rw [if_neg this, ixFrom_none]
        intro hm
        exact hy (hs'.1 s hm)

theorem bs_pos (s : ByteArray) (ns : List ByteArray) (hs : Sorted ns) : Lib.bsGo (fun t => Op.bytesLess (ns.getD t s).toList s.toList) ns.length 0 ns.length = posOf s ns := by
  refine Lib.bsGo_spec (fun t => Op.bytesLess (ns.getD t s).toList s.toList) (posOf s ns) ?_ ?_ ns.length 0 ns.length (by omega) (Nat.zero_le _) (posOf_le s ns)
  · intro t ht
    have hl : t < ns.length := Nat.lt_of_lt_of_le ht (posOf_le s ns)
    have := posOf_below s ns t ns[t] ht (List.getElem?_eq_getElem hl)
    simpa [List.getD, List.getElem?_eq_getElem hl] using (show Op.bytesLess _ _ = _ from this)
  · intro t ht
    by_cases hl : t < ns.length
    · have := posOf_above s ns hs t ns[t] ht (List.getElem?_eq_getElem hl)
      simpa [List.getD, List.getElem?_eq_getElem hl] using (show Op.bytesLess _ _ = _ from this)
    · have := ltS_irrefl s
      simpa [List.getD, List.getElem?_eq_none (by omega : ns.length ≤ t)] using (show Op.bytesLess _ _ = _ from this)

theorem bsearch_any {B : Nat} (hB : B ≤ 35184372088832) {S : Nat → Prop} {w : World} {v : Value} {ns : List ByteArray} (s : ByteArray) (h : Strs B S w v ns) (hs : Sorted ns) :
    Calls Try.prog 129 #[v, .string s] w fun e w' => e = .returned (.tuple #[.int .i64 (posOf s ns : Nat), .bool (ixFrom s 0 ns).isSome]) ∧ Ext w w' := by
  obtain ⟨A, c, rfl, hc, hm, hl, _, g⟩ := h
  by_cases hz : ns.length = 0
  · have e := List.eq_nil_of_length_eq_zero hz
    subst e
    refine (Try.slices_BinarySearch_string_empty A c s w).mono ?_
    rintro e w' ⟨rfl, rfl⟩
    exact ⟨rfl, Below.refl _ _⟩
  · obtain ⟨b, o, rfl, _, _, k⟩ := g (by omega)
    refine (Try.slices_BinarySearch_string b o ns.length c (fun t => ns.getD t s) s w (by omega) (fun j hj => k j _ (by simp [List.getD, List.getElem?_eq_getElem hj]))).mono ?_
    rintro e w' ⟨rfl, q, rfl⟩
    refine ⟨?_, Ext.drewN' _ _⟩
    rw [bs_pos s ns hs, ixFrom_pos s ns 0 hs]
    have : (decide (posOf s ns < ns.length ∧ ns.getD (posOf s ns) s = s)) = (if ns[posOf s ns]? = some s then some (0 + posOf s ns) else none).isSome := by
      by_cases hp : posOf s ns < ns.length
      · rw [List.getElem?_eq_getElem hp]
        simp only [List.getD, List.getElem?_eq_getElem hp, Option.getD_some, Option.some.injEq]
        by_cases e : ns[posOf s ns] = s
        · rw [if_pos e]; simp [hp, e]
        · rw [if_neg e]; simp [e]
      · rw [List.getElem?_eq_none (by omega)]
        simp [hp]
    rw [this]

theorem N.well_dir {tx : ByteArray} {ns : List ByteArray} {ks : List N} (h : (N.mk 2 tx ns ks).well = true) :
    tx.toList = [] ∧ Sorted ns ∧ ns.length = ks.length ∧ (∀ x ∈ ns, nameB x = true) ∧ (∀ k ∈ ks, k.well = true) ∧ wellL none ns ks = true := by
  rw [N.well] at h
  simp at h
  obtain ⟨⟨h1, h2⟩, h3⟩ := h
  obtain ⟨i1, _, i3, i4⟩ := wellL_sorted h3
  refine ⟨h1, i1, h2, i3, ?_, h3⟩
  intro k hk
  obtain ⟨i, hi, hk'⟩ := List.getElem_of_mem hk
  obtain ⟨k2, e2, w2⟩ := i4 i (by omega)
  rw [List.getElem?_eq_getElem hi] at e2
  injection e2 with e2
  rw [← hk', e2]; exact w2
theorem N.well_leaf {k : Int} {tx : ByteArray} {ns : List ByteArray} {ks : List N} (h : (N.mk k tx ns ks).well = true) (hk : k ≠ 2) : ns = [] ∧ ks = [] := by
  rw [N.well] at h
  by_cases h1 : k = 1
  · rw [if_pos h1] at h; simp at h; exact ⟨h.1.1, h.1.2⟩
  · by_cases h3 : k = 3
    · rw [if_neg h1, if_pos h3] at h; simp at h; exact ⟨h.1.1.1, h.1.1.2⟩
    · simp [h1, h3, hk] at h

end Go.Proofs.Ytocndkhgopjhhaa
