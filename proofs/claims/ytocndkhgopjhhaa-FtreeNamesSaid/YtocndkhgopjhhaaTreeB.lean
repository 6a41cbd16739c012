/- The order of texts; sorted names; where a name stands, or would stand. -/
import Derived.Test.YtocndkhgopjhhaaBase
import Derived.Test.YtocndkhgopjhhaaLibs
import Derived.Test.YtocndkhgopjhhaaSame
import Derived.Test.YtocndkhgopjhhaaProg
import Derived.Sort.Walk0
namespace Go.Proofs.Ytocndkhgopjhhaa
open Go.RowKit

def ltS (a b : ByteArray) : Bool := Op.bytesLess a.toList b.toList

theorem bl_irrefl : ∀ x : List UInt8, Op.bytesLess x x = false
  | [] => rfl
  | a :: x => by simp [Op.bytesLess, bl_irrefl x]
theorem bl_trans : ∀ {x y z : List UInt8}, Op.bytesLess x y = true → Op.bytesLess y z = true → Op.bytesLess x z = true
  | _, [], _, h, _ => by cases ‹List UInt8› <;> simp [Op.bytesLess] at h
  | [], _ :: _, [], _, h => by simp [Op.bytesLess] at h
  | _ :: _, _ :: _, [], _, h => by simp [Op.bytesLess] at h
  | [], _ :: _, _ :: _, _, _ => rfl
  | a :: x, b :: y, c :: z, h1, h2 => by
    simp only [Op.bytesLess, Bool.or_eq_true, decide_eq_true_eq, Bool.and_eq_true, beq_iff_eq] at h1 h2 ⊢
    rcases h1 with h1 | ⟨rfl, h1⟩
    · rcases h2 with h2 | ⟨rfl, h2⟩
      · exact .inl (UInt8.lt_trans h1 h2)
      · exact .inl h1
    · rcases h2 with h2 | ⟨rfl, h2⟩
      · exact .inl h2
      · exact .inr ⟨rfl, bl_trans h1 h2⟩
theorem bl_tri : ∀ x y : List UInt8, Op.bytesLess x y = true ∨ x = y ∨ Op.bytesLess y x = true
  | [], [] => .inr (.inl rfl)
  | [], _ :: _ => .inl rfl
  | _ :: _, [] => .inr (.inr rfl)
  | a :: x, b :: y => by
    simp only [Op.bytesLess, Bool.or_eq_true, decide_eq_true_eq, Bool.and_eq_true, beq_iff_eq, List.cons.injEq]
    by_cases h : a < b
    · exact .inl (.inl h)
    · by_cases h' : b < a
      · exact .inr (.inr (.inl h'))
      · have e : a = b := by
          apply UInt8.toNat_inj.1
          rw [UInt8.lt_iff_toNat_lt] at h h'
          omega
        subst e
        rcases bl_tri x y with h1 | h1 | h1
        · exact .inl (.inr ⟨rfl, h1⟩)
        · exact .inr (.inl ⟨rfl, h1⟩)
        · exact .inr (.inr (.inr ⟨rfl, h1⟩))

theorem ltS_irrefl (a : ByteArray) : ltS a a = false := bl_irrefl _
theorem ltS_trans {a b c : ByteArray} (h1 : ltS a b = true) (h2 : ltS b c = true) : ltS a c = true := bl_trans h1 h2
theorem ltS_tri (a b : ByteArray) : ltS a b = true ∨ a = b ∨ ltS b a = true := by
  rcases bl_tri a.toList b.toList with h | h | h
  · exact .inl h
  · exact .inr (.inl (toList_inj h))
  · exact .inr (.inr h)
theorem ltS_asymm {a b : ByteArray} (h : ltS a b = true) : ltS b a = false := by
  cases h' : ltS b a
  · rfl
  · have := ltS_trans h h'; rw [ltS_irrefl] at this; cases this
theorem leS_not {a b : ByteArray} : leS a b = false ↔ ltS b a = true := by
  unfold leS
  constructor
  · intro h
    simp only [Bool.or_eq_false_iff, beq_eq_false_iff_ne] at h
    rcases ltS_tri a b with h1 | h1 | h1
    · unfold ltS at h1; rw [h1] at h; simp at h
    · exact absurd (by rw [h1]) h.2
    · exact h1
  · intro h
    have h1 := ltS_asymm h
    unfold ltS at h1
    rw [h1]
    simp only [Bool.false_or, beq_eq_false_iff_ne]
    intro e
    rw [toList_inj e, ltS_irrefl] at h
    cases h

abbrev Sorted (ns : List ByteArray) : Prop := ns.Pairwise (fun a b => ltS a b = true)

theorem wellL_sorted : ∀ {p : Option ByteArray} {ns : List ByteArray} {ks : List N}, wellL p ns ks = true → Sorted ns ∧ (∀ q, p = some q → ∀ x ∈ ns, ltS q x = true) ∧ (∀ x ∈ ns, nameB x = true) ∧ ∀ i, i < ns.length → ∃ k, ks[i]? = some k ∧ k.well = true
  | p, [], ks, _ => ⟨List.Pairwise.nil, by simp, by simp, by simp⟩
  | p, s :: ns, [], h => by rw [wellL] at h; cases h
  | p, s :: ns, k :: ks, h => by
    rw [wellL] at h
    simp only [Bool.and_eq_true, Bool.not_eq_true'] at h
    obtain ⟨⟨⟨h1, h2⟩, h3⟩, h4⟩ := h
    obtain ⟨i1, i2, i3, i4⟩ := wellL_sorted h4
    refine ⟨List.Pairwise.cons (fun x hx => i2 s rfl x hx) i1, ?_, ?_, ?_⟩
    · rintro q rfl x hx
      have hq : ltS q s = true := leS_not.1 (by simpa using h2)
      rcases List.mem_cons.1 hx with rfl | hx
      · exact hq
      · exact ltS_trans hq (i2 s rfl x hx)
    · intro x hx
      rcases List.mem_cons.1 hx with rfl | hx
      · exact h1
      · exact i3 x hx
    · intro i hi
      cases i with
      | zero => exact ⟨k, rfl, h3⟩
      | succ i => exact i4 i (by simpa using hi)

/-- How many names stand ahead of a name. -/
def posOf (s : ByteArray) : List ByteArray → Nat
  | [] => 0
  | x :: l => if ltS x s then posOf s l + 1 else 0

theorem posOf_le (s : ByteArray) : ∀ l : List ByteArray, posOf s l ≤ l.length
  | [] => Nat.le_refl _
  | x :: l => by
    rw [posOf]; split
    · have := posOf_le s l; simp; omega
    · simp
theorem posOf_below (s : ByteArray) : ∀ (l : List ByteArray) (t : Nat) (x : ByteArray), t < posOf s l → l[t]? = some x → ltS x s = true
  | [], t, x, h, _ => by simp [posOf] at h
  | y :: l, t, x, h, hx => by
    rw [posOf] at h
    split at h
    · rename_i hy
      cases t with
      | zero => simp at hx; rw [← hx]; exact hy
      | succ t => exact posOf_below s l t x (by omega) (by simpa using hx)
    · omega
theorem posOf_above (s : ByteArray) : ∀ (l : List ByteArray), Sorted l → ∀ (t : Nat) (x : ByteArray), posOf s l ≤ t → l[t]? = some x → ltS x s = false
  | [], _, t, x, _, hx => by simp at hx
  | y :: l, hs, t, x, h, hx => by
    rw [posOf] at h
    have hs' := List.pairwise_cons.1 hs
    split at h
    · cases t with
      | zero => omega
      | succ t => exact posOf_above s l hs'.2 t x (by omega) (by simpa using hx)
    · rename_i hy
      have hy' : ltS y s = false := by simpa using hy
      cases t with
      | zero => simp at hx; rw [← hx]; exact hy'
      | succ t =>
        have hm : x ∈ l := List.mem_of_getElem? (by simpa using hx)
        have hyx := hs'.1 x hm
        cases h2 : ltS x s
        · rfl
        · have := ltS_trans hyx h2; rw [hy'] at this; cases this
theorem ixFrom_pos (s : ByteArray) : ∀ (l : List ByteArray) (j : Nat), Sorted l → ixFrom s j l = if l[posOf s l]? = some s then some (j + posOf s l) else none
  | [], j, _ => by simp [ixFrom]
  | y :: l, j, hs => by
    have hs' := List.pairwise_cons.1 hs
    rw [ixFrom, posOf]
    by_cases e : y = s
    · subst e
      simp [ltS_irrefl]
    · rw [if_neg e]
      by_cases hy : ltS y s = true
      · rw [if_pos hy, ixFrom_pos s l (j + 1) hs'.2]
        simp only [List.getElem?_cons_succ]
        split
        · congr 1; omega
        · rfl
      · rw [if_neg hy]
        have : ¬ (y :: l)[0]? = some s := by simpa using e
        rw [if_neg this, ixFrom_none]
        intro hm
        exact hy (hs'.1 s hm)

theorem bs_pos (s : ByteArray) (ns : List ByteArray) (hs : Sorted ns) : Lib.bsGo (fun t => Op.bytesLess (ns.getD t s).toList s.toList) ns.length 0 ns.length = posOf s ns := by
  refine Lib.bsGo_spec (fun t => Op.bytesLess (ns.getD t s).toList s.toList) (posOf s ns) ?_ ?_ ns.length 0 ns.length (by omega) (Nat.zero_le _) (posOf_le s ns)
  · intro t ht
    have hl : t < ns.length := Nat.lt_of_lt_of_le ht (posOf_le s ns)
    have := posOf_below s ns t ns[t] ht (List.getElem?_eq_getElem hl)
    simpa [List.getD, List.getElem?_eq_getElem hl] using (show Op.bytesLess _ _ = _ from this)
  · intro t ht
    by_cases hl : t < ns.length
    · have := posOf_above s ns hs t ns[t] ht (List.getElem?_eq_getElem hl)
      simpa [List.getD, List.getElem?_eq_getElem hl] using (show Op.bytesLess _ _ = _ from this)
    · have := ltS_irrefl s
      simpa [List.getD, List.getElem?_eq_none (by omega : ns.length ≤ t)] using (show Op.bytesLess _ _ = _ from this)

theorem bsearch_any {B : Nat} (hB : B ≤ 35184372088832) {S : Nat → Prop} {w : World} {v : Value} {ns : List ByteArray} (s : ByteArray) (h : Strs B S w v ns) (hs : Sorted ns) :
    Calls Try.prog 129 #[v, .string s] w fun e w' => e = .returned (.tuple #[.int .i64 (posOf s ns : Nat), .bool (ixFrom s 0 ns).isSome]) ∧ Ext w w' := by
  obtain ⟨A, c, rfl, hc, hm, hl, _, g⟩ := h
  by_cases hz : ns.length = 0
  · have e := List.eq_nil_of_length_eq_zero hz
    subst e
    refine (Try.slices_BinarySearch_string_empty A c s w).mono ?_
    rintro e w' ⟨rfl, rfl⟩
    exact ⟨rfl, Below.refl _ _⟩
  · obtain ⟨b, o, rfl, _, _, k⟩ := g (by omega)
    refine (Try.slices_BinarySearch_string b o ns.length c (fun t => ns.getD t s) s w (by omega) (fun j hj => k j _ (by simp [List.getD, List.getElem?_eq_getElem hj]))).mono ?_
    rintro e w' ⟨rfl, q, rfl⟩
    refine ⟨?_, Ext.drewN' _ _⟩
    rw [bs_pos s ns hs, ixFrom_pos s ns 0 hs]
    have : (decide (posOf s ns < ns.length ∧ ns.getD (posOf s ns) s = s)) = (if ns[posOf s ns]? = some s then some (0 + posOf s ns) else none).isSome := by
      by_cases hp : posOf s ns < ns.length
      · rw [List.getElem?_eq_getElem hp]
        simp only [List.getD, List.getElem?_eq_getElem hp, Option.getD_some, Option.some.injEq]
        by_cases e : ns[posOf s ns] = s
        · rw [if_pos e]; simp [hp, e]
        · rw [if_neg e]; simp [e]
      · rw [List.getElem?_eq_none (by omega)]
        simp [hp]
    rw [this]

theorem N.well_dir {tx : ByteArray} {ns : List ByteArray} {ks : List N} (h : (N.mk 2 tx ns ks).well = true) :
    tx.toList = [] ∧ Sorted ns ∧ ns.length = ks.length ∧ (∀ x ∈ ns, nameB x = true) ∧ (∀ k ∈ ks, k.well = true) ∧ wellL none ns ks = true := by
  rw [N.well] at h
  simp at h
  obtain ⟨⟨h1, h2⟩, h3⟩ := h
  obtain ⟨i1, _, i3, i4⟩ := wellL_sorted h3
  refine ⟨h1, i1, h2, i3, ?_, h3⟩
  intro k hk
  obtain ⟨i, hi, hk'⟩ := List.getElem_of_mem hk
  obtain ⟨k2, e2, w2⟩ := i4 i (by omega)
  rw [List.getElem?_eq_getElem hi] at e2
  injection e2 with e2
  rw [← hk', e2]; exact w2
theorem N.well_leaf {k : Int} {tx : ByteArray} {ns : List ByteArray} {ks : List N} (h : (N.mk k tx ns ks).well = true) (hk : k ≠ 2) : ns = [] ∧ ks = [] := by
  rw [N.well] at h
  by_cases h1 : k = 1
  · rw [if_pos h1] at h; simp at h; exact ⟨h.1.1, h.1.2⟩
  · by_cases h3 : k = 3
    · rw [if_neg h1, if_pos h3] at h; simp at h; exact ⟨h.1.1.1, h.1.1.2⟩
    · simp [h1, h3, hk] at h

end Go.Proofs.Ytocndkhgopjhhaa
/- Trees: what is put at a place, or taken away; what stands where then. The plain law. -/
namespace Go.Proofs.Ytocndkhgopjhhaa
open Go.RowKit

theorem N.names_mk (k : Int) (t : ByteArray) (ns : List ByteArray) (ks : List N) : (N.mk k t ns ks).names = ns := rfl
theorem N.kids_mk (k : Int) (t : ByteArray) (ns : List ByteArray) (ks : List N) : (N.mk k t ns ks).kids = ks := rfl
theorem insertIdx_td {α : Type} {a : α} : ∀ {i : Nat} {l : List α}, i ≤ l.length → l.insertIdx i a = l.take i ++ a :: l.drop i
  | 0, l, _ => by simp
  | i + 1, [], h => by simp at h
  | i + 1, x :: l, h => by rw [List.insertIdx_succ_cons, insertIdx_td (by simpa using h)]; simp

/-- What stands in a directory by a name. -/
def N.kid (t : N) (s : ByteArray) : Option N :=
  match ixFrom s 0 t.names with
  | none => none
  | some i => t.kids[i]?
theorem N.get_cons (t : N) (s : ByteArray) (r : List ByteArray) : t.get (s :: r) = (t.kid s).bind (·.get r) := by
  rw [N.get, N.kid]
  cases ixFrom s 0 t.names with
  | none => rfl
  | some i =>
    simp only
    cases t.kids[i]? <;> rfl

/-- Well formed: a directory whose names are in order, a kid a name. -/
structure DirW (t : N) : Prop where
  kind : t.kind = 2
  text : t.text.toList = []
  sorted : Sorted t.names
  len : t.names.length = t.kids.length
  name : ∀ x ∈ t.names, nameB x = true
  well : ∀ k ∈ t.kids, k.well = true

theorem wellL_mk : ∀ {p : Option ByteArray} {ns : List ByteArray} {ks : List N}, Sorted ns → (∀ q, p = some q → ∀ x ∈ ns, ltS q x = true) → (∀ x ∈ ns, nameB x = true) → ns.length = ks.length → (∀ k ∈ ks, k.well = true) → wellL p ns ks = true
  | p, [], ks, _, _, _, _, _ => by rw [wellL]
  | p, s :: ns, [], _, _, _, h, _ => by simp at h
  | p, s :: ns, k :: ks, h1, h2, h3, h4, h5 => by
    have h1' := List.pairwise_cons.1 h1
    rw [wellL, h3 s (by simp), h5 k (by simp), wellL_mk h1'.2 (fun q hq x hx => by injection hq with hq; subst hq; exact h1'.1 x hx) (fun x hx => h3 x (by simp [hx])) (by simpa using h4) (fun k hk => h5 k (by simp [hk]))]
    have : (p.any (leS s)) = false := by
      cases p with
      | none => rfl
      | some q =>
        have := leS_not.2 (h2 q rfl s (by simp))
        simpa using this
    rw [this]
    rfl

theorem DirW.of {t : N} (h : t.well = true) (hk : t.kind = 2) : DirW t := by
  obtain ⟨k, tx, ns, ks⟩ := t
  have e : k = 2 := hk
  subst e
  obtain ⟨h1, h2, h3, h4, h5, _⟩ := N.well_dir h
  exact ⟨rfl, h1, h2, h3, h4, h5⟩
theorem DirW.wf {t : N} (h : DirW t) : t.well = true := by
  obtain ⟨k, tx, ns, ks⟩ := t
  have e : k = 2 := h.kind
  subst e
  have h1 : tx.toList = [] := h.text
  have h2 : ns.length = ks.length := h.len
  rw [N.well, if_neg (by omega), if_neg (by omega), if_pos rfl, h1, show wellL none ns ks = true from wellL_mk (p := none) h.sorted (fun _ h => by cases h) h.name h.len h.well]
  simp [h2]

theorem kind_dir {t : N} (h : t.well = true) {s : ByteArray} {k : N} (hk : t.kid s = some k) : t.kind = 2 := by
  obtain ⟨kd, tx, ns, ks⟩ := t
  by_cases e : kd = 2
  · exact e
  · obtain ⟨rfl, rfl⟩ := N.well_leaf h e
    simp [N.kid, N.names, ixFrom] at hk

theorem ix_iff {ns : List ByteArray} (hs : Sorted ns) {s : ByteArray} {i : Nat} : ixFrom s 0 ns = some i ↔ ns[i]? = some s := by
  constructor
  · intro h
    obtain ⟨_, _, h3⟩ := ixFrom_lt h
    simpa using h3
  · intro h
    have hp := ixFrom_pos s ns 0 hs
    have hi := (List.getElem?_eq_some_iff.1 h).1
    have : posOf s ns = i := by
      rcases Nat.lt_trichotomy (posOf s ns) i with h1 | h1 | h1
      · -- the name at posOf is not below s, and it is below what stands at i
        have hl : posOf s ns < ns.length := by omega
        have h2 := posOf_above s ns hs (posOf s ns) ns[posOf s ns] (Nat.le_refl _) (List.getElem?_eq_getElem hl)
        have h3 := List.pairwise_iff_getElem.1 hs (posOf s ns) i hl hi h1
        have h4 : ns[i] = s := by rw [List.getElem?_eq_getElem hi] at h; injection h
        rw [h4, h2] at h3
        cases h3
      · exact h1
      · have := posOf_below s ns i s h1 h
        rw [ltS_irrefl] at this; cases this
    rw [hp, this, if_pos h]
    simp
theorem ix_none {ns : List ByteArray} {s : ByteArray} : ixFrom s 0 ns = none ↔ ∀ i : Nat, ns[i]? ≠ some s := by
  rw [ixFrom_none, List.mem_iff_getElem?]
  simp
theorem ix_pos {ns : List ByteArray} (hs : Sorted ns) {s : ByteArray} {i : Nat} (h : ixFrom s 0 ns = some i) : posOf s ns = i := by
  have := ixFrom_pos s ns 0 hs
  rw [h] at this
  split at this
  · injection this with this; omega
  · cases this

theorem DirW.kid_iff {t : N} (h : DirW t) {s : ByteArray} {k : N} : t.kid s = some k ↔ ∃ i : Nat, t.names[i]? = some s ∧ t.kids[i]? = some k := by
  unfold N.kid
  constructor
  · intro hk
    split at hk
    · cases hk
    · rename_i i hi
      exact ⟨i, (ix_iff h.sorted).1 hi, hk⟩
  · rintro ⟨i, h1, h2⟩
    rw [(ix_iff h.sorted).2 h1]
    exact h2
theorem DirW.kid_well {t : N} (h : DirW t) {s : ByteArray} {k : N} (hk : t.kid s = some k) : k.well = true := by
  obtain ⟨i, _, h2⟩ := h.kid_iff.1 hk
  exact h.well k (List.mem_of_getElem? h2)

/-- Put a node by a name. -/
def N.put1 (x : N) (s : ByteArray) (t : N) : N :=
  match ixFrom s 0 t.names with
  | some i => .mk t.kind t.text t.names (t.kids.set i x)
  | none => .mk t.kind t.text (t.names.insertIdx (posOf s t.names) s) (t.kids.insertIdx (posOf s t.names) x)
/-- Take away what stands by a name. -/
def N.del1 (s : ByteArray) (t : N) : N :=
  match ixFrom s 0 t.names with
  | some i => .mk t.kind t.text (t.names.eraseIdx i) (t.kids.eraseIdx i)
  | none => t
/-- Change the directory at a place's parent. -/
def N.chg (f : ByteArray → N → N) : List ByteArray → N → N
  | [], t => t
  | [s], t => f s t
  | s :: r, t => match ixFrom s 0 t.names with
    | none => t
    | some i => match t.kids[i]? with
      | none => t
      | some k => if k.kind = 2 then .mk t.kind t.text t.names (t.kids.set i (N.chg f r k)) else t
def N.put (t : N) (p : List ByteArray) (x : N) : N := N.chg (N.put1 x) p t
def N.del (t : N) (p : List ByteArray) : N := N.chg N.del1 p t
theorem snoc_or {α : Type} (l : List α) : l = [] ∨ ∃ q s, l = q ++ [s] := by
  rcases List.eq_nil_or_concat l with h | ⟨q, s, h⟩
  · exact .inl h
  · exact .inr ⟨q, s, by rw [h, List.concat_eq_append]⟩

theorem pos_insert {ns : List ByteArray} (hs : Sorted ns) {s : ByteArray} (hn : ixFrom s 0 ns = none) : Sorted (ns.insertIdx (posOf s ns) s) := by
  have hle := posOf_le s ns
  have hn' := ix_none.1 hn
  rw [insertIdx_td hle, Sorted, List.pairwise_append]
  refine ⟨hs.sublist (List.take_sublist _ _), List.pairwise_cons.2 ⟨fun x hx => ?_, hs.sublist (List.drop_sublist _ _)⟩, fun a ha b hb => ?_⟩
  · obtain ⟨i, hi⟩ := List.mem_iff_getElem?.1 hx
    rw [List.getElem?_drop] at hi
    have := posOf_above s ns hs _ x (by omega) hi
    rcases ltS_tri s x with h | h | h
    · exact h
    · subst h; exact absurd hi (hn' _)
    · rw [this] at h; cases h
  · obtain ⟨i, hi⟩ := List.mem_iff_getElem?.1 ha
    have hil : i < posOf s ns := by
      have := (List.getElem?_eq_some_iff.1 hi).1
      rw [List.length_take] at this; omega
    rw [List.getElem?_take_of_lt hil] at hi
    have h1 := posOf_below s ns i a hil hi
    rcases List.mem_cons.1 hb with rfl | hb
    · exact h1
    · obtain ⟨j, hj⟩ := List.mem_iff_getElem?.1 hb
      rw [List.getElem?_drop] at hj
      have := posOf_above s ns hs _ b (by omega) hj
      rcases ltS_tri s b with h | h | h
      · exact ltS_trans h1 h
      · subst h; exact absurd hj (hn' _)
      · rw [this] at h; cases h

theorem DirW.put1 {t x : N} {s : ByteArray} (h : DirW t) (hs : nameB s = true) (hx : x.well = true) : DirW (N.put1 x s t) := by
  unfold N.put1
  cases hi : ixFrom s 0 t.names with
  | some i =>
    refine ⟨h.kind, h.text, h.sorted, ?_, h.name, ?_⟩
    · show t.names.length = (t.kids.set i x).length
      rw [List.length_set]; exact h.len
    · intro k hk
      rcases List.mem_or_eq_of_mem_set hk with hk | rfl
      · exact h.well k hk
      · exact hx
  | none =>
    have hle := posOf_le s t.names
    have hlen := h.len
    refine ⟨h.kind, h.text, pos_insert h.sorted hi, ?_, ?_, ?_⟩
    · show (t.names.insertIdx _ s).length = (t.kids.insertIdx _ x).length
      rw [List.length_insertIdx_of_le_length hle, List.length_insertIdx_of_le_length (by omega), hlen]
    · intro y hy
      rcases (List.mem_insertIdx hle).1 hy with rfl | hy
      · exact hs
      · exact h.name y hy
    · intro k hk
      rcases (List.mem_insertIdx (by omega)).1 hk with rfl | hk
      · exact hx
      · exact h.well k hk
theorem DirW.del1 {t : N} {s : ByteArray} (h : DirW t) : DirW (N.del1 s t) := by
  unfold N.del1
  cases hi : ixFrom s 0 t.names with
  | none => exact h
  | some i =>
    have hil : i < t.names.length := (List.getElem?_eq_some_iff.1 ((ix_iff h.sorted).1 hi)).1
    have hlen := h.len
    refine ⟨h.kind, h.text, h.sorted.eraseIdx i, ?_, fun x hx => h.name x (List.mem_of_mem_eraseIdx hx), fun k hk => h.well k (List.mem_of_mem_eraseIdx hk)⟩
    show (t.names.eraseIdx i).length = (t.kids.eraseIdx i).length
    rw [List.length_eraseIdx_of_lt hil, List.length_eraseIdx_of_lt (by omega), hlen]

theorem DirW.kid_put1 {t x : N} {s : ByteArray} (h : DirW t) (hs : nameB s = true) (hx : x.well = true) (s' : ByteArray) : (N.put1 x s t).kid s' = if s' = s then some x else t.kid s' := by
  have hw := h.put1 hs hx
  have hlen := h.len
  have key : ∀ k, (N.put1 x s t).kid s' = some k ↔ (if s' = s then some x else t.kid s') = some k := by
    intro k
    rw [hw.kid_iff]
    unfold N.put1
    cases hi : ixFrom s 0 t.names with
    | some i =>
      have hi' := (ix_iff h.sorted).1 hi
      have hil : i < t.kids.length := by have := (List.getElem?_eq_some_iff.1 hi').1; omega
      simp only [N.names_mk, N.kids_mk]
      constructor
      · rintro ⟨j, h1, h2⟩
        by_cases e : s' = s
        · subst e
          have : j = i := by
            have := (ix_iff h.sorted).2 h1
            rw [hi] at this; injection this with this; exact this.symm
          subst this
          rw [List.getElem?_set_self hil] at h2
          rw [if_pos rfl]; exact h2
        · rw [if_neg e, h.kid_iff]
          have hne : i ≠ j := fun e2 => by subst e2; rw [hi'] at h1; injection h1 with h1; exact e h1.symm
          rw [List.getElem?_set_ne hne] at h2
          exact ⟨j, h1, h2⟩
      · intro hk
        by_cases e : s' = s
        · subst e
          rw [if_pos rfl] at hk
          exact ⟨i, hi', by rw [List.getElem?_set_self hil]; exact hk⟩
        · rw [if_neg e, h.kid_iff] at hk
          obtain ⟨j, h1, h2⟩ := hk
          have hne : i ≠ j := fun e2 => by subst e2; rw [hi'] at h1; injection h1 with h1; exact e h1.symm
          exact ⟨j, h1, by rw [List.getElem?_set_ne hne]; exact h2⟩
    | none =>
      have hn := ix_none.1 hi
      have hle := posOf_le s t.names
      simp only [N.names_mk, N.kids_mk]
      generalize posOf s t.names = p at hle
      constructor
      · rintro ⟨j, h1, h2⟩
        rcases Nat.lt_trichotomy j p with hj | hj | hj
        · rw [List.getElem?_insertIdx_of_lt hj] at h1 h2
          have e : s' ≠ s := fun e => by subst e; exact hn _ h1
          rw [if_neg e, h.kid_iff]; exact ⟨j, h1, h2⟩
        · subst hj
          rw [List.getElem?_insertIdx_self, if_pos hle] at h1
          rw [List.getElem?_insertIdx_self, if_pos (by omega)] at h2
          injection h1 with h1
          rw [if_pos h1.symm]; exact h2
        · rw [List.getElem?_insertIdx_of_gt hj] at h1 h2
          have e : s' ≠ s := fun e => by subst e; exact hn _ h1
          rw [if_neg e, h.kid_iff]; exact ⟨_, h1, h2⟩
      · intro hk
        by_cases e : s' = s
        · subst e
          rw [if_pos rfl] at hk
          exact ⟨p, by rw [List.getElem?_insertIdx_self, if_pos hle], by rw [List.getElem?_insertIdx_self, if_pos (by omega)]; exact hk⟩
        · rw [if_neg e, h.kid_iff] at hk
          obtain ⟨j, h1, h2⟩ := hk
          by_cases hj : j < p
          · exact ⟨j, by rw [List.getElem?_insertIdx_of_lt hj]; exact h1, by rw [List.getElem?_insertIdx_of_lt hj]; exact h2⟩
          · exact ⟨j + 1, by rw [List.getElem?_insertIdx_of_gt (by omega)]; simpa using h1, by rw [List.getElem?_insertIdx_of_gt (by omega)]; simpa using h2⟩
  cases ha : (N.put1 x s t).kid s' with
  | some k => exact ((key k).1 ha).symm
  | none =>
    cases hb : (if s' = s then some x else t.kid s') with
    | none => rfl
    | some k => rw [(key k).2 hb] at ha; cases ha

theorem DirW.kid_del1 {t : N} {s : ByteArray} (h : DirW t) (s' : ByteArray) : (N.del1 s t).kid s' = if s' = s then none else t.kid s' := by
  have hw := h.del1 (s := s)
  have hlen := h.len
  have key : ∀ k, (N.del1 s t).kid s' = some k ↔ (if s' = s then none else t.kid s') = some k := by
    intro k
    rw [hw.kid_iff]
    unfold N.del1
    cases hi : ixFrom s 0 t.names with
    | some i =>
      have hi' := (ix_iff h.sorted).1 hi
      simp only [N.names_mk, N.kids_mk]
      have inj : ∀ j, t.names[j]? = some s → j = i := fun j hj => by
        have := (ix_iff h.sorted).2 hj
        rw [hi] at this; injection this with this; exact this.symm
      constructor
      · rintro ⟨j, h1, h2⟩
        rcases Nat.lt_or_ge j i with hj | hj
        · rw [List.getElem?_eraseIdx_of_lt hj] at h1 h2
          have e : s' ≠ s := fun e => by subst e; have := inj _ h1; omega
          rw [if_neg e, h.kid_iff]; exact ⟨j, h1, h2⟩
        · rw [List.getElem?_eraseIdx_of_ge hj] at h1 h2
          have e : s' ≠ s := fun e => by subst e; have := inj _ h1; omega
          rw [if_neg e, h.kid_iff]; exact ⟨_, h1, h2⟩
      · intro hk
        by_cases e : s' = s
        · rw [if_pos e] at hk; cases hk
        · rw [if_neg e, h.kid_iff] at hk
          obtain ⟨j, h1, h2⟩ := hk
          have hne : j ≠ i := fun e2 => by subst e2; rw [hi'] at h1; injection h1 with h1; exact e h1.symm
          by_cases hj : j < i
          · exact ⟨j, by rw [List.getElem?_eraseIdx_of_lt hj]; exact h1, by rw [List.getElem?_eraseIdx_of_lt hj]; exact h2⟩
          · have e1 : j - 1 + 1 = j := by omega
            exact ⟨j - 1, by rw [List.getElem?_eraseIdx_of_ge (by omega), e1]; exact h1, by rw [List.getElem?_eraseIdx_of_ge (by omega), e1]; exact h2⟩
    | none =>
      have hn := ix_none.1 hi
      simp only
      rw [← h.kid_iff]
      by_cases e : s' = s
      · subst e
        rw [if_pos rfl, h.kid_iff]
        constructor
        · rintro ⟨j, h1, _⟩; exact absurd h1 (hn j)
        · intro h; cases h
      · rw [if_neg e]
  cases ha : (N.del1 s t).kid s' with
  | some k => exact ((key k).1 ha).symm
  | none =>
    cases hb : (if s' = s then none else t.kid s') with
    | none => rfl
    | some k => rw [(key k).2 hb] at ha; cases ha

/-- A place's parent is there, a directory (and those ahead of it). -/
def OpenP (t : N) : List ByteArray → Prop
  | [] => False
  | [_] => t.kind = 2
  | s :: r => t.kind = 2 ∧ ∃ k, t.kid s = some k ∧ OpenP k r
theorem OpenP.kind {t : N} : ∀ {p : List ByteArray}, OpenP t p → t.kind = 2
  | [], h => h.elim
  | [_], h => h
  | _ :: _ :: _, h => h.1
theorem openP_iff {t : N} : ∀ {p : List ByteArray} (s : ByteArray), t.well = true → (OpenP t (p ++ [s]) ↔ ∃ d, t.get p = some d ∧ d.kind = 2) := by
  intro p
  induction p generalizing t with
  | nil =>
    intro s hw
    rw [List.nil_append, OpenP, N.get_nil]
    exact ⟨fun h => ⟨t, rfl, h⟩, fun ⟨d, h1, h2⟩ => by injection h1 with h1; rw [h1]; exact h2⟩
  | cons a p ih =>
    intro s hw
    have e : a :: p ++ [s] = a :: (p ++ [s]) := rfl
    rw [e, N.get_cons]
    have hne : p ++ [s] ≠ [] := by simp
    obtain ⟨b, q, hb⟩ : ∃ b q, p ++ [s] = b :: q := by
      cases h : p ++ [s] with
      | nil => exact absurd h hne
      | cons b q => exact ⟨b, q, rfl⟩
    rw [hb, OpenP, ← hb]
    · constructor
      · rintro ⟨hk, k, h1, h2⟩
        have hd := DirW.of hw hk
        obtain ⟨d, h3, h4⟩ := (ih s (hd.kid_well h1)).1 h2
        exact ⟨d, by rw [h1]; exact h3, h4⟩
      · rintro ⟨d, h1, h2⟩
        cases hk : t.kid a with
        | none => rw [hk] at h1; cases h1
        | some k =>
          rw [hk] at h1
          have hd := DirW.of hw (kind_dir hw hk)
          exact ⟨hd.kind, k, rfl, (ih s (hd.kid_well hk)).2 ⟨d, h1, h2⟩⟩
    · intro h; cases h

/-- What change asks of what is done at the parent: that it does nothing at other names, and keeps what is well formed. -/
structure Loc (f : ByteArray → N → N) (s : ByteArray) (y : Option N) : Prop where
  dir : ∀ t, DirW t → DirW (f s t)
  kid : ∀ t s', DirW t → (f s t).kid s' = if s' = s then y else t.kid s'
theorem Loc.put {x : N} {s : ByteArray} (hs : nameB s = true) (hx : x.well = true) : Loc (N.put1 x) s (some x) := ⟨fun _ h => h.put1 hs hx, fun _ s' h => h.kid_put1 hs hx s'⟩
theorem Loc.del {s : ByteArray} : Loc N.del1 s none := ⟨fun _ h => h.del1, fun _ s' h => h.kid_del1 s'⟩

theorem N.chg_one (f : ByteArray → N → N) (s : ByteArray) (t : N) : N.chg f [s] t = f s t := by rw [N.chg]
theorem N.chg_step {f : ByteArray → N → N} {s a : ByteArray} {r : List ByteArray} {t k : N} (_hd : DirW t) (hk : t.kid s = some k) (hkd : k.kind = 2) : N.chg f (s :: a :: r) t = N.put1 (N.chg f (a :: r) k) s t := by
  unfold N.kid at hk
  rw [N.chg]
  · unfold N.put1
    cases hi : ixFrom s 0 t.names with
    | none => rw [hi] at hk; cases hk
    | some i =>
      rw [hi] at hk
      simp only at hk ⊢
      rw [hk]
      simp only
      rw [if_pos hkd]
  · intro h; cases h

/-- What change does, at a place that is open: the parent's name, and what stands there then. -/
theorem chg_law {f : ByteArray → N → N} {y : Option N} : ∀ {p : List ByteArray} {s : ByteArray} {t : N}, t.well = true → OpenP t (p ++ [s]) → Loc f s y →
    DirW (N.chg f (p ++ [s]) t) ∧ (N.chg f (p ++ [s]) t).get (p ++ [s]) = y ∧ (∀ q, ¬ (p ++ [s]) <+: q → ¬ q <+: (p ++ [s]) → (N.chg f (p ++ [s]) t).get q = t.get q) := by
  intro p
  induction p with
  | nil =>
    intro s t hw ho hl
    have hd := DirW.of hw ho.kind
    rw [List.nil_append, N.chg_one]
    refine ⟨hl.dir t hd, ?_, fun q h1 h2 => ?_⟩
    · rw [N.get_cons, hl.kid t s hd, if_pos rfl]
      cases y with
      | none => rfl
      | some k => exact N.get_nil k
    · cases q with
      | nil => exact absurd (List.nil_prefix) h2
      | cons b q =>
        rw [N.get_cons, N.get_cons, hl.kid t b hd]
        by_cases e : b = s
        · subst e; exact absurd (by simp) h1
        · rw [if_neg e]
  | cons a p ih =>
    intro s t hw ho hl
    obtain ⟨b, q, hb⟩ : ∃ b q, p ++ [s] = b :: q := by
      cases h : p ++ [s] with
      | nil => simp at h
      | cons b q => exact ⟨b, q, rfl⟩
    have e : a :: p ++ [s] = a :: (p ++ [s]) := rfl
    rw [e] at ho ⊢
    have hd := DirW.of hw ho.kind
    obtain ⟨k, hk, hok⟩ : ∃ k, t.kid a = some k ∧ OpenP k (p ++ [s]) := by
      rw [hb] at ho ⊢
      exact ho.2
    have hkw := hd.kid_well hk
    obtain ⟨i1, i2, i3⟩ := ih hkw hok hl
    have hkk := hok.kind
    have hst : N.chg f (a :: (p ++ [s])) t = N.put1 (N.chg f (p ++ [s]) k) a t := by
      rw [hb]; exact N.chg_step hd hk hkk
    have hna : nameB a = true := by
      obtain ⟨i, h1, _⟩ := hd.kid_iff.1 hk
      exact hd.name a (List.mem_of_getElem? h1)
    rw [hst]
    refine ⟨hd.put1 hna i1.wf, ?_, fun q' h1 h2 => ?_⟩
    · rw [N.get_cons, hd.kid_put1 hna i1.wf, if_pos rfl]
      exact i2
    · cases q' with
      | nil => exact absurd (List.nil_prefix) h2
      | cons c q' =>
        rw [N.get_cons, N.get_cons, hd.kid_put1 hna i1.wf]
        by_cases e : c = a
        · subst e
          rw [if_pos rfl, hk]
          show (N.chg f (p ++ [s]) k).get q' = k.get q'
          refine i3 q' (fun h => h1 ?_) (fun h => h2 ?_)
          · exact (List.cons_prefix_cons).2 ⟨rfl, h⟩
          · exact (List.cons_prefix_cons).2 ⟨rfl, h⟩
        · rw [if_neg e]

/-- what is found is well formed. -/
theorem get_well {t : N} : ∀ {p : List ByteArray} {x : N}, t.well = true → t.get p = some x → x.well = true := by
  intro p
  induction p generalizing t with
  | nil => intro x hw h; rw [N.get_nil] at h; injection h with h; rw [← h]; exact hw
  | cons a p ih =>
    intro x hw h
    rw [N.get_cons] at h
    cases hk : t.kid a with
    | none => rw [hk] at h; cases h
    | some k =>
      rw [hk] at h
      exact ih ((DirW.of hw (kind_dir hw hk)).kid_well hk) h
/-- the parent of what is found is a directory. -/
theorem open_of_get {t : N} {p : List ByteArray} {s : ByteArray} {x : N} (hw : t.well = true) (h : t.get (p ++ [s]) = some x) : OpenP t (p ++ [s]) := by
  rw [openP_iff s hw]
  induction p generalizing t with
  | nil =>
    rw [List.nil_append, N.get_cons] at h
    cases hk : t.kid s with
    | none => rw [hk] at h; cases h
    | some k => exact ⟨t, N.get_nil t, kind_dir hw hk⟩
  | cons a p ih =>
    have e : a :: p ++ [s] = a :: (p ++ [s]) := rfl
    rw [e, N.get_cons] at h
    rw [N.get_cons]
    cases hk : t.kid a with
    | none => rw [hk] at h; cases h
    | some k =>
      rw [hk] at h
      exact ih ((DirW.of hw (kind_dir hw hk)).kid_well hk) h
end Go.Proofs.Ytocndkhgopjhhaa
/- touchstoneref06.Under, Same. -/
namespace Go.Proofs.Ytocndkhgopjhhaa
open Go.RowKit

/-- Do the texts b begin by the texts a? -/
def underL : List ByteArray → List ByteArray → Bool
  | [], _ => true
  | _ :: _, [] => false
  | x :: a, y :: b => decide (x = y) && underL a b
theorem underL_iff : ∀ {a b : List ByteArray}, underL a b = true ↔ ∃ r, b = a ++ r
  | [], b => ⟨fun _ => ⟨b, rfl⟩, fun _ => by unfold underL; rfl⟩
  | x :: a, [] => ⟨fun h => by simp [underL] at h, fun ⟨r, h⟩ => by simp at h⟩
  | x :: a, y :: b => by
    rw [underL, Bool.and_eq_true, decide_eq_true_eq, underL_iff]
    constructor
    · rintro ⟨rfl, r, rfl⟩; exact ⟨r, rfl⟩
    · rintro ⟨r, h⟩
      injection h with h1 h2
      exact ⟨h1.symm, r, h2⟩
theorem underL_long {a b : List ByteArray} (h : b.length < a.length) : underL a b = false := by
  cases e : underL a b
  · rfl
  · obtain ⟨r, rfl⟩ := underL_iff.1 e
    simp at h; omega
theorem underL_at {a b : List ByteArray} {j : Nat} (h1 : j < a.length) (h2 : j < b.length) : underL (a.drop j) (b.drop j) = (decide (a[j] = b[j]) && underL (a.drop (j + 1)) (b.drop (j + 1))) := by
  rw [List.drop_eq_getElem_cons h1, List.drop_eq_getElem_cons h2, underL]
theorem underL_end {a b : List ByteArray} {j : Nat} (h1 : ¬ j < a.length) : underL (a.drop j) b = true := by
  rw [List.drop_eq_nil_of_le (by omega)]; unfold underL; rfl

set_option maxRecDepth 100000 in
set_option maxHeartbeats 2000000 in
theorem under6_any {B1 B2 : Nat} {S1 S2 : Nat → Prop} {w : World} {v1 v2 : Value} {a b : List ByteArray} (h1 : Strs B1 S1 w v1 a) (h2 : Strs B2 S2 w v2 b) :
    Calls Try.prog 58 #[v1, v2] w fun e w' => e = .returned (.bool (underL a b)) ∧ Ext w w' := by
  obtain ⟨A1, c1, rfl, hc1, hm1, _, _, g1⟩ := h1
  obtain ⟨A2, c2, rfl, hc2, hm2, _, _, g2⟩ := h2
  unfold maxLen at hm1 hm2
  have G1 := Lib.hid g1
  have G2 := Lib.hid g2
  have hu := (up_rules w).1
  clear g1 g2
  by_cases hl : (b.length : Int) < (a.length : Int)
  · have hl' : b.length < a.length := by omega
    have HL := Lib.hid (underL_long hl')
    go_enter Try.func58, Try.ntmps58
    go_wp2_with fail
    go_ret
    exact ⟨ret_bool HL.out.symm, Below.refl _ _⟩
  have hl' : a.length ≤ b.length := by omega
  have hlb : decide (b.length < a.length) = false := decide_eq_false (by omega)
  clear hl
  go_enter Try.func58, Try.ntmps58
  go_wp2_with fail
  go_loopw [5] (fun i wr => ∃ (j : Nat) (u : Up w), i = .int .i64 j ∧ wr = u.val ∧ j ≤ a.length ∧ underL (a.drop j) (b.drop j) = underL a b) (fun i _ => a.length - (intOf i).toNat)
  case atStart =>
    obtain ⟨u, hu⟩ := Up.self w
    exact ⟨0, u, rfl, hu, Nat.zero_le _, rfl⟩
  case round =>
    obtain ⟨j, u, rfl, rfl, hj1, hy⟩ := hrel
    by_cases hja : j < a.length
    · have hjb : j < b.length := by omega
      rw [underL_at hja hjb] at hy
      obtain ⟨b1, o1, rfl, hS1, hb1, k1⟩ := G1.out (by omega)
      obtain ⟨b2, o2, rfl, hS2, hb2, k2⟩ := G2.out (by omega)
      obtain ⟨x, hx⟩ : ∃ x, a[j] = x := ⟨_, rfl⟩
      obtain ⟨y, hy'⟩ : ∃ y, b[j] = y := ⟨_, rfl⟩
      have q1 := k1 j x (by rw [List.getElem?_eq_getElem hja, hx])
      have q2 := k2 j y (by rw [List.getElem?_eq_getElem hjb, hy'])
      rw [hx, hy'] at hy
      clear k1 k2 hx hy'
      by_cases hxy : x = y
      · have t1 : (x.toList != y.toList) = false := by simp [hxy]
        have t2 : (x.toList == y.toList) = true := by simp [hxy]
        have Hy : Hid (underL (a.drop (j + 1)) (b.drop (j + 1)) = underL a b) := Lib.hid (by rw [← hy, decide_eq_true hxy]; rfl)
        clear hy hxy
        go_wp2_with fail
        refine wp_region_up (by kernel_rfl) (by kernel_rfl) ?_
        repeat (go_big_quiet_step (fail))
        refine wpQuiet_nil ?_
        rintro _ ⟨u3, rfl⟩
        go_wp2_with fail
        go_roundw
        case rel => exact ⟨j + 1, u3, by go_num, rfl, by omega, Hy.out⟩
        case measure => simp [intOf]; omega
      · have t1 : (x.toList != y.toList) = true := by rw [bne_iff_ne]; intro h; exact hxy (toList_inj h)
        have t2 : (x.toList == y.toList) = false := by rw [beq_eq_false_iff_ne]; intro h; exact hxy (toList_inj h)
        have Hy : Hid (underL a b = false) := Lib.hid (by rw [← hy, decide_eq_false hxy]; rfl)
        clear hy hxy
        go_wp2_with fail
        refine wp_region_up (by kernel_rfl) (by kernel_rfl) ?_
        repeat (go_big_quiet_step (fail))
        refine wpQuiet_nil ?_
        rintro _ ⟨u3, rfl⟩
        go_wp2_with fail
        go_ret
        exact ⟨ret_bool Hy.out.symm, u3.ext⟩
    · rw [underL_end hja] at hy
      have Hy := Lib.hid hy
      clear hy
      go_wp2_with fail
      go_ret
      exact ⟨ret_bool Hy.out, u.ext⟩

theorem under_same {a b : List ByteArray} : (decide (a.length = b.length) && underL a b) = decide (a = b) := by
  rw [Bool.eq_iff_iff, Bool.and_eq_true, decide_eq_true_eq, decide_eq_true_eq, underL_iff]
  constructor
  · rintro ⟨h, r, rfl⟩
    have : r = [] := by simpa using h
    subst this; simp
  · rintro rfl; exact ⟨rfl, [], by simp⟩

theorem same6_any {B1 B2 : Nat} {S1 S2 : Nat → Prop} {w : World} {v1 v2 : Value} {a b : List ByteArray} (h1 : Strs B1 S1 w v1 a) (h2 : Strs B2 S2 w v2 b) :
    Calls Try.prog 138 #[v1, v2] w fun e w' => e = .returned (.bool (decide (a = b))) ∧ Ext w w' := by
  have H1 := Lib.hid h1
  have H2 := Lib.hid h2
  obtain ⟨A1, c1, rfl, _⟩ := h1
  obtain ⟨A2, c2, rfl, _⟩ := h2
  have HS := Lib.hid (under_same (a := a) (b := b))
  cases hl : ((a.length : Int) == (b.length : Int))
  · have hne : ¬ a.length = b.length := by intro e; rw [e] at hl; simp at hl
    have HS2 : Hid (decide (a = b) = false) := Lib.hid (by rw [← HS.out, decide_eq_false hne]; rfl)
    clear hne
    go_enter Try.func138, Try.ntmps138
    go_wp2_with fail
    go_ret
    exact ⟨ret_bool HS2.out.symm, Below.refl _ _⟩
  · have he : a.length = b.length := by have : (a.length : Int) = (b.length : Int) := by simpa using hl
                                        omega
    have HS2 : Hid (decide (a = b) = underL a b) := Lib.hid (by rw [← HS.out, decide_eq_true he]; rfl)
    clear he
    go_enter Try.func138, Try.ntmps138
    go_wp2_with (go_at_call 58; refine (under6_any H1.out H2.out).mono ?_; rintro e w1 ⟨rfl, hx1⟩; have Hx1 := Lib.hid hx1; clear hx1)
    go_ret
    exact ⟨ret_bool HS2.out.symm, Hx1.out⟩
end Go.Proofs.Ytocndkhgopjhhaa
/- Trees: Put, Del, Move, Copy as ftree has them; what they come to. The plain law. -/
namespace Go.Proofs.Ytocndkhgopjhhaa
open Go.RowKit

/-- The kind of what stands at a place; 0: nothing. -/
def N.kindAt (t : N) (p : List ByteArray) : Int := ((t.get p).getD N.zero).kind
/-- Is a place open? -/
def openB (t : N) (p : List ByteArray) : Bool :=
  match p.getLast? with
  | none => false
  | some s => nameB s && decide (t.kindAt p.dropLast = 2)
def apartB (t : N) (a b : List ByteArray) : Bool := decide (0 < a.length) && decide (t.kindAt a ≠ 0) && openB t b && !underL b a && !underL a b

def N.tput (t : N) (p : List ByteArray) (x : N) : N := if (x.well && openB t p) = true then t.put p x else t
def N.tdel (t : N) (p : List ByteArray) : N := if p = [] ∨ t.kindAt p = 0 then t else t.del p
def N.tcopy (t : N) (a b : List ByteArray) : N := if apartB t a b = true then t.put b ((t.get a).getD N.zero) else t
def N.tmove (t : N) (a b : List ByteArray) : N := if apartB t a b = true then N.tdel (t.put b ((t.get a).getD N.zero)) a else t

theorem well_kind {t : N} (h : t.well = true) : t.kind ≠ 0 := by
  obtain ⟨k, tx, ns, ks⟩ := t
  intro e
  have e : k = 0 := e
  subst e
  rw [N.well] at h
  simp at h
theorem kindAt_zero {t : N} {p : List ByteArray} (hw : t.well = true) : t.kindAt p = 0 ↔ t.get p = none := by
  unfold N.kindAt
  cases h : t.get p with
  | none => simp [N.zero, N.kind]
  | some x =>
    have := well_kind (get_well hw h)
    simp [this]
theorem kindAt_some {t x : N} {p : List ByteArray} (h : t.get p = some x) : t.kindAt p = x.kind := by unfold N.kindAt; rw [h]; rfl
theorem underL_pre {a b : List ByteArray} : underL a b = true ↔ a <+: b := by
  rw [underL_iff]
  exact ⟨fun ⟨r, h⟩ => ⟨r, h.symm⟩, fun ⟨r, h⟩ => ⟨r, h.symm⟩⟩

theorem openB_snoc (t : N) (p : List ByteArray) (s : ByteArray) : openB t (p ++ [s]) = (nameB s && decide (t.kindAt p = 2)) := by
  unfold openB
  simp
theorem openB_nil (t : N) : openB t [] = false := rfl
theorem openB_open {t : N} {p : List ByteArray} {s : ByteArray} (hw : t.well = true) (h : openB t (p ++ [s]) = true) : nameB s = true ∧ OpenP t (p ++ [s]) := by
  rw [openB_snoc, Bool.and_eq_true, decide_eq_true_eq] at h
  refine ⟨h.1, (openP_iff s hw).2 ?_⟩
  have h2 := h.2
  unfold N.kindAt at h2
  cases hg : t.get p with
  | none => rw [hg] at h2; simp [N.zero, N.kind] at h2
  | some d => rw [hg] at h2; exact ⟨d, rfl, h2⟩

/-- What was done at a place: what stands there then, and that nothing else has changed. -/
structure Done (t r : N) (p : List ByteArray) (y : Option N) : Prop where
  dir : DirW r
  here : r.get p = y
  far : ∀ q, ¬ p <+: q → ¬ q <+: p → r.get q = t.get q

theorem put_done {t x : N} {p : List ByteArray} (hw : t.well = true) (hx : x.well = true) (ho : openB t p = true) : Done t (t.put p x) p (some x) := by
  rcases snoc_or p with rfl | ⟨q, s, rfl⟩
  · rw [openB_nil] at ho; cases ho
  · obtain ⟨hn, hop⟩ := openB_open hw ho
    obtain ⟨h1, h2, h3⟩ := chg_law hw hop (Loc.put hn hx)
    exact ⟨h1, h2, h3⟩
theorem del_done {t x : N} {p : List ByteArray} (hw : t.well = true) (hp : p ≠ []) (hx : t.get p = some x) : Done t (t.del p) p none := by
  rcases snoc_or p with rfl | ⟨q, s, rfl⟩
  · exact absurd rfl hp
  · obtain ⟨h1, h2, h3⟩ := chg_law hw (open_of_get hw hx) (Loc.del)
    exact ⟨h1, h2, h3⟩
theorem tput_law {t x : N} {p : List ByteArray} (hw : t.well = true) : t.tput p x = t ∨ ((x.well && openB t p) = true ∧ Done t (t.tput p x) p (some x)) := by
  unfold N.tput
  by_cases h : (x.well && openB t p) = true
  · rw [if_pos h]
    rw [Bool.and_eq_true] at h
    exact .inr ⟨by rw [h.1, h.2]; rfl, put_done hw h.1 h.2⟩
  · rw [if_neg h]; exact .inl rfl
theorem tdel_law {t : N} {p : List ByteArray} (hw : t.well = true) : (t.tdel p = t ∧ (p = [] ∨ t.get p = none)) ∨ (p ≠ [] ∧ t.tdel p = t.del p ∧ Done t (t.tdel p) p none) := by
  unfold N.tdel
  by_cases h : p = [] ∨ t.kindAt p = 0
  · rw [if_pos h, kindAt_zero hw] at *
    exact .inl ⟨rfl, h⟩
  · rw [if_neg h]
    rw [kindAt_zero hw] at h
    have hp : p ≠ [] := fun e => h (.inl e)
    cases hg : t.get p with
    | none => exact absurd (.inr hg) h
    | some x => exact .inr ⟨hp, rfl, del_done hw hp hg⟩
theorem apartB_iff {t : N} {a b : List ByteArray} (hw : t.well = true) (h : apartB t a b = true) : a ≠ [] ∧ openB t b = true ∧ ¬ a <+: b ∧ ¬ b <+: a ∧ ∃ x, t.get a = some x := by
  unfold apartB at h
  simp only [Bool.and_eq_true, decide_eq_true_eq, Bool.not_eq_true'] at h
  obtain ⟨⟨⟨⟨h1, h2⟩, h3⟩, h4⟩, h5⟩ := h
  refine ⟨fun e => by subst e; simp at h1, h3, fun e => ?_, fun e => ?_, ?_⟩
  · rw [underL_pre.2 e] at h5; cases h5
  · rw [underL_pre.2 e] at h4; cases h4
  · rw [Ne, kindAt_zero hw] at h2
    cases hg : t.get a with
    | none => exact absurd hg h2
    | some x => exact ⟨x, rfl⟩
theorem tcopy_law {t : N} {a b : List ByteArray} (hw : t.well = true) : t.tcopy a b = t ∨ (apartB t a b = true ∧ ∃ x, t.get a = some x ∧ t.tcopy a b = t.put b x ∧ Done t (t.tcopy a b) b (some x) ∧ (t.tcopy a b).get a = some x) := by
  unfold N.tcopy
  by_cases h : apartB t a b = true
  · rw [if_pos h]
    obtain ⟨h1, h2, h3, h4, x, hx⟩ := apartB_iff hw h
    rw [hx]
    have hd := put_done hw (get_well hw hx) h2
    exact .inr ⟨h, x, rfl, rfl, hd, (hd.far a h4 h3).trans hx⟩
  · rw [if_neg h]; exact .inl rfl
theorem tmove_law {t : N} {a b : List ByteArray} (hw : t.well = true) : t.tmove a b = t ∨ (apartB t a b = true ∧ ∃ x, t.get a = some x ∧ t.tmove a b = (t.put b x).del a ∧ DirW (t.tmove a b) ∧ (t.tmove a b).get a = none ∧ (t.tmove a b).get b = some x ∧
    ∀ q, ¬ a <+: q → ¬ q <+: a → ¬ b <+: q → ¬ q <+: b → (t.tmove a b).get q = t.get q) := by
  unfold N.tmove
  by_cases h : apartB t a b = true
  · rw [if_pos h]
    obtain ⟨h1, h2, h3, h4, x, hx⟩ := apartB_iff hw h
    rw [hx]
    show _ ∨ _
    have hd := put_done hw (get_well hw hx) h2
    have hx' : (t.put b x).get a = some x := (hd.far a h4 h3).trans hx
    rcases tdel_law (t := t.put b x) (p := a) hd.dir.wf with ⟨_, h5 | h5⟩ | ⟨_, h6, h7⟩
    · exact absurd h5 h1
    · rw [hx'] at h5; cases h5
    · refine .inr ⟨h, x, rfl, h6, h7.dir, h7.here, (h7.far b h3 h4).trans hd.here, fun q q1 q2 q3 q4 => (h7.far q q1 q2).trans (hd.far q q3 q4)⟩
  · rw [if_neg h]; exact .inl rfl
theorem N.tput_dir {t x : N} {p : List ByteArray} (h : DirW t) : DirW (t.tput p x) := by
  rcases tput_law (x := x) (p := p) h.wf with e | ⟨_, hd⟩
  · rw [e]; exact h
  · exact hd.dir
theorem N.tdel_dir {t : N} {p : List ByteArray} (h : DirW t) : DirW (t.tdel p) := by
  rcases tdel_law (p := p) h.wf with ⟨e, _⟩ | ⟨_, _, hd⟩
  · rw [e]; exact h
  · exact hd.dir
theorem N.tcopy_dir {t : N} {a b : List ByteArray} (h : DirW t) : DirW (t.tcopy a b) := by
  rcases tcopy_law (a := a) (b := b) h.wf with e | ⟨_, _, _, _, hd, _⟩
  · rw [e]; exact h
  · exact hd.dir
theorem N.tmove_dir {t : N} {a b : List ByteArray} (h : DirW t) : DirW (t.tmove a b) := by
  rcases tmove_law (a := a) (b := b) h.wf with e | ⟨_, _, _, _, hd, _⟩
  · rw [e]; exact h
  · exact hd
end Go.Proofs.Ytocndkhgopjhhaa
/- The example of touchstonelaw07's works: what is told of it, reckoned. -/
namespace Go.Proofs.Ytocndkhgopjhhaa
open Go.RowKit

abbrev bA : ByteArray := { data := #[97] }
abbrev bB : ByteArray := { data := #[98] }
abbrev bD : ByteArray := { data := #[100] }
abbrev bE : ByteArray := { data := #[101] }
abbrev bQ : ByteArray := { data := #[113] }
abbrev bR : ByteArray := { data := #[114] }
abbrev bX : ByteArray := { data := #[120] }
abbrev bN : ByteArray := { data := #[] }
def nFile (s : ByteArray) : N := .mk 1 s [] []
def nDir (ns : List ByteArray) (ks : List N) : N := .mk 2 bN ns ks
/-- Does a directory without names stand at a place? -/
def emptyB (t : N) : Bool := decide (t.kind = 2) && decide (t.names.length = 0)
/-- the example -/
def exT : N := nDir [bA, bD] [nFile bX, nDir [bE] [nFile bN]]

theorem exT_may : exT.may = true := by decide +kernel
theorem exT_well : exT.well = true := by decide +kernel
theorem exT_1 : exT.kindAt [bD, bE] = 1 := by decide +kernel
theorem exT_2 : exT.kindAt [bA, bB] = 0 := by decide +kernel
def exU : N := exT.tmove [bA] [bD]
def exT1 : N := exT.tmove [bD] [bD, bX]
def exT2 : N := exT1.tdel [bD, bE]
def exT3 : N := exT2.tput [bQ, bR] (nFile bN)
theorem exU_well : exU.well = true := by decide +kernel
theorem exT1_well : exT1.well = true := by decide +kernel
theorem exT2_well : exT2.well = true := by decide +kernel
theorem exT3_well : exT3.well = true := by decide +kernel
theorem exU_1 : exU.kindAt [bA] = 0 := by decide +kernel
theorem exU_2 : ((exU.get [bD]).getD N.zero).text = bX := by decide +kernel
theorem exT_3 : emptyB ((exT3.get [bD]).getD N.zero) = true := by decide +kernel
theorem exT_4 : exT3.same (nDir [bA, bD] [nFile bX, nDir [] []]) = true := by decide +kernel
end Go.Proofs.Ytocndkhgopjhhaa
/- Trees are told by what stands by each name; what was put and is taken away, and what was taken away and is put back, leaves a tree as it was. The plain law. -/
namespace Go.Proofs.Ytocndkhgopjhhaa
open Go.RowKit

theorem sorted_ext : ∀ {a b : List ByteArray}, Sorted a → Sorted b → (∀ x, x ∈ a ↔ x ∈ b) → a = b
  | [], [], _, _, _ => rfl
  | [], y :: b, _, _, h => by have := (h y).2 (by simp); simp at this
  | x :: a, [], _, _, h => by have := (h x).1 (by simp); simp at this
  | x :: a, y :: b, ha, hb, h => by
    have ha' := List.pairwise_cons.1 ha
    have hb' := List.pairwise_cons.1 hb
    have e : x = y := by
      rcases List.mem_cons.1 ((h x).1 (by simp)) with e | e
      · exact e
      · rcases List.mem_cons.1 ((h y).2 (by simp)) with e2 | e2
        · exact e2.symm
        · have h1 := hb'.1 x e
          have h2 := ha'.1 y e2
          rw [ltS_asymm h1] at h2; cases h2
    subst e
    rw [sorted_ext ha'.2 hb'.2 (fun z => ?_)]
    have hz := h z
    simp only [List.mem_cons] at hz
    constructor
    · intro hm
      rcases hz.1 (.inr hm) with e | e
      · subst e; have := ha'.1 z hm; rw [ltS_irrefl] at this; cases this
      · exact e
    · intro hm
      rcases hz.2 (.inr hm) with e | e
      · subst e; have := hb'.1 z hm; rw [ltS_irrefl] at this; cases this
      · exact e

theorem DirW.mem_iff {t : N} (h : DirW t) (s : ByteArray) : s ∈ t.names ↔ t.kid s ≠ none := by
  constructor
  · intro hm hk
    obtain ⟨i, hi⟩ := List.mem_iff_getElem?.1 hm
    have hl := (List.getElem?_eq_some_iff.1 hi).1
    have := h.kid_iff.2 ⟨i, hi, List.getElem?_eq_getElem (by rw [← h.len]; exact hl)⟩
    rw [hk] at this; cases this
  · intro hk
    cases h' : t.kid s with
    | none => exact absurd h' hk
    | some k =>
      obtain ⟨i, h1, _⟩ := h.kid_iff.1 h'
      exact List.mem_of_getElem? h1

/-- A directory is told by what stands by each name. -/
theorem DirW.eq {a b : N} (ha : DirW a) (hb : DirW b) (h : ∀ s, a.kid s = b.kid s) : a = b := by
  have hn : a.names = b.names := sorted_ext ha.sorted hb.sorted fun s => by rw [ha.mem_iff, hb.mem_iff, h s]
  have hk : a.kids = b.kids := by
    apply List.ext_getElem?
    intro i
    by_cases hi : i < a.kids.length
    · have hin : i < a.names.length := by rw [ha.len]; exact hi
      have h1 := ha.kid_iff.2 ⟨i, List.getElem?_eq_getElem hin, List.getElem?_eq_getElem hi⟩
      rw [h] at h1
      obtain ⟨j, h2, h3⟩ := hb.kid_iff.1 h1
      have h4 : b.names[i]? = some a.names[i] := by rw [← hn]; exact List.getElem?_eq_getElem hin
      have e : i = j := by
        have e1 := (ix_iff hb.sorted).2 h2
        have e2 := (ix_iff hb.sorted).2 h4
        rw [e1] at e2; injection e2 with e2; exact e2.symm
      subst e
      rw [h3]; exact List.getElem?_eq_getElem hi
    · have hl : a.kids.length = b.kids.length := by rw [← ha.len, ← hb.len, hn]
      rw [List.getElem?_eq_none (by omega), List.getElem?_eq_none (by omega)]
  have ht : a.text = b.text := toList_inj (by rw [ha.text, hb.text])
  have hkd : a.kind = b.kind := by rw [ha.kind, hb.kind]
  obtain ⟨k1, t1, n1, k1s⟩ := a
  obtain ⟨k2, t2, n2, k2s⟩ := b
  simp only [N.kind, N.text, N.names, N.kids] at hn hk ht hkd
  subst hn hk ht hkd
  rfl

theorem del1_put1 {t x : N} {s : ByteArray} (h : DirW t) (hs : nameB s = true) (hx : x.well = true) (hk : t.kid s = none) : N.del1 s (N.put1 x s t) = t := by
  have hp := h.put1 hs hx
  refine hp.del1.eq h fun s' => ?_
  rw [hp.kid_del1, h.kid_put1 hs hx]
  by_cases e : s' = s
  · rw [if_pos e, e, hk]
  · rw [if_neg e, if_neg e]
theorem put1_del1 {t x : N} {s : ByteArray} (h : DirW t) (hk : t.kid s = some x) : N.put1 x s (N.del1 s t) = t := by
  have hd := h.del1 (s := s)
  have hx := h.kid_well hk
  have hs : nameB s = true := h.name s ((h.mem_iff s).2 (by rw [hk]; simp))
  refine (hd.put1 hs hx).eq h fun s' => ?_
  rw [hd.kid_put1 hs hx, h.kid_del1]
  by_cases e : s' = s
  · rw [if_pos e, e, hk]
  · rw [if_neg e, if_neg e]
theorem put1_back {t k k' : N} {s : ByteArray} (h : DirW t) (hk : t.kid s = some k) (hk' : k'.well = true) : N.put1 k s (N.put1 k' s t) = t := by
  have hx := h.kid_well hk
  have hs : nameB s = true := h.name s ((h.mem_iff s).2 (by rw [hk]; simp))
  have hp := h.put1 hs hk'
  refine (hp.put1 hs hx).eq h fun s' => ?_
  rw [hp.kid_put1 hs hx, h.kid_put1 hs hk']
  by_cases e : s' = s
  · rw [if_pos e, e, hk]
  · rw [if_neg e, if_neg e]

/-- What is done at a place, and undone there. -/
theorem chg_inv {f g : ByteArray → N → N} {y : Option N} : ∀ {p : List ByteArray} {s : ByteArray} {t : N}, t.well = true → OpenP t (p ++ [s]) → Loc f s y → (∀ d, t.get p = some d → DirW d → g s (f s d) = d) →
    N.chg g (p ++ [s]) (N.chg f (p ++ [s]) t) = t := by
  intro p
  induction p with
  | nil =>
    intro s t hw ho hl hg
    rw [List.nil_append, N.chg_one, N.chg_one]
    exact hg t (N.get_nil t) (DirW.of hw ho.kind)
  | cons a p ih =>
    intro s t hw ho hl hg
    obtain ⟨b, q, hb⟩ : ∃ b q, p ++ [s] = b :: q := by
      cases h : p ++ [s] with
      | nil => simp at h
      | cons b q => exact ⟨b, q, rfl⟩
    have e : a :: p ++ [s] = a :: (p ++ [s]) := rfl
    rw [e] at ho ⊢
    have hd := DirW.of hw ho.kind
    obtain ⟨k, hk, hok⟩ : ∃ k, t.kid a = some k ∧ OpenP k (p ++ [s]) := by
      rw [hb] at ho ⊢
      exact ho.2
    have hkw := hd.kid_well hk
    have i1 := (chg_law hkw hok hl).1
    have hi := ih hkw hok hl (fun d h => hg d (by rw [N.get_cons, hk]; exact h))
    have hna : nameB a = true := by
      obtain ⟨i, h1, _⟩ := hd.kid_iff.1 hk
      exact hd.name a (List.mem_of_getElem? h1)
    have hst : N.chg f (a :: (p ++ [s])) t = N.put1 (N.chg f (p ++ [s]) k) a t := by
      rw [hb]; exact N.chg_step hd hk hok.kind
    have hdp := hd.put1 hna i1.wf
    have hkp : (N.put1 (N.chg f (p ++ [s]) k) a t).kid a = some (N.chg f (p ++ [s]) k) := by
      rw [hd.kid_put1 hna i1.wf, if_pos rfl]
    rw [hst]
    have hst2 : N.chg g (a :: (p ++ [s])) (N.put1 (N.chg f (p ++ [s]) k) a t) = N.put1 (N.chg g (p ++ [s]) (N.chg f (p ++ [s]) k)) a (N.put1 (N.chg f (p ++ [s]) k) a t) := by
      rw [hb] at hkp ⊢
      exact N.chg_step (by rw [← hb]; exact hdp) hkp (by rw [← hb]; exact i1.kind)
    rw [hst2, hi]
    exact put1_back hd hk i1.wf

theorem get_snoc (t : N) (q : List ByteArray) (s : ByteArray) : t.get (q ++ [s]) = (t.get q).bind (·.kid s) := by
  induction q generalizing t with
  | nil =>
    rw [List.nil_append, N.get_cons, N.get_nil]
    show (t.kid s).bind (·.get []) = t.kid s
    cases t.kid s with
    | none => rfl
    | some k => exact N.get_nil k
  | cons a q ih =>
    rw [List.cons_append, N.get_cons, N.get_cons]
    cases t.kid a with
    | none => rfl
    | some k => exact ih k
theorem get_pre_none {t : N} {q : List ByteArray} (h : t.get q = none) (r : List ByteArray) : t.get (q ++ r) = none := by
  induction q generalizing t with
  | nil => rw [N.get_nil] at h; cases h
  | cons a q ih =>
    rw [N.get_cons] at h
    rw [List.cons_append, N.get_cons]
    cases hk : t.kid a with
    | none => rfl
    | some k => rw [hk] at h; exact ih h
/-- the parent is there, a directory, behind what is done at a place. -/
theorem chg_open {f : ByteArray → N → N} {y : Option N} : ∀ {p : List ByteArray} {s : ByteArray} {t : N}, Loc f s y → t.well = true → OpenP t (p ++ [s]) → ∃ d, (N.chg f (p ++ [s]) t).get p = some d ∧ d.kind = 2 := by
  intro p
  induction p with
  | nil =>
    intro s t hl hw ho
    rw [List.nil_append, N.chg_one]
    exact ⟨_, N.get_nil _, (hl.dir t (DirW.of hw ho.kind)).kind⟩
  | cons a p ih =>
    intro s t hl hw ho
    obtain ⟨b, q, hb⟩ : ∃ b q, p ++ [s] = b :: q := by
      cases h : p ++ [s] with
      | nil => simp at h
      | cons b q => exact ⟨b, q, rfl⟩
    have e : a :: p ++ [s] = a :: (p ++ [s]) := rfl
    rw [e] at ho ⊢
    have hd := DirW.of hw ho.kind
    obtain ⟨k, hk, hok⟩ : ∃ k, t.kid a = some k ∧ OpenP k (p ++ [s]) := by
      rw [hb] at ho ⊢
      exact ho.2
    have hkw := hd.kid_well hk
    obtain ⟨d, h1, h2⟩ := ih hl hkw hok
    have hna : nameB a = true := by
      obtain ⟨i, h1, _⟩ := hd.kid_iff.1 hk
      exact hd.name a (List.mem_of_getElem? h1)
    have hst : N.chg f (a :: (p ++ [s])) t = N.put1 (N.chg f (p ++ [s]) k) a t := by
      rw [hb]; exact N.chg_step hd hk hok.kind
    rw [hst, N.get_cons, hd.kid_put1 hna (chg_law hkw hok hl).1.wf, if_pos rfl]
    exact ⟨d, h1, h2⟩
theorem del_put {t x : N} {p : List ByteArray} (hw : t.well = true) (hx : x.well = true) (ho : openB t p = true) (hn : t.get p = none) : (t.put p x).del p = t := by
  rcases snoc_or p with rfl | ⟨q, s, rfl⟩
  · rw [openB_nil] at ho; cases ho
  · obtain ⟨hns, hop⟩ := openB_open hw ho
    refine chg_inv hw hop (Loc.put hns hx) fun d hd hdw => del1_put1 hdw hns hx ?_
    rw [get_snoc, hd] at hn
    exact hn
theorem put_del {t x : N} {p : List ByteArray} (hw : t.well = true) (hp : p ≠ []) (hx : t.get p = some x) : (t.del p).put p x = t := by
  rcases snoc_or p with rfl | ⟨q, s, rfl⟩
  · exact absurd rfl hp
  · refine chg_inv hw (open_of_get hw hx) Loc.del fun d hd hdw => put1_del1 hdw ?_
    rw [get_snoc, hd] at hx
    exact hx
end Go.Proofs.Ytocndkhgopjhhaa
/- prim: what each call answers, and what the tree is then; what is refused changes nothing; what was made, or renamed, and is undone, leaves the tree as it was. The plain law. -/
namespace Go.Proofs.Ytocndkhgopjhhaa
open Go.RowKit

/-- May a place be taken? -/
def takenB (t : N) (p : List ByteArray) : Bool := decide (p = []) || openB t p
abbrev bF : ByteArray := { data := #[102] }

def pMake (x : N) (t : N) (p : List ByteArray) : Int × N :=
  if takenB t p = false then (5, t) else if x.well = false then (4, t) else if t.kindAt p ≠ 0 then (6, t) else (0, t.tput p x)
def pTouch (t : N) (p : List ByteArray) : Int × N :=
  if takenB t p = false then (5, t) else if t.kindAt p = 3 then (5, t) else if t.kindAt p = 0 then (0, t.tput p (nFile bN)) else (0, t)
def pRemove (wrong : N → List ByteArray → Int) (t : N) (p : List ByteArray) : Int × N :=
  if takenB t p = false then (5, t) else if t.kindAt p = 0 then (5, t) else if wrong t p ≠ 0 then (wrong t p, t) else (0, t.tdel p)
def wDir (t : N) (p : List ByteArray) : Int := if t.kindAt p ≠ 2 then 55 else if p = [] ∨ emptyB ((t.get p).getD N.zero) = false then 57 else 0
def wLink (t : N) (p : List ByteArray) : Int := if t.kindAt p = 2 then 55 else 0
def wAll (_ : N) (p : List ByteArray) : Int := if p = [] then 57 else 0
def pRename (t : N) (a b : List ByteArray) : Int × N :=
  if takenB t a = false then (5, t) else if takenB t b = false then (5, t) else if t.kindAt a = 0 then (5, t) else if a = b then (6, t) else if a = [] then (57, t) else if underL a b = true then (58, t)
  else if t.kindAt b = 0 then (0, t.tmove a b) else if (t.kindAt a = 2) ≠ (t.kindAt b = 2) then (55, t) else if t.kindAt b = 2 ∧ emptyB ((t.get b).getD N.zero) = false then (57, t) else (0, t.tmove a b)
def pCopy (deep : Bool) (t : N) (a b : List ByteArray) : Int × N :=
  if takenB t a = false then (5, t) else if takenB t b = false then (5, t) else if t.kindAt a = 0 then (5, t) else if a = b then (6, t) else if t.kindAt a = 2 ∧ deep = false then (55, t) else if underL a b = true then (58, t)
  else if t.kindAt b = 0 then (0, t.tcopy a b) else if t.kindAt a = 2 then (6, t) else if t.kindAt b ≠ 1 then (55, t) else (0, t.tcopy a b)

/-- A step of PrimDoes and PrimRefused. -/
structure POp where
  kind : Int
  a : List ByteArray
  b : List ByteArray
  text : ByteArray
  deep : Bool
def pDo (o : POp) (t : N) : Int × N :=
  if o.kind = 0 then pMake (nDir [] []) t o.a else if o.kind = 1 then pMake (nFile o.text) t o.a else if o.kind = 2 then pMake (.mk 3 o.text [] []) t o.a
  else if o.kind = 3 then pTouch t o.a else if o.kind = 4 then pRemove wDir t o.a else if o.kind = 5 then pRemove wLink t o.a else if o.kind = 6 then pRemove wAll t o.a
  else if o.kind = 7 then pRename t o.a o.b else pCopy o.deep t o.a o.b

/-- A tree that is the same where the answer is an error, and well formed. -/
def Keeps (t : N) (r : Int × N) : Prop := (r.1 ≠ 0 → r.2 = t) ∧ DirW r.2
theorem Keeps.no {t : N} {c : Int} (h : DirW t) : Keeps t (c, t) := ⟨fun _ => rfl, h⟩
theorem Keeps.yes {t r : N} (h : DirW r) : Keeps t (0, r) := ⟨fun e => absurd rfl e, h⟩
theorem pMake_keeps {x t : N} {p : List ByteArray} (h : DirW t) : Keeps t (pMake x t p) := by
  unfold pMake
  split; · exact .no h
  split; · exact .no h
  split; · exact .no h
  exact .yes (N.tput_dir h)
theorem pTouch_keeps {t : N} {p : List ByteArray} (h : DirW t) : Keeps t (pTouch t p) := by
  unfold pTouch
  split; · exact .no h
  split; · exact .no h
  split; · exact .yes (N.tput_dir h)
  exact .no h
theorem pRemove_keeps {f : N → List ByteArray → Int} {t : N} {p : List ByteArray} (h : DirW t) : Keeps t (pRemove f t p) := by
  unfold pRemove
  split; · exact .no h
  split; · exact .no h
  split; · exact .no h
  exact .yes (N.tdel_dir h)
theorem pRename_keeps {t : N} {a b : List ByteArray} (h : DirW t) : Keeps t (pRename t a b) := by
  unfold pRename
  split; · exact .no h
  split; · exact .no h
  split; · exact .no h
  split; · exact .no h
  split; · exact .no h
  split; · exact .no h
  split; · exact .yes (N.tmove_dir h)
  split; · exact .no h
  split; · exact .no h
  exact .yes (N.tmove_dir h)
theorem pCopy_keeps {deep : Bool} {t : N} {a b : List ByteArray} (h : DirW t) : Keeps t (pCopy deep t a b) := by
  unfold pCopy
  split; · exact .no h
  split; · exact .no h
  split; · exact .no h
  split; · exact .no h
  split; · exact .no h
  split; · exact .no h
  split; · exact .yes (N.tcopy_dir h)
  split; · exact .no h
  split; · exact .no h
  exact .yes (N.tcopy_dir h)
theorem pDo_keeps (o : POp) {t : N} (h : DirW t) : Keeps t (pDo o t) := by
  unfold pDo
  split; · exact pMake_keeps h
  split; · exact pMake_keeps h
  split; · exact pMake_keeps h
  split; · exact pTouch_keeps h
  split; · exact pRemove_keeps h
  split; · exact pRemove_keeps h
  split; · exact pRemove_keeps h
  split; · exact pRename_keeps h
  exact pCopy_keeps h

theorem kindAt_nil {t : N} : t.kindAt [] = t.kind := kindAt_some (N.get_nil t)
theorem openB_of {t x : N} {p : List ByteArray} (h : DirW t) (hp : p ≠ []) (hx : t.get p = some x) : openB t p = true := by
  rcases snoc_or p with rfl | ⟨q, s, rfl⟩
  · exact absurd rfl hp
  · have ho := open_of_get h.wf hx
    obtain ⟨d, hd, hk⟩ := (openP_iff s h.wf).1 ho
    rw [openB_snoc, kindAt_some hd, hk]
    rw [get_snoc, hd] at hx
    have hdw := DirW.of (get_well h.wf hd) hk
    rw [hdw.name s ((hdw.mem_iff s).2 (by intro e; rw [show (some d).bind (·.kid s) = d.kid s from rfl, e] at hx; cases hx))]
    rfl
theorem taken_of {t x : N} {p : List ByteArray} (h : DirW t) (hx : t.get p = some x) : takenB t p = true := by
  unfold takenB
  by_cases hp : p = []
  · rw [decide_eq_true hp]; rfl
  · rw [openB_of h hp hx]; simp

/-- What was made stands there. -/
theorem pMake_ok {x t : N} {p : List ByteArray} (h : DirW t) (hc : (pMake x t p).1 = 0) : x.well = true ∧ p ≠ [] ∧ t.get p = none ∧ openB t p = true ∧ (pMake x t p).2 = t.put p x ∧ Done t (t.put p x) p (some x) := by
  unfold pMake at hc ⊢
  by_cases h1 : takenB t p = false
  · rw [if_pos h1] at hc; cases hc
  rw [if_neg h1] at hc ⊢
  by_cases h2 : x.well = false
  · rw [if_pos h2] at hc; cases hc
  rw [if_neg h2] at hc ⊢
  by_cases h3 : t.kindAt p ≠ 0
  · rw [if_pos h3] at hc; cases hc
  rw [if_neg h3]
  have h2' : x.well = true := by simpa using h2
  have h3' : t.kindAt p = 0 := by simpa using h3
  have hp : p ≠ [] := fun e => by subst e; rw [kindAt_nil, h.kind] at h3'; cases h3'
  have ho : openB t p = true := by
    unfold takenB at h1
    rw [decide_eq_false hp] at h1
    simpa using h1
  refine ⟨h2', hp, (kindAt_zero h.wf).1 h3', ho, ?_, put_done h.wf h2' ho⟩
  show t.tput p x = t.put p x
  unfold N.tput
  rw [h2', ho]
  rfl
theorem back_dir {t : N} {p : List ByteArray} (h : DirW t) (hc : (pMake (nDir [] []) t p).1 = 0) :
    (pMake (nDir [] []) t p).2.kindAt p = 2 ∧ emptyB (((pMake (nDir [] []) t p).2.get p).getD N.zero) = true ∧ (pRemove wDir (pMake (nDir [] []) t p).2 p) = (0, t) := by
  obtain ⟨hx, hp, hn, ho, e, hd⟩ := pMake_ok h hc
  rw [e]
  have hk : (t.put p (nDir [] [])).kindAt p = 2 := kindAt_some hd.here
  have he : emptyB (((t.put p (nDir [] [])).get p).getD N.zero) = true := by rw [hd.here]; rfl
  refine ⟨hk, he, ?_⟩
  have hw : wDir (t.put p (nDir [] [])) p = 0 := by
    unfold wDir
    rw [hk, he]
    simp [hp]
  unfold pRemove
  rw [taken_of hd.dir hd.here, hk, hw]
  rw [if_neg (by simp), if_neg (by decide), if_neg (by simp)]
  have ht : (t.put p (nDir [] [])).tdel p = t := by
    unfold N.tdel
    rw [if_neg (by rw [hk]; simp [hp])]
    exact del_put h.wf hx ho hn
  rw [ht]
theorem back_file {t : N} {p : List ByteArray} {s : ByteArray} (h : DirW t) (hc : (pMake (nFile s) t p).1 = 0) :
    (((pMake (nFile s) t p).2.get p).getD N.zero).text = s ∧ (pRemove wLink (pMake (nFile s) t p).2 p) = (0, t) := by
  obtain ⟨hx, hp, hn, ho, e, hd⟩ := pMake_ok h hc
  rw [e]
  have hk : (t.put p (nFile s)).kindAt p = 1 := kindAt_some hd.here
  refine ⟨by rw [hd.here]; rfl, ?_⟩
  have hw : wLink (t.put p (nFile s)) p = 0 := by
    unfold wLink
    rw [hk]
    rfl
  unfold pRemove
  rw [taken_of hd.dir hd.here, hk, hw]
  have ht : (t.put p (nFile s)).tdel p = t := by
    unfold N.tdel
    rw [if_neg (by rw [hk]; simp [hp])]
    exact del_put h.wf hx ho hn
  rw [ht]
  rfl
theorem tmove_eq {t x : N} {a b : List ByteArray} (ha : apartB t a b = true) (hx : t.get a = some x) : t.tmove a b = (t.put b x).tdel a := by
  unfold N.tmove
  rw [if_pos ha, hx]
  rfl
theorem back_move {t : N} {a b : List ByteArray} (h : DirW t) (hb : t.kindAt b = 0) (hc : (pRename t a b).1 = 0) : (pRename t a b).2.kindAt a = 0 ∧ pRename (pRename t a b).2 b a = (0, t) := by
  unfold pRename at hc
  by_cases h1 : takenB t a = false
  · rw [if_pos h1] at hc; cases hc
  rw [if_neg h1] at hc
  by_cases h2 : takenB t b = false
  · rw [if_pos h2] at hc; cases hc
  rw [if_neg h2] at hc
  by_cases h3 : t.kindAt a = 0
  · rw [if_pos h3] at hc; cases hc
  rw [if_neg h3] at hc
  by_cases h4 : a = b
  · rw [if_pos h4] at hc; cases hc
  rw [if_neg h4] at hc
  by_cases h5 : a = []
  · rw [if_pos h5] at hc; cases hc
  rw [if_neg h5] at hc
  by_cases h6 : underL a b = true
  · rw [if_pos h6] at hc; cases hc
  have e : pRename t a b = (0, t.tmove a b) := by
    unfold pRename
    rw [if_neg h1, if_neg h2, if_neg h3, if_neg h4, if_neg h5, if_neg h6, if_pos hb]
  rw [e]
  have hbn : b ≠ [] := fun e => by subst e; rw [kindAt_nil, h.kind] at hb; cases hb
  have hob : openB t b = true := by
    unfold takenB at h2
    rw [decide_eq_false hbn] at h2
    simpa using h2
  obtain ⟨x, hx⟩ : ∃ x, t.get a = some x := by
    cases hg : t.get a with
    | none => exact absurd ((kindAt_zero h.wf).2 hg) h3
    | some x => exact ⟨x, rfl⟩
  have hnb : t.get b = none := (kindAt_zero h.wf).1 hb
  have h7 : underL b a = false := by
    cases hu : underL b a with
    | false => rfl
    | true =>
      -- a goes on from b, where nothing stands
      obtain ⟨r, hr⟩ := underL_iff.1 hu
      subst hr
      exact absurd (get_pre_none hnb r) (by rw [hx]; simp)
  have h6' : underL a b = false := by simpa using h6
  have hap : apartB t a b = true := by
    unfold apartB
    rw [hob, h7, h6', decide_eq_true h3]
    have : 0 < a.length := List.length_pos_iff.2 h5
    simp [this]
  have hxw := get_well h.wf hx
  have hpd := put_done h.wf hxw hob
  have nab : ¬ a <+: b := fun e => by rw [underL_pre.2 e] at h6'; cases h6'
  have nba : ¬ b <+: a := fun e => by rw [underL_pre.2 e] at h7; cases h7
  have hxa : (t.put b x).get a = some x := (hpd.far a nba nab).trans hx
  have hdd := del_done hpd.dir.wf h5 hxa
  have ht1 : t.tmove a b = (t.put b x).del a := by
    rw [tmove_eq hap hx]
    unfold N.tdel
    rw [if_neg]
    rw [kindAt_zero hpd.dir.wf, hxa]
    simp [h5]
  obtain ⟨u, hu⟩ : ∃ u, u = (t.put b x).del a := ⟨_, rfl⟩
  rw [ht1, ← hu]
  rw [← hu] at hdd
  have hua : u.get a = none := hdd.here
  have hub : u.get b = some x := (hdd.far b nab nba).trans hpd.here
  have hka : u.kindAt a = 0 := (kindAt_zero hdd.dir.wf).2 hua
  refine ⟨hka, ?_⟩
  have hkb : u.kindAt b ≠ 0 := by rw [Ne, kindAt_zero hdd.dir.wf, hub]; simp
  -- the parent of a stands yet
  have hoa : openB u a = true := by
    have hoa0 := openB_of hpd.dir h5 hxa
    rcases snoc_or a with rfl | ⟨q, s, rfl⟩
    · exact absurd rfl h5
    · obtain ⟨hn, hop⟩ := openB_open hpd.dir.wf hoa0
      rw [openB_snoc, hn]
      have hpar : ∃ d, u.get q = some d ∧ d.kind = 2 := by
        rw [hu]
        exact chg_open Loc.del hpd.dir.wf hop
      obtain ⟨d, hd1, hd2⟩ := hpar
      rw [kindAt_some hd1, hd2]; rfl
  have hap2 : apartB u b a = true := by
    unfold apartB
    rw [hoa, h7, h6', decide_eq_true hkb]
    have : 0 < b.length := List.length_pos_iff.2 hbn
    simp [this]
  have e2 : pRename u b a = (0, u.tmove b a) := by
    unfold pRename
    have hta : takenB u a = true := by unfold takenB; rw [hoa]; simp
    rw [taken_of hdd.dir hub, hta]
    rw [if_neg (by simp), if_neg (by simp), if_neg hkb, if_neg (fun e => h4 e.symm), if_neg hbn, if_neg (by rw [h7]; simp), if_pos hka]
  rw [e2, tmove_eq hap2 hub]
  have e3 : u.put a x = t.put b x := by rw [hu]; exact put_del hpd.dir.wf h5 hxa
  rw [e3]
  have e4 : (t.put b x).tdel b = t := by
    unfold N.tdel
    rw [if_neg]
    · exact del_put h.wf hxw hob hnb
    · rw [kindAt_zero hpd.dir.wf, hpd.here]
      simp [hbn]
  rw [e4]
end Go.Proofs.Ytocndkhgopjhhaa
