/- Trees: what is put at a place, or taken away; what stands where then. The plain law. -/
import Derived.Test.YtocndkhgopjhhaaOrd
namespace Go.Proofs.Ytocndkhgopjhhaa
open Go.RowKit

theorem N.names_mk (k : Int) (t : ByteArray) (ns : List ByteArray) (ks : List N) : (N.mk k t ns ks).names = ns := rfl
theorem N.kids_mk (k : Int) (t : ByteArray) (ns : List ByteArray) (ks : List N) : (N.mk k t ns ks).kids = ks := rfl
theorem insertIdx_td {α : Type} {a : α} : ∀ {i : Nat} {l : List α}, i ≤ l.length → l.insertIdx i a = l.take i ++ a :: l.drop i
  | 0, l, _ => by simp
  | i + 1, [], h => by simp at h
  | i + 1, x :: l, h => by rw [List.insertIdx_succ_cons, insertIdx_td (by simpa using h)]; simp

/-- What stands in a directory by a name. -/
def N.kid (t : N) (s : ByteArray) : Option N :=
  match ixFrom s 0 t.names with
  | none => none
  | some i => t.kids[i]?
theorem N.get_cons (t : N) (s : ByteArray) (r : List ByteArray) : t.get (s :: r) = (t.kid s).bind (·.get r) := by
  rw [N.get, N.kid]
  cases ixFrom s 0 t.names with
  | none => rfl
  | some i =>
    simp only
    cases t.kids[i]? <;> rfl

/-- Well formed: a directory whose names are in order, a kid a name. -/
structure DirW (t : N) : Prop where
  kind : t.kind = 2
  text : t.text.toList = []
  sorted : Sorted t.names
  len : t.names.length = t.kids.length
  name : ∀ x ∈ t.names, nameB x = true
  well : ∀ k ∈ t.kids, k.well = true

theorem wellL_mk : ∀ {p : Option ByteArray} {ns : List ByteArray} {ks : List N}, Sorted ns → (∀ q, p = some q → ∀ x ∈ ns, ltS q x = true) → (∀ x ∈ ns, nameB x = true) → ns.length = ks.length → (∀ k ∈ ks, k.well = true) → wellL p ns ks = true
  | p, [], ks, _, _, _, _, _ => by rw [wellL]
  | p, s :: ns, [], _, _, _, h, _ => by simp at h
  | p, s :: ns, k :: ks, h1, h2, h3, h4, h5 => by
    have h1' := List.pairwise_cons.1 h1
    rw [wellL, h3 s (by simp), h5 k (by simp), wellL_mk h1'.2 (fun q hq x hx => by injection hq with hq; subst hq; exact h1'.1 x hx) (fun x hx => h3 x (by simp [hx])) (by simpa using h4) (fun k hk => h5 k (by simp [hk]))]
    have : (p.any (leS s)) = false := by
      cases p with
      | none => rfl
      | some q =>
        have := leS_not.2 (h2 q rfl s (by simp))
        simpa using this
    rw [this]
    rfl

theorem DirW.of {t : N} (h : t.well = true) (hk : t.kind = 2) : DirW t := by
  obtain ⟨k, tx, ns, ks⟩ := t
  have e : k = 2 := hk
  subst e
  obtain ⟨h1, h2, h3, h4, h5, _⟩ := N.well_dir h
  exact ⟨rfl, h1, h2, h3, h4, h5⟩
theorem DirW.wf {t : N} (h : DirW t) : t.well = true := by
  obtain ⟨k, tx, ns, ks⟩ := t
  have e : k = 2 := h.kind
  subst e
  have h1 : tx.toList = [] := h.text
  have h2 : ns.length = ks.length := h.len
  rw [N.well, if_neg (by omega), if_neg (by omega), if_pos rfl, h1, show wellL none ns ks = true from wellL_mk (p := none) h.sorted (fun _ h => by cases h) h.name h.len h.well]
  simp [h2]

theorem kind_dir {t : N} (h : t.well = true) {s : ByteArray} {k : N} (hk : t.kid s = some k) : t.kind = 2 := by
  obtain ⟨kd, tx, ns, ks⟩ := t
  by_cases e : kd = 2
  · exact e
  · obtain ⟨rfl, rfl⟩ := N.well_leaf h e
    simp [N.kid, N.names, ixFrom] at hk

theorem ix_iff {ns : List ByteArray} (hs : Sorted ns) {s : ByteArray} {i : Nat} : ixFrom s 0 ns = some i ↔ ns[i]? = some s := by
  constructor
  · intro h
    obtain ⟨_, _, h3⟩ := ixFrom_lt h
    simpa using h3
  · intro h
    have hp := ixFrom_pos s ns 0 hs
    have hi := (List.getElem?_eq_some_iff.1 h).1
    have : posOf s ns = i := by
      rcases Nat.lt_trichotomy (posOf s ns) i with h1 | h1 | h1
      · -- the name at posOf is not below s, and it is below what stands at i
        have hl : posOf s ns < ns.length := by omega
        have h2 := posOf_above s ns hs (posOf s ns) ns[posOf s ns] (Nat.le_refl _) (List.getElem?_eq_getElem hl)
        have h3 := List.pairwise_iff_getElem.1 hs (posOf s ns) i hl hi h1
        have h4 : ns[i] = s := by rw [List.getElem?_eq_getElem hi] at h; injection h
        rw [h4, h2] at h3
        cases h3
      · exact h1
      · have := posOf_below s ns i s h1 h
        rw [ltS_irrefl] at this; cases this
    rw [hp, this, if_pos h]
    simp
theorem ix_none {ns : List ByteArray} {s : ByteArray} : ixFrom s 0 ns = none ↔ ∀ i : Nat, ns[i]? ≠ some s := by
  rw [ixFrom_none, List.mem_iff_getElem?]
  simp
theorem ix_pos {ns : List ByteArray} (hs : Sorted ns) {s : ByteArray} {i : Nat} (h : ixFrom s 0 ns = some i) : posOf s ns = i := by
  have := ixFrom_pos s ns 0 hs
  rw [h] at this
  split at this
  · injection this with this; omega
  · cases this

theorem DirW.kid_iff {t : N} (h : DirW t) {s : ByteArray} {k : N} : t.kid s = some k ↔ ∃ i : Nat, t.names[i]? = some s ∧ t.kids[i]? = some k := by
  unfold N.kid
  constructor
  · intro hk
    split at hk
    · cases hk
    · rename_i i hi
      exact ⟨i, (ix_iff h.sorted).1 hi, hk⟩
  · rintro ⟨i, h1, h2⟩
    rw [(ix_iff h.sorted).2 h1]
    exact h2
theorem DirW.kid_well {t : N} (h : DirW t) {s : ByteArray} {k : N} (hk : t.kid s = some k) : k.well = true := by
  obtain ⟨i, _, h2⟩ := h.kid_iff.1 hk
  exact h.well k (List.mem_of_getElem? h2)

/-- Put a node by a name. -/
def N.put1 (x : N) (s : ByteArray) (t : N) : N :=
  match ixFrom s 0 t.names with
  | some i => .mk t.kind t.text t.names (t.kids.set i x)
  | none => .mk t.kind t.text (t.names.insertIdx (posOf s t.names) s) (t.kids.insertIdx (posOf s t.names) x)
/-- Take away what stands by a name. -/
def N.del1 (s : ByteArray) (t : N) : N :=
  match ixFrom s 0 t.names with
  | some i => .mk t.kind t.text (t.names.eraseIdx i) (t.kids.eraseIdx i)
  | none => t
/-- Change the directory at a place's parent. -/
def N.chg (f : ByteArray → N → N) : List ByteArray → N → N
  | [], t => t
  | [s], t => f s t
  | s :: r, t => match ixFrom s 0 t.names with
    | none => t
    | some i => match t.kids[i]? with
      | none => t
      | some k => if k.kind = 2 then .mk t.kind t.text t.names (t.kids.set i (N.chg f r k)) else t
def N.put (t : N) (p : List ByteArray) (x : N) : N := N.chg (N.put1 x) p t
def N.del (t : N) (p : List ByteArray) : N := N.chg N.del1 p t
theorem snoc_or {α : Type} (l : List α) : l = [] ∨ ∃ q s, l = q ++ [s] := by
  rcases List.eq_nil_or_concat l with h | ⟨q, s, h⟩
  · exact .inl h
  · exact .inr ⟨q, s, by rw [h, List.concat_eq_append]⟩

theorem pos_insert {ns : List ByteArray} (hs : Sorted ns) {s : ByteArray} (hn : ixFrom s 0 ns = none) : Sorted (ns.insertIdx (posOf s ns) s) := by
  have hle := posOf_le s ns
  have hn' := ix_none.1 hn
  rw [insertIdx_td hle, Sorted, List.pairwise_append]
  refine ⟨hs.sublist (List.take_sublist _ _), List.pairwise_cons.2 ⟨fun x hx => ?_, hs.sublist (List.drop_sublist _ _)⟩, fun a ha b hb => ?_⟩
  · obtain ⟨i, hi⟩ := List.mem_iff_getElem?.1 hx
    rw [List.getElem?_drop] at hi
    have := posOf_above s ns hs _ x (by omega) hi
    rcases ltS_tri s x with h | h | h
    · exact h
    · subst h; exact absurd hi (hn' _)
    · rw [this] at h; cases h
  · obtain ⟨i, hi⟩ := List.mem_iff_getElem?.1 ha
    have hil : i < posOf s ns := by
      have := (List.getElem?_eq_some_iff.1 hi).1
      rw [List.length_take] at this; omega
    rw [List.getElem?_take_of_lt hil] at hi
    have h1 := posOf_below s ns i a hil hi
    rcases List.mem_cons.1 hb with rfl | hb
    · exact h1
    · obtain ⟨j, hj⟩ := List.mem_iff_getElem?.1 hb
      rw [List.getElem?_drop] at hj
      have := posOf_above s ns hs _ b (by omega) hj
      rcases ltS_tri s b with h | h | h
      · exact ltS_trans h1 h
      · subst h; exact absurd hj (hn' _)
      · rw [this] at h; cases h

theorem DirW.put1 {t x : N} {s : ByteArray} (h : DirW t) (hs : nameB s = true) (hx : x.well = true) : DirW (N.put1 x s t) := by
  unfold N.put1
  cases hi : ixFrom s 0 t.names with
  | some i =>
    refine ⟨h.kind, h.text, h.sorted, ?_, h.name, ?_⟩
    · show t.names.length = (t.kids.set i x).length
      rw [List.length_set]; exact h.len
    · intro k hk
      rcases List.mem_or_eq_of_mem_set hk with hk | rfl
      · exact h.well k hk
      · exact hx
  | none =>
    have hle := posOf_le s t.names
    have hlen := h.len
    refine ⟨h.kind, h.text, pos_insert h.sorted hi, ?_, ?_, ?_⟩
    · show (t.names.insertIdx _ s).length = (t.kids.insertIdx _ x).length
      rw [List.length_insertIdx_of_le_length hle, List.length_insertIdx_of_le_length (by omega), hlen]
    · intro y hy
      rcases (List.mem_insertIdx hle).1 hy with rfl | hy
      · exact hs
      · exact h.name y hy
    · intro k hk
      rcases (List.mem_insertIdx (by omega)).1 hk with rfl | hk
      · exact hx
      · exact h.well k hk
theorem DirW.del1 {t : N} {s : ByteArray} (h : DirW t) : DirW (N.del1 s t) := by
  unfold N.del1
  cases hi : ixFrom s 0 t.names with
  | none => exact h
  | some i =>
    have hil : i < t.names.length := (List.getElem?_eq_some_iff.1 ((ix_iff h.sorted).1 hi)).1
    have hlen := h.len
    refine ⟨h.kind, h.text, h.sorted.eraseIdx i, ?_, fun x hx => h.name x (List.mem_of_mem_eraseIdx hx), fun k hk => h.well k (List.mem_of_mem_eraseIdx hk)⟩
    show (t.names.eraseIdx i).length = (t.kids.eraseIdx i).length
    rw [List.length_eraseIdx_of_lt hil, List.length_eraseIdx_of_lt (by omega), hlen]

theorem DirW.kid_put1 {t x : N} {s : ByteArray} (h : DirW t) (hs : nameB s = true) (hx : x.well = true) (s' : ByteArray) : (N.put1 x s t).kid s' = if s' = s then some x else t.kid s' := by
  have hw := h.put1 hs hx
  have hlen := h.len
  have key : ∀ k, (N.put1 x s t).kid s' = some k ↔ (if s' = s then some x else t.kid s') = some k := by
    intro k
    rw [hw.kid_iff]
    unfold N.put1
    cases hi : ixFrom s 0 t.names with
    | some i =>
      have hi' := (ix_iff h.sorted).1 hi
      have hil : i < t.kids.length := by have := (List.getElem?_eq_some_iff.1 hi').1; omega
      simp only [N.names_mk, N.kids_mk]
      constructor
      · rintro ⟨j, h1, h2⟩
        by_cases e : s' = s
        · subst e
          have : j = i := by
            have := (ix_iff h.sorted).2 h1
            rw [hi] at this; injection this with this; exact this.symm
          subst this
          rw [List.getElem?_set_self hil] at h2
          rw [if_pos rfl]; exact h2
        · rw [if_neg e, h.kid_iff]
          have hne : i ≠ j := fun e2 => by subst e2; rw [hi'] at h1; injection h1 with h1; exact e h1.symm
          rw [List.getElem?_set_ne hne] at h2
          exact ⟨j, h1, h2⟩
      · intro hk
        by_cases e : s' = s
        · subst e
          rw [if_pos rfl] at hk
          exact ⟨i, hi', by rw [List.getElem?_set_self hil]; exact hk⟩
        · rw [if_neg e, h.kid_iff] at hk
          obtain ⟨j, h1, h2⟩ := hk
          have hne : i ≠ j := fun e2 => by subst e2; rw [hi'] at h1; injection h1 with h1; exact e h1.symm
          exact ⟨j, h1, by rw [List.getElem?_set_ne hne]; exact h2⟩
    | none =>
      have hn := ix_none.1 hi
      have hle := posOf_le s t.names
      simp only [N.names_mk, N.kids_mk]
      generalize posOf s t.names = p at hle
      constructor
      · rintro ⟨j, h1, h2⟩
        rcases Nat.lt_trichotomy j p with hj | hj | hj
        · rw [List.getElem?_insertIdx_of_lt hj] at h1 h2
          have e : s' ≠ s := fun e => by subst e; exact hn _ h1
          rw [if_neg e, h.kid_iff]; exact ⟨j, h1, h2⟩
        · subst hj
          rw [List.getElem?_insertIdx_self, if_pos hle] at h1
          rw [List.getElem?_insertIdx_self, if_pos (by omega)] at h2
          injection h1 with h1
          rw [if_pos h1.symm]; exact h2
        · rw [List.getElem?_insertIdx_of_gt hj] at h1 h2
          have e : s' ≠ s := fun e => by subst e; exact hn _ h1
          rw [if_neg e, h.kid_iff]; exact ⟨_, h1, h2⟩
      · intro hk
        by_cases e : s' = s
        · subst e
          rw [if_pos rfl] at hk
          exact ⟨p, by rw [List.getElem?_insertIdx_self, if_pos hle], by rw [List.getElem?_insertIdx_self, if_pos (by omega)]; exact hk⟩
        · rw [if_neg e, h.kid_iff] at hk
          obtain ⟨j, h1, h2⟩ := hk
          by_cases hj : j < p
          · exact ⟨j, by rw [List.getElem?_insertIdx_of_lt hj]; exact h1, by rw [List.getElem?_insertIdx_of_lt hj]; exact h2⟩
          · exact ⟨j + 1, by rw [List.getElem?_insertIdx_of_gt (by omega)]; simpa using h1, by rw [List.getElem?_insertIdx_of_gt (by omega)]; simpa using h2⟩
  cases ha : (N.put1 x s t).kid s' with
  | some k => exact ((key k).1 ha).symm
  | none =>
    cases hb : (if s' = s then some x else t.kid s') with
    | none => rfl
    | some k => rw [(key k).2 hb] at ha; cases ha

theorem DirW.kid_del1 {t : N} {s : ByteArray} (h : DirW t) (s' : ByteArray) : (N.del1 s t).kid s' = if s' = s then none else t.kid s' := by
  have hw := h.del1 (s := s)
  have hlen := h.len
  have key : ∀ k, (N.del1 s t).kid s' = some k ↔ (if s' = s then none else t.kid s') = some k := by
    intro k
    rw [hw.kid_iff]
    unfold N.del1
    cases hi : ixFrom s 0 t.names with
    | some i =>
      have hi' := (ix_iff h.sorted).1 hi
      simp only [N.names_mk, N.kids_mk]
      have inj : ∀ j, t.names[j]? = some s → j = i := fun j hj => by
        have := (ix_iff h.sorted).2 hj
        rw [hi] at this; injection this with this; exact this.symm
      constructor
      · rintro ⟨j, h1, h2⟩
        rcases Nat.lt_or_ge j i with hj | hj
        · rw [List.getElem?_eraseIdx_of_lt hj] at h1 h2
          have e : s' ≠ s := fun e => by subst e; have := inj _ h1; omega
          rw [if_neg e, h.kid_iff]; exact ⟨j, h1, h2⟩
        · rw [List.getElem?_eraseIdx_of_ge hj] at h1 h2
          have e : s' ≠ s := fun e => by subst e; have := inj _ h1; omega
          rw [if_neg e, h.kid_iff]; exact ⟨_, h1, h2⟩
      · intro hk
        by_cases e : s' = s
        · rw [if_pos e] at hk; cases hk
        · rw [if_neg e, h.kid_iff] at hk
          obtain ⟨j, h1, h2⟩ := hk
          have hne : j ≠ i := fun e2 => by subst e2; rw [hi'] at h1; injection h1 with h1; exact e h1.symm
          by_cases hj : j < i
          · exact ⟨j, by rw [List.getElem?_eraseIdx_of_lt hj]; exact h1, by rw [List.getElem?_eraseIdx_of_lt hj]; exact h2⟩
          · have e1 : j - 1 + 1 = j := by omega
            exact ⟨j - 1, by rw [List.getElem?_eraseIdx_of_ge (by omega), e1]; exact h1, by rw [List.getElem?_eraseIdx_of_ge (by omega), e1]; exact h2⟩
    | none =>
      have hn := ix_none.1 hi
      simp only
      rw [← h.kid_iff]
      by_cases e : s' = s
      · subst e
        rw [if_pos rfl, h.kid_iff]
        constructor
        · rintro ⟨j, h1, _⟩; exact absurd h1 (hn j)
        · intro h; cases h
      · rw [if_neg e]
  cases ha : (N.del1 s t).kid s' with
  | some k => exact ((key k).1 ha).symm
  | none =>
    cases hb : (if s' = s then none else t.kid s') with
    | none => rfl
    | some k => rw [(key k).2 hb] at ha; cases ha

/-- A place's parent is there, a directory (and those ahead of it). -/
def OpenP (t : N) : List ByteArray → Prop
  | [] => False
  | [_] => t.kind = 2
  | s :: r => t.kind = 2 ∧ ∃ k, t.kid s = some k ∧ OpenP k r
theorem OpenP.kind {t : N} : ∀ {p : List ByteArray}, OpenP t p → t.kind = 2
  | [], h => h.elim
  | [_], h => h
  | _ :: _ :: _, h => h.1
theorem openP_iff {t : N} : ∀ {p : List ByteArray} (s : ByteArray), t.well = true → (OpenP t (p ++ [s]) ↔ ∃ d, t.get p = some d ∧ d.kind = 2) := by
  intro p
  induction p generalizing t with
  | nil =>
    intro s hw
    rw [List.nil_append, OpenP, N.get_nil]
    exact ⟨fun h => ⟨t, rfl, h⟩, fun ⟨d, h1, h2⟩ => by injection h1 with h1; rw [h1]; exact h2⟩
  | cons a p ih =>
    intro s hw
    have e : a :: p ++ [s] = a :: (p ++ [s]) := rfl
    rw [e, N.get_cons]
    have hne : p ++ [s] ≠ [] := by simp
    obtain ⟨b, q, hb⟩ : ∃ b q, p ++ [s] = b :: q := by
      cases h : p ++ [s] with
      | nil => exact absurd h hne
      | cons b q => exact ⟨b, q, rfl⟩
    rw [hb, OpenP, ← hb]
    · constructor
      · rintro ⟨hk, k, h1, h2⟩
        have hd := DirW.of hw hk
        obtain ⟨d, h3, h4⟩ := (ih s (hd.kid_well h1)).1 h2
        exact ⟨d, by rw [h1]; exact h3, h4⟩
      · rintro ⟨d, h1, h2⟩
        cases hk : t.kid a with
        | none => rw [hk] at h1; cases h1
        | some k =>
          rw [hk] at h1
          have hd := DirW.of hw (kind_dir hw hk)
          exact ⟨hd.kind, k, rfl, (ih s (hd.kid_well hk)).2 ⟨d, h1, h2⟩⟩
    · intro h; cases h

/-- What change asks of what is done at the parent: that it does nothing at other names, and keeps what is well formed. -/
structure Loc (f : ByteArray → N → N) (s : ByteArray) (y : Option N) : Prop where
  dir : ∀ t, DirW t → DirW (f s t)
  kid : ∀ t s', DirW t → (f s t).kid s' = if s' = s then y else t.kid s'
theorem Loc.put {x : N} {s : ByteArray} (hs : nameB s = true) (hx : x.well = true) : Loc (N.put1 x) s (some x) := ⟨fun _ h => h.put1 hs hx, fun _ s' h => h.kid_put1 hs hx s'⟩
theorem Loc.del {s : ByteArray} : Loc N.del1 s none := ⟨fun _ h => h.del1, fun _ s' h => h.kid_del1 s'⟩

theorem N.chg_one (f : ByteArray → N → N) (s : ByteArray) (t : N) : N.chg f [s] t = f s t := by rw [N.chg]
theorem N.chg_step {f : ByteArray → N → N} {s a : ByteArray} {r : List ByteArray} {t k : N} (_hd : DirW t) (hk : t.kid s = some k) (hkd : k.kind = 2) : N.chg f (s :: a :: r) t = N.put1 (N.chg f (a :: r) k) s t := by
  unfold N.kid at hk
  rw [N.chg]
  · unfold N.put1
    cases hi : ixFrom s 0 t.names with
    | none => rw [hi] at hk; cases hk
    | some i =>
      rw [hi] at hk
      simp only at hk ⊢
      rw [hk]
      simp only
      rw [if_pos hkd]
  · intro h; cases h

/-- What change does, at a place that is open: the parent's name, and what stands there then. -/
theorem chg_law {f : ByteArray → N → N} {y : Option N} : ∀ {p : List ByteArray} {s : ByteArray} {t : N}, t.well = true → OpenP t (p ++ [s]) → Loc f s y →
    DirW (N.chg f (p ++ [s]) t) ∧ (N.chg f (p ++ [s]) t).get (p ++ [s]) = y ∧ (∀ q, ¬ (p ++ [s]) <+: q → ¬ q <+: (p ++ [s]) → (N.chg f (p ++ [s]) t).get q = t.get q) := by
  intro p
  induction p with
  | nil =>
    intro s t hw ho hl
    have hd := DirW.of hw ho.kind
    rw [List.nil_append, N.chg_one]
    refine ⟨hl.dir t hd, ?_, fun q h1 h2 => ?_⟩
    · rw [N.get_cons, hl.kid t s hd, if_pos rfl]
      cases y with
      | none => rfl
      | some k => exact N.get_nil k
    · cases q with
      | nil => exact absurd (List.nil_prefix) h2
      | cons b q =>
        rw [N.get_cons, N.get_cons, hl.kid t b hd]
        by_cases e : b = s
        · subst e; exact absurd (by simp) h1
        · rw [if_neg e]
  | cons a p ih =>
    intro s t hw ho hl
    obtain ⟨b, q, hb⟩ : ∃ b q, p ++ [s] = b :: q := by
      cases h : p ++ [s] with
      | nil => simp at h
      | cons b q => exact ⟨b, q, rfl⟩
    have e : a :: p ++ [s] = a :: (p ++ [s]) := rfl
    rw [e] at ho ⊢
    have hd := DirW.of hw ho.kind
    obtain ⟨k, hk, hok⟩ : ∃ k, t.kid a = some k ∧ OpenP k (p ++ [s]) := by
      rw [hb] at ho ⊢
      exact ho.2
    have hkw := hd.kid_well hk
    obtain ⟨i1, i2, i3⟩ := ih hkw hok hl
    have hkk := hok.kind
    have hst : N.chg f (a :: (p ++ [s])) t = N.put1 (N.chg f (p ++ [s]) k) a t := by
      rw [hb]; exact N.chg_step hd hk hkk
    have hna : nameB a = true := by
      obtain ⟨i, h1, _⟩ := hd.kid_iff.1 hk
      exact hd.name a (List.mem_of_getElem? h1)
    rw [hst]
    refine ⟨hd.put1 hna i1.wf, ?_, fun q' h1 h2 => ?_⟩
    · rw [N.get_cons, hd.kid_put1 hna i1.wf, if_pos rfl]
      exact i2
    · cases q' with
      | nil => exact absurd (List.nil_prefix) h2
      | cons c q' =>
        rw [N.get_cons, N.get_cons, hd.kid_put1 hna i1.wf]
        by_cases e : c = a
        · subst e
          rw [if_pos rfl, hk]
          show (N.chg f (p ++ [s]) k).get q' = k.get q'
          refine i3 q' (fun h => h1 ?_) (fun h => h2 ?_)
          · exact (List.cons_prefix_cons).2 ⟨rfl, h⟩
          · exact (List.cons_prefix_cons).2 ⟨rfl, h⟩
        · rw [if_neg e]

/-- what is found is well formed. -/
theorem get_well {t : N} : ∀ {p : List ByteArray} {x : N}, t.well = true → t.get p = some x → x.well = true := by
  intro p
  induction p generalizing t with
  | nil => intro x hw h; rw [N.get_nil] at h; injection h with h; rw [← h]; exact hw
  | cons a p ih =>
    intro x hw h
    rw [N.get_cons] at h
    cases hk : t.kid a with
    | none => rw [hk] at h; cases h
    | some k =>
      rw [hk] at h
      exact ih ((DirW.of hw (kind_dir hw hk)).kid_well hk) h
/-- the parent of what is found is a directory. -/
theorem open_of_get {t : N} {p : List ByteArray} {s : ByteArray} {x : N} (hw : t.well = true) (h : t.get (p ++ [s]) = some x) : OpenP t (p ++ [s]) := by
  rw [openP_iff s hw]
  induction p generalizing t with
  | nil =>
    rw [List.nil_append, N.get_cons] at h
    cases hk : t.kid s with
    | none => rw [hk] at h; cases h
    | some k => exact ⟨t, N.get_nil t, kind_dir hw hk⟩
  | cons a p ih =>
    have e : a :: p ++ [s] = a :: (p ++ [s]) := rfl
    rw [e, N.get_cons] at h
    rw [N.get_cons]
    cases hk : t.kid a with
    | none => rw [hk] at h; cases h
    | some k =>
      rw [hk] at h
      exact ih ((DirW.of hw (kind_dir hw hk)).kid_well hk) h
end Go.Proofs.Ytocndkhgopjhhaa
