/- The plain law of a binary heap, as container/heap keeps it. -/
namespace Go.Proofs.Ytocndkhgopjhhaa

/-- A strict order whose 'not less' is an order of all. -/
structure Ord {α : Type} (lt : α → α → Bool) : Prop where
  asymm : ∀ a b, lt a b = true → lt b a = false
  trans : ∀ a b c, lt b a = false → lt c b = false → lt c a = false

theorem Ord.irrefl {α : Type} {lt : α → α → Bool} (o : Ord lt) (a : α) : lt a a = false := by
  cases h : lt a a
  · rfl
  · rw [← h]; exact o.asymm a a h

section
variable {α : Type} {lt : α → α → Bool}

/-- two places of a list exchanged. -/
def swapL (xs : List α) (i j : Nat) : List α :=
  match xs[i]?, xs[j]? with
  | some a, some b => (xs.set i b).set j a
  | _, _ => xs

theorem swapL_eq {xs : List α} {i j : Nat} {a b : α} (hi : xs[i]? = some a) (hj : xs[j]? = some b) : swapL xs i j = (xs.set i b).set j a := by rw [swapL, hi, hj]
theorem swapL_length (xs : List α) (i j : Nat) : (swapL xs i j).length = xs.length := by
  unfold swapL; split <;> simp
theorem swapL_get {xs : List α} {i j : Nat} {a b : α} (hi : xs[i]? = some a) (hj : xs[j]? = some b) (k : Nat) :
    (swapL xs i j)[k]? = if k = j then some a else if k = i then some b else xs[k]? := by
  have li := (List.getElem?_eq_some_iff.1 hi).1
  have lj := (List.getElem?_eq_some_iff.1 hj).1
  rw [swapL_eq hi hj, List.getElem?_set, List.getElem?_set]
  by_cases h1 : j = k
  · subst h1; simp [lj]
  · rw [if_neg h1, if_neg (Ne.symm h1)]
    by_cases h2 : i = k
    · subst h2; simp [li]
    · rw [if_neg h2, if_neg (Ne.symm h2)]
theorem swapL_perm (xs : List α) (i j : Nat) : List.Perm (swapL xs i j) xs := by
  unfold swapL
  split
  · rename_i a b hi hj
    obtain ⟨li, rfl⟩ := List.getElem?_eq_some_iff.1 hi
    obtain ⟨lj, rfl⟩ := List.getElem?_eq_some_iff.1 hj
    have := Array.swap_perm (xs := xs.toArray) (i := i) (j := j) (by simpa using li) (by simpa using lj)
    simpa [Array.swap, Array.perm_iff_toList_perm] using this
  · exact List.Perm.refl _

def Heap (lt : α → α → Bool) (n : Nat) (xs : List α) : Prop := ∀ (k : Nat) (a p : α), 0 < k → k < n → xs[k]? = some a → xs[(k - 1) / 2]? = some p → lt a p = false
def UpInv (lt : α → α → Bool) (xs : List α) (j : Nat) : Prop :=
  (∀ (k : Nat) (a p : α), 0 < k → k ≠ j → xs[k]? = some a → xs[(k - 1) / 2]? = some p → lt a p = false) ∧
  (∀ (c : Nat) (a p : α), 0 < j → 0 < c → (c - 1) / 2 = j → xs[c]? = some a → xs[(j - 1) / 2]? = some p → lt a p = false)
def DownInv (lt : α → α → Bool) (n : Nat) (xs : List α) (i : Nat) : Prop :=
  (∀ (k : Nat) (a p : α), 0 < k → k < n → (k - 1) / 2 ≠ i → xs[k]? = some a → xs[(k - 1) / 2]? = some p → lt a p = false) ∧
  (∀ (c : Nat) (a p : α), 0 < i → 0 < c → c < n → (c - 1) / 2 = i → xs[c]? = some a → xs[(i - 1) / 2]? = some p → lt a p = false)

theorem Heap.min (o : Ord lt) {n : Nat} {xs : List α} (h : Heap lt n xs) {r : α} (hr : xs[0]? = some r) : ∀ (k : Nat) (a : α), k < n → xs[k]? = some a → lt a r = false := by
  intro k
  induction k using Nat.strongRecOn with
  | ind k ih =>
    intro a hk ha
    rcases Nat.eq_zero_or_pos k with rfl | h0
    · rw [hr] at ha; injection ha with ha; subst ha; exact o.irrefl _
    · have hl := (List.getElem?_eq_some_iff.1 ha).1
      obtain ⟨p, hp⟩ : ∃ p, xs[(k - 1) / 2]? = some p := ⟨_, List.getElem?_eq_getElem (by omega)⟩
      exact o.trans _ _ _ (ih ((k - 1) / 2) (by omega) p (by omega) hp) (h k a p h0 hk ha hp)

theorem up_start {xs : List α} {t : α} (h : Heap lt xs.length xs) : UpInv lt (xs ++ [t]) xs.length := by
  refine ⟨fun k a p h0 hk ha hp => ?_, fun c a p hj h0 hc ha hp => ?_⟩
  · have hl := (List.getElem?_eq_some_iff.1 ha).1
    simp at hl
    have hk' : k < xs.length := by omega
    rw [List.getElem?_append_left hk'] at ha
    rw [List.getElem?_append_left (by omega)] at hp
    exact h k a p h0 hk' ha hp
  · have hl := (List.getElem?_eq_some_iff.1 ha).1
    simp at hl
    omega

theorem up_stop_zero {xs : List α} (h : UpInv lt xs 0) : Heap lt xs.length xs := fun k a p h0 _ ha hp => h.1 k a p h0 (by omega) ha hp
theorem up_stop {xs : List α} {j : Nat} (h : UpInv lt xs j) {x p : α} (hx : xs[j]? = some x) (hp : xs[(j - 1) / 2]? = some p) (hn : lt x p = false) : Heap lt xs.length xs := by
  intro k a q h0 _ ha hq
  by_cases hk : k = j
  · subst hk; rw [hx] at ha; rw [hp] at hq; injection ha with ha; injection hq with hq; subst ha hq; exact hn
  · exact h.1 k a q h0 hk ha hq

theorem up_step (o : Ord lt) {xs : List α} {j : Nat} (h : UpInv lt xs j) (hj : 0 < j) {x p : α} (hx : xs[j]? = some x) (hp : xs[(j - 1) / 2]? = some p) (hn : lt x p = true) :
    UpInv lt (swapL xs ((j - 1) / 2) j) ((j - 1) / 2) := by
  have hij : (j - 1) / 2 < j := by omega
  have hg := swapL_get hp hx
  refine ⟨fun k a q h0 hk ha hq => ?_, fun c a q hi h0 hc ha hq => ?_⟩
  · rw [hg] at ha hq
    by_cases e1 : k = j
    · subst e1
      rw [if_pos rfl] at ha
      rw [if_neg (by omega), if_pos rfl] at hq
      injection ha with ha; injection hq with hq; subst ha hq
      exact o.asymm _ _ hn
    · rw [if_neg e1, if_neg hk] at ha
      by_cases e2 : (k - 1) / 2 = j
      · rw [if_pos e2] at hq
        injection hq with hq; subst hq
        exact h.2 k a p hj h0 e2 ha hp
      · rw [if_neg e2] at hq
        by_cases e3 : (k - 1) / 2 = (j - 1) / 2
        · rw [if_pos e3] at hq
          injection hq with hq; subst hq
          have h1 := h.1 k a p h0 e1 ha (by rw [e3]; exact hp)
          exact o.trans x p a (o.asymm _ _ hn) h1
        · rw [if_neg e3] at hq
          exact h.1 k a q h0 e1 ha hq
  · rw [hg] at ha hq
    rw [if_neg (by omega), if_neg (by omega)] at hq
    have hpq := h.1 ((j - 1) / 2) p q hi (by omega) hp hq
    by_cases e1 : c = j
    · subst e1
      rw [if_pos rfl] at ha
      injection ha with ha; subst ha
      exact hpq
    · rw [if_neg e1, if_neg (by omega)] at ha
      exact o.trans q p a hpq (h.1 c a p h0 e1 ha (by rw [hc]; exact hp))

theorem down_start {n : Nat} {xs : List α} {t : α} (h : Heap lt xs.length xs) (hn : n ≤ xs.length) : DownInv lt n (xs.set 0 t) 0 := by
  refine ⟨fun k a p h0 hk h1 ha hp => ?_, fun c a p hi => by omega⟩
  rw [List.getElem?_set_ne (by omega)] at ha hp
  exact h k a p h0 (by omega) ha hp

theorem down_stop {n : Nat} {xs : List α} {i : Nat} (h : DownInv lt n xs i) (hc : ∀ (c : Nat) (a p : α), 0 < c → c < n → (c - 1) / 2 = i → xs[c]? = some a → xs[i]? = some p → lt a p = false) : Heap lt n xs := by
  intro k a p h0 hk ha hp
  by_cases e : (k - 1) / 2 = i
  · exact hc k a p h0 hk e ha (by rw [← e]; exact hp)
  · exact h.1 k a p h0 hk e ha hp

theorem down_step (o : Ord lt) {n : Nat} {xs : List α} {i j : Nat} (h : DownInv lt n xs i) (hj0 : 0 < j) (hjn : j < n) (hji : (j - 1) / 2 = i) {x y : α} (hx : xs[i]? = some x) (hy : xs[j]? = some y) (hn : lt y x = true)
    (hmin : ∀ (c : Nat) (a : α), 0 < c → c < n → (c - 1) / 2 = i → xs[c]? = some a → lt a y = false) : DownInv lt n (swapL xs i j) j := by
  have hij : i < j := by omega
  have hg := swapL_get hx hy
  refine ⟨fun k a q h0 hk hkj ha hq => ?_, fun c a q _ h0 hcn hc ha hq => ?_⟩
  · rw [hg] at ha hq
    rw [if_neg hkj] at hq
    by_cases e1 : k = j
    · subst e1
      rw [if_pos rfl] at ha
      rw [if_pos hji] at hq
      injection ha with ha; injection hq with hq; subst ha hq
      exact o.asymm _ _ hn
    · rw [if_neg e1] at ha
      by_cases e2 : k = i
      · rw [if_pos e2] at ha
        subst e2
        rw [if_neg (by omega)] at hq
        injection ha with ha; subst ha
        exact h.2 j y q h0 hj0 hjn hji hy hq
      · rw [if_neg e2] at ha
        by_cases e3 : (k - 1) / 2 = i
        · rw [if_pos e3] at hq
          injection hq with hq; subst hq
          exact hmin k a h0 hk e3 ha
        · rw [if_neg e3] at hq
          exact h.1 k a q h0 hk e3 ha hq
  · rw [hg] at ha hq
    rw [if_neg (by omega), if_neg (by omega)] at ha
    rw [if_neg (by omega), if_pos hji] at hq
    injection hq with hq; subst hq
    exact h.1 c a y h0 hcn (by omega) ha (by rw [hc]; exact hy)
end

/-! rows, in order -/
def lessR : List Int → List Int → Bool
  | [], [] => false
  | [], _ :: _ => true
  | _ :: _, [] => false
  | a :: as, b :: bs => if a = b then lessR as bs else decide (a < b)

theorem lessR_ord : Ord lessR where
  asymm := by
    intro a
    induction a with
    | nil => intro b h; cases b <;> simp_all [lessR]
    | cons x a ih =>
      intro b h
      cases b with
      | nil => simp [lessR] at h
      | cons y b =>
        rw [lessR] at h ⊢
        by_cases e : x = y
        · subst e; rw [if_pos rfl] at h ⊢; exact ih b h
        · rw [if_neg e] at h; rw [if_neg (Ne.symm e)]; simp at h ⊢; omega
  trans := by
    intro a
    induction a with
    | nil => intro b c h1 h2; cases b with
      | nil => exact h2
      | cons y b => cases c <;> simp_all [lessR]
    | cons x a ih =>
      intro b c h1 h2
      cases b with
      | nil => simp [lessR] at h1
      | cons y b =>
        cases c with
        | nil => simp [lessR] at h2
        | cons z c =>
          rw [lessR] at h1 h2 ⊢
          by_cases e1 : y = x
          · subst e1
            rw [if_pos rfl] at h1
            by_cases e2 : z = y
            · subst e2; rw [if_pos rfl] at h2 ⊢; exact ih b c h1 h2
            · rw [if_neg e2] at h2 ⊢; exact h2
          · rw [if_neg e1] at h1
            simp at h1
            by_cases e2 : z = y
            · subst e2; rw [if_neg e1]; simpa using h1
            · rw [if_neg e2] at h2
              simp at h2
              rw [if_neg (by omega)]; simp; omega
theorem lessR_eq : ∀ {a b : List Int}, lessR a b = false → lessR b a = false → a = b
  | [], [], _, _ => rfl
  | [], _ :: _, h, _ => by simp [lessR] at h
  | _ :: _, [], _, h => by simp [lessR] at h
  | x :: a, y :: b, h, k => by
    rw [lessR] at h k
    by_cases e : x = y
    · subst e; rw [if_pos rfl] at h k; rw [lessR_eq h k]
    · rw [if_neg e] at h; rw [if_neg (Ne.symm e)] at k
      simp at h k; omega
theorem lessR_irrefl (a : List Int) : lessR a a = false := lessR_ord.irrefl a
theorem Ord.on {α β : Type} {lt : α → α → Bool} (o : Ord lt) (f : β → α) : Ord fun x y => lt (f x) (f y) :=
  ⟨fun _ _ => o.asymm _ _, fun _ _ _ => o.trans _ _ _⟩
/-- a row stands ahead of what goes on with it. -/
theorem lessR_app : ∀ (a : List Int) (k : Int), lessR a (a ++ [k]) = true
  | [], k => rfl
  | x :: a, k => by rw [List.cons_append, lessR, if_pos rfl]; exact lessR_app a k
end Go.Proofs.Ytocndkhgopjhhaa
