/- The document's With (the directory in which something stands at a place) is what put and del are. The plain law. -/
import Derived.Test.YtocndkhgopjhhaaTreeB
namespace Go.Proofs.Ytocndkhgopjhhaa
open Go.RowKit

/-- The loop of With over names and kids: s: the name; one: the place has one name; x: what is put there (of kind 0: taken away); R: what is done with the kid of that name; done: x is put already. -/
def withL (s : ByteArray) (one : Bool) (x : N) (R : N → N) : Bool → List ByteArray → List N → List ByteArray × List N
  | done, [], _ => if (!done && one && decide (x.kind ≠ 0)) = true then ([s], [x]) else ([], [])
  | _, _ :: _, [] => ([], [])
  | done, y :: ns, k :: ks =>
    if (ltS s y && !done && one && decide (x.kind ≠ 0)) = true then
      if y = s then (if one = true then (s :: (withL s one x R true ns ks).1, x :: (withL s one x R true ns ks).2) else (s :: y :: (withL s one x R true ns ks).1, x :: R k :: (withL s one x R true ns ks).2))
      else (s :: y :: (withL s one x R true ns ks).1, x :: k :: (withL s one x R true ns ks).2)
    else
      if y = s then (if one = true then withL s one x R done ns ks else (y :: (withL s one x R done ns ks).1, R k :: (withL s one x R done ns ks).2))
      else (y :: (withL s one x R done ns ks).1, k :: (withL s one x R done ns ks).2)

/-- With. -/
def N.withR (x : N) : List ByteArray → N → N
  | [], t => t
  | s :: r, t => .mk t.kind { data := #[] } (withL s r.isEmpty x (fun k => N.withR x r k) false t.names t.kids).1 (withL s r.isEmpty x (fun k => N.withR x r k) false t.names t.kids).2

def putL (s : ByteArray) (x : N) : List ByteArray → List N → List ByteArray × List N
  | [], _ => ([s], [x])
  | _ :: _, [] => ([], [])
  | y :: ns, k :: ks => if y = s then (s :: ns, x :: ks) else if ltS s y = true then (s :: y :: ns, x :: k :: ks) else (y :: (putL s x ns ks).1, k :: (putL s x ns ks).2)
def delL (s : ByteArray) : List ByteArray → List N → List ByteArray × List N
  | [], _ => ([], [])
  | _ :: _, [] => ([], [])
  | y :: ns, k :: ks => if y = s then (ns, ks) else (y :: (delL s ns ks).1, k :: (delL s ns ks).2)
def modL (s : ByteArray) (R : N → N) : List ByteArray → List N → List N
  | [], _ => []
  | _ :: _, [] => []
  | y :: ns, k :: ks => if y = s then R k :: ks else k :: modL s R ns ks

theorem ixFrom_succ (s : ByteArray) : ∀ (l : List ByteArray) (j : Nat), ixFrom s (j + 1) l = (ixFrom s j l).map (· + 1)
  | [], j => rfl
  | y :: l, j => by
    rw [ixFrom, ixFrom]
    by_cases e : y = s
    · rw [if_pos e, if_pos e]; rfl
    · rw [if_neg e, if_neg e, ixFrom_succ s l (j + 1)]

theorem putL_eq (s : ByteArray) (x : N) : ∀ (ns : List ByteArray) (ks : List N), Sorted ns → ns.length = ks.length →
    putL s x ns ks = (match ixFrom s 0 ns with | some i => (ns, ks.set i x) | none => (ns.insertIdx (posOf s ns) s, ks.insertIdx (posOf s ns) x))
  | [], ks, _, h => by
    have : ks = [] := List.eq_nil_of_length_eq_zero h.symm
    subst this
    simp [putL, ixFrom, posOf]
  | y :: ns, [], _, h => by simp at h
  | y :: ns, k :: ks, hs, h => by
    have hs' := List.pairwise_cons.1 hs
    have ih := putL_eq s x ns ks hs'.2 (by simpa using h)
    rw [putL, ixFrom, posOf, ixFrom_succ]
    by_cases e : y = s
    · subst e; rw [if_pos rfl, if_pos rfl]; rfl
    · rw [if_neg e, if_neg e]
      by_cases hl : ltS s y = true
      · rw [if_pos hl]
        have hn : ¬ ltS y s = true := by rw [ltS_asymm hl]; simp
        rw [if_neg hn]
        have : ixFrom s 0 ns = none := by
          rw [ixFrom_none]
          intro hm
          have h1 := hs'.1 s hm
          exact hn h1
        rw [this]
        rfl
      · rw [if_neg hl]
        have hn : ltS y s = true := by
          rcases ltS_tri y s with h1 | h1 | h1
          · exact h1
          · exact absurd h1 e
          · exact absurd h1 hl
        rw [if_pos hn, ih]
        cases ixFrom s 0 ns with
        | none => simp
        | some i => simp

theorem delL_eq (s : ByteArray) : ∀ (ns : List ByteArray) (ks : List N), ns.length = ks.length →
    delL s ns ks = (match ixFrom s 0 ns with | some i => (ns.eraseIdx i, ks.eraseIdx i) | none => (ns, ks))
  | [], ks, h => by
    have : ks = [] := List.eq_nil_of_length_eq_zero h.symm
    subst this
    simp [delL, ixFrom]
  | y :: ns, [], h => by simp at h
  | y :: ns, k :: ks, h => by
    have ih := delL_eq s ns ks (by simpa using h)
    rw [delL, ixFrom, ixFrom_succ]
    by_cases e : y = s
    · rw [if_pos e, if_pos e]; rfl
    · rw [if_neg e, if_neg e, ih]
      cases ixFrom s 0 ns with
      | none => simp
      | some i => simp

theorem modL_eq (s : ByteArray) (R : N → N) : ∀ (ns : List ByteArray) (ks : List N), ns.length = ks.length → ∀ i k, ixFrom s 0 ns = some i → ks[i]? = some k → modL s R ns ks = ks.set i (R k)
  | [], ks, h, i, k, hi, _ => by simp [ixFrom] at hi
  | y :: ns, [], h, _, _, _, _ => by simp at h
  | y :: ns, k :: ks, h, i, k', hi, hk => by
    rw [ixFrom, ixFrom_succ] at hi
    rw [modL]
    by_cases e : y = s
    · rw [if_pos e] at hi ⊢
      injection hi with hi
      subst hi
      simp at hk
      subst hk
      rfl
    · rw [if_neg e] at hi ⊢
      cases hj : ixFrom s 0 ns with
      | none => rw [hj] at hi; cases hi
      | some j =>
        rw [hj] at hi
        simp at hi
        subst hi
        rw [modL_eq s R ns ks (by simpa using h) j k' hj (by simpa using hk)]
        rfl

/-- behind the place where it was put: nothing is done. -/
theorem withL_done (s : ByteArray) (one : Bool) (x : N) (R : N → N) : ∀ (ns : List ByteArray) (ks : List N), ns.length = ks.length → s ∉ ns → withL s one x R true ns ks = (ns, ks)
  | [], ks, h, _ => by
    have : ks = [] := List.eq_nil_of_length_eq_zero h.symm
    subst this
    simp [withL]
  | y :: ns, [], h, _ => by simp at h
  | y :: ns, k :: ks, h, hs => by
    have e : y ≠ s := fun e => hs (by simp [e])
    have ih := withL_done s one x R ns ks (by simpa using h) (fun h => hs (by simp [h]))
    rw [withL, ih, if_neg (by simp), if_neg e]

theorem withL_put (s : ByteArray) {x : N} (hx : x.kind ≠ 0) (R : N → N) : ∀ (ns : List ByteArray) (ks : List N), Sorted ns → ns.length = ks.length → withL s true x R false ns ks = putL s x ns ks
  | [], ks, _, h => by simp [withL, putL, hx]
  | y :: ns, [], _, h => by simp at h
  | y :: ns, k :: ks, hs, h => by
    have hs' := List.pairwise_cons.1 hs
    have hl : ns.length = ks.length := by simpa using h
    have ih := withL_put s hx R ns ks hs'.2 hl
    rw [withL, putL]
    by_cases e : y = s
    · subst e
      rw [ltS_irrefl, if_neg (by simp), if_pos rfl, if_pos rfl, if_pos rfl, ih]
      -- all the others stand behind it
      cases ns with
      | nil =>
        have : ks = [] := List.eq_nil_of_length_eq_zero hl.symm
        subst this
        rfl
      | cons z ns =>
        cases ks with
        | nil => simp at hl
        | cons k' ks =>
          have hz := hs'.1 z (by simp)
          have hne : z ≠ y := fun e => by subst e; rw [ltS_irrefl] at hz; cases hz
          rw [putL, if_neg hne, if_pos hz]
    · by_cases hlt : ltS s y = true
      · rw [if_pos (by simp [hlt, hx]), if_neg e, if_neg e, if_pos hlt]
        have : s ∉ ns := fun hm => by
          have h1 := hs'.1 s hm
          have := ltS_trans h1 hlt
          rw [ltS_irrefl] at this; cases this
        rw [withL_done s true x R ns ks hl this]
      · rw [if_neg (by simp [hlt]), if_neg e, if_neg e, if_neg hlt, ih]

theorem withL_del (s : ByteArray) {x : N} (hx : x.kind = 0) (R : N → N) : ∀ (ns : List ByteArray) (ks : List N), Sorted ns → ns.length = ks.length → withL s true x R false ns ks = delL s ns ks
  | [], ks, _, h => by simp [withL, delL, hx]
  | y :: ns, [], _, h => by simp at h
  | y :: ns, k :: ks, hs, h => by
    have hs' := List.pairwise_cons.1 hs
    have hl : ns.length = ks.length := by simpa using h
    have ih := withL_del s hx R ns ks hs'.2 hl
    rw [withL, delL, if_neg (by simp [hx]), ih]
    by_cases e : y = s
    · rw [if_pos e, if_pos e, if_pos rfl]
      subst e
      have hn : y ∉ ns := fun hm => by have := hs'.1 y hm; rw [ltS_irrefl] at this; cases this
      rw [delL_eq y ns ks hl, ixFrom_none.2 hn]
    · rw [if_neg e, if_neg e]

theorem withL_mod (s : ByteArray) (x : N) (R : N → N) : ∀ (ns : List ByteArray) (ks : List N), Sorted ns → ns.length = ks.length → withL s false x R false ns ks = (ns, modL s R ns ks)
  | [], ks, _, h => by simp [withL, modL]
  | y :: ns, [], _, h => by simp at h
  | y :: ns, k :: ks, hs, h => by
    have hs' := List.pairwise_cons.1 hs
    have hl : ns.length = ks.length := by simpa using h
    have ih := withL_mod s x R ns ks hs'.2 hl
    rw [withL, modL, if_neg (by simp), ih]
    by_cases e : y = s
    · rw [if_pos e, if_neg (by simp), if_pos e]
      subst e
      have hn : y ∉ ns := fun hm => by have := hs'.1 y hm; rw [ltS_irrefl] at this; cases this
      have hm : ∀ (ns : List ByteArray) (ks : List N), y ∉ ns → ns.length = ks.length → modL y R ns ks = ks := by
        intro ns
        induction ns with
        | nil => intro ks _ h; rw [List.eq_nil_of_length_eq_zero h.symm]; rfl
        | cons z ns ih2 =>
          intro ks h1 h2
          cases ks with
          | nil => simp at h2
          | cons k' ks =>
            rw [modL, if_neg (fun e => h1 (by simp [e])), ih2 ks (fun h => h1 (by simp [h])) (by simpa using h2)]
      rw [hm ns ks hn hl]
    · rw [if_neg e, if_neg e]

theorem empty_of {s : ByteArray} (h : s.toList = []) : s = { data := #[] } := toList_inj (by rw [h, Lib.toList_data])

theorem withR_put1 {t x : N} {s : ByteArray} (h : DirW t) (hx : x.kind ≠ 0) : N.withR x [s] t = N.put1 x s t := by
  rw [N.withR, show ([] : List ByteArray).isEmpty = true from rfl, withL_put s hx _ _ _ h.sorted h.len, putL_eq s x _ _ h.sorted h.len, ← empty_of h.text]
  unfold N.put1
  cases ixFrom s 0 t.names <;> rfl
theorem withR_del1 {t : N} {s : ByteArray} (h : DirW t) : N.withR N.zero [s] t = N.del1 s t := by
  rw [N.withR, show ([] : List ByteArray).isEmpty = true from rfl, withL_del s (by rfl) _ _ _ h.sorted h.len, delL_eq s _ _ h.len, ← empty_of h.text]
  unfold N.del1
  cases ixFrom s 0 t.names
  · obtain ⟨k, tx, ns, ks⟩ := t; rfl
  · rfl
theorem withR_step {t x k : N} {s a : ByteArray} {r : List ByteArray} (h : DirW t) (hk : t.kid s = some k) : N.withR x (s :: a :: r) t = N.put1 (N.withR x (a :: r) k) s t := by
  unfold N.kid at hk
  cases hi : ixFrom s 0 t.names with
  | none => rw [hi] at hk; cases hk
  | some i =>
    rw [hi] at hk
    simp only at hk
    rw [N.withR, show (a :: r).isEmpty = false from rfl, withL_mod s x _ _ _ h.sorted h.len, modL_eq s _ _ _ h.len i k hi hk, ← empty_of h.text]
    unfold N.put1
    rw [hi]

theorem withR_chg {x : N} {f : ByteArray → N → N} (hf : ∀ s t, DirW t → N.withR x [s] t = f s t) : ∀ {p : List ByteArray} {t : N}, t.well = true → OpenP t p → N.withR x p t = N.chg f p t
  | [], _, _, h => h.elim
  | [s], t, hw, h => by rw [N.chg_one]; exact hf s t (DirW.of hw h)
  | s :: a :: r, t, hw, h => by
    obtain ⟨h1, k, h2, h3⟩ := h
    have hd := DirW.of hw h1
    rw [withR_step hd h2, N.chg_step hd h2 h3.kind, withR_chg hf (hd.kid_well h2) h3]

theorem open_of {t : N} {p : List ByteArray} (hw : t.well = true) (h : openB t p = true) : OpenP t p := by
  rcases snoc_or p with rfl | ⟨q, s, rfl⟩
  · rw [openB_nil] at h; cases h
  · exact (openB_open hw h).2

/-- Put, by the document. -/
def N.rput (t : N) (p : List ByteArray) (x : N) : N := if (x.well && openB t p) = true then N.withR x p t else t
def N.rdel (t : N) (p : List ByteArray) : N := if p = [] ∨ t.get p = none then t else N.withR N.zero p t
def N.rcopy (t : N) (a b : List ByteArray) : N :=
  match t.get a with
  | none => t
  | some x => if (decide (0 < a.length) && openB t b && !underL a b && !underL b a) = true then N.withR x b t else t
def N.rmove (t : N) (a b : List ByteArray) : N :=
  match t.get a with
  | none => t
  | some x => if (decide (0 < a.length) && openB t b && !underL a b && !underL b a) = true then N.withR N.zero a (N.withR x b t) else t

theorem withR_put {t x : N} {p : List ByteArray} (hw : t.well = true) (hx : x.well = true) (ho : openB t p = true) : N.withR x p t = t.put p x :=
  withR_chg (fun _ _ h => withR_put1 h (well_kind hx)) hw (open_of hw ho)
theorem withR_del {t x : N} {p : List ByteArray} (hw : t.well = true) (hp : p ≠ []) (hg : t.get p = some x) : N.withR N.zero p t = t.del p := by
  rcases snoc_or p with rfl | ⟨q, s, rfl⟩
  · exact absurd rfl hp
  · exact withR_chg (fun _ _ h => withR_del1 h) hw (open_of_get hw hg)

theorem rput_eq {t x : N} {p : List ByteArray} (hw : t.well = true) : t.rput p x = t.tput p x := by
  unfold N.rput N.tput
  by_cases h : (x.well && openB t p) = true
  · rw [if_pos h, if_pos h]
    rw [Bool.and_eq_true] at h
    exact withR_put hw h.1 h.2
  · rw [if_neg h, if_neg h]
theorem rdel_eq {t : N} {p : List ByteArray} (hw : t.well = true) : t.rdel p = t.tdel p := by
  unfold N.rdel N.tdel
  have hk := kindAt_zero (p := p) hw
  by_cases h : p = [] ∨ t.get p = none
  · rw [if_pos h, if_pos (h.imp id hk.2)]
  · rw [if_neg h, if_neg (fun h' => h (h'.imp id hk.1))]
    cases hg : t.get p with
    | none => exact absurd (.inr hg) h
    | some x => exact withR_del hw (fun e => h (.inl e)) hg
theorem apart_eq {t x : N} {a b : List ByteArray} (hw : t.well = true) (hg : t.get a = some x) : apartB t a b = (decide (0 < a.length) && openB t b && !underL a b && !underL b a) := by
  have hk : decide (t.kindAt a ≠ 0) = true := by
    rw [kindAt_some hg]
    exact decide_eq_true (well_kind (get_well hw hg))
  unfold apartB
  rw [hk]
  cases decide (0 < a.length) <;> cases openB t b <;> cases underL a b <;> cases underL b a <;> rfl
theorem apart_none {t : N} {a b : List ByteArray} (hw : t.well = true) (hg : t.get a = none) : apartB t a b = false := by
  have hk : decide (t.kindAt a ≠ 0) = false := decide_eq_false (by rw [(kindAt_zero hw).2 hg]; simp)
  unfold apartB
  rw [hk]
  simp
theorem rcopy_eq {t : N} {a b : List ByteArray} (hw : t.well = true) : t.rcopy a b = t.tcopy a b := by
  unfold N.rcopy N.tcopy
  cases hg : t.get a with
  | none => rw [apart_none hw hg]; simp
  | some x =>
    rw [apart_eq hw hg]
    by_cases h : (decide (0 < a.length) && openB t b && !underL a b && !underL b a) = true
    · simp only
      rw [if_pos h, if_pos h]
      have ho : openB t b = true := by simp only [Bool.and_eq_true] at h; exact h.1.1.2
      exact withR_put hw (get_well hw hg) ho
    · simp only
      rw [if_neg h, if_neg h]
theorem rmove_eq {t : N} {a b : List ByteArray} (hw : t.well = true) : t.rmove a b = t.tmove a b := by
  unfold N.rmove N.tmove
  cases hg : t.get a with
  | none => rw [apart_none hw hg]; simp
  | some x =>
    have he := apart_eq (b := b) hw hg
    rw [he]
    by_cases h : (decide (0 < a.length) && openB t b && !underL a b && !underL b a) = true
    · simp only
      rw [if_pos h, if_pos h]
      obtain ⟨h1, h2, h3, h4, _⟩ := apartB_iff hw (he.trans h)
      have hd := put_done hw (get_well hw hg) h2
      have hx' : (t.put b x).get a = some x := (hd.far a h4 h3).trans hg
      rw [withR_put hw (get_well hw hg) h2, withR_del hd.dir.wf h1 hx']
      show (t.put b x).del a = (t.put b x).tdel a
      unfold N.tdel
      rw [if_neg ?_]
      rintro (h' | h')
      · exact h1 h'
      · rw [kindAt_zero hd.dir.wf] at h'
        have h'' : (t.put b x).get a = none := h'
        rw [hx'] at h''; cases h''
    · simp only
      rw [if_neg h, if_neg h]
end Go.Proofs.Ytocndkhgopjhhaa
