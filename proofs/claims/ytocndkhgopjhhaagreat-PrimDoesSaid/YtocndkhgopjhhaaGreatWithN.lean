/- touchstoneref07's With, Open, Put, Del, Copy, Move on trees, and that they are what ftree does. The plain law. -/
import Derived.Test.YtocndkhgopjhhaaGreatTreeB
namespace Go.Proofs.YtocndkhgopjhhaaGreat
open Go.RowKit

/-- What With lays, from a name on. -/
def withLN (x : N) (one : Bool) (s : ByteArray) (f : N → N) : Bool → List ByteArray → List N → List ByteArray × List N
  | done, n :: ns, k :: ks =>
    if (ltS s n && !done && one && decide (x.kind ≠ 0)) = true then
      (if n = s then (if one = true then (s :: (withLN x one s f true ns ks).1, x :: (withLN x one s f true ns ks).2) else (s :: n :: (withLN x one s f true ns ks).1, x :: f k :: (withLN x one s f true ns ks).2))
       else (s :: n :: (withLN x one s f true ns ks).1, x :: k :: (withLN x one s f true ns ks).2))
    else
      (if n = s then (if one = true then withLN x one s f done ns ks else (n :: (withLN x one s f done ns ks).1, f k :: (withLN x one s f done ns ks).2))
       else (n :: (withLN x one s f done ns ks).1, k :: (withLN x one s f done ns ks).2))
  | done, _, _ => if (!done && one && decide (x.kind ≠ 0)) = true then ([s], [x]) else ([], [])
def withN : N → List ByteArray → N → N
  | t, [], _ => .mk t.kind { data := #[] } [] []
  | t, s :: r, x => .mk t.kind { data := #[] } (withLN x (decide (r = [])) s (fun k => withN k r x) false t.names t.kids).1 (withLN x (decide (r = [])) s (fun k => withN k r x) false t.names t.kids).2

theorem ltS_ne {a b : ByteArray} (h : ltS a b = true) : b ≠ a := fun e => by subst e; rw [ltS_irrefl] at h; cases h
theorem ix_shift (s : ByteArray) : ∀ (l : List ByteArray) (j : Nat), ixFrom s (j + 1) l = (ixFrom s j l).map (· + 1)
  | [], j => rfl
  | x :: l, j => by
    rw [ixFrom, ixFrom]
    by_cases e : x = s
    · rw [if_pos e, if_pos e]; rfl
    · rw [if_neg e, if_neg e, ix_shift s l]
theorem ix_above {s : ByteArray} {l : List ByteArray} (h : ∀ y ∈ l, ltS s y = true) (j : Nat) : ixFrom s j l = none := ixFrom_none.2 fun hm => by have := h s hm; rw [ltS_irrefl] at this; cases this
theorem pos_above {s : ByteArray} {l : List ByteArray} (h : ∀ y ∈ l, ltS s y = true) : posOf s l = 0 := by
  cases l with
  | nil => rfl
  | cons y l => rw [posOf, if_neg (by rw [ltS_asymm (h y (by simp))]; simp)]

theorem withLN_done {x : N} {s : ByteArray} {f : N → N} : ∀ {ns : List ByteArray} {ks : List N}, (∀ y ∈ ns, ltS s y = true) → ns.length = ks.length → withLN x true s f true ns ks = (ns, ks)
  | [], [], _, _ => by simp [withLN]
  | [], _ :: _, _, h => by simp at h
  | _ :: _, [], _, h => by simp at h
  | n :: ns, k :: ks, h, hl => by
    have h1 := h n (by simp)
    have ih := withLN_done (x := x) (f := f) (ns := ns) (ks := ks) (fun y hy => h y (by simp [hy])) (by simpa using hl)
    rw [withLN, if_neg (by simp), if_neg (ltS_ne h1), ih]
theorem withLN_put {x : N} (hx : x.kind ≠ 0) {s : ByteArray} {f : N → N} : ∀ {ns : List ByteArray} {ks : List N}, Sorted ns → ns.length = ks.length →
    withLN x true s f false ns ks = match ixFrom s 0 ns with
      | some i => (ns, ks.set i x)
      | none => (ns.insertIdx (posOf s ns) s, ks.insertIdx (posOf s ns) x)
  | [], [], _, _ => by simp [withLN, ixFrom, posOf, hx]
  | [], _ :: _, _, h => by simp at h
  | _ :: _, [], _, h => by simp at h
  | n :: ns, k :: ks, hs, hl => by
    have hs' := List.pairwise_cons.1 hs
    have hl' : ns.length = ks.length := by simpa using hl
    rcases ltS_tri s n with h | h | h
    · have hall : ∀ y ∈ ns, ltS s y = true := fun y hy => ltS_trans h (hs'.1 y hy)
      rw [withLN, if_pos (by simp [h, hx]), if_neg (ltS_ne h), withLN_done hall hl']
      rw [ix_above (l := n :: ns) (fun y hy => by rcases List.mem_cons.1 hy with rfl | hy; exact h; exact hall y hy), pos_above (l := n :: ns) (fun y hy => by rcases List.mem_cons.1 hy with rfl | hy; exact h; exact hall y hy)]
      rfl
    · subst h
      rw [withLN, if_neg (by simp [ltS_irrefl]), if_pos rfl, if_pos rfl, withLN_put hx hs'.2 hl', ix_above hs'.1, pos_above hs'.1]
      simp [ixFrom]
    · rw [withLN, if_neg (by simp [ltS_asymm h]), if_neg (fun e => ltS_ne h e.symm), withLN_put hx hs'.2 hl', ixFrom, if_neg (fun e => ltS_ne h e.symm), ix_shift, posOf, if_pos h]
      cases ixFrom s 0 ns with
      | none => rfl
      | some i => rfl
theorem withLN_del {x : N} (hx : x.kind = 0) {s : ByteArray} {f : N → N} : ∀ {ns : List ByteArray} {ks : List N}, Sorted ns → ns.length = ks.length →
    withLN x true s f false ns ks = match ixFrom s 0 ns with
      | some i => (ns.eraseIdx i, ks.eraseIdx i)
      | none => (ns, ks)
  | [], [], _, _ => by simp [withLN, ixFrom, hx]
  | [], _ :: _, _, h => by simp at h
  | _ :: _, [], _, h => by simp at h
  | n :: ns, k :: ks, hs, hl => by
    have hs' := List.pairwise_cons.1 hs
    have hl' : ns.length = ks.length := by simpa using hl
    rw [withLN, if_neg (by simp [hx])]
    by_cases e : n = s
    · subst e
      rw [if_pos rfl, if_pos rfl, withLN_del hx hs'.2 hl', ix_above hs'.1, ixFrom, if_pos rfl]
      rfl
    · rw [if_neg e, withLN_del hx hs'.2 hl', ixFrom, if_neg e, ix_shift]
      cases ixFrom s 0 ns with
      | none => rfl
      | some i => rfl
theorem withLN_in {x : N} {s : ByteArray} {f : N → N} : ∀ {ns : List ByteArray} {ks : List N}, Sorted ns → ns.length = ks.length →
    withLN x false s f false ns ks = match ixFrom s 0 ns with
      | some i => (ns, ks.modify i f)
      | none => (ns, ks)
  | [], [], _, _ => by simp [withLN, ixFrom]
  | [], _ :: _, _, h => by simp at h
  | _ :: _, [], _, h => by simp at h
  | n :: ns, k :: ks, hs, hl => by
    have hs' := List.pairwise_cons.1 hs
    have hl' : ns.length = ks.length := by simpa using hl
    rw [withLN, if_neg (by simp)]
    by_cases e : n = s
    · subst e
      rw [if_pos rfl, if_neg (by simp), withLN_in hs'.2 hl', ix_above hs'.1, ixFrom, if_pos rfl]
      simp
    · rw [if_neg e, withLN_in hs'.2 hl', ixFrom, if_neg e, ix_shift]
      cases ixFrom s 0 ns with
      | none => rfl
      | some i => simp

theorem DirW.text_eq {t : N} (h : DirW t) : t.text = { data := #[] } := toList_inj (by rw [h.text, Lib.toList_data])
theorem N.eta (t : N) : N.mk t.kind t.text t.names t.kids = t := by cases t; rfl

theorem modify_at {f : N → N} {k : N} : ∀ {l : List N} {i : Nat}, l[i]? = some k → l.modify i f = l.set i (f k)
  | [], i, h => by simp at h
  | x :: l, 0, h => by simp at h; subst h; rfl
  | x :: l, i + 1, h => by
    have := modify_at (f := f) (l := l) (i := i) (by simpa using h)
    simp [this]
theorem withN_put {x : N} (hx : x.well = true) : ∀ {p : List ByteArray} {s : ByteArray} {t : N}, t.well = true → OpenP t (p ++ [s]) → nameB s = true → withN t (p ++ [s]) x = t.put (p ++ [s]) x := by
  have hk0 := well_kind hx
  intro p
  induction p with
  | nil =>
    intro s t hw ho hs
    have hd := DirW.of hw ho.kind
    rw [List.nil_append, withN, decide_eq_true rfl, withLN_put hk0 hd.sorted hd.len]
    show _ = N.chg (N.put1 x) [s] t
    rw [N.chg_one, N.put1, ← hd.text_eq]
    cases ixFrom s 0 t.names <;> rfl
  | cons a p ih =>
    intro s t hw ho hs
    obtain ⟨b, q, hb⟩ : ∃ b q, p ++ [s] = b :: q := by
      cases h : p ++ [s] with
      | nil => simp at h
      | cons b q => exact ⟨b, q, rfl⟩
    have e : a :: p ++ [s] = a :: (p ++ [s]) := rfl
    rw [e] at ho ⊢
    have hd := DirW.of hw ho.kind
    obtain ⟨k, hk, hok⟩ : ∃ k, t.kid a = some k ∧ OpenP k (p ++ [s]) := by
      rw [hb] at ho ⊢
      exact ho.2
    have hkw := hd.kid_well hk
    have hst : t.put (a :: (p ++ [s])) x = N.put1 (N.chg (N.put1 x) (p ++ [s]) k) a t := by
      rw [hb]; exact N.chg_step hd hk hok.kind
    rw [hst, withN, decide_eq_false (by rw [hb]; simp), withLN_in hd.sorted hd.len, ← hd.text_eq]
    unfold N.kid at hk
    unfold N.put1
    cases hi : ixFrom a 0 t.names with
    | none => rw [hi] at hk; cases hk
    | some i =>
      rw [hi] at hk
      simp only at hk ⊢
      rw [modify_at hk, ih hkw hok hs]
      rfl
theorem withN_del : ∀ {p : List ByteArray} {s : ByteArray} {t : N}, t.well = true → OpenP t (p ++ [s]) → withN t (p ++ [s]) N.zero = t.del (p ++ [s]) := by
  intro p
  induction p with
  | nil =>
    intro s t hw ho
    have hd := DirW.of hw ho.kind
    rw [List.nil_append, withN, decide_eq_true rfl, withLN_del rfl hd.sorted hd.len]
    show _ = N.chg N.del1 [s] t
    rw [N.chg_one, N.del1, ← hd.text_eq]
    cases ixFrom s 0 t.names with
    | none => exact N.eta t
    | some i => rfl
  | cons a p ih =>
    intro s t hw ho
    obtain ⟨b, q, hb⟩ : ∃ b q, p ++ [s] = b :: q := by
      cases h : p ++ [s] with
      | nil => simp at h
      | cons b q => exact ⟨b, q, rfl⟩
    have e : a :: p ++ [s] = a :: (p ++ [s]) := rfl
    rw [e] at ho ⊢
    have hd := DirW.of hw ho.kind
    obtain ⟨k, hk, hok⟩ : ∃ k, t.kid a = some k ∧ OpenP k (p ++ [s]) := by
      rw [hb] at ho ⊢
      exact ho.2
    have hkw := hd.kid_well hk
    have hst : t.del (a :: (p ++ [s])) = N.put1 (N.chg N.del1 (p ++ [s]) k) a t := by
      rw [hb]; exact N.chg_step hd hk hok.kind
    rw [hst, withN, decide_eq_false (by rw [hb]; simp), withLN_in hd.sorted hd.len, ← hd.text_eq]
    unfold N.kid at hk
    unfold N.put1
    cases hi : ixFrom a 0 t.names with
    | none => rw [hi] at hk; cases hk
    | some i =>
      rw [hi] at hk
      simp only at hk ⊢
      rw [modify_at hk, ih hkw hok]
      rfl

/-- The document's Open, Put, Del, Copy, Move. -/
def rOpen (t : N) (p : List ByteArray) : Bool :=
  match p.getLast? with
  | none => false
  | some s => nameB s && (match t.get p.dropLast with | none => false | some d => decide (d.kind = 2))
def rPut (t : N) (p : List ByteArray) (x : N) : N := if x.well = false then t else if rOpen t p = false then t else withN t p x
def rDel (t : N) (p : List ByteArray) : N := if (t.get p).isSome = false then t else if p = [] then t else withN t p N.zero
def rApart (t : N) (a b : List ByteArray) : Bool := (t.get a).isSome && decide (a ≠ []) && rOpen t b && !underL a b && !underL b a
def rCopy (t : N) (a b : List ByteArray) : N := if rApart t a b = true then withN t b ((t.get a).getD N.zero) else t
def rMove (t : N) (a b : List ByteArray) : N := if rApart t a b = true then withN (withN t b ((t.get a).getD N.zero)) a N.zero else t

theorem rOpen_eq (t : N) (p : List ByteArray) : rOpen t p = openB t p := by
  unfold rOpen openB
  cases p.getLast? with
  | none => rfl
  | some s =>
    simp only
    unfold N.kindAt
    cases t.get p.dropLast with
    | none => rfl
    | some d => rfl
theorem with_put {t x : N} {p : List ByteArray} (hw : t.well = true) (hx : x.well = true) (ho : openB t p = true) : withN t p x = t.put p x := by
  rcases snoc_or p with rfl | ⟨q, s, rfl⟩
  · rw [openB_nil] at ho; cases ho
  · obtain ⟨h1, h2⟩ := openB_open hw ho
    exact withN_put hx hw h2 h1
theorem with_del {t x : N} {p : List ByteArray} (hw : t.well = true) (hp : p ≠ []) (hx : t.get p = some x) : withN t p N.zero = t.del p := by
  rcases snoc_or p with rfl | ⟨q, s, rfl⟩
  · exact absurd rfl hp
  · exact withN_del hw (open_of_get hw hx)
theorem rPut_eq {t x : N} {p : List ByteArray} (h : DirW t) : rPut t p x = t.tput p x := by
  unfold rPut N.tput
  rw [rOpen_eq]
  by_cases h1 : x.well = true
  · by_cases h2 : openB t p = true
    · rw [h1, h2]; simp [with_put h.wf h1 h2]
    · simp [h1, h2]
  · simp [h1]
theorem rDel_eq {t : N} {p : List ByteArray} (h : DirW t) : rDel t p = t.tdel p := by
  have e : t.tdel p = if p = [] ∨ t.kindAt p = 0 then t else t.del p := rfl
  rw [e]
  unfold rDel
  by_cases hp : p = []
  · subst hp
    rw [N.get_nil, if_neg (by simp), if_pos rfl, if_pos (.inl rfl)]
  · cases hg : t.get p with
    | none => rw [if_pos (by rfl), if_pos (.inr ((kindAt_zero h.wf).2 hg))]
    | some x =>
      have hk : t.kindAt p ≠ 0 := by rw [Ne, kindAt_zero h.wf, hg]; simp
      rw [if_neg (by simp), if_neg hp, if_neg (by simp [hp, hk]), with_del h.wf hp hg]
theorem rApart_eq {t : N} {a b : List ByteArray} (h : DirW t) : rApart t a b = apartB t a b := by
  unfold rApart apartB
  rw [rOpen_eq]
  have e1 : decide (a ≠ []) = decide (0 < a.length) := by rw [decide_eq_decide, List.length_pos_iff]
  have e2 : (t.get a).isSome = decide (t.kindAt a ≠ 0) := by
    rw [Bool.eq_iff_iff, decide_eq_true_eq, Ne, kindAt_zero h.wf]
    cases t.get a <;> simp
  rw [e1, e2]
  cases decide (0 < a.length) <;> cases decide (t.kindAt a ≠ 0) <;> cases openB t b <;> cases underL a b <;> cases underL b a <;> rfl
theorem rCopy_eq {t : N} {a b : List ByteArray} (h : DirW t) : rCopy t a b = t.tcopy a b := by
  unfold rCopy N.tcopy
  rw [rApart_eq h]
  by_cases h1 : apartB t a b = true
  · rw [if_pos h1, if_pos h1]
    obtain ⟨_, h2, _, _, x, hx⟩ := apartB_iff h.wf h1
    rw [hx]
    exact with_put h.wf (get_well h.wf hx) h2
  · rw [if_neg h1, if_neg h1]
theorem rMove_eq {t : N} {a b : List ByteArray} (h : DirW t) : rMove t a b = t.tmove a b := by
  unfold rMove N.tmove
  rw [rApart_eq h]
  by_cases h1 : apartB t a b = true
  · rw [if_pos h1, if_pos h1]
    obtain ⟨h0, h2, h3, h4, x, hx⟩ := apartB_iff h.wf h1
    rw [hx]
    have hxw := get_well h.wf hx
    have hd := put_done h.wf hxw h2
    have hxa : (t.put b x).get a = some x := (hd.far a h4 h3).trans hx
    show withN (withN t b x) a N.zero = (t.put b x).tdel a
    rw [with_put h.wf hxw h2, with_del hd.dir.wf h0 hxa]
    unfold N.tdel
    rw [if_neg]
    rw [kindAt_zero hd.dir.wf, hxa]
    simp [h0]
  · rw [if_neg h1, if_neg h1]
end Go.Proofs.YtocndkhgopjhhaaGreat
