/- touchstoneref07's file system of a term that is made whole: what set does; the plain law. -/
import Derived.Test.YtocndkhgopjhhaaGreatTreeB
import Derived.Test.YtocndkhgopjhhaaGreatWithN
namespace Go.Proofs.YtocndkhgopjhhaaGreat
open Go.RowKit

/-- What with lays, from a name on. -/
def withTL (x : N) (s : ByteArray) : Bool → List ByteArray → List N → List ByteArray × List N
  | done, n :: ns, k :: ks =>
    if (!ltS n s && !done) = true then
      (if n = s then (s :: (withTL x s true ns ks).1, x :: (withTL x s true ns ks).2) else (s :: n :: (withTL x s true ns ks).1, x :: k :: (withTL x s true ns ks).2))
    else (if n = s then withTL x s done ns ks else (n :: (withTL x s done ns ks).1, k :: (withTL x s done ns ks).2))
  | done, _, _ => if done = true then ([], []) else ([s], [x])
def withT (t : N) (s : ByteArray) (x : N) : N := .mk t.kind t.text (withTL x s (decide (x.kind = 0)) t.names t.kids).1 (withTL x s (decide (x.kind = 0)) t.names t.kids).2
/-- What set does. -/
def setT : N → List ByteArray → N → N
  | t, [], _ => t
  | t, [s], x => withT t s x
  | t, s :: r, x => withT t s (setT ((t.kid s).getD N.zero) r x)

theorem withTL_done {x : N} {s : ByteArray} : ∀ {ns : List ByteArray} {ks : List N}, (∀ y ∈ ns, ltS s y = true) → ns.length = ks.length → withTL x s true ns ks = (ns, ks)
  | [], [], _, _ => by simp [withTL]
  | [], _ :: _, _, h => by simp at h
  | _ :: _, [], _, h => by simp at h
  | n :: ns, k :: ks, h, hl => by
    have h1 := h n (by simp)
    have ih := withTL_done (x := x) (ns := ns) (ks := ks) (fun y hy => h y (by simp [hy])) (by simpa using hl)
    rw [withTL, if_neg (by simp), if_neg (ltS_ne h1), ih]
theorem withTL_put {x : N} {s : ByteArray} : ∀ {ns : List ByteArray} {ks : List N}, Sorted ns → ns.length = ks.length →
    withTL x s false ns ks = match ixFrom s 0 ns with
      | some i => (ns, ks.set i x)
      | none => (ns.insertIdx (posOf s ns) s, ks.insertIdx (posOf s ns) x)
  | [], [], _, _ => by simp [withTL, ixFrom, posOf]
  | [], _ :: _, _, h => by simp at h
  | _ :: _, [], _, h => by simp at h
  | n :: ns, k :: ks, hs, hl => by
    have hs' := List.pairwise_cons.1 hs
    have hl' : ns.length = ks.length := by simpa using hl
    rcases ltS_tri s n with h | h | h
    · have hall : ∀ y ∈ ns, ltS s y = true := fun y hy => ltS_trans h (hs'.1 y hy)
      rw [withTL, if_pos (by simp [ltS_asymm h]), if_neg (ltS_ne h), withTL_done hall hl']
      rw [ix_above (l := n :: ns) (fun y hy => by rcases List.mem_cons.1 hy with rfl | hy; exact h; exact hall y hy), pos_above (l := n :: ns) (fun y hy => by rcases List.mem_cons.1 hy with rfl | hy; exact h; exact hall y hy)]
      rfl
    · subst h
      rw [withTL, if_pos (by simp [ltS_irrefl]), if_pos rfl, withTL_done hs'.1 hl']
      simp [ixFrom]
    · rw [withTL, if_neg (by simp [h]), if_neg (fun e => ltS_ne h e.symm), withTL_put hs'.2 hl', ixFrom, if_neg (fun e => ltS_ne h e.symm), ix_shift, posOf, if_pos h]
      cases ixFrom s 0 ns with
      | none => rfl
      | some i => rfl
theorem withTL_del {x : N} {s : ByteArray} : ∀ {ns : List ByteArray} {ks : List N}, Sorted ns → ns.length = ks.length →
    withTL x s true ns ks = match ixFrom s 0 ns with
      | some i => (ns.eraseIdx i, ks.eraseIdx i)
      | none => (ns, ks)
  | [], [], _, _ => by simp [withTL, ixFrom]
  | [], _ :: _, _, h => by simp at h
  | _ :: _, [], _, h => by simp at h
  | n :: ns, k :: ks, hs, hl => by
    have hs' := List.pairwise_cons.1 hs
    have hl' : ns.length = ks.length := by simpa using hl
    rw [withTL, if_neg (by simp)]
    by_cases e : n = s
    · subst e
      rw [if_pos rfl, withTL_done hs'.1 hl', ixFrom, if_pos rfl]
      rfl
    · rw [if_neg e, withTL_del hs'.2 hl', ixFrom, if_neg e, ix_shift]
      cases ixFrom s 0 ns with
      | none => rfl
      | some i => rfl
theorem withT_put {t x : N} (h : DirW t) (s : ByteArray) (hx : x.kind ≠ 0) : withT t s x = N.put1 x s t := by
  unfold withT N.put1
  rw [decide_eq_false hx, withTL_put h.sorted h.len]
  cases ixFrom s 0 t.names <;> rfl
theorem withT_del {t x : N} (h : DirW t) (s : ByteArray) (hx : x.kind = 0) : withT t s x = N.del1 s t := by
  unfold withT N.del1
  rw [decide_eq_true hx, withTL_del h.sorted h.len]
  cases ixFrom s 0 t.names with
  | none => exact N.eta t
  | some i => rfl
/-- set at an open place is a change there. -/
theorem setT_chg {x : N} {f : ByteArray → N → N} (hf : ∀ d s, DirW d → withT d s x = f s d) : ∀ {p : List ByteArray} {s : ByteArray} {t : N}, Loc f s (if x.kind = 0 then none else some x) → t.well = true → OpenP t (p ++ [s]) → setT t (p ++ [s]) x = N.chg f (p ++ [s]) t := by
  intro p
  induction p with
  | nil =>
    intro s t _ hw ho
    have hd := DirW.of hw ho.kind
    rw [List.nil_append, setT, N.chg_one, hf t s hd]
  | cons a p ih =>
    intro s t hl hw ho
    obtain ⟨b, q, hb⟩ : ∃ b q, p ++ [s] = b :: q := by
      cases h : p ++ [s] with
      | nil => simp at h
      | cons b q => exact ⟨b, q, rfl⟩
    have e : a :: p ++ [s] = a :: (p ++ [s]) := rfl
    rw [e] at ho ⊢
    have hd := DirW.of hw ho.kind
    obtain ⟨k, hk, hok⟩ : ∃ k, t.kid a = some k ∧ OpenP k (p ++ [s]) := by
      rw [hb] at ho ⊢
      exact ho.2
    have hkw := hd.kid_well hk
    have hst : N.chg f (a :: (p ++ [s])) t = N.put1 (N.chg f (p ++ [s]) k) a t := by
      rw [hb]; exact N.chg_step hd hk hok.kind
    have hk2 := (chg_law hkw hok hl).1.kind
    rw [hst, ← withT_put hd a (by rw [hk2]; decide), ← ih hl hkw hok]
    rw [hb, setT, hk]
    · rfl
    · intro h; cases h
theorem setT_put {t x : N} {p : List ByteArray} (hw : t.well = true) (hx : x.well = true) (ho : openB t p = true) : setT t p x = t.put p x := by
  rcases snoc_or p with rfl | ⟨q, s, rfl⟩
  · rw [openB_nil] at ho; cases ho
  · obtain ⟨hn, hop⟩ := openB_open hw ho
    have hk := well_kind hx
    refine setT_chg (f := N.put1 x) (fun d s hd => withT_put hd s hk) ?_ hw hop
    rw [if_neg hk]
    exact Loc.put hn hx
theorem setT_del {t x : N} {p : List ByteArray} (hw : t.well = true) (hp : p ≠ []) (hx : t.get p = some x) : setT t p N.zero = t.del p := by
  rcases snoc_or p with rfl | ⟨q, s, rfl⟩
  · exact absurd rfl hp
  · have hop := open_of_get hw hx
    exact setT_chg (f := N.del1) (fun d s hd => withT_del hd s rfl) Loc.del hw hop
end Go.Proofs.YtocndkhgopjhhaaGreat
