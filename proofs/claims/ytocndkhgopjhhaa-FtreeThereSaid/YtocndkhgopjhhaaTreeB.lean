/- Trees: Put, Del, Move, Copy as ftree has them; what they come to. The plain law. -/
import Derived.Test.YtocndkhgopjhhaaTree
import Derived.Test.YtocndkhgopjhhaaUnder6
namespace Go.Proofs.Ytocndkhgopjhhaa
open Go.RowKit

/-- The kind of what stands at a place; 0: nothing. -/
def N.kindAt (t : N) (p : List ByteArray) : Int := ((t.get p).getD N.zero).kind
/-- Is a place open? -/
def openB (t : N) (p : List ByteArray) : Bool :=
  match p.getLast? with
  | none => false
  | some s => nameB s && decide (t.kindAt p.dropLast = 2)
def apartB (t : N) (a b : List ByteArray) : Bool := decide (0 < a.length) && decide (t.kindAt a ≠ 0) && openB t b && !underL b a && !underL a b

def N.tput (t : N) (p : List ByteArray) (x : N) : N := if (x.well && openB t p) = true then t.put p x else t
def N.tdel (t : N) (p : List ByteArray) : N := if p = [] ∨ t.kindAt p = 0 then t else t.del p
def N.tcopy (t : N) (a b : List ByteArray) : N := if apartB t a b = true then t.put b ((t.get a).getD N.zero) else t
def N.tmove (t : N) (a b : List ByteArray) : N := if apartB t a b = true then N.tdel (t.put b ((t.get a).getD N.zero)) a else t

theorem well_kind {t : N} (h : t.well = true) : t.kind ≠ 0 := by
  obtain ⟨k, tx, ns, ks⟩ := t
  intro e
  have e : k = 0 := e
  subst e
  rw [N.well] at h
  simp at h
theorem kindAt_zero {t : N} {p : List ByteArray} (hw : t.well = true) : t.kindAt p = 0 ↔ t.get p = none := by
  unfold N.kindAt
  cases h : t.get p with
  | none => simp [N.zero, N.kind]
  | some x =>
    have := well_kind (get_well hw h)
    simp [this]
theorem kindAt_some {t x : N} {p : List ByteArray} (h : t.get p = some x) : t.kindAt p = x.kind := by unfold N.kindAt; rw [h]; rfl
theorem underL_pre {a b : List ByteArray} : underL a b = true ↔ a <+: b := by
  rw [underL_iff]
  exact ⟨fun ⟨r, h⟩ => ⟨r, h.symm⟩, fun ⟨r, h⟩ => ⟨r, h.symm⟩⟩

theorem openB_snoc (t : N) (p : List ByteArray) (s : ByteArray) : openB t (p ++ [s]) = (nameB s && decide (t.kindAt p = 2)) := by
  unfold openB
  simp
theorem openB_nil (t : N) : openB t [] = false := rfl
theorem openB_open {t : N} {p : List ByteArray} {s : ByteArray} (hw : t.well = true) (h : openB t (p ++ [s]) = true) : nameB s = true ∧ OpenP t (p ++ [s]) := by
  rw [openB_snoc, Bool.and_eq_true, decide_eq_true_eq] at h
  refine ⟨h.1, (openP_iff s hw).2 ?_⟩
  have h2 := h.2
  unfold N.kindAt at h2
  cases hg : t.get p with
  | none => rw [hg] at h2; simp [N.zero, N.kind] at h2
  | some d => rw [hg] at h2; exact ⟨d, rfl, h2⟩

/-- What was done at a place: what stands there then, and that nothing else has changed. -/
structure Done (t r : N) (p : List ByteArray) (y : Option N) : Prop where
  dir : DirW r
  here : r.get p = y
  far : ∀ q, ¬ p <+: q → ¬ q <+: p → r.get q = t.get q

theorem put_done {t x : N} {p : List ByteArray} (hw : t.well = true) (hx : x.well = true) (ho : openB t p = true) : Done t (t.put p x) p (some x) := by
  rcases snoc_or p with rfl | ⟨q, s, rfl⟩
  · rw [openB_nil] at ho; cases ho
  · obtain ⟨hn, hop⟩ := openB_open hw ho
    obtain ⟨h1, h2, h3⟩ := chg_law hw hop (Loc.put hn hx)
    exact ⟨h1, h2, h3⟩
theorem del_done {t x : N} {p : List ByteArray} (hw : t.well = true) (hp : p ≠ []) (hx : t.get p = some x) : Done t (t.del p) p none := by
  rcases snoc_or p with rfl | ⟨q, s, rfl⟩
  · exact absurd rfl hp
  · obtain ⟨h1, h2, h3⟩ := chg_law hw (open_of_get hw hx) (Loc.del)
    exact ⟨h1, h2, h3⟩
theorem tput_law {t x : N} {p : List ByteArray} (hw : t.well = true) : t.tput p x = t ∨ ((x.well && openB t p) = true ∧ Done t (t.tput p x) p (some x)) := by
  unfold N.tput
  by_cases h : (x.well && openB t p) = true
  · rw [if_pos h]
    rw [Bool.and_eq_true] at h
    exact .inr ⟨by rw [h.1, h.2]; rfl, put_done hw h.1 h.2⟩
  · rw [if_neg h]; exact .inl rfl
theorem tdel_law {t : N} {p : List ByteArray} (hw : t.well = true) : (t.tdel p = t ∧ (p = [] ∨ t.get p = none)) ∨ (p ≠ [] ∧ t.tdel p = t.del p ∧ Done t (t.tdel p) p none) := by
  unfold N.tdel
  by_cases h : p = [] ∨ t.kindAt p = 0
  · rw [if_pos h, kindAt_zero hw] at *
    exact .inl ⟨rfl, h⟩
  · rw [if_neg h]
    rw [kindAt_zero hw] at h
    have hp : p ≠ [] := fun e => h (.inl e)
    cases hg : t.get p with
    | none => exact absurd (.inr hg) h
    | some x => exact .inr ⟨hp, rfl, del_done hw hp hg⟩
theorem apartB_iff {t : N} {a b : List ByteArray} (hw : t.well = true) (h : apartB t a b = true) : a ≠ [] ∧ openB t b = true ∧ ¬ a <+: b ∧ ¬ b <+: a ∧ ∃ x, t.get a = some x := by
  unfold apartB at h
  simp only [Bool.and_eq_true, decide_eq_true_eq, Bool.not_eq_true'] at h
  obtain ⟨⟨⟨⟨h1, h2⟩, h3⟩, h4⟩, h5⟩ := h
  refine ⟨fun e => by subst e; simp at h1, h3, fun e => ?_, fun e => ?_, ?_⟩
  · rw [underL_pre.2 e] at h5; cases h5
  · rw [underL_pre.2 e] at h4; cases h4
  · rw [Ne, kindAt_zero hw] at h2
    cases hg : t.get a with
    | none => exact absurd hg h2
    | some x => exact ⟨x, rfl⟩
theorem tcopy_law {t : N} {a b : List ByteArray} (hw : t.well = true) : t.tcopy a b = t ∨ (apartB t a b = true ∧ ∃ x, t.get a = some x ∧ t.tcopy a b = t.put b x ∧ Done t (t.tcopy a b) b (some x) ∧ (t.tcopy a b).get a = some x) := by
  unfold N.tcopy
  by_cases h : apartB t a b = true
  · rw [if_pos h]
    obtain ⟨h1, h2, h3, h4, x, hx⟩ := apartB_iff hw h
    rw [hx]
    have hd := put_done hw (get_well hw hx) h2
    exact .inr ⟨h, x, rfl, rfl, hd, (hd.far a h4 h3).trans hx⟩
  · rw [if_neg h]; exact .inl rfl
theorem tmove_law {t : N} {a b : List ByteArray} (hw : t.well = true) : t.tmove a b = t ∨ (apartB t a b = true ∧ ∃ x, t.get a = some x ∧ t.tmove a b = (t.put b x).del a ∧ DirW (t.tmove a b) ∧ (t.tmove a b).get a = none ∧ (t.tmove a b).get b = some x ∧
    ∀ q, ¬ a <+: q → ¬ q <+: a → ¬ b <+: q → ¬ q <+: b → (t.tmove a b).get q = t.get q) := by
  unfold N.tmove
  by_cases h : apartB t a b = true
  · rw [if_pos h]
    obtain ⟨h1, h2, h3, h4, x, hx⟩ := apartB_iff hw h
    rw [hx]
    show _ ∨ _
    have hd := put_done hw (get_well hw hx) h2
    have hx' : (t.put b x).get a = some x := (hd.far a h4 h3).trans hx
    rcases tdel_law (t := t.put b x) (p := a) hd.dir.wf with ⟨_, h5 | h5⟩ | ⟨_, h6, h7⟩
    · exact absurd h5 h1
    · rw [hx'] at h5; cases h5
    · refine .inr ⟨h, x, rfl, h6, h7.dir, h7.here, (h7.far b h3 h4).trans hd.here, fun q q1 q2 q3 q4 => (h7.far q q1 q2).trans (hd.far q q3 q4)⟩
  · rw [if_neg h]; exact .inl rfl
theorem N.tput_dir {t x : N} {p : List ByteArray} (h : DirW t) : DirW (t.tput p x) := by
  rcases tput_law (x := x) (p := p) h.wf with e | ⟨_, hd⟩
  · rw [e]; exact h
  · exact hd.dir
theorem N.tdel_dir {t : N} {p : List ByteArray} (h : DirW t) : DirW (t.tdel p) := by
  rcases tdel_law (p := p) h.wf with ⟨e, _⟩ | ⟨_, _, hd⟩
  · rw [e]; exact h
  · exact hd.dir
theorem N.tcopy_dir {t : N} {a b : List ByteArray} (h : DirW t) : DirW (t.tcopy a b) := by
  rcases tcopy_law (a := a) (b := b) h.wf with e | ⟨_, _, _, _, hd, _⟩
  · rw [e]; exact h
  · exact hd.dir
theorem N.tmove_dir {t : N} {a b : List ByteArray} (h : DirW t) : DirW (t.tmove a b) := by
  rcases tmove_law (a := a) (b := b) h.wf with e | ⟨_, _, _, _, hd, _⟩
  · rw [e]; exact h
  · exact hd
end Go.Proofs.Ytocndkhgopjhhaa
