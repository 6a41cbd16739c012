/- FtreeThere: what is done at one step, and what stands where then. The plain law. -/
import Derived.Test.YtocndkhgopjhhaaStep
import Derived.Test.YtocndkhgopjhhaaTreeB
import Derived.Test.YtocndkhgopjhhaaSameR
namespace Go.Proofs.Ytocndkhgopjhhaa
open Go.RowKit

/-- What a step comes to. -/
def opN (s : Stp) (t : N) : N :=
  if s.kind % 4 = 0 then t.tput s.a s.n else if s.kind % 4 = 1 then t.tdel s.a else if s.kind % 4 = 2 then t.tmove s.a s.b else t.tcopy s.a s.b

theorem opN0 {s : Stp} {t : N} (h : s.kind % 4 = 0) : t.tput s.a s.n = opN s t := by unfold opN; rw [if_pos h]
theorem opN1 {s : Stp} {t : N} (h : s.kind % 4 = 1) : t.tdel s.a = opN s t := by unfold opN; rw [if_neg (by omega), if_pos h]
theorem opN2 {s : Stp} {t : N} (h : s.kind % 4 = 2) : t.tmove s.a s.b = opN s t := by unfold opN; rw [if_neg (by omega), if_neg (by omega), if_pos h]
theorem opN3 {s : Stp} {t : N} (h : s.kind % 4 = 3) : t.tcopy s.a s.b = opN s t := by unfold opN; rw [if_neg (by omega), if_neg (by omega), if_neg (by omega)]

theorem opN_dir {s : Stp} {t : N} (h : DirW t) : DirW (opN s t) := by
  unfold opN
  split
  · exact N.tput_dir h
  · split
    · exact N.tdel_dir h
    · split
      · exact N.tmove_dir h
      · exact N.tcopy_dir h

theorem op_put {s : Stp} {t : N} (h : DirW t) (hk : s.kind % 4 = 0) (hs : t.same (opN s t) = false) : ((opN s t).get s.a).isSome = true ∧ (((opN s t).get s.a).getD N.zero).same s.n = true := by
  rw [← opN0 hk] at hs ⊢
  rcases tput_law (x := s.n) (p := s.a) h.wf with e | ⟨_, hd⟩
  · rw [e, N.same_refl] at hs; cases hs
  · rw [hd.here]; exact ⟨rfl, N.same_refl _⟩
theorem op_del {s : Stp} {t : N} (h : DirW t) (hk : s.kind % 4 = 1) (ha : s.a ≠ []) : ((opN s t).get s.a).isSome = false := by
  rw [← opN1 hk]
  rcases tdel_law (p := s.a) h.wf with ⟨e, h1 | h1⟩ | ⟨_, _, hd⟩
  · exact absurd h1 ha
  · rw [e, h1]; rfl
  · rw [hd.here]; rfl
theorem op_del' {s : Stp} {t : N} (h : DirW t) (hk : s.kind % 4 = 1) (ha : 0 < s.a.length) : ((opN s t).get s.a).isSome = false := op_del h hk (fun e => by rw [e] at ha; simp at ha)
theorem op_move {s : Stp} {t : N} (h : DirW t) (hk : s.kind % 4 = 2) (hs : t.same (opN s t) = false) : ((opN s t).get s.a).isSome = false ∧ ((opN s t).get s.b).isSome = true ∧ (((opN s t).get s.b).getD N.zero).same ((t.get s.a).getD N.zero) = true ∧ (t.get s.a).isSome = true := by
  rw [← opN2 hk] at hs ⊢
  rcases tmove_law (a := s.a) (b := s.b) h.wf with e | ⟨_, x, hx, _, _, h1, h2, _⟩
  · rw [e, N.same_refl] at hs; cases hs
  · rw [h1, h2, hx]; exact ⟨rfl, rfl, N.same_refl _, rfl⟩
theorem op_copy {s : Stp} {t : N} (h : DirW t) (hk : s.kind % 4 = 3) (hs : t.same (opN s t) = false) : ((opN s t).get s.a).isSome = true ∧ ((opN s t).get s.b).isSome = true ∧ (((opN s t).get s.b).getD N.zero).same ((t.get s.a).getD N.zero) = true ∧ (((opN s t).get s.a).getD N.zero).same ((t.get s.a).getD N.zero) = true := by
  rw [← opN3 hk] at hs ⊢
  rcases tcopy_law (a := s.a) (b := s.b) h.wf with e | ⟨_, x, hx, _, hd, h1⟩
  · rw [e, N.same_refl] at hs; cases hs
  · rw [h1, hd.here, hx]; exact ⟨rfl, rfl, N.same_refl _, N.same_refl _⟩
theorem op_far {s : Stp} {t : N} (h : DirW t) {q : List ByteArray} (h1 : underL s.a q = false) (h2 : underL q s.a = false) (h3 : 2 ≤ s.kind % 4 → underL s.b q = false ∧ underL q s.b = false) : (opN s t).get q = t.get q := by
  have g1 : ¬ s.a <+: q := fun e => by rw [underL_pre.2 e] at h1; cases h1
  have g2 : ¬ q <+: s.a := fun e => by rw [underL_pre.2 e] at h2; cases h2
  by_cases k0 : s.kind % 4 = 0
  · rw [← opN0 k0]
    rcases tput_law (x := s.n) (p := s.a) h.wf with e | ⟨_, hd⟩
    · rw [e]
    · exact hd.far q g1 g2
  · by_cases k1 : s.kind % 4 = 1
    · rw [← opN1 k1]
      rcases tdel_law (p := s.a) h.wf with ⟨e, _⟩ | ⟨_, _, hd⟩
      · rw [e]
      · exact hd.far q g1 g2
    · have h4 := h3 (by omega)
      have g3 : ¬ s.b <+: q := fun e => by rw [underL_pre.2 e] at h4; cases h4.1
      have g4 : ¬ q <+: s.b := fun e => by rw [underL_pre.2 e] at h4; cases h4.2
      by_cases k2 : s.kind % 4 = 2
      · rw [← opN2 k2]
        rcases tmove_law (a := s.a) (b := s.b) h.wf with e | ⟨_, x, hx, _, _, _, _, hf⟩
        · rw [e]
        · exact hf q g1 g2 g3 g4
      · have k3 : s.kind % 4 = 3 := by omega
        rw [← opN3 k3]
        rcases tcopy_law (a := s.a) (b := s.b) h.wf with e | ⟨_, x, hx, _, hd, _⟩
        · rw [e]
        · exact hd.far q g3 g4
end Go.Proofs.Ytocndkhgopjhhaa
