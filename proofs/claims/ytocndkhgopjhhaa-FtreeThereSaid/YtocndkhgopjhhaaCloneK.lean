/- slices.Clone at nodes; what a row of nodes of the call's own holds. -/
import Derived.Test.YtocndkhgopjhhaaProg
import Derived.Test.YtocndkhgopjhhaaOwn
namespace Go.Proofs.Ytocndkhgopjhhaa
open Go.RowKit

/-- What a clone comes to: a row of the call's own, of the same cells. -/
def CloneKPost (t : TypeId) (size n : Nat) (news : List Value) (w : World) (e : Ending) (w' : World) : Prop :=
  ∃ A c, e = .returned (.slice A n c) ∧ w'.ownsRow w.heap.size t size (.slice A n c) n news ∧ Ext w w'

theorem srcK_up {w : World} {A : Option Addr} {n : Nat} {news : List Value} (hA : ∀ a, A = some a → 0 < n → a.block < w.heap.size) (hsrc : 0 < n → ∃ ad, A = some ad ∧ ∀ j u, news[j]? = some u → w.cell? (ad.add j) = some u) {W : World} (h : Ext w W) :
    0 < n → ∃ ad, A = some ad ∧ ∀ j u, news[j]? = some u → W.cell? (ad.add j) = some u := by
  intro hp
  obtain ⟨ad, e, hc⟩ := hsrc hp
  refine ⟨ad, e, fun j u hj => ?_⟩
  have hb := hA ad e hp
  have : (ad.add j).block = ad.block := by unfold Addr.add; split <;> rfl
  exact (h.cell (p := ad.add j) (by rw [this]; exact hb)).trans (hc j u hj)

set_option maxRecDepth 100000 in
set_option maxHeartbeats 1000000 in
theorem cloneK_walk {w : World} {A : Option Addr} {n c : Nat} {news : List Value} (hl : news.length = n * 4) (hA : ∀ a, A = some a → 0 < n → a.block < w.heap.size) (hsrc : 0 < n → ∃ ad, A = some ad ∧ ∀ j u, news[j]? = some u → w.cell? (ad.add j) = some u)
    (h1 : ∀ u ∈ news, u.oneCell' = true) (hn : n ≤ 2199023255552) : Calls Try.prog 106 #[.slice A n c] w (CloneKPost 25 4 n news w) := by
  obtain ⟨i0, hi, hz0, hz1, hz2⟩ := info_parts node_info
  have hsr := Lib.hid (srcK_up hA hsrc (Ext.alloc' w (.cells #[] 25)))
  have HI := Lib.hid hi
  have HZ0 := Lib.hid hz0
  have HZ1 := Lib.hid hz1
  have HZ2 := Lib.hid hz2
  have HL := Lib.hid hl
  have H1 := Lib.hid h1
  have hem : (w.alloc (.cells #[] 25)).ownsRow w.heap.size 25 4 (.slice (some ⟨w.heap.size, 0, none⟩) 0 0) 0 [] :=
    ⟨rfl, .inr ⟨w.heap.size, 0, #[], rfl, Nat.le_refl _, heap_alloc_new w _, Nat.le_refl _, Nat.zero_le _, rfl, rfl⟩⟩
  have HEM := Lib.hid hem
  have q22 : ∀ (w : World) (a : Option Addr) (n c n' c' : Nat), (binOp .eql 23 (.slice a n c) (.slice none n' c')).run Try.prog w = .ok (.bool a.isNone) w := fun w a n c n' c' => Lib.run_eql_slice_nil w _ _ a n c n' c' Try.underlying23
  cases A with
  | none =>
    have hn0 : n = 0 := by
      rcases Nat.eq_zero_or_pos n with h | h
      · exact h
      · obtain ⟨_, e, _⟩ := hsrc h; cases e
    subst hn0
    have hnews : news = [] := List.eq_nil_of_length_eq_zero (by simpa using hl)
    subst hnews
    clear hi hz0 hz1 hz2 hl h1 hsrc hA hem
    go_enter Try.func106, Try.ntmps106
    go_wp2_with fail
    go_ret
    exact ⟨none, 0, rfl, World.ownsRow_nil _ _ _ _, Below.refl _ _⟩
  | some a =>
    clear hi hz0 hz1 hz2 hl h1 hsrc hA hem
    go_enter Try.func106, Try.ntmps106
    go_wp2_with (at_builtin; refine wpList_app _ rfl (.tmp 5) (.tmp 6) _ rfl w.heap.size 25 i0 _ 4 72 Try.underlying23 HI.out HZ0.out HZ1.out HZ2.out rfl (by omega) (.slice (some ⟨w.heap.size, 0, none⟩) 0 0) 0 [] rfl HEM.out (some a) n c news rfl HL.out hsr.out H1.out (by simp only [maxLen]; omega) (by omega) (by simp) ?_; intro v' w1 hon hgr hat)
    have hon' : w1.ownsRow w.heap.size 25 4 v' n news := by simpa using hon
    obtain ⟨A', c', rfl⟩ := ownsRow_form hon'
    have HO := Lib.hid hon'
    have HG := Lib.hid hgr
    clear hon hon' hgr hat
    go_wp2_with fail
    go_ret
    exact ⟨A', c', rfl, HO.out, (Ext.alloc' _ _).grown HG.out (fun g hg => by simp [Value.ownBlock] at hg; omega)⟩
end Go.Proofs.Ytocndkhgopjhhaa
