/- slices.Clone at numbers, facts and nodes; slices.Equal at numbers. -/
import Derived.Test.YtocndkhgopjhhaaProg
import Derived.Test.YtocndkhgopjhhaaSt
import Derived.Test.YtocndkhgopjhhaaBase
import Derived.Test.YtocndkhgopjhhaaOwn
import Derived.Test.YtocndkhgopjhhaaShelf
import Derived.Test.YtocndkhgopjhhaaPatN
namespace Go.Proofs.Ytocndkhgopjhhaa
open Go.RowKit

theorem fact_info : (Try.prog.info? 106).map (fun i => (i.zero, i.size, i.bytes)) = some (some (.agg #[.bool false, .int .u8 0, .slice none 0 0, .slice none 0 0, .int .i64 0, .int .i64 0]), 6, 72) := by kernel_rfl

theorem equalI_any {B1 B2 : Nat} {S1 S2 : Nat → Prop} {w : World} {v1 v2 : Value} {xs ys : List Int} (h1 : Ints B1 S1 w v1 xs) (h2 : Ints B2 S2 w v2 ys) :
    Calls Try.prog 93 #[v1, v2] w fun e w' => e = .returned (.bool (decide (xs = ys))) ∧ Ext w w' := by
  obtain ⟨A1, c1, rfl, hc1, hm1, _, _, g1⟩ := h1
  obtain ⟨A2, c2, rfl, hc2, hm2, _, _, g2⟩ := h2
  have hm1' : xs.length ≤ 9223372036854775807 := by unfold maxLen at hm1; omega
  have hm2' : ys.length ≤ 9223372036854775807 := by unfold maxLen at hm2; omega
  by_cases hl : xs.length = ys.length
  · by_cases hz : xs.length = 0
    · have e1 : xs = [] := List.eq_nil_of_length_eq_zero hz
      have e2 : ys = [] := List.eq_nil_of_length_eq_zero (by omega)
      subst e1 e2
      refine (Try.slices_Equal_int_empty A1 A2 c1 0 c2 w (by omega)).mono ?_
      rintro e w' ⟨rfl, rfl⟩
      exact ⟨ret_bool rfl, Below.refl _ _⟩
    · obtain ⟨b1, o1, rfl, _, _, k1⟩ := g1 (by omega)
      obtain ⟨b2, o2, rfl, _, _, k2⟩ := g2 (by omega)
      refine (Try.slices_Equal_int b1 o1 xs.length c1 b2 o2 ys.length c2 xs ys w (Nat.le_refl _) (Nat.le_refl _) hm1' hm2'
        (fun j hj => k1 j _ (by simp [List.getD, List.getElem?_eq_getElem hj])) (fun j hj => k2 j _ (by simp [List.getD, List.getElem?_eq_getElem hj]))).mono ?_
      rintro e w' ⟨rfl, q, rfl⟩
      refine ⟨ret_bool ?_, Ext.drewN' _ _⟩
      rw [List.take_length, List.take_length, Bool.eq_iff_iff]; simp
  · refine (Try.slices_Equal_int_lens A1 A2 xs.length c1 ys.length c2 w hl).mono ?_
    rintro e w' ⟨rfl, rfl⟩
    exact ⟨ret_bool (by symm; simp only [decide_eq_false_iff_not]; exact fun h => hl (by rw [h])), Below.refl _ _⟩

/-- What a clone comes to: a row of the call's own, of the same cells. -/
def ClonePost (t : TypeId) (size n : Nat) (news : List Value) (w : World) (e : Ending) (w' : World) : Prop :=
  ∃ A c, e = .returned (.slice A n c) ∧ w'.ownsRow w.heap.size t size (.slice A n c) n news ∧ Ext w w'

theorem src_up {w : World} {A : Option Addr} {n : Nat} {news : List Value} (hA : ∀ a, A = some a → 0 < n → a.block < w.heap.size) (hsrc : 0 < n → ∃ ad, A = some ad ∧ ∀ j u, news[j]? = some u → w.cell? (ad.add j) = some u) {W : World} (h : Ext w W) :
    0 < n → ∃ ad, A = some ad ∧ ∀ j u, news[j]? = some u → W.cell? (ad.add j) = some u := by
  intro hp
  obtain ⟨ad, e, hc⟩ := hsrc hp
  refine ⟨ad, e, fun j u hj => ?_⟩
  have hb := hA ad e hp
  have : (ad.add j).block = ad.block := by unfold Addr.add; split <;> rfl
  exact (h.cell (p := ad.add j) (by rw [this]; exact hb)).trans (hc j u hj)

set_option maxRecDepth 100000 in
set_option maxHeartbeats 1000000 in
theorem cloneI_walk {w : World} {A : Option Addr} {n c : Nat} {news : List Value} (hl : news.length = n * 1) (hA : ∀ a, A = some a → 0 < n → a.block < w.heap.size) (hsrc : 0 < n → ∃ ad, A = some ad ∧ ∀ j u, news[j]? = some u → w.cell? (ad.add j) = some u)
    (h1 : ∀ u ∈ news, u.oneCell' = true) (hn : n ≤ 1000000000) : Calls Try.prog 124 #[.slice A n c] w (ClonePost 3 1 n news w) := by
  obtain ⟨i0, hi, hz0, hz1, hz2⟩ := info_parts int_info
  have hsr := Lib.hid (src_up hA hsrc (Ext.alloc' w (.cells #[] 3)))
  have HI := Lib.hid hi
  have HZ0 := Lib.hid hz0
  have HZ1 := Lib.hid hz1
  have HZ2 := Lib.hid hz2
  have HL := Lib.hid hl
  have H1 := Lib.hid h1
  have hem : (w.alloc (.cells #[] 3)).ownsRow w.heap.size 3 1 (.slice (some ⟨w.heap.size, 0, none⟩) 0 0) 0 [] :=
    ⟨rfl, .inr ⟨w.heap.size, 0, #[], rfl, Nat.le_refl _, heap_alloc_new w _, Nat.le_refl _, Nat.zero_le _, rfl, rfl⟩⟩
  have HEM := Lib.hid hem
  have q22 : ∀ (w : World) (a : Option Addr) (n c n' c' : Nat), (binOp .eql 35 (.slice a n c) (.slice none n' c')).run Try.prog w = .ok (.bool a.isNone) w := fun w a n c n' c' => Lib.run_eql_slice_nil w _ _ a n c n' c' Try.underlying35
  cases A with
  | none =>
    have hn0 : n = 0 := by
      rcases Nat.eq_zero_or_pos n with h | h
      · exact h
      · obtain ⟨_, e, _⟩ := hsrc h; cases e
    subst hn0
    have hnews : news = [] := List.eq_nil_of_length_eq_zero (by simpa using hl)
    subst hnews
    clear hi hz0 hz1 hz2 hl h1 hsrc hA hem
    go_enter Try.func124, Try.ntmps124
    go_wp2_with fail
    go_ret
    exact ⟨none, 0, rfl, World.ownsRow_nil _ _ _ _, Below.refl _ _⟩
  | some a =>
    clear hi hz0 hz1 hz2 hl h1 hsrc hA hem
    go_enter Try.func124, Try.ntmps124
    go_wp2_with (at_builtin; refine wpList_app _ rfl (.tmp 5) (.tmp 6) _ rfl w.heap.size 3 i0 _ 1 8 Try.underlying35 HI.out HZ0.out HZ1.out HZ2.out rfl (by omega) (.slice (some ⟨w.heap.size, 0, none⟩) 0 0) 0 [] rfl HEM.out (some a) n c news rfl HL.out hsr.out H1.out (by simp only [maxLen]; omega) (by omega) (by simp) ?_; intro v' w1 hon hgr hat)
    have hon' : w1.ownsRow w.heap.size 3 1 v' n news := by simpa using hon
    obtain ⟨A', c', rfl⟩ := ownsRow_form hon'
    have HO := Lib.hid hon'
    have HG := Lib.hid hgr
    clear hon hon' hgr hat
    go_wp2_with fail
    go_ret
    exact ⟨A', c', rfl, HO.out, (Ext.alloc' _ _).grown HG.out (fun g hg => by simp [Value.ownBlock] at hg; omega)⟩

set_option maxRecDepth 100000 in
set_option maxHeartbeats 1000000 in
theorem cloneF_walk {w : World} {A : Option Addr} {n c : Nat} {news : List Value} (hl : news.length = n * 6) (hA : ∀ a, A = some a → 0 < n → a.block < w.heap.size) (hsrc : 0 < n → ∃ ad, A = some ad ∧ ∀ j u, news[j]? = some u → w.cell? (ad.add j) = some u)
    (h1 : ∀ u ∈ news, u.oneCell' = true) (hn : n ≤ 1000000000) : Calls Try.prog 136 #[.slice A n c] w (ClonePost 106 6 n news w) := by
  obtain ⟨i0, hi, hz0, hz1, hz2⟩ := info_parts fact_info
  have hsr := Lib.hid (src_up hA hsrc (Ext.alloc' w (.cells #[] 106)))
  have HI := Lib.hid hi
  have HZ0 := Lib.hid hz0
  have HZ1 := Lib.hid hz1
  have HZ2 := Lib.hid hz2
  have HL := Lib.hid hl
  have H1 := Lib.hid h1
  have hem : (w.alloc (.cells #[] 106)).ownsRow w.heap.size 106 6 (.slice (some ⟨w.heap.size, 0, none⟩) 0 0) 0 [] :=
    ⟨rfl, .inr ⟨w.heap.size, 0, #[], rfl, Nat.le_refl _, heap_alloc_new w _, Nat.le_refl _, Nat.zero_le _, rfl, rfl⟩⟩
  have HEM := Lib.hid hem
  have q22 : ∀ (w : World) (a : Option Addr) (n c n' c' : Nat), (binOp .eql 36 (.slice a n c) (.slice none n' c')).run Try.prog w = .ok (.bool a.isNone) w := fun w a n c n' c' => Lib.run_eql_slice_nil w _ _ a n c n' c' Try.underlying36
  cases A with
  | none =>
    have hn0 : n = 0 := by
      rcases Nat.eq_zero_or_pos n with h | h
      · exact h
      · obtain ⟨_, e, _⟩ := hsrc h; cases e
    subst hn0
    have hnews : news = [] := List.eq_nil_of_length_eq_zero (by simpa using hl)
    subst hnews
    clear hi hz0 hz1 hz2 hl h1 hsrc hA hem
    go_enter Try.func136, Try.ntmps136
    go_wp2_with fail
    go_ret
    exact ⟨none, 0, rfl, World.ownsRow_nil _ _ _ _, Below.refl _ _⟩
  | some a =>
    clear hi hz0 hz1 hz2 hl h1 hsrc hA hem
    go_enter Try.func136, Try.ntmps136
    go_wp2_with (at_builtin; refine wpList_app _ rfl (.tmp 5) (.tmp 6) _ rfl w.heap.size 106 i0 _ 6 72 Try.underlying36 HI.out HZ0.out HZ1.out HZ2.out rfl (by omega) (.slice (some ⟨w.heap.size, 0, none⟩) 0 0) 0 [] rfl HEM.out (some a) n c news rfl HL.out hsr.out H1.out (by simp only [maxLen]; omega) (by omega) (by simp) ?_; intro v' w1 hon hgr hat)
    have hon' : w1.ownsRow w.heap.size 106 6 v' n news := by simpa using hon
    obtain ⟨A', c', rfl⟩ := ownsRow_form hon'
    have HO := Lib.hid hon'
    have HG := Lib.hid hgr
    clear hon hon' hgr hat
    go_wp2_with fail
    go_ret
    exact ⟨A', c', rfl, HO.out, (Ext.alloc' _ _).grown HG.out (fun g hg => by simp [Value.ownBlock] at hg; omega)⟩

set_option maxRecDepth 100000 in
set_option maxHeartbeats 1000000 in
theorem cloneN_walk {w : World} {A : Option Addr} {n c : Nat} {news : List Value} (hl : news.length = n * 4) (hA : ∀ a, A = some a → 0 < n → a.block < w.heap.size) (hsrc : 0 < n → ∃ ad, A = some ad ∧ ∀ j u, news[j]? = some u → w.cell? (ad.add j) = some u)
    (h1 : ∀ u ∈ news, u.oneCell' = true) (hn : n ≤ 1000000000) : Calls Try.prog 106 #[.slice A n c] w (ClonePost 25 4 n news w) := by
  obtain ⟨i0, hi, hz0, hz1, hz2⟩ := info_parts node_info
  have hsr := Lib.hid (src_up hA hsrc (Ext.alloc' w (.cells #[] 25)))
  have HI := Lib.hid hi
  have HZ0 := Lib.hid hz0
  have HZ1 := Lib.hid hz1
  have HZ2 := Lib.hid hz2
  have HL := Lib.hid hl
  have H1 := Lib.hid h1
  have hem : (w.alloc (.cells #[] 25)).ownsRow w.heap.size 25 4 (.slice (some ⟨w.heap.size, 0, none⟩) 0 0) 0 [] :=
    ⟨rfl, .inr ⟨w.heap.size, 0, #[], rfl, Nat.le_refl _, heap_alloc_new w _, Nat.le_refl _, Nat.zero_le _, rfl, rfl⟩⟩
  have HEM := Lib.hid hem
  have q22 : ∀ (w : World) (a : Option Addr) (n c n' c' : Nat), (binOp .eql 23 (.slice a n c) (.slice none n' c')).run Try.prog w = .ok (.bool a.isNone) w := fun w a n c n' c' => Lib.run_eql_slice_nil w _ _ a n c n' c' Try.underlying23
  cases A with
  | none =>
    have hn0 : n = 0 := by
      rcases Nat.eq_zero_or_pos n with h | h
      · exact h
      · obtain ⟨_, e, _⟩ := hsrc h; cases e
    subst hn0
    have hnews : news = [] := List.eq_nil_of_length_eq_zero (by simpa using hl)
    subst hnews
    clear hi hz0 hz1 hz2 hl h1 hsrc hA hem
    go_enter Try.func106, Try.ntmps106
    go_wp2_with fail
    go_ret
    exact ⟨none, 0, rfl, World.ownsRow_nil _ _ _ _, Below.refl _ _⟩
  | some a =>
    clear hi hz0 hz1 hz2 hl h1 hsrc hA hem
    go_enter Try.func106, Try.ntmps106
    go_wp2_with (at_builtin; refine wpList_app _ rfl (.tmp 5) (.tmp 6) _ rfl w.heap.size 25 i0 _ 4 72 Try.underlying23 HI.out HZ0.out HZ1.out HZ2.out rfl (by omega) (.slice (some ⟨w.heap.size, 0, none⟩) 0 0) 0 [] rfl HEM.out (some a) n c news rfl HL.out hsr.out H1.out (by simp only [maxLen]; omega) (by omega) (by simp) ?_; intro v' w1 hon hgr hat)
    have hon' : w1.ownsRow w.heap.size 25 4 v' n news := by simpa using hon
    obtain ⟨A', c', rfl⟩ := ownsRow_form hon'
    have HO := Lib.hid hon'
    have HG := Lib.hid hgr
    clear hon hon' hgr hat
    go_wp2_with fail
    go_ret
    exact ⟨A', c', rfl, HO.out, (Ext.alloc' _ _).grown HG.out (fun g hg => by simp [Value.ownBlock] at hg; omega)⟩

theorem Ints.src {B : Nat} {S : Nat → Prop} {w : World} {A : Option Addr} {n c : Nat} {zs : List Int} (h : Ints B S w (.slice A n c) zs) : n = zs.length ∧ (∀ a, A = some a → 0 < n → a.block < w.heap.size) ∧ (0 < n → ∃ ad, A = some ad ∧ ∀ j u, (zs.map (Value.int .i64))[j]? = some u → w.cell? (ad.add j) = some u) := by
  obtain ⟨A', c', e, h1, h2, hB, hw, h3⟩ := h
  injection e with e1 e2 e3
  subst e1 e2 e3
  refine ⟨rfl, fun a ha hp => ?_, fun hp => ?_⟩
  · obtain ⟨b, o, e, _, hl, _⟩ := h3 hp
    rw [ha] at e; injection e with e; subst e; exact hl
  · obtain ⟨b, o, e, _, hl, hc⟩ := h3 hp
    refine ⟨_, e, fun j u hj => ?_⟩
    simp only [List.getElem?_map, Option.map_eq_some_iff] at hj
    obtain ⟨z, hz, rfl⟩ := hj
    have := hc j z hz
    rcases Nat.eq_zero_or_pos j with rfl | h0
    · simpa [Addr.add] using this
    · rw [Addr.add, if_neg (by omega)]; exact this

theorem own_ints {w : World} {base B n : Nat} {v : Value} {zs : List Int} (h : w.ownsRow base 3 1 v n (zs.map (Value.int .i64))) (hn : n = zs.length) (hB : zs.length ≤ B) (hs : ∀ z ∈ zs, (Lit.int .i64 z).wf = true) : Ints B (fun b => v.ownBlock = some b) w v zs := by
  subst hn
  rcases h.2 with ⟨rfl, hn⟩ | ⟨g, cap, cur, rfl, h3, h4, hnc, hcm, h5⟩
  · have := List.eq_nil_of_length_eq_zero hn
    subst this
    exact ⟨none, 0, rfl, Nat.le_refl _, Nat.zero_le _, hB, hs, by simp⟩
  · refine ⟨_, cap, rfl, hnc, hcm, hB, hs, fun _ => ⟨g, 0, rfl, rfl, (ownsRow_lt h (g := g) rfl).2, fun i s hi => ownsRow_cell h (by simp [hi])⟩⟩

/-- A clone of numbers: in new memory. -/
theorem cloneI_any {B : Nat} (hB : B ≤ 1000000000) {S : Nat → Prop} {w : World} {v : Value} {zs : List Int} (h : Ints B S w v zs) :
    Calls Try.prog 124 #[v] w fun e w' => ∃ A c, e = .returned (.slice A zs.length c) ∧ Ints B (fun b => (Value.slice A zs.length c).ownBlock = some b) w' (.slice A zs.length c) zs ∧ (∀ b, (Value.slice A zs.length c).ownBlock = some b → w.heap.size ≤ b ∧ b < w'.heap.size ∧ Nfz w' b) ∧ Ext w w' := by
  have h0 := h
  obtain ⟨A, c, rfl, _, _, hb, hw, _⟩ := h
  obtain ⟨_, hA, hs⟩ := h0.src
  refine (cloneI_walk (news := zs.map (Value.int .i64)) (by simp) hA hs (by simp [Value.oneCell']) (by omega)).mono ?_
  rintro e w' ⟨A', c', rfl, ho, hx⟩
  exact ⟨A', c', rfl, own_ints ho rfl hb hw, fun b hb => ⟨(ownsRow_lt ho hb).1, (ownsRow_lt ho hb).2, ownsRow_nfz ho hb⟩, hx⟩

end Go.Proofs.Ytocndkhgopjhhaa
