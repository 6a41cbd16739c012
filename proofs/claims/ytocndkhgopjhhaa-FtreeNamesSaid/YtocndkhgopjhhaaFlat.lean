/- slices.Clone at nodes; what a row of nodes of the call's own holds. -/
import Derived.Test.YtocndkhgopjhhaaProg
import Derived.Test.YtocndkhgopjhhaaOwn
import Derived.Laws.OwnMore
namespace Go.Proofs.Ytocndkhgopjhhaa
open Go.RowKit

/-- What a clone comes to: a row of the call's own, of the same cells. -/
def CloneKPost (t : TypeId) (size n : Nat) (news : List Value) (w : World) (e : Ending) (w' : World) : Prop :=
  ∃ A c, e = .returned (.slice A n c) ∧ w'.ownsRow w.heap.size t size (.slice A n c) n news ∧ Ext w w'

theorem srcK_up {w : World} {A : Option Addr} {n : Nat} {news : List Value} (hA : ∀ a, A = some a → 0 < n → a.block < w.heap.size) (hsrc : 0 < n → ∃ ad, A = some ad ∧ ∀ j u, news[j]? = some u → w.cell? (ad.add j) = some u) {W : World} (h : Ext w W) :
    0 < n → ∃ ad, A = some ad ∧ ∀ j u, news[j]? = some u → W.cell? (ad.add j) = some u := by
  intro hp
  obtain ⟨ad, e, hc⟩ := hsrc hp
  refine ⟨ad, e, fun j u hj => ?_⟩
  have hb := hA ad e hp
  have : (ad.add j).block = ad.block := by unfold Addr.add; split <;> rfl
  exact (h.cell (p := ad.add j) (by rw [this]; exact hb)).trans (hc j u hj)

set_option maxRecDepth 100000 in
set_option maxHeartbeats 1000000 in
theorem cloneK_walk {w : World} {A : Option Addr} {n c : Nat} {news : List Value} (hl : news.length = n * 4) (hA : ∀ a, A = some a → 0 < n → a.block < w.heap.size) (hsrc : 0 < n → ∃ ad, A = some ad ∧ ∀ j u, news[j]? = some u → w.cell? (ad.add j) = some u)
    (h1 : ∀ u ∈ news, u.oneCell' = true) (hn : n ≤ 2199023255552) : Calls Try.prog 106 #[.slice A n c] w (CloneKPost 25 4 n news w) := by
  obtain ⟨i0, hi, hz0, hz1, hz2⟩ := info_parts node_info
  have hsr := Lib.hid (srcK_up hA hsrc (Ext.alloc' w (.cells #[] 25)))
  have HI := Lib.hid hi
  have HZ0 := Lib.hid hz0
  have HZ1 := Lib.hid hz1
  have HZ2 := Lib.hid hz2
  have HL := Lib.hid hl
  have H1 := Lib.hid h1
  have hem : (w.alloc (.cells #[] 25)).ownsRow w.heap.size 25 4 (.slice (some ⟨w.heap.size, 0, none⟩) 0 0) 0 [] :=
    ⟨rfl, .inr ⟨w.heap.size, 0, #[], rfl, Nat.le_refl _, heap_alloc_new w _, Nat.le_refl _, Nat.zero_le _, rfl, rfl⟩⟩
  have HEM := Lib.hid hem
  have q22 : ∀ (w : World) (a : Option Addr) (n c n' c' : Nat), (binOp .eql 23 (.slice a n c) (.slice none n' c')).run Try.prog w = .ok (.bool a.isNone) w := fun w a n c n' c' => Lib.run_eql_slice_nil w _ _ a n c n' c' Try.underlying23
  cases A with
  | none =>
    have hn0 : n = 0 := by
      rcases Nat.eq_zero_or_pos n with h | h
      · exact h
      · obtain ⟨_, e, _⟩ := hsrc h; cases e
    subst hn0
    have hnews : news = [] := List.eq_nil_of_length_eq_zero (by simpa using hl)
    subst hnews
    clear hi hz0 hz1 hz2 hl h1 hsrc hA hem
    go_enter Try.func106, Try.ntmps106
    go_wp2_with fail
    go_ret
    exact ⟨none, 0, rfl, World.ownsRow_nil _ _ _ _, Below.refl _ _⟩
  | some a =>
    clear hi hz0 hz1 hz2 hl h1 hsrc hA hem
    go_enter Try.func106, Try.ntmps106
    go_wp2_with (at_builtin; refine wpList_app _ rfl (.tmp 5) (.tmp 6) _ rfl w.heap.size 25 i0 _ 4 72 Try.underlying23 HI.out HZ0.out HZ1.out HZ2.out rfl (by omega) (.slice (some ⟨w.heap.size, 0, none⟩) 0 0) 0 [] rfl HEM.out (some a) n c news rfl HL.out hsr.out H1.out (by simp only [maxLen]; omega) (by omega) (by simp) ?_; intro v' w1 hon hgr hat)
    have hon' : w1.ownsRow w.heap.size 25 4 v' n news := by simpa using hon
    obtain ⟨A', c', rfl⟩ := ownsRow_form hon'
    have HO := Lib.hid hon'
    have HG := Lib.hid hgr
    clear hon hon' hgr hat
    go_wp2_with fail
    go_ret
    exact ⟨A', c', rfl, HO.out, (Ext.alloc' _ _).grown HG.out (fun g hg => by simp [Value.ownBlock] at hg; omega)⟩
end Go.Proofs.Ytocndkhgopjhhaa
/- Rows of nodes, cell by cell: what stands in them when one is put in, taken out, set; slices.Clone at nodes and names that came in. -/
namespace Go.Proofs.Ytocndkhgopjhhaa
open Go.RowKit

/-- The cells xs are those of the nodes ks, one by one: R says what four cells read as a node. -/
structure Flat (R : N → Value → Prop) (xs : List Value) (ks : List N) : Prop where
  len : xs.length = ks.length * 4
  at_ : ∀ (i : Nat) t, ks[i]? = some t → ∃ v0 v1 v2 v3, xs[i * 4]? = some v0 ∧ xs[i * 4 + 1]? = some v1 ∧ xs[i * 4 + 2]? = some v2 ∧ xs[i * 4 + 3]? = some v3 ∧ R t (.agg #[v0, v1, v2, v3])

section
variable {R R' : N → Value → Prop} {xs : List Value} {ks : List N}
theorem Flat.mono (h : Flat R xs ks) (hR : ∀ t v, R t v → R' t v) : Flat R' xs ks := ⟨h.len, fun i t hi => by
  obtain ⟨v0, v1, v2, v3, a, b, c, d, e⟩ := h.at_ i t hi
  exact ⟨v0, v1, v2, v3, a, b, c, d, hR _ _ e⟩⟩
theorem Flat.insert (h : Flat R xs ks) {p : Nat} (hp : p ≤ ks.length) {x : N} {v0 v1 v2 v3 : Value} (hx : R x (.agg #[v0, v1, v2, v3])) : Flat R (xs.take (p * 4) ++ [v0, v1, v2, v3] ++ xs.drop (p * 4)) (ks.insertIdx p x) := by
  have hl := h.len
  refine ⟨?_, fun i t hi => ?_⟩
  · rw [List.length_insertIdx_of_le_length hp]
    simp only [List.length_append, List.length_take, List.length_drop, List.length_cons, List.length_nil]
    omega
  · have ht : (xs.take (p * 4)).length = p * 4 := by rw [List.length_take]; omega
    rcases Nat.lt_trichotomy i p with hj | hj | hj
    · rw [List.getElem?_insertIdx_of_lt hj] at hi
      obtain ⟨u0, u1, u2, u3, a, b, c, d, e⟩ := h.at_ i t hi
      refine ⟨u0, u1, u2, u3, ?_, ?_, ?_, ?_, e⟩ <;> (rw [List.append_assoc, List.getElem?_append_left (by omega), List.getElem?_take_of_lt (by omega)]; assumption)
    · subst hj
      rw [List.getElem?_insertIdx_self, if_pos hp] at hi
      injection hi with hi
      subst hi
      refine ⟨v0, v1, v2, v3, ?_, ?_, ?_, ?_, hx⟩ <;> (rw [List.append_assoc, List.getElem?_append_right (by omega), ht, List.getElem?_append_left (by simp; try omega)]; simp)
    · rw [List.getElem?_insertIdx_of_gt hj] at hi
      obtain ⟨u0, u1, u2, u3, a, b, c, d, e⟩ := h.at_ (i - 1) t hi
      have hm : (xs.take (p * 4) ++ [v0, v1, v2, v3]).length = p * 4 + 4 := by simp [ht]
      refine ⟨u0, u1, u2, u3, ?_, ?_, ?_, ?_, e⟩ <;> (rw [List.getElem?_append_right (by omega), hm, List.getElem?_drop]; first | rwa [show p * 4 + (i * 4 - (p * 4 + 4)) = (i - 1) * 4 by omega] | rwa [show p * 4 + (i * 4 + 1 - (p * 4 + 4)) = (i - 1) * 4 + 1 by omega] | rwa [show p * 4 + (i * 4 + 2 - (p * 4 + 4)) = (i - 1) * 4 + 2 by omega] | rwa [show p * 4 + (i * 4 + 3 - (p * 4 + 4)) = (i - 1) * 4 + 3 by omega])
theorem Flat.erase (h : Flat R xs ks) {p : Nat} (hp : p < ks.length) : Flat R (xs.take (p * 4) ++ xs.drop ((p + 1) * 4)) (ks.eraseIdx p) := by
  have hl := h.len
  refine ⟨?_, fun i t hi => ?_⟩
  · rw [List.length_eraseIdx_of_lt hp]
    simp only [List.length_append, List.length_take, List.length_drop]
    omega
  · have ht : (xs.take (p * 4)).length = p * 4 := by rw [List.length_take]; omega
    rcases Nat.lt_or_ge i p with hj | hj
    · rw [List.getElem?_eraseIdx_of_lt hj] at hi
      obtain ⟨u0, u1, u2, u3, a, b, c, d, e⟩ := h.at_ i t hi
      refine ⟨u0, u1, u2, u3, ?_, ?_, ?_, ?_, e⟩ <;> (rw [List.getElem?_append_left (by omega), List.getElem?_take_of_lt (by omega)]; assumption)
    · rw [List.getElem?_eraseIdx_of_ge hj] at hi
      obtain ⟨u0, u1, u2, u3, a, b, c, d, e⟩ := h.at_ (i + 1) t hi
      refine ⟨u0, u1, u2, u3, ?_, ?_, ?_, ?_, e⟩ <;> (rw [List.getElem?_append_right (by omega), ht, List.getElem?_drop]; first | rwa [show (p + 1) * 4 + (i * 4 - p * 4) = (i + 1) * 4 by omega] | rwa [show (p + 1) * 4 + (i * 4 + 1 - p * 4) = (i + 1) * 4 + 1 by omega] | rwa [show (p + 1) * 4 + (i * 4 + 2 - p * 4) = (i + 1) * 4 + 2 by omega] | rwa [show (p + 1) * 4 + (i * 4 + 3 - p * 4) = (i + 1) * 4 + 3 by omega])
theorem Flat.set (h : Flat R xs ks) {p : Nat} (hp : p < ks.length) {x : N} {v0 v1 v2 v3 : Value} (hx : R x (.agg #[v0, v1, v2, v3])) : Flat R ((((xs.set (p * 4) v0).set (p * 4 + 1) v1).set (p * 4 + 2) v2).set (p * 4 + 3) v3) (ks.set p x) := by
  have hl := h.len
  refine ⟨by simpa using hl, fun i t hi => ?_⟩
  by_cases e : i = p
  · subst e
    rw [List.getElem?_set_self hp] at hi
    injection hi with hi
    subst hi
    refine ⟨v0, v1, v2, v3, ?_, ?_, ?_, ?_, hx⟩ <;> (simp [List.getElem?_set]; omega)
  · rw [List.getElem?_set_ne (fun h => e h.symm)] at hi
    obtain ⟨u0, u1, u2, u3, a, b, c, d, e'⟩ := h.at_ i t hi
    refine ⟨u0, u1, u2, u3, ?_, ?_, ?_, ?_, e'⟩ <;> (simp only [List.getElem?_set, List.length_set]; (repeat rw [if_neg (by omega)]); assumption)
theorem Flat.mem4 (h : Flat R xs ks) {u : Value} (hu : u ∈ xs) : ∃ t v0 v1 v2 v3, R t (.agg #[v0, v1, v2, v3]) ∧ (u = v0 ∨ u = v1 ∨ u = v2 ∨ u = v3) := by
  obtain ⟨j, hj⟩ := List.mem_iff_getElem?.1 hu
  have hjl := (List.getElem?_eq_some_iff.1 hj).1
  have hl := h.len
  have hil : j / 4 < ks.length := by omega
  obtain ⟨v0, v1, v2, v3, a, b, c, d, e⟩ := h.at_ (j / 4) _ (List.getElem?_eq_getElem hil)
  refine ⟨_, v0, v1, v2, v3, e, ?_⟩
  have h4 : j % 4 < 4 := Nat.mod_lt _ (by omega)
  have hj4 : j = j / 4 * 4 + j % 4 := by omega
  rcases (by omega : j % 4 = 0 ∨ j % 4 = 1 ∨ j % 4 = 2 ∨ j % 4 = 3) with h | h | h | h
  · rw [hj4, h] at hj; simp only [Nat.add_zero] at hj; rw [a] at hj; injection hj with hj; exact .inl hj.symm
  · rw [hj4, h] at hj; rw [b] at hj; injection hj with hj; exact .inr (.inl hj.symm)
  · rw [hj4, h] at hj; rw [c] at hj; injection hj with hj; exact .inr (.inr (.inl hj.symm))
  · rw [hj4, h] at hj; rw [d] at hj; injection hj with hj; exact .inr (.inr (.inr hj.symm))
end

theorem Rep.cells1 {B : Nat} {S : Nat → Prop} {w : World} {d : Nat} {t : N} {v0 v1 v2 v3 : Value} (h : Rep B S w d t (.agg #[v0, v1, v2, v3])) : v0.oneCell' = true ∧ v1.oneCell' = true ∧ v2.oneCell' = true ∧ v3.oneCell' = true := by
  obtain ⟨_, _, _, _, rfl, rfl, rfl, rfl⟩ := h.shape
  exact ⟨rfl, rfl, rfl, rfl⟩
theorem Flat.one {B : Nat} {S : Nat → Prop} {w : World} {d : Nat} {xs : List Value} {ks : List N} (h : Flat (Rep B S w d) xs ks) : ∀ u ∈ xs, u.oneCell' = true := by
  intro u hu
  obtain ⟨t, v0, v1, v2, v3, e, h'⟩ := h.mem4 hu
  obtain ⟨a, b, c, d⟩ := e.cells1
  rcases h' with rfl | rfl | rfl | rfl <;> assumption

/-- Wider, deeper, in more blocks, in a world that has grown. -/
theorem Strs.wide {B B' : Nat} {S S' : Nat → Prop} {w w' : World} {v : Value} {ns : List ByteArray} (h : Strs B S w v ns) (hB : B ≤ B') (hx : Ext w w') (hS : ∀ b, S b → b < w.heap.size → S' b) : Strs B' S' w' v ns := by
  obtain ⟨A, c, e, h1, h2, h3, h4⟩ := h.keep (S' := S') hx.size (fun _ _ hb => hx.block _ hb) hS
  exact ⟨A, c, e, h1, h2, by omega, h4⟩
theorem Rep.wideB {B B' : Nat} {S : Nat → Prop} {w : World} (hB : B ≤ B') : ∀ {d : Nat} {t : N} {v : Value}, Rep B S w d t v → Rep B' S w d t v
  | 0, _, _, h => h.elim
  | d + 1, .mk k tx ns ks, v, h => by
    obtain ⟨nv, A, c, e, htx, hn, h1, h2, hb, h3⟩ := h
    refine ⟨nv, A, c, e, htx, hn.wide (by omega) (Below.refl _ _) (fun _ h _ => h), h1, h2, by omega, fun hp => ?_⟩
    obtain ⟨b, o, e2, hb, hl, hx⟩ := h3 hp
    refine ⟨b, o, e2, hb, hl, fun i t hi => ?_⟩
    obtain ⟨v0, v1, v2, v3, c0, c1, c2, c3, hr⟩ := hx i t hi
    exact ⟨v0, v1, v2, v3, c0, c1, c2, c3, Rep.wideB hB hr⟩
theorem Rep.wide {B B' : Nat} {S S' : Nat → Prop} {w w' : World} {d d' : Nat} {t : N} {v : Value} (h : Rep B S w d t v) (hB : B ≤ B') (hx : Ext w w') (hS : ∀ b, S b → b < w.heap.size → S' b) (hd : d ≤ d') : Rep B' S' w' d' t v :=
  Rep.mono hd (Rep.wideB hB (Rep.keep hx.size (fun _ _ hb => hx.block _ hb) hS _ _ _ h))

/-- 'The row v of the call's own holds the nodes ks'; their memory lies in T. -/
def RowKids (B : Nat) (T : Nat → Prop) (w : World) (d base : Nat) (v : Value) (ks : List N) : Prop := ∃ xs, w.ownsRow base 25 4 v ks.length xs ∧ Flat (Rep B T w d) xs ks

theorem RowKids.kids {B B' : Nat} {T T' : Nat → Prop} {w : World} {d base : Nat} {v : Value} {ks : List N} (h : RowKids B T w d base v ks) (hB : ks.length ≤ B') (hBB : B ≤ B') (hT : ∀ b, T b → T' b) (hT' : ∀ b, base ≤ b → T' b) : Kids B' T' w d v ks := by
  obtain ⟨xs, ho, hk⟩ := h
  rcases ho.2 with ⟨rfl, hn⟩ | ⟨g, cap, cur, rfl, h3, h4, hnc, hcm, h5⟩
  · have := List.eq_nil_of_length_eq_zero hn
    subst this
    exact ⟨none, 0, rfl, Nat.le_refl _, Nat.zero_le _, hB, by simp⟩
  · refine ⟨_, cap, rfl, hnc, hcm, hB, fun _ => ⟨g, 0, rfl, hT' g h3, (ownsRow_lt ho (g := g) rfl).2, fun i t hi => ?_⟩⟩
    obtain ⟨v0, v1, v2, v3, x0, x1, x2, x3, hr⟩ := hk.at_ i t hi
    exact ⟨v0, v1, v2, v3, ownsRow_cell ho x0, ownsRow_cell ho x1, ownsRow_cell ho x2, ownsRow_cell ho x3, hr.wide hBB (Below.refl _ _) (fun b h _ => hT b h) (Nat.le_refl _)⟩

theorem Kids.flat {B : Nat} {S : Nat → Prop} {w : World} {d : Nat} {v : Value} {ks : List N} (h : Kids B S w d v ks) : ∃ A c xs, v = .slice A ks.length c ∧ ks.length ≤ B ∧ Flat (Rep B S w d) xs ks ∧ (∀ a, A = some a → 0 < ks.length → a.block < w.heap.size) ∧
    (0 < ks.length → ∃ ad, A = some ad ∧ ∀ j u, xs[j]? = some u → w.cell? (ad.add j) = some u) := by
  obtain ⟨A, c, rfl, h1, h2, hB, h3⟩ := h
  rcases Nat.eq_zero_or_pos ks.length with h0 | h0
  · have := List.eq_nil_of_length_eq_zero h0
    subst this
    exact ⟨A, c, [], rfl, hB, ⟨rfl, fun i t hi => by simp at hi⟩, fun _ _ h => by simp at h, fun h => by simp at h⟩
  · obtain ⟨b, o, rfl, hS, hl, hc⟩ := h3 h0
    have hq : ∀ j, j < ks.length * 4 → ∃ u, w.cell? ⟨b, o + j, none⟩ = some u := by
      intro j hj
      obtain ⟨v0, v1, v2, v3, a, b', c', d', e⟩ := hc (j / 4) _ (List.getElem?_eq_getElem (by omega))
      have hj4 : j = j / 4 * 4 + j % 4 := by omega
      rcases (by omega : j % 4 = 0 ∨ j % 4 = 1 ∨ j % 4 = 2 ∨ j % 4 = 3) with h | h | h | h
      · exact ⟨v0, by rw [hj4, h]; exact a⟩
      · exact ⟨v1, by rw [hj4, h]; exact b'⟩
      · exact ⟨v2, by rw [hj4, h]; exact c'⟩
      · exact ⟨v3, by rw [hj4, h]; exact d'⟩
    have lo : ∀ n, (∀ i, i < n → ∃ u, w.cell? ⟨b, o + i, none⟩ = some u) → ∃ l : List Value, l.length = n ∧ ∀ (i : Nat) u, l[i]? = some u → w.cell? ⟨b, o + i, none⟩ = some u := by
      intro n
      induction n with
      | zero => exact fun _ => ⟨[], rfl, by simp⟩
      | succ n ih =>
        intro h
        obtain ⟨l, hl, hl'⟩ := ih (fun i hi => h i (by omega))
        obtain ⟨u, hu⟩ := h n (by omega)
        refine ⟨l ++ [u], by simp [hl], fun i u' hi => ?_⟩
        rcases Nat.lt_or_ge i l.length with hlt | hge
        · rw [List.getElem?_append_left hlt] at hi; exact hl' i u' hi
        · have hil := (List.getElem?_eq_some_iff.1 hi).1
          simp at hil
          have : i = n := by omega
          subst this
          rw [List.getElem?_append_right hge] at hi
          simp [hl] at hi
          rw [← hi]; exact hu
    obtain ⟨xs, hxl, hxs⟩ := lo _ hq
    have hget : ∀ j u, j < ks.length * 4 → w.cell? ⟨b, o + j, none⟩ = some u → xs[j]? = some u := by
      intro j u hj hu
      have h1 : xs[j]? = some xs[j] := List.getElem?_eq_getElem (by omega)
      have h2 := hxs j _ h1
      rw [hu] at h2
      injection h2 with h2
      rw [h1, h2]
    refine ⟨_, c, xs, rfl, hB, ⟨hxl, fun i t hi => ?_⟩, fun a e _ => by injection e with e; subst e; exact hl, fun _ => ⟨_, rfl, fun j u hj => ?_⟩⟩
    · have hil := (List.getElem?_eq_some_iff.1 hi).1
      obtain ⟨v0, v1, v2, v3, a, b', c', d', e⟩ := hc i t hi
      exact ⟨v0, v1, v2, v3, hget _ _ (by omega) a, hget _ _ (by omega) b', hget _ _ (by omega) c', hget _ _ (by omega) d', e⟩
    · have := hxs j u hj
      unfold Addr.add
      split
      · rename_i e
        subst e; simpa using this
      · exact this

/-- slices.Clone at nodes that came in. -/
theorem cloneN_any {B : Nat} (hB : B ≤ 2199023255552) {S : Nat → Prop} {w : World} {d : Nat} {v : Value} {ks : List N} (h : Kids B S w d v ks) :
    Calls Try.prog 106 #[v] w fun e w' => ∃ A c, e = .returned (.slice A ks.length c) ∧ RowKids B S w' d w.heap.size (.slice A ks.length c) ks ∧ Ext w w' := by
  obtain ⟨A, c, xs, rfl, hl, hf, hA, hs⟩ := h.flat
  refine (cloneK_walk (c := c) hf.len hA hs hf.one (by omega)).mono ?_
  rintro e w' ⟨A', c', rfl, ho, hx⟩
  exact ⟨A', c', rfl, ⟨xs, ho, hf.mono fun t v hr => hr.ext hx⟩, hx⟩

end Go.Proofs.Ytocndkhgopjhhaa
