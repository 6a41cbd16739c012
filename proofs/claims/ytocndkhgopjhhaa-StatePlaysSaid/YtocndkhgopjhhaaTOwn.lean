/- A thing to be done, copied into memory of its own: plain laws. -/
import Derived.Test.YtocndkhgopjhhaaProg
import Derived.Test.YtocndkhgopjhhaaClone
import Derived.Test.YtocndkhgopjhhaaLibs
namespace Go.Proofs.Ytocndkhgopjhhaa
open Go.RowKit

/-- The cells xs hold the facts fs; of the first j of them names and numbers are in T. -/
def CellsF (B : Nat) (T : Nat → Prop) (w : World) (j : Nat) (fs : List Fc) (xs : List Value) : Prop :=
  xs.length = fs.length * 6 ∧ ∀ i f, fs[i]? = some f → ∃ nv kv, xs[i * 6]? = some (.bool f.known) ∧ xs[i * 6 + 1]? = some (.int .u8 f.kind) ∧ xs[i * 6 + 2]? = some nv ∧ xs[i * 6 + 3]? = some kv ∧ xs[i * 6 + 4]? = some (.int .i64 f.rest) ∧ xs[i * 6 + 5]? = some (.int .i64 f.beside) ∧
    (Lit.int .u8 f.kind).wf = true ∧ (Lit.int .i64 f.rest).wf = true ∧ (Lit.int .i64 f.beside).wf = true ∧ (i < j → Strs B T w nv f.names ∧ Ints B T w kv f.kids)

theorem CellsF.step {B : Nat} {T T' : Nat → Prop} {w w' : World} {j : Nat} {fs : List Fc} {xs : List Value} (h : CellsF B T w j fs xs) {f : Fc} (hf : fs[j]? = some f) (hz : w.heap.size ≤ w'.heap.size)
    (hT : ∀ b, T b → b < w.heap.size → w'.heap[b]? = w.heap[b]?) (hTT : ∀ b, T b → b < w.heap.size → T' b) {nv kv : Value} (hn : Strs B T' w' nv f.names) (hk : Ints B T' w' kv f.kids) :
    CellsF B T' w' (j + 1) fs ((xs.set (j * 6 + 2) nv).set (j * 6 + 3) kv) := by
  refine ⟨by simpa using h.1, fun i f' hi => ?_⟩
  obtain ⟨nv0, kv0, c0, c1, c2, c3, c4, c5, w1, w2, w3, hs⟩ := h.2 i f' hi
  have hl := (List.getElem?_eq_some_iff.1 hi).1
  have hxl := h.1
  by_cases e : i = j
  · subst e
    rw [hf] at hi
    injection hi with hi
    subst hi
    refine ⟨nv, kv, ?_, ?_, ?_, ?_, ?_, ?_, w1, w2, w3, fun _ => ⟨hn, hk⟩⟩
    · rw [List.getElem?_set_ne (by omega), List.getElem?_set_ne (by omega)]; exact c0
    · rw [List.getElem?_set_ne (by omega), List.getElem?_set_ne (by omega)]; exact c1
    · rw [List.getElem?_set_ne (by omega), List.getElem?_set_self (by omega)]
    · rw [List.getElem?_set_self (by simp; omega)]
    · rw [List.getElem?_set_ne (by omega), List.getElem?_set_ne (by omega)]; exact c4
    · rw [List.getElem?_set_ne (by omega), List.getElem?_set_ne (by omega)]; exact c5
  · refine ⟨nv0, kv0, ?_, ?_, ?_, ?_, ?_, ?_, w1, w2, w3, fun hij => ?_⟩
    · rw [List.getElem?_set_ne (by omega), List.getElem?_set_ne (by omega)]; exact c0
    · rw [List.getElem?_set_ne (by omega), List.getElem?_set_ne (by omega)]; exact c1
    · rw [List.getElem?_set_ne (by omega), List.getElem?_set_ne (by omega)]; exact c2
    · rw [List.getElem?_set_ne (by omega), List.getElem?_set_ne (by omega)]; exact c3
    · rw [List.getElem?_set_ne (by omega), List.getElem?_set_ne (by omega)]; exact c4
    · rw [List.getElem?_set_ne (by omega), List.getElem?_set_ne (by omega)]; exact c5
    · obtain ⟨h1, h2⟩ := hs (by omega)
      exact ⟨h1.keep hz hT hTT, h2.keep hz hT hTT⟩

theorem CellsF.keep {B : Nat} {T T' : Nat → Prop} {w w' : World} {j : Nat} {fs : List Fc} {xs : List Value} (h : CellsF B T w j fs xs) (hz : w.heap.size ≤ w'.heap.size)
    (hT : ∀ b, T b → b < w.heap.size → w'.heap[b]? = w.heap[b]?) (hTT : ∀ b, T b → b < w.heap.size → T' b) : CellsF B T' w' j fs xs := by
  refine ⟨h.1, fun i f' hi => ?_⟩
  obtain ⟨nv0, kv0, c0, c1, c2, c3, c4, c5, w1, w2, w3, hs⟩ := h.2 i f' hi
  exact ⟨nv0, kv0, c0, c1, c2, c3, c4, c5, w1, w2, w3, fun hij => ⟨(hs hij).1.keep hz hT hTT, (hs hij).2.keep hz hT hTT⟩⟩

/-- The cells of facts in memory, one behind the other. -/
theorem Facts.src {B : Nat} {S : Nat → Prop} {w : World} {A : Option Addr} {n c : Nat} {fs : List Fc} (h : Facts B S w (.slice A n c) fs) :
    n = fs.length ∧ (∀ a, A = some a → 0 < n → a.block < w.heap.size) ∧ ∃ news, CellsF B S w 0 fs news ∧ (∀ u ∈ news, u.oneCell' = true) ∧ (0 < n → ∃ ad, A = some ad ∧ ∀ j u, news[j]? = some u → w.cell? (ad.add j) = some u) := by
  obtain ⟨A', c', e, h1, h2, hB, h3⟩ := h
  injection e with e1 e2 e3
  subst e1 e2 e3
  refine ⟨rfl, fun a ha hp => ?_, ?_⟩
  · obtain ⟨b, o, e, _, hl, _⟩ := h3 hp
    rw [ha] at e; injection e with e; subst e; exact hl
  rcases Nat.eq_zero_or_pos fs.length with h0 | h0
  · have := List.eq_nil_of_length_eq_zero h0
    subst this
    exact ⟨[], ⟨rfl, by simp⟩, by simp, by simp⟩
  · obtain ⟨b, o, rfl, _, hl, hx⟩ := h3 h0
    have hcell : ∀ j, j < fs.length * 6 → ∃ u, w.cell? ⟨b, o + j, none⟩ = some u ∧ u.oneCell' = true := by
      intro j hj
      have hq : j / 6 < fs.length := by omega
      obtain ⟨nv, kv, c0, c1, c2, c3, c4, c5, _, _, _, ⟨An, cn, rfl, _⟩, ⟨Ak, ck, rfl, _⟩⟩ := hx (j / 6) _ (List.getElem?_eq_getElem hq)
      have hr : j % 6 < 6 := Nat.mod_lt _ (by omega)
      have hj6 : j = j / 6 * 6 + j % 6 := by omega
      match hm : j % 6, hr with
      | 0, _ => exact ⟨_, by rw [hj6, hm]; exact c0, rfl⟩
      | 1, _ => exact ⟨_, by rw [hj6, hm]; exact c1, rfl⟩
      | 2, _ => exact ⟨_, by rw [hj6, hm]; exact c2, rfl⟩
      | 3, _ => exact ⟨_, by rw [hj6, hm]; exact c3, rfl⟩
      | 4, _ => exact ⟨_, by rw [hj6, hm]; exact c4, rfl⟩
      | 5, _ => exact ⟨_, by rw [hj6, hm]; exact c5, rfl⟩
    obtain ⟨news, hn, hq⟩ := list_of' (Q := fun j (u : Value) => w.cell? ⟨b, o + j, none⟩ = some u ∧ u.oneCell' = true) (fs.length * 6) hcell
    have get : ∀ j u, j < fs.length * 6 → w.cell? ⟨b, o + j, none⟩ = some u → news[j]? = some u := by
      intro j u hj hu
      have he := List.getElem?_eq_getElem (l := news) (i := j) (by omega)
      have := (hq j _ he).1
      rw [hu] at this
      injection this with this
      rw [he, this]
    refine ⟨news, ⟨hn, fun i f hi => ?_⟩, fun u hu => ?_, fun _ => ⟨_, rfl, fun j u hj => ?_⟩⟩
    · have hil := (List.getElem?_eq_some_iff.1 hi).1
      obtain ⟨nv, kv, c0, c1, c2, c3, c4, c5, w1, w2, w3, _⟩ := hx i f hi
      exact ⟨nv, kv, get _ _ (by omega) c0, get _ _ (by omega) c1, get _ _ (by omega) c2, get _ _ (by omega) c3, get _ _ (by omega) c4, get _ _ (by omega) c5, w1, w2, w3, fun h => by omega⟩
    · obtain ⟨j, hj⟩ := List.mem_iff_getElem?.1 hu
      exact (hq j u hj).2
    · have := (hq j u hj).1
      rcases Nat.eq_zero_or_pos j with rfl | h0
      · simpa [Addr.add] using this
      · rw [Addr.add, if_neg (by omega)]; exact this
where
  list_of' {α : Type} {Q : Nat → α → Prop} : ∀ (n : Nat), (∀ i, i < n → ∃ t, Q i t) → ∃ l : List α, l.length = n ∧ ∀ (i : Nat) t, l[i]? = some t → Q i t
  | 0, _ => ⟨[], rfl, by simp⟩
  | n + 1, h => by
    obtain ⟨l, hl, hq⟩ := list_of' (Q := Q) n (fun i hi => h i (by omega))
    obtain ⟨t, ht⟩ := h n (by omega)
    refine ⟨l ++ [t], by simp [hl], fun i u hi => ?_⟩
    rcases Nat.lt_or_ge i l.length with hlt | hge
    · rw [List.getElem?_append_left hlt] at hi; exact hq i u hi
    · rw [List.getElem?_append_right hge] at hi
      have hi' : i - l.length = 0 := by
        rcases Nat.eq_zero_or_pos (i - l.length) with h0 | h0
        · exact h0
        · rw [List.getElem?_eq_none (by simp; omega)] at hi; cases hi
      rw [hi'] at hi
      simp at hi
      subst hi
      have : i = n := by omega
      subst this; exact ht

/-- A row of the call's own that holds facts reads as facts. -/
theorem own_facts {w : World} {base B n : Nat} {v : Value} {fs : List Fc} {xs : List Value} {T : Nat → Prop} (h : w.ownsRow base 106 6 v n xs) (hn : n = fs.length) (hB : fs.length ≤ B) (hc : CellsF B T w n fs xs) : Facts B (fun b => T b ∨ v.ownBlock = some b) w v fs := by
  subst hn
  rcases h.2 with ⟨rfl, hn⟩ | ⟨g, cap, cur, rfl, h3, h4, hnc, hcm, h5⟩
  · have := List.eq_nil_of_length_eq_zero hn
    subst this
    exact ⟨none, 0, rfl, Nat.le_refl _, Nat.zero_le _, hB, by simp⟩
  · refine ⟨_, cap, rfl, hnc, hcm, hB, fun _ => ⟨g, 0, rfl, .inr rfl, (ownsRow_lt h (g := g) rfl).2, fun i f hi => ?_⟩⟩
    obtain ⟨nv, kv, c0, c1, c2, c3, c4, c5, w1, w2, w3, hs⟩ := hc.2 i f hi
    obtain ⟨k1, k2⟩ := hs (List.getElem?_eq_some_iff.1 hi).1
    have e : ∀ k, i * 6 + k = i * 6 + k := fun _ => rfl
    exact ⟨nv, kv, ownsRow_cell h c0, ownsRow_cell h c1, ownsRow_cell h c2, ownsRow_cell h c3, ownsRow_cell h c4, ownsRow_cell h c5, w1, w2, w3,
      k1.keep (Nat.le_refl _) (fun _ _ _ => rfl) (fun _ h _ => .inl h), k2.keep (Nat.le_refl _) (fun _ _ _ => rfl) (fun _ h _ => .inl h)⟩

/-- A clone of facts: a row of the call's own of the same cells. -/
theorem cloneF_any {B : Nat} (hB : B ≤ 1000000000) {S : Nat → Prop} {w : World} {v : Value} {fs : List Fc} (h : Facts B S w v fs) :
    Calls Try.prog 136 #[v] w fun e w' => ∃ A c xs, e = .returned (.slice A fs.length c) ∧ w'.ownsRow w.heap.size 106 6 (.slice A fs.length c) fs.length xs ∧ CellsF B (fun _ => False) w' 0 fs xs ∧ Ext w w' := by
  have h0 := h
  obtain ⟨A, c, rfl, _, _, hb, _⟩ := h
  obtain ⟨_, hA, news, hc, h1, hs⟩ := h0.src
  refine (cloneF_walk (news := news) hc.1 hA hs h1 (by omega)).mono ?_
  rintro e w' ⟨A', c', rfl, ho, hx⟩
  refine ⟨A', c', news, rfl, ho, ⟨hc.1, fun i f hi => ?_⟩, hx⟩
  obtain ⟨nv, kv, c0, c1, c2, c3, c4, c5, w1, w2, w3, _⟩ := hc.2 i f hi
  exact ⟨nv, kv, c0, c1, c2, c3, c4, c5, w1, w2, w3, fun h => by omega⟩
end Go.Proofs.Ytocndkhgopjhhaa
