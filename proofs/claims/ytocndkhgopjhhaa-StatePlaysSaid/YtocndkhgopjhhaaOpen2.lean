/- What a datum that came in reads as: slices of anything; numbers, facts, things to be done. -/
import Derived.Test.YtocndkhgopjhhaaProg
import Derived.Test.YtocndkhgopjhhaaOpen
import Derived.Test.YtocndkhgopjhhaaStep
import Derived.Test.YtocndkhgopjhhaaSt
namespace Go.Proofs.Ytocndkhgopjhhaa
open Go.ChangeShapes Go.WideShapes Go.ChangeAt Go.RowKit

section
variable {H : Type} {enc : TypeId × Value → H} {w : World}

abbrev B44 : Nat := 17592186044416
theorem cellsInt : Try.prog.cellsOf 3 = 1 := by kernel_rfl
theorem bytesInt : Try.prog.bytesOf 3 = 8 := by kernel_rfl
theorem cellsFact : Try.prog.cellsOf 106 = 6 := by kernel_rfl
theorem bytesFact : Try.prog.bytesOf 106 = 72 := by kernel_rfl
theorem cellsTd : Try.prog.cellsOf 38 = 2 := by kernel_rfl
theorem bytesTd : Try.prog.bytesOf 38 = 48 := by kernel_rfl

theorem ints_of_trod {n : Nat} {cs : List Value} {x : DataW H × List MemPlace} (h : DataW.trod enc Try.prog w 0 (fun _ => true) true n 35 cs = some x) (hw : ∀ m ∈ x.1.weights Try.prog 35, m ≤ reachBytes) :
    ∃ zs v, cs = [v] ∧ Ints B44 (fun b => b < w.heap.size) w v zs := by
  obtain ⟨l, A, c, rfl, h1, h2, h3, h4⟩ := slice_open Try.underlying35 cellsInt bytesInt (by omega) h hw (Q := fun (z : Int) cs => cs = [.int .i64 z] ∧ (Lit.int .i64 z).wf = true) (fun n cs x h _ => by
    obtain ⟨z, hz, _, hw⟩ := DataW.trod_int Try.underlying3 h
    exact ⟨z, hz, hw⟩)
  unfold reachBytes at h3
  refine ⟨l, _, rfl, A, c, rfl, h1, h2, by unfold B44; omega, fun z hz => ?_, fun hp => ?_⟩
  · obtain ⟨b, o, _, _, hc⟩ := h4 (List.length_pos_of_mem hz)
    obtain ⟨i, hi⟩ := List.mem_iff_getElem?.1 hz
    obtain ⟨cs, _, ⟨_, hwf⟩, _⟩ := hc i z hi
    exact hwf
  · obtain ⟨b, o, e, hl, hc⟩ := h4 hp
    refine ⟨b, o, e, hl, hl, fun i z hi => ?_⟩
    obtain ⟨cs, _, ⟨rfl, _⟩, hk⟩ := hc i z hi
    have := hk 0 (by omega)
    simpa using this

set_option maxRecDepth 20000 in
theorem fact_of_trod {n : Nat} {cs : List Value} {x : DataW H × List MemPlace} (h : DataW.trod enc Try.prog w 0 (fun _ => true) true n 106 cs = some x) (hw : ∀ m ∈ x.1.weights Try.prog 106, m ≤ reachBytes) :
    ∃ (f : Fc) (nv kv : Value), cs = [.bool f.known, .int .u8 f.kind, nv, kv, .int .i64 f.rest, .int .i64 f.beside] ∧ (Lit.int .u8 f.kind).wf = true ∧ (Lit.int .i64 f.rest).wf = true ∧ (Lit.int .i64 f.beside).wf = true ∧
      Strs B44 (fun b => b < w.heap.size) w nv f.names ∧ Ints B44 (fun b => b < w.heap.size) w kv f.kids := by
  obtain ⟨xs, m, rfl, rfl, hl, hxl, hf⟩ := DataW.trod_struct Try.underlying106 h
  rw [cellsFact] at hl
  obtain ⟨v0, v1, v2, v3, v4, v5, rfl⟩ : ∃ v0 v1 v2 v3 v4 v5, cs = [v0, v1, v2, v3, v4, v5] := by
    match cs, hl with
    | [a, b, c, d, e, f], _ => exact ⟨_, _, _, _, _, _, rfl⟩
  obtain ⟨x0, x1, x2, x3, x4, x5, rfl⟩ : ∃ x0 x1 x2 x3 x4 x5, xs = [x0, x1, x2, x3, x4, x5] := by
    match xs, hxl with
    | [a, b, c, d, e, f], _ => exact ⟨_, _, _, _, _, _, rfl⟩
  have f0 := hf 0 _ rfl
  have f1 := hf 1 _ rfl
  have f2 := hf 2 _ rfl
  have f3 := hf 3 _ rfl
  have f4 := hf 4 _ rfl
  have f5 := hf 5 _ rfl
  change DataW.trod enc Try.prog w 0 (fun _ => true) true m 4 [v0] = some x0 at f0
  change DataW.trod enc Try.prog w 0 (fun _ => true) true m 5 [v1] = some x1 at f1
  change DataW.trod enc Try.prog w 0 (fun _ => true) true m 22 [v2] = some x2 at f2
  change DataW.trod enc Try.prog w 0 (fun _ => true) true m 35 [v3] = some x3 at f3
  change DataW.trod enc Try.prog w 0 (fun _ => true) true m 3 [v4] = some x4 at f4
  change DataW.trod enc Try.prog w 0 (fun _ => true) true m 3 [v5] = some x5 at f5
  have hws : ∀ k, k ∈ x2.1.weights Try.prog 22 ∨ k ∈ x3.1.weights Try.prog 35 → k ≤ reachBytes := by
    intro k hk
    refine hw k ?_
    simp only [DataW.weights, Try.underlying106, List.map_cons, List.map_nil, DataW.weightsEach, List.mem_append]
    rcases hk with hk | hk
    · exact .inr (.inr (.inl hk))
    · exact .inr (.inr (.inr (.inl hk)))
  obtain ⟨bk, e0, _⟩ := DataW.trod_bool Try.underlying4 f0
  obtain ⟨k, e1, _, w1⟩ := DataW.trod_int Try.underlying5 f1
  obtain ⟨ns, nv, e2, hns⟩ := strs_of_trod (B := 2199023255552) rfl f2 (fun k hk => hws k (.inl hk))
  obtain ⟨ks, kv, e3, hks⟩ := ints_of_trod f3 (fun k hk => hws k (.inr hk))
  obtain ⟨r, e4, _, w4⟩ := DataW.trod_int Try.underlying3 f4
  obtain ⟨bs, e5, _, w5⟩ := DataW.trod_int Try.underlying3 f5
  simp only [List.cons.injEq, and_true] at e0 e1 e2 e3 e4 e5
  subst e0 e1 e2 e3 e4 e5
  have hnl : ns.length ≤ B44 := by obtain ⟨_, _, _, _, _, h, _⟩ := hns; unfold B44; omega
  exact ⟨⟨bk, k, ns, ks, r, bs⟩, _, _, rfl, w1, w4, w5, hns.grow hnl, hks⟩

theorem facts_of_trod {n : Nat} {cs : List Value} {x : DataW H × List MemPlace} (h : DataW.trod enc Try.prog w 0 (fun _ => true) true n 36 cs = some x) (hw : ∀ m ∈ x.1.weights Try.prog 36, m ≤ reachBytes) :
    ∃ fs v, cs = [v] ∧ Facts B44 (fun b => b < w.heap.size) w v fs := by
  obtain ⟨l, A, c, rfl, h1, h2, h3, h4⟩ := slice_open Try.underlying36 cellsFact bytesFact (by omega) h hw (Q := fun (f : Fc) cs => ∃ (nv kv : Value), cs = [.bool f.known, .int .u8 f.kind, nv, kv, .int .i64 f.rest, .int .i64 f.beside] ∧ (Lit.int .u8 f.kind).wf = true ∧ (Lit.int .i64 f.rest).wf = true ∧ (Lit.int .i64 f.beside).wf = true ∧
      Strs B44 (fun b => b < w.heap.size) w nv f.names ∧ Ints B44 (fun b => b < w.heap.size) w kv f.kids) (fun n cs x h hw => fact_of_trod h hw)
  unfold reachBytes at h3
  refine ⟨l, _, rfl, A, c, rfl, h1, h2, by unfold B44; omega, fun hp => ?_⟩
  obtain ⟨b, o, e, hl, hc⟩ := h4 hp
  refine ⟨b, o, e, hl, hl, fun i f hi => ?_⟩
  obtain ⟨cs, _, ⟨nv, kv, rfl, w1, w2, w3, hs, hk'⟩, hk⟩ := hc i f hi
  exact ⟨nv, kv, hk 0 (by omega), hk 1 (by omega), hk 2 (by omega), hk 3 (by omega), hk 4 (by omega), hk 5 (by omega), w1, w2, w3, hs, hk'⟩

set_option maxRecDepth 20000 in
theorem td_of_trod {n : Nat} {cs : List Value} {x : DataW H × List MemPlace} (h : DataW.trod enc Try.prog w 0 (fun _ => true) true n 38 cs = some x) (hw : ∀ m ∈ x.1.weights Try.prog 38, m ≤ reachBytes) :
    ∃ (t : Td) (rv fv : Value), cs = [rv, fv] ∧ Tdv B44 (fun b => b < w.heap.size) w t (.agg #[rv, fv]) := by
  obtain ⟨xs, m, rfl, rfl, hl, hxl, hf⟩ := DataW.trod_struct Try.underlying38 h
  rw [cellsTd] at hl
  obtain ⟨v0, v1, rfl⟩ : ∃ v0 v1, cs = [v0, v1] := by
    match cs, hl with
    | [a, b], _ => exact ⟨_, _, rfl⟩
  obtain ⟨x0, x1, rfl⟩ : ∃ x0 x1, xs = [x0, x1] := by
    match xs, hxl with
    | [a, b], _ => exact ⟨_, _, rfl⟩
  have f0 := hf 0 _ rfl
  have f1 := hf 1 _ rfl
  change DataW.trod enc Try.prog w 0 (fun _ => true) true m 35 [v0] = some x0 at f0
  change DataW.trod enc Try.prog w 0 (fun _ => true) true m 36 [v1] = some x1 at f1
  have hws : ∀ k, k ∈ x0.1.weights Try.prog 35 ∨ k ∈ x1.1.weights Try.prog 36 → k ≤ reachBytes := by
    intro k hk
    refine hw k ?_
    simp only [DataW.weights, Try.underlying38, List.map_cons, List.map_nil, DataW.weightsEach, List.mem_append]
    rcases hk with hk | hk
    · exact .inl hk
    · exact .inr (.inl hk)
  obtain ⟨zs, v, e0, hz⟩ := ints_of_trod f0 (fun k hk => hws k (.inl hk))
  obtain ⟨fs, v', e1, hfs⟩ := facts_of_trod f1 (fun k hk => hws k (.inr hk))
  simp only [List.cons.injEq, and_true] at e0 e1
  subst e0 e1
  exact ⟨⟨zs, fs⟩, _, _, rfl, _, _, rfl, hz, hfs⟩

/-- 'The slice value v reads as the things to be done l'. -/
def TdsV (B : Nat) (S : Nat → Prop) (w : World) (v : Value) (l : List Td) : Prop :=
  ∃ A c, v = .slice A l.length c ∧ l.length ≤ c ∧ c ≤ maxLen ∧ l.length ≤ B ∧ (0 < l.length → ∃ b o, A = some ⟨b, o, none⟩ ∧ b < w.heap.size ∧ ∀ i t, l[i]? = some t →
    ∃ rv fv, w.cell? ⟨b, o + i * 2, none⟩ = some rv ∧ w.cell? ⟨b, o + i * 2 + 1, none⟩ = some fv ∧ Tdv B S w t (.agg #[rv, fv]))
theorem tds_of_trod {n : Nat} {cs : List Value} {x : DataW H × List MemPlace} (h : DataW.trod enc Try.prog w 0 (fun _ => true) true n 33 cs = some x) (hw : ∀ m ∈ x.1.weights Try.prog 33, m ≤ reachBytes) :
    ∃ ts v, cs = [v] ∧ TdsV B44 (fun b => b < w.heap.size) w v ts := by
  obtain ⟨l, A, c, rfl, h1, h2, h3, h4⟩ := slice_open Try.underlying33 cellsTd bytesTd (by omega) h hw (Q := fun (t : Td) cs => ∃ (rv fv : Value), cs = [rv, fv] ∧ Tdv B44 (fun b => b < w.heap.size) w t (.agg #[rv, fv])) (fun n cs x h hw => td_of_trod h hw)
  unfold reachBytes at h3
  refine ⟨l, _, rfl, A, c, rfl, h1, h2, by unfold B44; omega, fun hp => ?_⟩
  obtain ⟨b, o, e, hl, hc⟩ := h4 hp
  refine ⟨b, o, e, hl, fun i f hi => ?_⟩
  obtain ⟨cs, _, ⟨rv, fv, rfl, htd⟩, hk⟩ := hc i f hi
  exact ⟨rv, fv, hk 0 (by omega), hk 1 (by omega), htd⟩
end
end Go.Proofs.Ytocndkhgopjhhaa
