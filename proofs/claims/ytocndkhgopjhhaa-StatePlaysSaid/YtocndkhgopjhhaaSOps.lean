/- The steps that came in: what they read as. -/
import Derived.Test.YtocndkhgopjhhaaProg
import Derived.Test.YtocndkhgopjhhaaOpen2
import Derived.Test.YtocndkhgopjhhaaLong28
namespace Go.Proofs.Ytocndkhgopjhhaa
open Go.ChangeShapes Go.WideShapes Go.ChangeAt Go.RowKit

theorem cellsSOp : Try.prog.cellsOf 40 = 3 := by kernel_rfl
theorem bytesSOp : Try.prog.bytesOf 40 = 56 := by kernel_rfl
section
variable {H : Type} {enc : TypeId × Value → H} {w : World}
set_option maxRecDepth 20000 in
theorem sop_of_trod {n : Nat} {cs : List Value} {x : DataW H × List MemPlace} (h : DataW.trod enc Try.prog w 0 (fun _ => true) true n 40 cs = some x) (hw : ∀ m ∈ x.1.weights Try.prog 40, m ≤ reachBytes) :
    ∃ (o : Int × Td) (rv fv : Value), cs = [.int .u8 o.1, rv, fv] ∧ Tdv B44 (fun b => b < w.heap.size) w o.2 (.agg #[rv, fv]) := by
  obtain ⟨xs, m, rfl, rfl, hl, hxl, hf⟩ := DataW.trod_struct Try.underlying40 h
  rw [cellsSOp] at hl
  obtain ⟨v0, v1, v2, rfl⟩ : ∃ v0 v1 v2, cs = [v0, v1, v2] := by
    match cs, hl with
    | [a, b, c], _ => exact ⟨_, _, _, rfl⟩
  obtain ⟨x0, x1, rfl⟩ : ∃ x0 x1, xs = [x0, x1] := by
    match xs, hxl with
    | [a, b], _ => exact ⟨_, _, rfl⟩
  have f0 := hf 0 _ rfl
  have f1 := hf 1 _ rfl
  change DataW.trod enc Try.prog w 0 (fun _ => true) true m 5 [v0] = some x0 at f0
  change DataW.trod enc Try.prog w 0 (fun _ => true) true m 38 [v1, v2] = some x1 at f1
  have hws : ∀ k, k ∈ x1.1.weights Try.prog 38 → k ≤ reachBytes := by
    intro k hk
    refine hw k ?_
    simp only [DataW.weights, Try.underlying40, List.map_cons, List.map_nil, DataW.weightsEach, List.mem_append]
    exact .inr (.inl hk)
  obtain ⟨k, e0, _, w0⟩ := DataW.trod_int Try.underlying5 f0
  obtain ⟨t, rv, fv, e1, ht⟩ := td_of_trod f1 hws
  simp only [List.cons.injEq, and_true] at e0 e1
  obtain ⟨rfl, rfl⟩ := e1
  subst e0
  exact ⟨(k, t), _, _, rfl, ht⟩

theorem sops_of_trod {n : Nat} {cs : List Value} {x : DataW H × List MemPlace} (h : DataW.trod enc Try.prog w 0 (fun _ => true) true n 34 cs = some x) (hw : ∀ m ∈ x.1.weights Try.prog 34, m ≤ reachBytes) :
    ∃ l v, cs = [v] ∧ OpsV B44 (fun b => b < w.heap.size) w v l := by
  obtain ⟨l, A, c, rfl, h1, h2, h3, h4⟩ := slice_open Try.underlying34 cellsSOp bytesSOp (by omega) h hw (Q := fun (o : Int × Td) cs => ∃ (rv fv : Value), cs = [.int .u8 o.1, rv, fv] ∧ Tdv B44 (fun b => b < w.heap.size) w o.2 (.agg #[rv, fv])) (fun n cs x h hw => sop_of_trod h hw)
  refine ⟨l, _, rfl, A, c, rfl, h1, h2, fun hp => ?_⟩
  obtain ⟨b, o, e, hl, hc⟩ := h4 hp
  refine ⟨b, o, e, hl, fun i k t hi => ?_⟩
  obtain ⟨cs, _, ⟨rv, fv, rfl, htd⟩, hk⟩ := hc i (k, t) hi
  exact ⟨rv, fv, hk 0 (by omega), hk 1 (by omega), hk 2 (by omega), htd⟩
end
end Go.Proofs.Ytocndkhgopjhhaa
