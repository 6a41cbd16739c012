/- StateDeepSaid, proved: the walk (deepLaw) and the row about it. -/
import Derived.Test.YtocndkhgopjhhaaRows
import Derived.Test.YtocndkhgopjhhaaOpen2
import Derived.Test.YtocndkhgopjhhaaDeepW
namespace Go.Proofs.Ytocndkhgopjhhaa.deepDone
open Go.ChangeShapes Go.WideShapes Go.ChangeAt Go.RowKit
open Go.Proofs.Ytocndkhgopjhhaa
set_option linter.unusedVariables false

theorem own : ownKnob Try.prog.godebug = none := by kernel_rfl
theorem laidOut : laidOutB Try.prog = true := by kernel_rfl

theorem cellsU8 : Try.prog.cellsOf 5 = 1 := by kernel_rfl
theorem bytesU8 : Try.prog.bytesOf 5 = 1 := by kernel_rfl
theorem u8s_of_trod {H : Type} {enc : TypeId × Value → H} {w : World} {n : Nat} {cs : List Value} {x : DataW H × List MemPlace} (h : DataW.trod enc Try.prog w 0 (fun _ => true) true n 56 cs = some x) (hw : ∀ m ∈ x.1.weights Try.prog 56, m ≤ reachBytes) :
    ∃ zs v, cs = [v] ∧ U8s w v zs := by
  obtain ⟨l, A, c, rfl, h1, h2, h3, h4⟩ := slice_open Try.underlying56 cellsU8 bytesU8 (by omega) h hw (Q := fun (z : Int) cs => cs = [.int .u8 z] ∧ (Lit.int .u8 z).wf = true) (fun n cs x h _ => by
    obtain ⟨z, hz, _, hw⟩ := DataW.trod_int Try.underlying5 h
    exact ⟨z, hz, hw⟩)
  refine ⟨l, _, rfl, A, c, rfl, h1, h2, fun z hz => ?_, fun hp => ?_⟩
  · obtain ⟨b, o, _, _, hc⟩ := h4 (List.length_pos_of_mem hz)
    obtain ⟨i, hi⟩ := List.mem_iff_getElem?.1 hz
    obtain ⟨cs, _, ⟨_, hwf⟩, _⟩ := hc i z hi
    have k1 : IntKind.u8.min = 0 := by decide
    have k2 : IntKind.u8.max = 255 := by decide
    simp only [Lit.wf, Bool.and_eq_true, decide_eq_true_eq, k1, k2] at hwf
    exact hwf
  · obtain ⟨b, o, e, hl, hc⟩ := h4 hp
    refine ⟨b, o, e, hl, fun i z hi => ?_⟩
    obtain ⟨cs, _, ⟨rfl, _⟩, hk⟩ := hc i z hi
    have := hk 0 (by omega)
    simpa using this

set_option maxRecDepth 100000 in
theorem lifted (os : Os) (started : os.Started) (H : Type) (enc : TypeId × Value → H) :
    ReturnsInHanded {} Try.checked os 5 .any (Rows.stateDeepSpec.pre6 enc Try.prog Try.f5 Rows.stateDeepRow.domain false) (Rows.stateDeepSpec.post enc Try.prog Try.f5 false true false false) := by
  refine returnsInHanded_of_change_sized (C := Try.checked) own started (by kernel_rfl) Try.func5
    (ChangeSpec.witness6 (enc := enc) (C := Try.checked) false ⟨#[], #[.slice none 0 0], []⟩ 8 (by kernel_rfl) (by kernel_rfl) (by kernel_rfl) (by kernel_rfl)) ?_
  intro W base args ds gs before hval0 hW hcnd hsz0 _
  have hval : ∀ (j : Nat) t v, Try.f5.params[j]? = some t → args[j]? = some v → Value.okWide Try.prog W .any base t v := hval0
  have hW' := hW
  obtain ⟨p, q, hA0, hV, rfl, hfz, hnd⟩ := hW
  have hA : DataW.TrodAll enc Try.prog W 0 (fun _ => true) true Try.f5.params.toList args.toList ds p := hA0
  have hsz : ∀ m ∈ DataW.weightsEach Try.prog (Try.f5.params.toList ++ Rows.stateDeepSpec.plain.varTypes Try.prog) (ds ++ gs), m ≤ reachBytes := fun m hm => of_decide_eq_true (List.all_eq_true.1 hsz0 m hm)
  rw [Try.params5] at hA hval hsz
  obtain ⟨v0, vs0, d0, ds0, p0, q0, hargs, rfl, rfl, h0, r0⟩ := trodAll_cons hA
  obtain ⟨rfl, rfl, rfl⟩ := trodAll_nil r0
  obtain rfl : args = #[v0] := by cases args; simp_all
  obtain ⟨rfl, rfl⟩ := trodVars_none hV
  obtain ⟨a0, len0, cap0, rfl⟩ := okWide_slice Try.underlying56 (hval 0 56 v0 rfl rfl)
  have lt0 : ∀ x ∈ p0, x.block < W.heap.size := by obtain ⟨m, hm⟩ := h0; exact DataW.trod_lt m _ _ _ hm
  have k0 := h0
  obtain ⟨n0, t0⟩ := h0
  obtain ⟨l, v, e0, hl⟩ := u8s_of_trod t0 (fun m hm => hsz m (by simp only [List.cons_append, DataW.weightsEach, List.mem_append]; exact .inl hm))
  obtain rfl : v = .slice a0 len0 cap0 := by simpa [Value.cells] using e0.symm
  clear hA0 hval0 hsz0 hsz
  refine (deepLaw hl).mono fun e W' ⟨he, bel⟩ => ?_
  subst he
  exact ⟨_, rfl, _, _, _, [], _, [], hW', trodAll_mk1 (shut_bool Try.underlying4 _), (trodAll_cons_mk (Below.trod laidOut (by kernel_rfl) (of_decide_eq_true (by kernel_rfl)) k0 bel lt0) trodAll_mk0), rfl, bel.frame _, fun h => by cases h⟩

theorem over : Rows.stateDeepRow.holds Try.pinned (OpenSpec.ofChange Rows.stateDeepSpec) :=
  OpenClaim.holds_of_wide 5 Try.f5 rfl rfl rfl rfl rfl rfl rfl ⟨rfl, rfl, rfl, rfl, rfl⟩ rfl rfl rfl rfl rfl (by kernel_rfl) Try.func5 (by kernel_rfl)
    (of_decide_eq_true (by kernel_rfl)) (by unfold Func.isWrapper; first | (rw [if_pos (by decide +kernel)]; kernel_rfl) | (rw [if_neg (by decide +kernel)]; exact ⟨rfl, rfl⟩))
    (fun os started H enc _ => lifted os started H enc)

/-- the statement -/
theorem proved : Rows.StateDeepSaid := over
#print axioms proved
end Go.Proofs.Ytocndkhgopjhhaa.deepDone
