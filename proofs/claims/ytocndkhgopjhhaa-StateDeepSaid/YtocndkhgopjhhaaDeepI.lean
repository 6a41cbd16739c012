/- StateDeep: what its drawn statement (Push of a way) comes to, operation by operation. -/
import Derived.Test.YtocndkhgopjhhaaProg
import Derived.Test.YtocndkhgopjhhaaGivI
import Derived.Test.YtocndkhgopjhhaaGiv28
import Derived.Test.YtocndkhgopjhhaaDeepP
namespace Go.Proofs.Ytocndkhgopjhhaa
open Go.RowKit

/-- an append in a region, and where its row lies. -/
theorem step_app2 {P : Program} {o : Oper} {a : Act} {w : World} {K : Act → World → Prop} {Q : Exit → Act → World → Prop} (s x : Operand) (t : TypeId)
    (ho : o.op = .call { callee := .builtin .append, args := #[s, x], argTypes := #[t, t] })
    (base : Nat) (e : TypeId) (i : TypeInfo) (z : Value) (size bytes : Nat) (ht : P.underlying t = some (.slice e)) (hi : P.info? e = some i) (hz : i.zero = some z)
    (hsize : i.size = size) (hby : i.bytes = bytes) (hzs : z.cells.size = size) (hsz : 0 < size)
    (v : Value) (n : Nat) (xs : List Value) (hs : a.eval s = v) (hown : w.ownsRow base e size v n xs)
    (A : Option Addr) (m c : Nat) (news : List Value) (hx : a.eval x = .slice A m c) (hl : news.length = m * size) (hsrc : 0 < m → ∃ ad, A = some ad ∧ ∀ j u, news[j]? = some u → w.cell? (ad.add j) = some u) (h1 : ∀ u ∈ news, u.oneCell' = true)
    (h63 : n + m ≤ maxLen) (hbytes : ((n + m) + (n + m) / 4 + 192) * bytes ≤ 281474976710656) (hbase : base ≤ w.heap.size)
    (h : ∀ v' w', w'.ownsRow base e size v' (n + m) (xs ++ news) → w.grownBy w' v.ownBlock → At w v v' → K (a.put o.dst v') w') : o.wp P a w K Q := by
  obtain ⟨v', w', hr, h2, h3, h4⟩ := run_app (P := P) w base t o.type e i z size bytes ht hi hz hsize hby hzs hsz v n xs hown A m c news hl hsrc h1 h63 hbytes hbase
  unfold Oper.wp execOp
  simp only [ho, resolve, invoke, builtin, Sem.run_bind, Sem.run_pure, Result.andThen_ok, List.map_toArray, List.map_cons, List.map_nil, hs, hx, hr]
  exact h v' w' h2 h3 h4
theorem one_src {w : World} {b : Nat} {t : TypeId} {v : Value} (h : Blk w b t #[v]) : 0 < 1 → ∃ ad : Addr, some (⟨b, 0, none⟩ : Addr) = some ad ∧ ∀ j u, [v][j]? = some u → w.cell? (ad.add j) = some u := fun _ => by
  refine ⟨_, rfl, fun j u hj => ?_⟩
  match j, hj with
  | 0, hj => simp at hj; subst hj; simpa [Addr.add] using h.cell 0
  | j + 1, hj => simp at hj

/-- What is known when the operations of L have come up, the call not yet. -/
def DA (W : World) (q g n : Nat) (k : Int) (rv fv : Value) (is : List Value) (L : Nat → Bool) (w : World) (x75 x76 x77 x78 x79 x80 x81 x82 x83 x84 x85 : Value) : Prop :=
  Ext W w ∧ (L 0 = true → x75 = .pointer (some ⟨q, 0, none⟩)) ∧ (L 1 = true → L 4 = false → RowOf W w 3 1 0 x76 []) ∧ (L 2 = true → x77 = .pointer (some ⟨g, 0, none⟩)) ∧ (L 3 = true → x78 = rv) ∧
    (L 4 = true → L 7 = false → RowOf W w 3 1 n x79 is) ∧ (L 5 = true → x80 = .int .i64 k) ∧
    (L 6 = true → L 7 = false → ∃ b, x81 = .slice (some ⟨b, 0, none⟩) 1 1 ∧ Blk w b 3 #[.int .i64 k] ∧ (L 1 = true → L 4 = false → x76.ownBlock ≠ some b) ∧ (L 4 = true → x79.ownBlock ≠ some b)) ∧
    (L 7 = true → RowOf W w 3 1 (n + 1) x82 (is ++ [.int .i64 k])) ∧ (L 8 = true → x83 = .pointer (some ⟨g, 1, none⟩)) ∧ (L 9 = true → x84 = fv) ∧ (L 10 = true → x85 = .agg #[x82, x84]) ∧
    (L 7 = true → L 4 = true ∧ L 6 = true) ∧ (L 10 = true → L 7 = true ∧ L 9 = true) ∧ L 11 = false

section
variable {W : World} {q g n : Nat} {k : Int} {rv fv : Value} {is : List Value} {L : Nat → Bool} {w w' : World} {x75 x76 x77 x78 x79 x80 x81 x82 x83 x84 x85 : Value}
theorem DA.start (W : World) : DA W q g n k rv fv is (fun _ => false) W.drew x75 x76 x77 x78 x79 x80 x81 x82 x83 x84 x85 := by
  refine ⟨⟨rfl, rfl, rfl, Nat.le_refl _, fun _ _ => rfl⟩, ?_, ?_, ?_, ?_, ?_, ?_, ?_, ?_, ?_, ?_, ?_, ?_, ?_, rfl⟩ <;> (intro h; cases h)
theorem DA.s0 (h : DA W q g n k rv fv is L w x75 x76 x77 x78 x79 x80 x81 x82 x83 x84 x85) : DA W q g n k rv fv is (fun j => if j = 0 then true else L j) w (.pointer (some ⟨q, 0, none⟩)) x76 x77 x78 x79 x80 x81 x82 x83 x84 x85 := by
  obtain ⟨e, a0, a1, a2, a3, a4, a5, a6, a7, a8, a9, b0, b1, b2, b3⟩ := h
  exact ⟨e, fun _ => rfl, a1, a2, a3, a4, a5, a6, a7, a8, a9, b0, b1, b2, b3⟩
theorem DA.s1 (h : DA W q g n k rv fv is L w x75 x76 x77 x78 x79 x80 x81 x82 x83 x84 x85) : DA W q g n k rv fv is (fun j => if j = 1 then true else L j) (w.alloc (.cells #[] 3)) x75 (.slice (some ⟨w.heap.size, 0, none⟩) 0 0) x77 x78 x79 x80 x81 x82 x83 x84 x85 := by
  obtain ⟨e, a0, a1, a2, a3, a4, a5, a6, a7, a8, a9, b0, b1, b2, b3⟩ := h
  have hx := Ext.alloc' w (.cells #[] 3)
  refine ⟨e.trans' hx, a0, fun _ _ => RowOf.fresh w e _ _, a2, a3, fun h h' => (a4 h h').ext hx, a5, fun h h' => ?_, fun h => (a7 h).ext hx, a8, a9, b0, b1, b2, b3⟩
  obtain ⟨b, h1, h2, _, h4⟩ := a6 h h'
  refine ⟨b, h1, h2.ext hx, fun _ _ e => ?_, h4⟩
  simp only [Value.ownBlock, Option.some.injEq] at e
  have := h2.lt
  omega
theorem DA.s2 (h : DA W q g n k rv fv is L w x75 x76 x77 x78 x79 x80 x81 x82 x83 x84 x85) : DA W q g n k rv fv is (fun j => if j = 2 then true else L j) w x75 x76 (.pointer (some ⟨g, 0, none⟩)) x78 x79 x80 x81 x82 x83 x84 x85 := by
  obtain ⟨e, a0, a1, a2, a3, a4, a5, a6, a7, a8, a9, b0, b1, b2, b3⟩ := h
  exact ⟨e, a0, a1, fun _ => rfl, a3, a4, a5, a6, a7, a8, a9, b0, b1, b2, b3⟩
theorem DA.s3 (h : DA W q g n k rv fv is L w x75 x76 x77 x78 x79 x80 x81 x82 x83 x84 x85) : DA W q g n k rv fv is (fun j => if j = 3 then true else L j) w x75 x76 x77 rv x79 x80 x81 x82 x83 x84 x85 := by
  obtain ⟨e, a0, a1, a2, a3, a4, a5, a6, a7, a8, a9, b0, b1, b2, b3⟩ := h
  exact ⟨e, a0, a1, a2, fun _ => rfl, a4, a5, a6, a7, a8, a9, b0, b1, b2, b3⟩
theorem DA.s4 (h : DA W q g n k rv fv is L w x75 x76 x77 x78 x79 x80 x81 x82 x83 x84 x85) (l1 : L 1 = true) (l4 : L 4 = false) {v : Value} (hv : RowOf W w' 3 1 n v is) (hg : w.grownBy w' x76.ownBlock) (hat : At w x76 v) :
    DA W q g n k rv fv is (fun j => if j = 4 then true else L j) w' x75 x76 x77 x78 v x80 x81 x82 x83 x84 x85 := by
  obtain ⟨e, a0, a1, a2, a3, a4, a5, a6, a7, a8, a9, b0, b1, b2, b3⟩ := h
  have r := a1 l1 l4
  have l7 : L 7 = false := by
    cases h : L 7
    · rfl
    · have := (b1 h).1; rw [l4] at this; cases this
  have hx : Ext W w' := e.grown hg fun g hg' => (ownsRow_lt r.2 hg').1
  refine ⟨hx, a0, fun _ h => by simp at h, a2, a3, fun _ _ => hv, a5, fun h h' => ?_, fun h => ?_, a8, a9, b0, fun h => ⟨rfl, (b1 h).2⟩, b2, b3⟩
  · obtain ⟨b, h1, h2, h3, _⟩ := a6 h h'
    have hne := h3 l1 l4
    refine ⟨b, h1, h2.grown hg (fun e => hne e.symm), fun _ h => by simp at h, fun _ e2 => ?_⟩
    rcases hat with ha | ha
    · rw [ha] at e2; exact hne e2
    · have := ha b e2; have := h2.lt; omega
  · have h' : L 7 = true := h
    rw [l7] at h'; cases h'
theorem DA.s5 (h : DA W q g n k rv fv is L w x75 x76 x77 x78 x79 x80 x81 x82 x83 x84 x85) : DA W q g n k rv fv is (fun j => if j = 5 then true else L j) w x75 x76 x77 x78 x79 (.int .i64 k) x81 x82 x83 x84 x85 := by
  obtain ⟨e, a0, a1, a2, a3, a4, a5, a6, a7, a8, a9, b0, b1, b2, b3⟩ := h
  exact ⟨e, a0, a1, a2, a3, a4, fun _ => rfl, a6, a7, a8, a9, b0, b1, b2, b3⟩
theorem DA.s6 (h : DA W q g n k rv fv is L w x75 x76 x77 x78 x79 x80 x81 x82 x83 x84 x85) (l6 : L 6 = false) : DA W q g n k rv fv is (fun j => if j = 6 then true else L j) (w.alloc (.cells #[.int .i64 k] 3)) x75 x76 x77 x78 x79 x80 (.slice (some ⟨w.heap.size, 0, none⟩) 1 1) x82 x83 x84 x85 := by
  obtain ⟨e, a0, a1, a2, a3, a4, a5, a6, a7, a8, a9, b0, b1, b2, b3⟩ := h
  have hx := Ext.alloc' w (.cells #[.int .i64 k] 3)
  have l7 : L 7 = false := by
    cases h : L 7
    · rfl
    · have := (b1 h).2; rw [l6] at this; cases this
  refine ⟨e.trans' hx, a0, fun h h' => (a1 h h').ext hx, a2, a3, fun h h' => (a4 h h').ext hx, a5, fun h h' => ?_, fun h => (a7 h).ext hx, a8, a9, b0, fun h => ⟨(b1 h).1, rfl⟩, b2, b3⟩
  refine ⟨w.heap.size, rfl, Blk.new w _ _, fun h1 h4 e => ?_, fun h4 e => ?_⟩
  · have := (ownsRow_lt (a1 h1 h4).2 e).2; omega
  · have := (ownsRow_lt (a4 h4 l7).2 e).2; omega
theorem DA.s7 (h : DA W q g n k rv fv is L w x75 x76 x77 x78 x79 x80 x81 x82 x83 x84 x85) (l4 : L 4 = true) (l6 : L 6 = true) (l7 : L 7 = false) {v : Value} (hv : RowOf W w' 3 1 (n + 1) v (is ++ [.int .i64 k])) (hg : w.grownBy w' x79.ownBlock) :
    DA W q g n k rv fv is (fun j => if j = 7 then true else L j) w' x75 x76 x77 x78 x79 x80 x81 v x83 x84 x85 := by
  obtain ⟨e, a0, a1, a2, a3, a4, a5, a6, a7, a8, a9, b0, b1, b2, b3⟩ := h
  have r := a4 l4 l7
  have l10 : L 10 = false := by
    cases h : L 10
    · rfl
    · have := (b2 h).1; rw [l7] at this; cases this
  have hx : Ext W w' := e.grown hg fun g hg' => (ownsRow_lt r.2 hg').1
  refine ⟨hx, a0, fun _ h => ?_, a2, a3, fun _ h => by simp at h, a5, fun _ h' => by simp at h', fun h => hv, a8, a9, fun h => ?_, fun _ => ⟨l4, l6⟩, fun h => ?_, b3⟩
  · have h' : L 4 = false := h
    rw [l4] at h'; cases h'
  · have h' : L 10 = true := h
    rw [l10] at h'; cases h'
  · have h' : L 10 = true := h
    rw [l10] at h'; cases h'
theorem DA.s8 (h : DA W q g n k rv fv is L w x75 x76 x77 x78 x79 x80 x81 x82 x83 x84 x85) : DA W q g n k rv fv is (fun j => if j = 8 then true else L j) w x75 x76 x77 x78 x79 x80 x81 x82 (.pointer (some ⟨g, 1, none⟩)) x84 x85 := by
  obtain ⟨e, a0, a1, a2, a3, a4, a5, a6, a7, a8, a9, b0, b1, b2, b3⟩ := h
  exact ⟨e, a0, a1, a2, a3, a4, a5, a6, a7, fun _ => rfl, a9, b0, b1, b2, b3⟩
theorem DA.s9 (h : DA W q g n k rv fv is L w x75 x76 x77 x78 x79 x80 x81 x82 x83 x84 x85) (l9 : L 9 = false) : DA W q g n k rv fv is (fun j => if j = 9 then true else L j) w x75 x76 x77 x78 x79 x80 x81 x82 x83 fv x85 := by
  obtain ⟨e, a0, a1, a2, a3, a4, a5, a6, a7, a8, a9, b0, b1, b2, b3⟩ := h
  refine ⟨e, a0, a1, a2, a3, a4, a5, a6, a7, a8, fun _ => rfl, fun h => ?_, b1, fun h => ⟨(b2 h).1, rfl⟩, b3⟩
  have h' : L 10 = true := h
  have := (b2 h').2
  rw [l9] at this; cases this
theorem DA.s10 (h : DA W q g n k rv fv is L w x75 x76 x77 x78 x79 x80 x81 x82 x83 x84 x85) (l7 : L 7 = true) (l9 : L 9 = true) : DA W q g n k rv fv is (fun j => if j = 10 then true else L j) w x75 x76 x77 x78 x79 x80 x81 x82 x83 x84 (.agg #[x82, x84]) := by
  obtain ⟨e, a0, a1, a2, a3, a4, a5, a6, a7, a8, a9, b0, b1, b2, b3⟩ := h
  exact ⟨e, a0, a1, a2, a3, a4, a5, a6, a7, a8, a9, fun _ => rfl, b1, fun _ => ⟨l7, l9⟩, b3⟩
end

/-- The same, the call's end and what stands behind it included. -/
def DI (P : World → Prop) (W : World) (q g n : Nat) (k : Int) (rv fv : Value) (is : List Value) (L : Nat → Bool) (w : World) (x10 x75 x76 x77 x78 x79 x80 x81 x82 x83 x84 x85 x86 : Value) : Prop :=
  DA W q g n k rv fv is L w x75 x76 x77 x78 x79 x80 x81 x82 x83 x84 x85 ∨ (L 11 = true ∧ x86 = .int .i64 0 ∧ P w ∧ (L 12 = true → x10 = .int .i64 0))
theorem DI.pre {P : World → Prop} {W : World} {q g n : Nat} {k : Int} {rv fv : Value} {is : List Value} {L : Nat → Bool} {w : World} {x10 x75 x76 x77 x78 x79 x80 x81 x82 x83 x84 x85 x86 : Value} (h : DI P W q g n k rv fv is L w x10 x75 x76 x77 x78 x79 x80 x81 x82 x83 x84 x85 x86) (hn : L 11 = false) : DA W q g n k rv fv is L w x75 x76 x77 x78 x79 x80 x81 x82 x83 x84 x85 := by
  rcases h with h | h
  · exact h
  · rw [hn] at h; cases h.1
theorem DI.post {P : World → Prop} {W : World} {q g n : Nat} {k : Int} {rv fv : Value} {is : List Value} {L : Nat → Bool} {w : World} {x10 x75 x76 x77 x78 x79 x80 x81 x82 x83 x84 x85 x86 : Value} (h : DI P W q g n k rv fv is L w x10 x75 x76 x77 x78 x79 x80 x81 x82 x83 x84 x85 x86) (hn : L 11 = true) : x86 = .int .i64 0 ∧ P w ∧ (L 12 = true → x10 = .int .i64 0) := by
  rcases h with h | h
  · have := h.2.2.2.2.2.2.2.2.2.2.2.2.2.2
    rw [hn] at this; cases this
  · exact h.2

/-- What holds at the head of the inner loop: t is popped, k of its ways are pushed. -/
def DeepIn (w w2 : World) (n len : Nat) (r : List Int) (rv fv lv : Value) (g k : Nat) (wx : World) : Prop :=
  ∃ (T M : Nat → Prop) (ts : List Td), QSt T M w2 wx w2.heap.size 256 ts ∧ DeepK n len r k ts ∧ Ext w wx ∧ Blk wx g 48 #[rv, fv] ∧ ¬ M g ∧ Ints 128 (fun b => ¬ M b) wx rv r ∧ Facts 128 (fun b => ¬ M b) wx fv [rootF] ∧ Ints 128 (fun b => ¬ M b) wx lv r

theorem deep_push {w w2 wx w3 : World} {n len : Nat} {r : List Int} {rv fv lv v : Value} {g k : Nat} (hw2 : Ext w w2) (h : DeepIn w w2 n len r rv fv lv g k wx) (hn : n < len) (hl : len ≤ 60) (hk : k < 3) (hrl : r.length ≤ n) (hx : Ext wx w3)
    (hv : RowOf wx w3 3 1 (r.length + 1) v (r.map (Value.int .i64) ++ [.int .i64 (k : Int)])) :
    Calls Try.prog 29 #[.pointer (some ⟨w2.heap.size, 0, none⟩), .agg #[v, fv]] w3 fun e w' => e = .returned (.int .i64 0) ∧ DeepIn w w2 n len r rv fv lv g (k + 1) w' := by
  obtain ⟨T, M, ts, hq, hd, hw, hb, hg, hr, hf, hlv⟩ := h
  have hap := hq.apart
  obtain ⟨hc, hd'⟩ := hd.push hn hl hk hrl
  have hzx := hx.size
  have hz2 : w2.heap.size ≤ wx.heap.size := by
    obtain ⟨_, _, _, _, _, h1, h2, _⟩ := hq
    omega
  have hfew := hd.few
  have hwf : ∀ z ∈ r, (Lit.int .i64 z).wf = true := by
    obtain ⟨_, _, _, _, _, _, hwf, _⟩ := hr
    exact hwf
  have hrow : Ints 128 (fun _ => True) w3 v (r ++ [(k : Int)]) := by
    have h1 := own_ints (zs := r ++ [(k : Int)]) (B := 128) (n := r.length + 1) (by simpa using hv.2) (by simp) (by simp; omega) (by
      intro z hz
      rcases List.mem_append.1 hz with hz | hz
      · exact hwf z hz
      · simp at hz
        subst hz
        exact wf_small k (by omega))
    exact h1.keep (Nat.le_refl _) (fun _ _ _ => rfl) (fun _ _ _ => trivial)
  have htd : Tdv 128 (fun _ => True) w3 ⟨r ++ [(k : Int)], [rootF]⟩ (.agg #[v, fv]) := ⟨_, _, rfl, hrow, hf.keep hx.size (fun b _ hl => hx.block b hl) (fun _ _ _ => trivial)⟩
  refine ((hq.ext hx).push (by omega) (by omega) htd).mono ?_
  rintro e w' ⟨rfl, hp⟩
  rw [hc, if_pos rfl] at hp
  obtain ⟨T', M', hq', hTT, hT, hM, ht⟩ := hp
  rw [hc]
  have hzt := ht.size
  have hnm : ∀ b, ¬ M b → b < wx.heap.size → ¬ M' b := fun b h1 h2 h3 => by
    rcases hM b h3 with e | e
    · exact h1 e
    · omega
  have hblk : ∀ b, ¬ M b → b < wx.heap.size → w'.heap[b]? = wx.heap[b]? := fun b h1 h2 => by rw [ht.block b (by omega) h1, hx.block b h2]
  refine ⟨rfl, T', M', _, hq', hd', ?_, ?_, hnm g hg hb.lt, ?_, ?_, ?_⟩
  · refine Ext.turn (hw.trans' hx) ht (fun b hb => ?_)
    have := (hap.2 b hb).2
    have := hw2.size
    omega
  · exact (hblk g hg hb.lt).trans hb
  · exact hr.keep (by omega) hblk hnm
  · exact hf.keep (by omega) hblk hnm
  · exact hlv.keep (by omega) hblk hnm
where
  wf_small (k : Nat) (h : k < 1000) : (Lit.int .i64 (k : Int)).wf = true := by
    have h1 : IntKind.i64.min = -9223372036854775808 := by decide
    have h2 : IntKind.i64.max = 9223372036854775807 := by decide
    simp only [Lit.wf, Bool.and_eq_true, decide_eq_true_eq, h1, h2]
    omega
end Go.Proofs.Ytocndkhgopjhhaa
