/- The document's queue (touchstoneref28) in memory: New, Pop. -/
import Derived.Test.YtocndkhgopjhhaaProg
import Derived.Test.YtocndkhgopjhhaaOrdP
import Derived.Test.YtocndkhgopjhhaaPlQ
import Derived.Test.YtocndkhgopjhhaaStepA
import Derived.Test.YtocndkhgopjhhaaTOwn
import Derived.Test.YtocndkhgopjhhaaMay20
import Derived.Test.YtocndkhgopjhhaaLess
import Derived.Outline
import Derived.Deep.RegionLaw
namespace Go.Proofs.Ytocndkhgopjhhaa
open Go.RowKit

/-- 'The pointer to block g is the document's queue of the things L'; what it reads lies in blocks of R. -/
def RQ (B : Nat) (R : Nat → Prop) (w : World) (g : Nat) (most : Int) (L : List Td) : Prop :=
  ∃ A c, Blk w g 144 #[.slice A L.length c, .int .i64 most] ∧ L.length ≤ c ∧ c ≤ maxLen ∧
    (0 < L.length → ∃ b o, A = some ⟨b, o, none⟩ ∧ R b ∧ ∀ i t, L[i]? = some t → ∃ rv fv, w.cell? ⟨b, o + i * 2, none⟩ = some rv ∧ w.cell? ⟨b, o + i * 2 + 1, none⟩ = some fv ∧ Tdv B R w t (.agg #[rv, fv])) ∧
    ∀ b, R b → b ≠ g ∧ b < w.heap.size
section
variable {B : Nat} {R : Nat → Prop} {w w' : World} {g : Nat} {most : Int} {L : List Td}
theorem RQ.lt (h : RQ B R w g most L) : g < w.heap.size := by
  obtain ⟨A, c, hb, _⟩ := h; exact hb.lt
theorem RQ.turn {F : Nat → Prop} (h : RQ B R w g most L) (ht : Turns F w w') (hF : ∀ b, F b → ¬ R b ∧ b ≠ g) : RQ B R w' g most L := by
  obtain ⟨A, c, hb, h1, h2, h3, h4⟩ := h
  refine ⟨A, c, (ht.block g hb.lt fun h => (hF g h).2 rfl).trans hb, h1, h2, fun hp => ?_, fun b hr => ⟨(h4 b hr).1, Nat.lt_of_lt_of_le (h4 b hr).2 ht.size⟩⟩
  obtain ⟨b, o, e, hr, hc⟩ := h3 hp
  refine ⟨b, o, e, hr, fun i t hi => ?_⟩
  obtain ⟨rv, fv, c0, c1, hd⟩ := hc i t hi
  have hbb := ht.block b (h4 b hr).2 fun h => (hF b h).1 hr
  exact ⟨rv, fv, (World.cell?_of_block (w := w) (a := ⟨b, o + i * 2, none⟩) hbb).trans c0, (World.cell?_of_block (w := w) (a := ⟨b, o + i * 2 + 1, none⟩) hbb).trans c1, hd.keep ht.size (fun x hx hl => ht.block x hl fun h => (hF x h).1 hx) (fun _ h _ => h)⟩
theorem RQ.ext (h : RQ B R w g most L) (hx : Ext w w') : RQ B R w' g most L := h.turn (F := fun _ => False) (Turns.ofExt hx) (fun _ h => h.elim)
theorem RQ.new (w : World) (most : Int) : RQ B (fun _ => False) (w.alloc (.cells #[.slice none 0 0, .int .i64 most] 144)) w.heap.size most [] :=
  ⟨none, 0, Blk.new _ _ _, Nat.le_refl _, by simp [maxLen], by simp, fun _ h => h.elim⟩
end
theorem rnew_any (most : Int) (w : World) (h1 : 1 ≤ most) (h2 : most ≤ 256) :
    Calls Try.prog 73 #[.int .i64 most] w fun e w' => e = .returned (.tuple #[.pointer (some ⟨w.heap.size, 0, none⟩), .int .i64 0]) ∧ w' = w.alloc (.cells #[.slice none 0 0, .int .i64 most] 144) := by
  go_enter Try.func73, Try.ntmps73
  go_wp2_with fail
  go_ret2
  exact ⟨rfl, rfl⟩
theorem rnew_no (most : Int) (w : World) (h : most < 1 ∨ 256 < most) :
    Calls Try.prog 73 #[.int .i64 most] w fun e w' => e = .returned (.tuple #[.pointer none, .int .i64 1]) ∧ Ext w w' := by
  by_cases h1 : most < 1
  · go_enter Try.func73, Try.ntmps73
    go_wp2_with fail
    go_ret2
    exact ⟨rfl, Below.refl _ _⟩
  · have h2 : 256 < most := by omega
    go_enter Try.func73, Try.ntmps73
    go_wp2_with fail
    go_ret2
    exact ⟨rfl, Below.refl _ _⟩
theorem qnew_no (most : Int) (w : World) (h : most < 1 ∨ 256 < most) :
    Calls Try.prog 28 #[.int .i64 most] w fun e w' => e = .returned (.tuple #[.pointer none, .int .i64 1]) ∧ Ext w w' := by
  by_cases h1 : most < 1
  · go_enter Try.func28, Try.ntmps28
    go_wp2_with fail
    go_ret2
    exact ⟨rfl, Below.refl _ _⟩
  · have h2 : 256 < most := by omega
    go_enter Try.func28, Try.ntmps28
    go_wp2_with fail
    go_ret2
    exact ⟨rfl, Below.refl _ _⟩
end Go.Proofs.Ytocndkhgopjhhaa
/- The document's queue: Pop; the program's queue: Pop of none. -/
namespace Go.Proofs.Ytocndkhgopjhhaa
open Go.RowKit

theorem results_rtd_tmp {fn : Func} {k u : Nat} (h : fn.results = #[.cell k 38, .tmp u]) (tmps : Array Value) (w : World) (g : Nat) (v0 v1 : Value)
    (ht : tmps.getD k undef = .pointer (some ⟨g, 0, none⟩)) (hB : Blk w g 38 #[v0, v1]) :
    (results fn tmps).run Try.prog w = .ok (.tuple #[.agg #[v0, v1], tmps.getD u undef]) w := by
  have c0 := hB.cell 0
  have c1 := hB.cell 1
  have ht' : tmps[k]?.getD undef = .pointer (some ⟨g, 0, none⟩) := by simpa using ht
  simp at c0 c1
  simp [results, h, ht', go_sem, c0, c1]
theorem RQ.popped {B : Nat} {R : Nat → Prop} {w : World} {g : Nat} {most : Int} {t : Td} {L : List Td} (h : RQ B R w g most (t :: L)) {b o c2 : Nat} {A2 : Option Addr} {v : Value} (X : Obj)
    (hc : ∀ (i : Nat) t', (t :: L)[i]? = some t' → ∃ rv fv, w.cell? ⟨b, o + i * 2, none⟩ = some rv ∧ w.cell? ⟨b, o + i * 2 + 1, none⟩ = some fv ∧ Tdv B R w t' (.agg #[rv, fv])) (hrb : R b) (htd : Tdv B R w t v)
    (h2 : L.length ≤ c2) (hm : c2 ≤ maxLen) (hA : 0 < L.length → A2 = some ⟨b, o + 2, none⟩) :
    Turns (fun b => b = g) w (((w.setCell ⟨g, 0, none⟩ (.slice A2 L.length c2)).alloc X).alloc X) ∧ RQ B R (((w.setCell ⟨g, 0, none⟩ (.slice A2 L.length c2)).alloc X).alloc X) g most L ∧ Tdv B R (((w.setCell ⟨g, 0, none⟩ (.slice A2 L.length c2)).alloc X).alloc X) t v := by
  obtain ⟨A, c, hb, _, _, _, hR⟩ := h
  have hT : Turns (fun b => b = g) w (((w.setCell ⟨g, 0, none⟩ (.slice A2 L.length c2)).alloc X).alloc X) := Turns.trans (G := fun b => b = g) (Turns.ofSet _ ⟨g, 0, none⟩ _) (Turns.ofExt ((Ext.alloc' _ _).trans' (Ext.alloc' _ _))) (fun _ h _ => h)
  have hk : ∀ x, R x → (((w.setCell ⟨g, 0, none⟩ (.slice A2 L.length c2)).alloc X).alloc X).heap[x]? = w.heap[x]? := fun x hx => hT.block x (hR x hx).2 (hR x hx).1
  have hkeep : ∀ {t' : Td} {v' : Value}, Tdv B R w t' v' → Tdv B R (((w.setCell ⟨g, 0, none⟩ (.slice A2 L.length c2)).alloc X).alloc X) t' v' := fun hd => hd.keep hT.size (fun x hx _ => hk x hx) (fun _ h _ => h)
  refine ⟨hT, ⟨A2, c2, ((hb.set_ 0 (.slice A2 L.length c2)).alloc X).alloc X, h2, hm, fun hp => ⟨b, o + 2, hA hp, hrb, fun i t' hi => ?_⟩, fun x hx => ⟨(hR x hx).1, Nat.lt_of_lt_of_le (hR x hx).2 hT.size⟩⟩, hkeep htd⟩
  obtain ⟨rv, fv, c0, c1, hd⟩ := hc (i + 1) t' (by simpa using hi)
  have e0 : o + (i + 1) * 2 = o + 2 + i * 2 := by omega
  rw [e0] at c0 c1
  exact ⟨rv, fv, (World.cell?_of_block (w := w) (a := ⟨b, o + 2 + i * 2, none⟩) (hk b hrb)).trans c0, (World.cell?_of_block (w := w) (a := ⟨b, o + 2 + i * 2 + 1, none⟩) (hk b hrb)).trans c1, hkeep hd⟩
theorem Blk.setR {w : World} {g : Nat} {t : TypeId} {a b : Value} (h : Blk w g t #[a, b]) (u v : Value) : Blk ((w.setCell ⟨g, 0, none⟩ u).setCell ⟨g, 1, none⟩ v) g t #[u, v] := by
  have h1 : Blk (w.setCell ⟨g, 0, none⟩ u) g t #[u, b] := h.set_ 0 u
  exact h1.set_ 1 v

set_option maxRecDepth 100000 in
set_option maxHeartbeats 2000000 in
theorem rpop_nil {B : Nat} {R : Nat → Prop} {w : World} {g : Nat} {most : Int} (h : RQ B R w g most []) :
    Calls Try.prog 123 #[.pointer (some ⟨g, 0, none⟩)] w fun e w' => e = .returned (.tuple #[.agg #[.slice none 0 0, .slice none 0 0], .int .i64 5]) ∧ Ext w w' := by
  obtain ⟨A, c, hb, _⟩ := h
  have hx := Ext.alloc' w (.cells #[.slice none 0 0, .slice none 0 0] 38)
  have HX := Lib.hid hx
  have HB := Lib.hid (Blk.new w 38 #[.slice none 0 0, .slice none 0 0])
  have c0 : w.cell? ⟨g, 0, none⟩ = some (.slice A 0 c) := hb.cell 0
  have hg := hb.lt
  clear hb hx
  go_enter Try.func123, Try.ntmps123
  go_wp2_with fail
  refine bodyPost_ret (results_rtd_tmp rfl _ _ _ _ _ rfl HB.out) rfl ?_
  exact ⟨rfl, HX.out⟩

set_option maxRecDepth 100000 in
set_option maxHeartbeats 2000000 in
theorem rpop_any {B : Nat} {R : Nat → Prop} {w : World} {g : Nat} {most : Int} {t : Td} {L : List Td} (h : RQ B R w g most (t :: L)) :
    Calls Try.prog 123 #[.pointer (some ⟨g, 0, none⟩)] w fun e w' => ∃ A c A' c', e = .returned (.tuple #[.agg #[.slice A t.row.length c, .slice A' t.facts.length c'], .int .i64 0]) ∧ Turns (fun b => b = g) w w' ∧ RQ B R w' g most L ∧ Tdv B R w' t (.agg #[.slice A t.row.length c, .slice A' t.facts.length c']) := by
  have H := Lib.hid h
  obtain ⟨A, c, hb, hc, hm, hcell, hR⟩ := h
  obtain ⟨b, o, rfl, hrb, hcl⟩ := hcell (by simp)
  obtain ⟨rv, fv, c0, c1, htd⟩ := hcl 0 t rfl
  obtain ⟨A0, c0', A1, c1', e⟩ := htd.form
  injection e with e
  simp only [Array.mk.injEq, List.cons.injEq, and_true] at e
  obtain ⟨rfl, rfl⟩ := e
  simp only [Nat.zero_mul, Nat.add_zero] at c0 c1
  have HTD := Lib.hid htd
  have HB := Lib.hid hb
  have HCL := Lib.hid hcl
  have HRR := Lib.hid hR
  have hbg := (hR b hrb).1
  have hbl := (hR b hrb).2
  have q0 : w.cell? ⟨g, 0, none⟩ = some (.slice (some ⟨b, o, none⟩) (L.length + 1) c) := hb.cell 0
  have qf : w.frozen? ⟨g, 0, none⟩ = false := hb.frozen 0
  have hg := hb.lt
  have hc' : L.length + 1 ≤ c := by simpa using hc
  unfold maxLen at hm
  have hlen : (((L.length : Int) + 1) == 0) = false := by rw [beq_eq_false_iff_ne]; omega
  have hx1 := Ext.alloc' w (.cells #[.slice none 0 0, .slice none 0 0] 38)
  have HX1 := Lib.hid hx1
  have HB1 := Lib.hid (Blk.new w 38 #[.slice none 0 0, .slice none 0 0])
  clear hb hcell hcl hR htd hc hx1
  go_enter Try.func123, Try.ntmps123
  go_wp2_with fail
  all_goals
    refine bodyPost_ret (results_rtd_tmp rfl _ _ _ _ _ rfl ((Blk.new' _ _ _ (by simp)).alloc _)) rfl ?_
  · have hl0 : L.length = 0 := by omega
    obtain ⟨h1, h2, h3⟩ := H.out.popped (A2 := some ⟨b, o, none⟩) (c2 := 0) (.cells #[.slice A0 t.row.length c0', .slice A1 t.facts.length c1'] 38) HCL.out hrb HTD.out (by omega) (by simp [maxLen]) (fun hp => by omega)
    exact ⟨_, _, _, _, rfl, h1, h2, h3⟩
  · obtain ⟨h1, h2, h3⟩ := H.out.popped (A2 := some ⟨b, o + 2, none⟩) (c2 := c - 1) (.cells #[.slice A0 t.row.length c0', .slice A1 t.facts.length c1'] 38) HCL.out hrb HTD.out (by omega) (by simp only [maxLen]; omega) (fun _ => rfl)
    exact ⟨_, _, _, _, rfl, h1, h2, h3⟩
end Go.Proofs.Ytocndkhgopjhhaa
/- The document's queue: Copy. -/
namespace Go.Proofs.Ytocndkhgopjhhaa
open Go.RowKit

theorem rtodo_info : (Try.prog.info? 38).map (fun i => (i.zero, i.size, i.bytes)) = some (some (.agg #[.slice none 0 0, .slice none 0 0]), 2, 48) := by kernel_rfl
/-- The cells of the things in memory, one behind the other. -/
theorem tds_src {B : Nat} {R : Nat → Prop} {w : World} {b o : Nat} {L : List Td} (hc : ∀ (i : Nat) t, L[i]? = some t → ∃ rv fv, w.cell? ⟨b, o + i * 2, none⟩ = some rv ∧ w.cell? ⟨b, o + i * 2 + 1, none⟩ = some fv ∧ Tdv B R w t (.agg #[rv, fv])) :
    ∃ news, TdCells B R w L news ∧ (∀ u ∈ news, u.oneCell' = true) ∧ ∀ j u, news[j]? = some u → w.cell? ((⟨b, o, none⟩ : Addr).add j) = some u := by
  have hcell : ∀ j, j < L.length * 2 → ∃ u, w.cell? ⟨b, o + j, none⟩ = some u ∧ u.oneCell' = true := by
    intro j hj
    have hq : j / 2 < L.length := by omega
    obtain ⟨rv, fv, c0, c1, hd⟩ := hc (j / 2) _ (List.getElem?_eq_getElem hq)
    obtain ⟨A, c, A', c', e⟩ := hd.form
    injection e with e
    simp only [Array.mk.injEq, List.cons.injEq, and_true] at e
    obtain ⟨rfl, rfl⟩ := e
    have hj2 : j = j / 2 * 2 + j % 2 := by omega
    rcases (by omega : j % 2 = 0 ∨ j % 2 = 1) with hm | hm
    · exact ⟨_, by rw [hj2, hm]; exact c0, rfl⟩
    · exact ⟨_, by rw [hj2, hm]; exact c1, rfl⟩
  obtain ⟨news, hn, hq⟩ := Facts.src.list_of' (Q := fun j (u : Value) => w.cell? ⟨b, o + j, none⟩ = some u ∧ u.oneCell' = true) (L.length * 2) hcell
  have get : ∀ j u, j < L.length * 2 → w.cell? ⟨b, o + j, none⟩ = some u → news[j]? = some u := by
    intro j u hj hu
    have he := List.getElem?_eq_getElem (l := news) (i := j) (by omega)
    have := (hq j _ he).1
    rw [hu] at this
    injection this with this
    rw [he, this]
  refine ⟨news, ⟨hn, fun i t hi => ?_⟩, fun u hu => ?_, fun j u hj => ?_⟩
  · have hil := (List.getElem?_eq_some_iff.1 hi).1
    obtain ⟨rv, fv, c0, c1, hd⟩ := hc i t hi
    exact ⟨rv, fv, get _ _ (by omega) c0, get _ _ (by omega) c1, hd⟩
  · obtain ⟨j, hj⟩ := List.mem_iff_getElem?.1 hu
    exact (hq j u hj).2
  · have := (hq j u hj).1
    rcases Nat.eq_zero_or_pos j with rfl | h0
    · simpa [Addr.add] using this
    · rw [Addr.add, if_neg (by omega)]; exact this
theorem RQ.src {B : Nat} {R : Nat → Prop} {w : World} {g : Nat} {most : Int} {L : List Td} (h : RQ B R w g most L) :
    ∃ A c news, Blk w g 144 #[.slice A L.length c, .int .i64 most] ∧ L.length ≤ c ∧ c ≤ maxLen ∧ TdCells B R w L news ∧ (∀ u ∈ news, u.oneCell' = true) ∧ (0 < L.length → ∃ ad, A = some ad ∧ ∀ j u, news[j]? = some u → w.cell? (ad.add j) = some u) ∧ ∀ b, R b → b ≠ g ∧ b < w.heap.size := by
  obtain ⟨A, c, hb, h1, h2, h3, h4⟩ := h
  rcases Nat.eq_zero_or_pos L.length with h0 | h0
  · have := List.eq_nil_of_length_eq_zero h0
    subst this
    exact ⟨A, c, [], hb, h1, h2, TdCells.nil, by simp, fun h => by simp at h, h4⟩
  · obtain ⟨b, o, rfl, hr, hc⟩ := h3 h0
    obtain ⟨news, n1, n2, n3⟩ := tds_src hc
    exact ⟨_, c, news, hb, h1, h2, n1, n2, fun _ => ⟨_, rfl, n3⟩, h4⟩
theorem srcT_up {w : World} {A : Option Addr} {n : Nat} {news : List Value} {W : World} (h : Ext w W) (hs : 0 < n → ∃ ad, A = some ad ∧ ∀ j u, news[j]? = some u → w.cell? (ad.add j) = some u) : 0 < n → ∃ ad, A = some ad ∧ ∀ j u, news[j]? = some u → W.cell? (ad.add j) = some u := by
  intro hp
  obtain ⟨ad, e, hc⟩ := hs hp
  refine ⟨ad, e, fun j u hj => ?_⟩
  have h1 := hc j u hj
  have hl : (ad.add j).block < w.heap.size := by
    rcases Nat.lt_or_ge (ad.add j).block w.heap.size with hl | hl
    · exact hl
    · simp [World.cell?, Array.getElem?_eq_none hl] at h1
  exact (h.cell (p := ad.add j) hl).trans h1
theorem Blk.cells2 {w : World} {g : Nat} {t : TypeId} {a b : Value} (h : Blk w g t #[a, b]) : w.cell? ⟨g, 0, none⟩ = some a ∧ w.cell? ⟨g, 1, none⟩ = some b ∧ g < w.heap.size := ⟨h.cell 0, h.cell 1, h.lt⟩
/-- a row of the call's own that holds the things, in a queue's block. -/
theorem RQ.ofRow {B base : Nat} {R R' : Nat → Prop} {w w' : World} {g : Nat} {most : Int} {L : List Td} {A : Option Addr} {c : Nat} {xs : List Value} (hb : Blk w' g 144 #[.slice A L.length c, .int .i64 most])
    (ho : w'.ownsRow base 38 2 (.slice A L.length c) L.length xs) (hc : TdCells B R w L xs) (hz : w.heap.size ≤ w'.heap.size) (hk : ∀ x, R x → x < w.heap.size → w'.heap[x]? = w.heap[x]?) (hR : ∀ x, R x → x < w.heap.size → R' x) (ha : ∀ x, (Value.slice A L.length c).ownBlock = some x → R' x) (hR' : ∀ x, R' x → x ≠ g ∧ x < w'.heap.size) :
    RQ B R' w' g most L := by
  have hlc : L.length ≤ c ∧ c ≤ maxLen := by
    rcases ho.2 with ⟨e, h0⟩ | ⟨g', cap, cur, e, _, _, hnc, hcm, _⟩
    · injection e with _ _ e; rw [e, h0]; exact ⟨Nat.le_refl _, Nat.zero_le _⟩
    · injection e with _ _ e; rw [e]; exact ⟨hnc, hcm⟩
  refine ⟨A, c, hb, hlc.1, hlc.2, fun hp => ?_, hR'⟩
  rcases ho.2 with ⟨e, h0⟩ | ⟨g', cap, cur, e, h3, h4, hnc, hcm, h5⟩
  · omega
  · injection e with e1 _ e3
    subst e1 e3
    refine ⟨g', 0, rfl, ha g' rfl, fun i t hi => ?_⟩
    obtain ⟨rv, fv, c0, c1, hd⟩ := hc.2 i t hi
    exact ⟨rv, fv, ownsRow_cell ho c0, ownsRow_cell ho c1, hd.keep hz hk hR⟩

set_option maxRecDepth 100000 in
set_option maxHeartbeats 4000000 in
theorem rcopy_any {B : Nat} {R : Nat → Prop} {w : World} {g : Nat} {most : Int} {L : List Td} (hL : L.length ≤ 1000000) (h : RQ B R w g most L) :
    Calls Try.prog 75 #[.pointer (some ⟨g, 0, none⟩)] w fun e w' => ∃ g', e = .returned (.pointer (some ⟨g', 0, none⟩)) ∧ w.heap.size ≤ g' ∧ Ext w w' ∧ RQ B (fun b => R b ∨ (w.heap.size ≤ b ∧ b ≠ g' ∧ b < w'.heap.size)) w' g' most L := by
  obtain ⟨i0, hi0, hz0, hz1, hz2⟩ := info_parts rtodo_info
  have HI := Lib.hid hi0
  have HZ0 := Lib.hid hz0
  have HZ1 := Lib.hid hz1
  have HZ2 := Lib.hid hz2
  obtain ⟨A, c, news, hb, hc, hm, hn, h1, hs, hR⟩ := h.src
  have HB := Lib.hid hb
  have HN := Lib.hid hn
  have H1 := Lib.hid h1
  have HS := Lib.hid hs
  have HRR := Lib.hid hR
  have q0 : w.cell? ⟨g, 0, none⟩ = some (.slice A L.length c) := hb.cell 0
  have q1 : w.cell? ⟨g, 1, none⟩ = some (.int .i64 most) := hb.cell 1
  have hg := hb.lt
  have hxd : ∀ X, Ext w ((w.drew).alloc X) := fun X => Ext.trans' (Below.drew (Below.refl _ w)) (Ext.alloc' _ X)
  have HXD := Lib.hid hxd
  clear hi0 hz0 hz1 hz2 h hb hn h1 hs hR hxd
  unfold maxLen at hm
  go_enter Try.func75, Try.ntmps75
  go_upto_region 1 with fail
  have hem : ((w.drew).alloc (.cells #[] 38)).ownsRow w.heap.size 38 2 (.slice (some ⟨w.heap.size, 0, none⟩) 0 0) 0 [] :=
    ⟨rfl, .inr ⟨w.heap.size, 0, #[], rfl, Nat.le_refl _, heap_alloc_new w.drew _, Nat.le_refl _, Nat.zero_le _, rfl, rfl⟩⟩
  have HEM := Lib.hid hem
  clear hem
  go_region_law
    ((refine stepAH rfl (.tmp 3) (.tmp 7) 33 rfl w.heap.size 38 i0 _ 2 48 Try.underlying33 HI.out HZ0.out HZ1.out HZ2.out rfl (by omega) (.slice (some ⟨w.heap.size, 0, none⟩) 0 0) 0 [] rfl HEM.out A L.length c news rfl HN.out.1 (srcT_up (HXD.out _) HS.out) H1.out (by simp only [maxLen]; omega) (by omega) (by simp) ?_
      intro v' w3 ho hg hat
      have ho' : w3.ownsRow w.heap.size 38 2 v' L.length news := by simpa using ho
      obtain ⟨A3, c3, rfl⟩ := ownsRow_form ho'
      have HO := Lib.hid ho'
      have hx3 := (HXD.out (.cells #[] 38)).grown hg (fun y hy => by simp [Value.ownBlock] at hy; omega)
      have HX3 := Lib.hid hx3
      obtain ⟨s0, s1, _⟩ := (HB.out.ext hx3).cells2
      have sl := (HB.out.ext hx3).lt
      clear ho ho' hg hat hx3))
  all_goals
    go_wp2_with fail
    go_ret
    have hX := HX3.out.trans' (Ext.alloc' w3 (.cells #[.slice A3 L.length c3, .int .i64 most] 144))
    have hz3 := HX3.out.size
    refine ⟨w3.heap.size, rfl, hz3, hX, RQ.ofRow (base := w.heap.size) (w := w) (R := R) (Blk.new w3 _ _) (ownsRow_ext HO.out fun x hx => Below.heap_alloc _ _ _ (ownsRow_lt HO.out hx).2) HN.out hX.size (fun x _ hl => hX.block x hl) (fun x hx _ => .inl hx) (fun x hx => .inr ?_) (fun x hx => ?_)⟩
    · have := ownsRow_lt HO.out hx
      exact ⟨this.1, by omega, by simp; omega⟩
    · rcases hx with hx | hx
      · have := (HRR.out x hx).2
        exact ⟨by omega, by simp; omega⟩
      · exact hx.2
end Go.Proofs.Ytocndkhgopjhhaa
/- The document's queue: Push. -/
namespace Go.Proofs.Ytocndkhgopjhhaa
open Go.RowKit

/-- What Push comes to. -/
def RPushed (B : Nat) (R S : Nat → Prop) (g : Nat) (most : Int) (t : Td) (L : List Td) (w w' : World) : Prop :=
  ∃ R' : Nat → Prop, RQ B R' w' g most (if refC t most L = 0 then refL t L else L) ∧ (∀ b, R' b → R b ∨ S b ∨ w.heap.size ≤ b) ∧ Turns (fun b => b = g) w w'
theorem RQ.low {B : Nat} {R : Nat → Prop} {w : World} {g : Nat} {most : Int} {L : List Td} (h : RQ B R w g most L) : ∀ b, R b → b ≠ g ∧ b < w.heap.size := by
  obtain ⟨A, c, _, _, _, _, h⟩ := h; exact h
theorem TdCells.keep {B : Nat} {S S' : Nat → Prop} {w w' : World} {l : List Td} {xs : List Value} (h : TdCells B S w l xs) (hz : w.heap.size ≤ w'.heap.size) (hS : ∀ b, S b → b < w.heap.size → w'.heap[b]? = w.heap[b]?) (hSS : ∀ b, S b → b < w.heap.size → S' b) : TdCells B S' w' l xs := by
  refine ⟨h.1, fun i t hi => ?_⟩
  obtain ⟨rv, fv, c0, c1, hd⟩ := h.2 i t hi
  exact ⟨rv, fv, c0, c1, hd.keep hz hS hSS⟩
theorem TdCells.take {B : Nat} {S : Nat → Prop} {w : World} {l : List Td} {xs : List Value} (h : TdCells B S w l xs) (n : Nat) : TdCells B S w (l.take n) (xs.take (n * 2)) := by
  refine ⟨by rw [List.length_take, List.length_take, h.1]; omega, fun i t hi => ?_⟩
  have hil := (List.getElem?_eq_some_iff.1 hi).1
  rw [List.length_take] at hil
  rw [List.getElem?_take_of_lt (by omega)] at hi
  obtain ⟨rv, fv, c0, c1, hd⟩ := h.2 i t hi
  exact ⟨rv, fv, by rw [List.getElem?_take_of_lt (by omega)]; exact c0, by rw [List.getElem?_take_of_lt (by omega)]; exact c1, hd⟩
theorem TdCells.drop {B : Nat} {S : Nat → Prop} {w : World} {l : List Td} {xs : List Value} (h : TdCells B S w l xs) (n : Nat) : TdCells B S w (l.drop n) (xs.drop (n * 2)) := by
  refine ⟨by rw [List.length_drop, List.length_drop, h.1]; omega, fun i t hi => ?_⟩
  rw [List.getElem?_drop] at hi
  obtain ⟨rv, fv, c0, c1, hd⟩ := h.2 (n + i) t hi
  refine ⟨rv, fv, ?_, ?_, hd⟩
  · rw [List.getElem?_drop, show n * 2 + i * 2 = (n + i) * 2 by omega]; exact c0
  · rw [List.getElem?_drop, show n * 2 + (i * 2 + 1) = (n + i) * 2 + 1 by omega]; exact c1
theorem TdCells.append {B : Nat} {S : Nat → Prop} {w : World} {l m : List Td} {xs ys : List Value} (h : TdCells B S w l xs) (k : TdCells B S w m ys) : TdCells B S w (l ++ m) (xs ++ ys) := by
  have hl := h.1
  refine ⟨by rw [List.length_append, List.length_append, h.1, k.1]; omega, fun i t hi => ?_⟩
  rcases Nat.lt_or_ge i l.length with hlt | hge
  · rw [List.getElem?_append_left hlt] at hi
    obtain ⟨rv, fv, c0, c1, hd⟩ := h.2 i t hi
    exact ⟨rv, fv, by rw [List.getElem?_append_left (by omega)]; exact c0, by rw [List.getElem?_append_left (by omega)]; exact c1, hd⟩
  · rw [List.getElem?_append_right hge] at hi
    obtain ⟨rv, fv, c0, c1, hd⟩ := k.2 _ t hi
    refine ⟨rv, fv, ?_, ?_, hd⟩
    · rw [List.getElem?_append_right (by omega), show i * 2 - xs.length = (i - l.length) * 2 by omega]; exact c0
    · rw [List.getElem?_append_right (by omega), show i * 2 + 1 - xs.length = (i - l.length) * 2 + 1 by omega]; exact c1
end Go.Proofs.Ytocndkhgopjhhaa
/- The document's queue: Push, walked. -/
namespace Go.Proofs.Ytocndkhgopjhhaa
open Go.RowKit

section
variable {B : Nat} {R S : Nat → Prop} {w w' : World} {g : Nat} {most : Int} {t : Td} {L : List Td}
theorem RPushed.no (h : RQ B R w g most L) (hc : refC t most L ≠ 0) (hx : Ext w w') : RPushed B R S g most t L w w' :=
  ⟨R, by rw [if_neg hc]; exact h.ext hx, fun _ h => .inl h, Turns.ofExt hx⟩
theorem src_take {A : Option Addr} {n m : Nat} {news : List Value} {W : World} (hs : 0 < n → ∃ ad, A = some ad ∧ ∀ j u, news[j]? = some u → W.cell? (ad.add j) = some u) (hm : m ≤ n) : 0 < m → ∃ ad, A = some ad ∧ ∀ j u, (news.take (m * 2))[j]? = some u → W.cell? (ad.add j) = some u := by
  intro hp
  obtain ⟨ad, e, hc⟩ := hs (by omega)
  refine ⟨ad, e, fun j u hj => hc j u ?_⟩
  have hjl := (List.getElem?_eq_some_iff.1 hj).1
  rw [List.length_take] at hjl
  rw [List.getElem?_take_of_lt (by omega)] at hj
  exact hj
theorem add_add (b o m j : Nat) : ((⟨b, o + m, none⟩ : Addr).add j) = (⟨b, o, none⟩ : Addr).add (m + j) := by
  unfold Addr.add
  by_cases h0 : j = 0
  · subst h0
    by_cases h1 : m = 0
    · subst h1; simp
    · rw [if_pos rfl, if_neg (by omega)]; simp
  · rw [if_neg h0, if_neg (by omega)]
    simp only [Addr.mk.injEq, and_true, true_and]; omega
theorem src_drop {b o n m : Nat} {news : List Value} {W : World} (hs : 0 < n → ∃ ad, (some ⟨b, o, none⟩ : Option Addr) = some ad ∧ ∀ j u, news[j]? = some u → W.cell? (ad.add j) = some u) (hm : m < n) : 0 < n - m → ∃ ad, (some ⟨b, o + m * 2, none⟩ : Option Addr) = some ad ∧ ∀ j u, (news.drop (m * 2))[j]? = some u → W.cell? (ad.add j) = some u := by
  intro hp
  obtain ⟨ad, e, hc⟩ := hs (by omega)
  injection e with e
  subst e
  refine ⟨_, rfl, fun j u hj => ?_⟩
  rw [List.getElem?_drop] at hj
  rw [add_add]
  exact hc _ u hj
theorem refC_no {x : Td} (hm : mayF t.facts = true) (hx : L[atR t.row L]? = some x) (hl : lessR t.row x.row = false) : refC t most L = 6 := by
  have : twiceR t.row L = true := by unfold twiceR; rw [hx]; simp [hl]
  unfold refC; rw [if_neg (by simp [hm]), if_pos this]
theorem refC_on (hm : mayF t.facts = true) (hx : ∀ x, L[atR t.row L]? = some x → lessR t.row x.row = true) : refC t most L = if most ≤ (L.length : Int) then 67 else 0 := by
  have : twiceR t.row L = false := by
    unfold twiceR
    cases h : L[atR t.row L]? with
    | none => rfl
    | some x => simp [hx x h]
  unfold refC; rw [if_neg (by simp [hm]), if_neg (by simp [this])]

theorem RQ.get {B : Nat} {R : Nat → Prop} {w : World} {g : Nat} {most : Int} {L : List Td} (h : RQ B R w g most L) {j : Nat} {t : Td} (hj : L[j]? = some t) :
    ∃ b o c rv fv A0 c0, w.cell? ⟨g, 0, none⟩ = some (.slice (some ⟨b, o, none⟩) L.length c) ∧ L.length ≤ c ∧ c ≤ maxLen ∧ R b ∧ b < w.heap.size ∧ rv = .slice A0 t.row.length c0 ∧ w.cell? ⟨b, o + j * 2, none⟩ = some rv ∧ w.cell? ⟨b, o + j * 2 + 1, none⟩ = some fv ∧ Ints B R w rv t.row ∧ Tdv B R w t (.agg #[rv, fv]) := by
  obtain ⟨A, c, hb, h1, h2, h3, h4⟩ := h
  have hjl := (List.getElem?_eq_some_iff.1 hj).1
  obtain ⟨b, o, rfl, hr, hc⟩ := h3 (by omega)
  obtain ⟨rv, fv, c0, c1, hd⟩ := hc j t hj
  have hd0 := hd
  obtain ⟨rv', fv', e, hi, _⟩ := hd
  injection e with e
  simp only [Array.mk.injEq, List.cons.injEq, and_true] at e
  obtain ⟨rfl, rfl⟩ := e
  have hi0 := hi
  obtain ⟨A0, c0', rfl, _⟩ := hi
  exact ⟨b, o, c, _, fv, A0, c0', hb.cell 0, h1, h2, hr, (h4 b hr).2, rfl, c0, c1, hi0, hd0⟩
theorem less_val {B1 B2 : Nat} {S1 S2 : Nat → Prop} {w : World} {v1 v2 : Value} {a b : List Int} {c : Bool} (hc : lessR a b = c) (h1 : Ints B1 S1 w v1 a) (h2 : Ints B2 S2 w v2 b) : Calls Try.prog 33 #[v1, v2] w fun e w' => e = .returned (.bool c) ∧ Ext w w' := by
  subst hc; exact less_any h1 h2
theorem cells2_at (w : World) (t : TypeId) (v0 v1 : Value) : ∀ j u, [v0, v1][j]? = some u → (w.alloc (.cells #[v0, v1] t)).cell? ((⟨w.heap.size, 0, none⟩ : Addr).add j) = some u := by
  intro j u hj
  match j, hj with
  | 0, hj => simp at hj; subst hj; simp [Addr.add]
  | 1, hj => simp at hj; subst hj; simp [Addr.add]
  | j + 2, hj => simp at hj
theorem push_em (W : World) : (W.alloc (.cells #[] 38)).ownsRow W.heap.size 38 2 (.slice (some ⟨W.heap.size, 0, none⟩) 0 0) 0 [] :=
  ⟨rfl, .inr ⟨W.heap.size, 0, #[], rfl, Nat.le_refl _, heap_alloc_new W _, Nat.le_refl _, Nat.zero_le _, rfl, rfl⟩⟩
theorem push_g {W wa wb : World} {e : TypeId} {size n : Nat} {v : Value} {xs : List Value} (hx : Ext W wa) (ho : wa.ownsRow W.heap.size e size v n xs) (hg : wa.grownBy wb v.ownBlock) : Ext W wb := Ext.grown hx hg fun _ h => (ownsRow_lt ho h).1
theorem push_lt {R : Nat → Prop} {news : List Value} {j : Nat} (h : TdCells B R w L news) (hj : j ≤ L.length) : (news.take (j * 2)).length = j * 2 := by rw [List.length_take, h.1]; omega
theorem push_ld {R : Nat → Prop} {news : List Value} {j : Nat} (h : TdCells B R w L news) : (news.drop (j * 2)).length = (L.length - j) * 2 := by rw [List.length_drop, h.1]; omega
theorem TdCells.one {R : Nat → Prop} {rv fv : Value} (h : Tdv B R w t (.agg #[rv, fv])) : TdCells B R w [t] [rv, fv] := by
  refine ⟨rfl, fun i t' hi => ?_⟩
  match i, hi with
  | 0, hi => simp at hi; subst hi; exact ⟨rv, fv, rfl, rfl, h⟩
  | i + 1, hi => simp at hi
theorem RPushed.yes {rv fv A7 : _} {c7 n7 : Nat} {news : List Value} {W3 w7 : World} {A : Option Addr} {c : Nat} (hb : Blk w g 144 #[.slice A L.length c, .int .i64 most]) (hRl : ∀ b, R b → b ≠ g ∧ b < w.heap.size) (hSl : ∀ b, S b → b ≠ g ∧ b < w.heap.size) (ht : Tdv B S w t (.agg #[rv, fv])) (hN : TdCells B R w L news) (hc : refC t most L = 0) {j : Nat} (hje : j = atR t.row L)
    (hx3 : Ext w W3) (x7 : Ext W3 w7) (ho7 : w7.ownsRow W3.heap.size 38 2 (.slice A7 n7 c7) n7 (news.take (j * 2) ++ [rv, fv] ++ news.drop (j * 2))) (hn7 : n7 = L.length + 1) : RPushed B R S g most t L w (w7.setCell ⟨g, 0, none⟩ (.slice A7 n7 c7)) := by
  subst hje
  have hlen : n7 = (refL t L).length := by rw [hn7, ← (refL_perm (t := t) (List.Perm.refl L)).length_eq, List.length_cons]
  clear hn7
  subst hlen
  have hz3 := hx3.size
  have hz7 := x7.size
  have hgl := hb.lt
  have hx7 := hx3.trans' x7
  have htn : Turns (fun b => b = g) w (w7.setCell ⟨g, 0, none⟩ (.slice A7 (refL t L).length c7)) := Turns.trans (Turns.ofExt hx7) (Turns.ofSet w7 ⟨g, 0, none⟩ _) fun _ h _ => h
  have hsz : (w7.setCell ⟨g, 0, none⟩ (.slice A7 (refL t L).length c7)).heap.size = w7.heap.size := by simp [World.setCell]
  have hne : ∀ b, R b ∨ S b → b ≠ g ∧ b < w.heap.size := fun b hb => hb.elim (hRl b) (hSl b)
  have hcells : TdCells B (fun b => R b ∨ S b) w (refL t L) (news.take (atR t.row L * 2) ++ [rv, fv] ++ news.drop (atR t.row L * 2)) := by
    have h1 := hN.keep (S' := fun b => R b ∨ S b) (Nat.le_refl _) (fun _ _ _ => rfl) fun _ h _ => .inl h
    have h2 := (TdCells.one ht).keep (S' := fun b => R b ∨ S b) (Nat.le_refl _) (fun _ _ _ => rfl) fun _ h _ => .inr h
    have h3 := ((h1.take (atR t.row L)).append h2).append (h1.drop (atR t.row L))
    have e : L.take (atR t.row L) ++ [t] ++ L.drop (atR t.row L) = refL t L := by simp [refL]
    rw [← e]; exact h3
  refine ⟨fun b => (R b ∨ S b) ∨ (W3.heap.size ≤ b ∧ b < w7.heap.size), ?_, fun b hb => ?_, htn⟩
  · rw [if_pos hc]
    refine RQ.ofRow (base := W3.heap.size) (w := w) (R := fun b => R b ∨ S b) ((hb.ext hx7).set_ 0 _) (ownsRow_ext ho7 fun x hx => Below.heap_setCell w7 ⟨g, 0, none⟩ _ x fun e => ?_) hcells htn.size (fun x hx hl => htn.block x hl (hne x hx).1) (fun x hx _ => .inl hx) (fun x hx => .inr ?_) (fun x hx => ?_)
    · have := (ownsRow_lt ho7 hx).1; simp at e; omega
    · exact ownsRow_lt ho7 hx
    · rcases hx with hx | hx
      · have := hne x hx; exact ⟨this.1, by omega⟩
      · exact ⟨by omega, by omega⟩
  · rcases hb with (hb | hb) | hb
    · exact .inl hb
    · exact .inr (.inl hb)
    · exact .inr (.inr (by omega))

set_option maxRecDepth 100000 in
set_option maxHeartbeats 4000000 in
theorem rpush_any (hBB : B ≤ 1000000) (hL : L.length ≤ 1000) (h : RQ B R w g most L) (hSl : ∀ b, S b → b ≠ g ∧ b < w.heap.size) {tv : Value} (ht : Tdv B S w t tv) :
    Calls Try.prog 121 #[.pointer (some ⟨g, 0, none⟩), tv] w fun e w' => e = .returned (.int .i64 (refC t most L)) ∧ RPushed B R S g most t L w w' := by
  obtain ⟨i0, hi0, hz0, hz1, hz2⟩ := info_parts rtodo_info
  have HI := Lib.hid hi0
  have HZ0 := Lib.hid hz0
  have HZ1 := Lib.hid hz1
  have HZ2 := Lib.hid hz2
  have HT := Lib.hid ht
  have HSL := Lib.hid hSl
  obtain ⟨rv, fv, rfl, hr, hf⟩ := ht
  have HR := Lib.hid hr
  have HF := Lib.hid hf
  obtain ⟨Ar, cr, rfl, _⟩ := hr
  obtain ⟨Af, cf, rfl, _⟩ := hf
  have HQ := Lib.hid h
  obtain ⟨A, c, news, hb, hc, hm, hn, h1, hs, hRR⟩ := h.src
  have HB := Lib.hid hb
  have HN := Lib.hid hn
  have H1 := Lib.hid h1
  have HS := Lib.hid hs
  have hgl := hb.lt
  have hAL := atR_le t.row L
  obtain ⟨W1, hW⟩ : ∃ W1, W1 = w.alloc (.cells #[.slice Ar t.row.length cr, .slice Af t.facts.length cf] 38) := ⟨_, rfl⟩
  have hX1 : Ext w W1 := by rw [hW]; exact Ext.alloc' _ _
  have hB1 : Blk W1 w.heap.size 38 #[.slice Ar t.row.length cr, .slice Af t.facts.length cf] := by rw [hW]; exact Blk.new _ _ _
  have HX1 := Lib.hid hX1
  have HB1 := Lib.hid hB1
  obtain ⟨k0, k1, kz⟩ := hB1.cells2
  unfold maxLen at hm
  clear hi0 hz0 hz1 hz2 hSl h hb hn h1 hs hRR hX1 hB1
  cases hmay : mayF t.facts
  · have HM := Lib.hid hmay
    have HC : Hid (refC t most L = 4) := Lib.hid (by unfold refC; rw [if_pos hmay])
    clear hmay
    go_enter Try.func121, Try.ntmps121
    go_upto_region 1 with fail
    rw [← hW]
    clear hW
    go_wp2_with (go_at_call 146; refine (may20_any hBB (HF.out.ext HX1.out)).mono ?_; rw [HM.out]; rintro e w1 ⟨rfl, x1⟩; have X1 := Lib.hid x1; clear x1)
    go_ret
    exact ⟨ret_int HC.out.symm, RPushed.no HQ.out (by rw [HC.out]; decide) (HX1.out.trans' X1.out)⟩
  have HM := Lib.hid hmay
  clear hmay
  go_enter Try.func121, Try.ntmps121
  go_upto_region 1 with fail
  rw [← hW]
  clear hW
  go_wp2_with (go_at_call 146; refine (may20_any hBB (HF.out.ext HX1.out)).mono ?_; rw [HM.out]; rintro e w2 ⟨rfl, x2⟩; have X2 := Lib.hid x2; clear x2)
  go_loopw [5] (fun i wr => ∃ j : Nat, j ≤ atR t.row L ∧ i = .int .i64 j ∧ Ext W1 wr) (fun i _ => atR t.row L - (intOf i).toNat)
  case atStart => exact ⟨0, Nat.zero_le _, rfl, X2.out⟩
  case round =>
    obtain ⟨j, hj, rfl, hxr⟩ := hrel
    have HX := Lib.hid hxr
    have HXW := Lib.hid (HX1.out.trans' hxr)
    have k0 := (hxr.cell (p := ⟨w.heap.size, 0, none⟩) kz).trans k0
    have k1 := (hxr.cell (p := ⟨w.heap.size, 1, none⟩) kz).trans k1
    have kz := Nat.lt_of_lt_of_le kz hxr.size
    obtain ⟨q0, q1, qz⟩ := (HB.out.ext HXW.out).cells2
    have hu := (up_rules wr).1
    clear hxr
    by_cases hlt : j < L.length
    · obtain ⟨x, hx⟩ : ∃ x, L[j]? = some x := ⟨_, List.getElem?_eq_getElem hlt⟩
      obtain ⟨b, o, c', rv, fv', A0, c0, p0, _, _, hRb, hbl, rfl, p2, p3, hi, _⟩ := (HQ.out.ext HXW.out).get hx
      rw [q0] at p0
      injection p0 with p0
      injection p0 with e1 _ e3
      subst e1 e3
      have HIX := Lib.hid hi
      have HRW := Lib.hid (HR.out.ext HXW.out)
      have hgo := atR_go hj hx
      have HGO := Lib.hid hgo
      have HXX := Lib.hid hx
      have hij : (j : Int) < (L.length : Int) := by omega
      have hj0 : (0 : Int) ≤ (j : Int) := by omega
      clear hi hgo hx
      cases hle : lessR x.row t.row
      case true =>
        have HLE := Lib.hid hle
        have hjn : j < atR t.row L := HGO.out.1 hle
        clear hle
        go_wp2_with fail
        refine wp_region_up0 (by kernel_rfl) (by kernel_rfl) ?_
        repeat (go_big_quiet_step ((go_at_call 33; exact Calls.up (less_val HLE.out (HIX.out.up _) (HRW.out.up _)))))
        refine wpQuiet_nil ?_
        rintro _ ⟨u3, rfl⟩
        go_wp2_with fail
        go_roundw
        case rel => exact ⟨j + 1, by omega, by go_num, HX.out.trans' u3.ext⟩
        case measure => simp [intOf]; omega
      case false =>
        have HLE := Lib.hid hle
        have hje : j = atR t.row L := by
          rcases Nat.lt_or_ge j (atR t.row L) with hl | hl
          · have := HGO.out.2 hl; rw [hle] at this; cases this
          · omega
        have HJE := Lib.hid hje
        clear hle hje
        go_wp2_with fail
        refine wp_region_up0 (by kernel_rfl) (by kernel_rfl) ?_
        repeat (go_big_quiet_step ((go_at_call 33; exact Calls.up (less_val HLE.out (HIX.out.up _) (HRW.out.up _)))))
        refine wpQuiet_nil ?_
        rintro _ ⟨u3, rfl⟩
        cases hl2 : lessR t.row x.row
        case false =>
          have HL2 := Lib.hid hl2
          have HC : Hid (refC t most L = 6) := Lib.hid (refC_no HM.out (by rw [← HJE.out]; exact HXX.out) hl2)
          clear hl2
          go_wp2_with fail
          refine wp_region_up (by kernel_rfl) (by kernel_rfl) ?_
          repeat (go_big_quiet_step ((go_at_call 33; exact Calls.up (less_val HL2.out (HRW.out.up _) (HIX.out.up _)))))
          refine wpQuiet_nil ?_
          rintro _ ⟨u4, rfl⟩
          go_wp2_with fail
          go_ret
          exact ⟨ret_int HC.out.symm, RPushed.no HQ.out (by rw [HC.out]; decide) (HXW.out.trans' u4.ext)⟩
        case true =>
          have HL2 := Lib.hid hl2
          have HC : Hid (refC t most L = if most ≤ (L.length : Int) then 67 else 0) := Lib.hid (refC_on HM.out fun y hy => by rw [← HJE.out, HXX.out] at hy; injection hy with hy; subst hy; exact hl2)
          clear hl2
          go_wp2_with fail
          refine wp_region_up (by kernel_rfl) (by kernel_rfl) ?_
          repeat (go_big_quiet_step ((go_at_call 33; exact Calls.up (less_val HL2.out (HRW.out.up _) (HIX.out.up _)))))
          refine wpQuiet_nil ?_
          rintro _ ⟨u4, rfl⟩
          have hjl : j ≤ L.length := by omega
          by_cases hmo : most ≤ (L.length : Int)
          · have HC : Hid (refC t most L = 67) := Lib.hid (by rw [HC.out, if_pos hmo])
            go_wp2_with fail
            refine wp_region_up (by kernel_rfl) (by kernel_rfl) ?_
            repeat (go_big_quiet_step (fail))
            refine wpQuiet_nil ?_
            rintro _ ⟨u5, rfl⟩
            go_wp2_with fail
            go_ret
            exact ⟨ret_int HC.out.symm, RPushed.no HQ.out (by rw [HC.out]; decide) (HXW.out.trans' u5.ext)⟩
          · have HC : Hid (refC t most L = 0) := Lib.hid (by rw [HC.out, if_neg hmo])
            go_wp2_with fail
            refine wp_region_up (by kernel_rfl) (by kernel_rfl) ?_
            repeat (go_big_quiet_step (fail))
            refine wpQuiet_nil ?_
            rintro _ ⟨u5, rfl⟩
            obtain ⟨W3, hW3⟩ : ∃ W3, W3 = u5.val := ⟨_, rfl⟩
            have hX13 : Ext W1 W3 := by rw [hW3]; exact HX.out.trans' u5.ext
            have HX13 := Lib.hid hX13
            have HX3 := Lib.hid (HX1.out.trans' hX13)
            rw [← hW3]
            clear hW3 hu k0 k1 q0 q1 kz qz hX13
            obtain ⟨k0, k1, kz⟩ := (HB1.out.ext HX13.out).cells2
            obtain ⟨q0, q1, qz⟩ := (HB.out.ext HX3.out).cells2
            have he4 := Ext.alloc' W3 (.cells #[] 38)
            have HEM := Lib.hid (push_em W3)
            have HE4 := Lib.hid he4
            have q0' := (he4.cell (p := ⟨g, 0, none⟩) qz).trans q0
            clear he4
            go_wp2_with (first
              | (at_builtin; refine wpList_app _ rfl (.tmp 64) (.tmp 70) _ rfl W3.heap.size 38 i0 _ 2 48 Try.underlying33 HI.out HZ0.out HZ1.out HZ2.out rfl (by omega) (.slice (some ⟨W3.heap.size, 0, none⟩) 0 0) 0 [] rfl HEM.out _ j _ (news.take (j * 2)) rfl (push_lt HN.out hjl) (src_take (srcT_up (HX3.out.trans' HE4.out) HS.out) hjl) (fun u hu => H1.out u (List.mem_of_mem_take hu)) (by simp only [maxLen]; omega) (by omega) HE4.out.size ?_; intro v5 w5 ho5' hg5 hat5; have ho5 : w5.ownsRow W3.heap.size 38 2 v5 j (news.take (j * 2)) := (by simpa using ho5'); obtain ⟨A5, c5, rfl⟩ := ownsRow_form ho5; have X5 := Lib.hid (push_g HE4.out HEM.out hg5); have HO5 : Hid (∀ X, (w5.alloc X).ownsRow W3.heap.size 38 2 (.slice A5 j c5) j (news.take (j * 2))) := Lib.hid (fun X => ownsRow_ext ho5 fun b hb => Below.heap_alloc _ _ _ (ownsRow_lt ho5 hb).2); clear ho5 ho5' hg5 hat5; obtain ⟨k0, k1, kz⟩ := ((HB1.out.ext HX13.out).ext X5.out).cells2)
              | (at_builtin; refine wpList_app _ rfl (.tmp 72) (.tmp 74) _ rfl W3.heap.size 38 i0 _ 2 48 Try.underlying33 HI.out HZ0.out HZ1.out HZ2.out rfl (by omega) (.slice A5 j c5) j (news.take (j * 2)) rfl (HO5.out _) (some ⟨w5.heap.size, 0, none⟩) 1 1 [_, _] rfl rfl (fun _ => ⟨_, rfl, cells2_at _ _ _ _⟩) (by simp [Value.oneCell']) (by simp only [maxLen]; omega) (by omega) (by have := X5.out.size; simp; omega) ?_; intro v6 w6 ho6 hg6 hat6; obtain ⟨A6, c6, rfl⟩ := ownsRow_form ho6; have X6 := Lib.hid (push_g (X5.out.trans' (Ext.alloc' _ _)) (HO5.out _) hg6); have HO6 := Lib.hid ho6; clear ho6 hg6 hat6; obtain ⟨q0, q1, qz⟩ := ((HB.out.ext HX3.out).ext X6.out).cells2; have qf := ((HB.out.ext HX3.out).ext X6.out).frozen 0)
              | (at_builtin; refine wpList_app _ rfl (.tmp 77) (.tmp 83) _ rfl W3.heap.size 38 i0 _ 2 48 Try.underlying33 HI.out HZ0.out HZ1.out HZ2.out rfl (by omega) (.slice A6 (j + 1) c6) (j + 1) _ rfl HO6.out _ (L.length - j) _ (news.drop (j * 2)) rfl (push_ld HN.out) (src_drop (srcT_up (HX3.out.trans' X6.out) HS.out) hlt) (fun u hu => H1.out u (List.mem_of_mem_drop hu)) (by simp only [maxLen]; omega) (by omega) (by have := X6.out.size; omega) ?_; intro v7 w7 ho7 hg7 hat7; obtain ⟨A7, c7, rfl⟩ := ownsRow_form ho7; have X7 := Lib.hid (push_g X6.out HO6.out hg7); have HO7 := Lib.hid ho7; clear ho7 hg7 hat7; obtain ⟨_, _, qz⟩ := ((HB.out.ext HX3.out).ext X7.out).cells2; have qf := ((HB.out.ext HX3.out).ext X7.out).frozen 0; have q0 := ((HB.out.ext HX3.out).ext X7.out).cell 0))
            all_goals
              go_ret
              exact ⟨ret_int HC.out.symm, RPushed.yes (j := j) HB.out HQ.out.low HSL.out HT.out HN.out HC.out (by first | exact HJE.out | (have := HJA.out; omega)) HX3.out X7.out HO7.out (by omega)⟩
    · have hij : ¬ (j : Int) < (L.length : Int) := by omega
      have hja : atR t.row L = L.length := by
        rcases Nat.lt_or_ge (atR t.row L) L.length with hl | hl
        · omega
        · omega
      have hjl0 : L.length ≤ j := by omega
      have HJA := Lib.hid hja
      have HC : Hid (refC t most L = if most ≤ (L.length : Int) then 67 else 0) := Lib.hid (refC_on HM.out fun y hy => by rw [hja, List.getElem?_eq_none (Nat.le_refl _)] at hy; cases hy)
      clear hja
      go_wp2_with fail
      refine wp_region_up0 (by kernel_rfl) (by kernel_rfl) ?_
      repeat (go_big_quiet_step (fail))
      refine wpQuiet_nil ?_
      rintro _ ⟨u3, rfl⟩
      go_wp2_with fail
      refine wp_region_up (by kernel_rfl) (by kernel_rfl) ?_
      repeat (go_big_quiet_step (fail))
      refine wpQuiet_nil ?_
      rintro _ ⟨u4, rfl⟩
      have hjl : j ≤ L.length := by omega
      by_cases hmo : most ≤ (L.length : Int)
      · have HC : Hid (refC t most L = 67) := Lib.hid (by rw [HC.out, if_pos hmo])
        go_wp2_with fail
        refine wp_region_up (by kernel_rfl) (by kernel_rfl) ?_
        repeat (go_big_quiet_step (fail))
        refine wpQuiet_nil ?_
        rintro _ ⟨u5, rfl⟩
        go_wp2_with fail
        go_ret
        exact ⟨ret_int HC.out.symm, RPushed.no HQ.out (by rw [HC.out]; decide) (HXW.out.trans' u5.ext)⟩
      · have HC : Hid (refC t most L = 0) := Lib.hid (by rw [HC.out, if_neg hmo])
        go_wp2_with fail
        refine wp_region_up (by kernel_rfl) (by kernel_rfl) ?_
        repeat (go_big_quiet_step (fail))
        refine wpQuiet_nil ?_
        rintro _ ⟨u5, rfl⟩
        obtain ⟨W3, hW3⟩ : ∃ W3, W3 = u5.val := ⟨_, rfl⟩
        have hX13 : Ext W1 W3 := by rw [hW3]; exact HX.out.trans' u5.ext
        have HX13 := Lib.hid hX13
        have HX3 := Lib.hid (HX1.out.trans' hX13)
        rw [← hW3]
        clear hW3 hu k0 k1 q0 q1 kz qz hX13
        obtain ⟨k0, k1, kz⟩ := (HB1.out.ext HX13.out).cells2
        obtain ⟨q0, q1, qz⟩ := (HB.out.ext HX3.out).cells2
        have he4 := Ext.alloc' W3 (.cells #[] 38)
        have HEM := Lib.hid (push_em W3)
        have HE4 := Lib.hid he4
        have q0' := (he4.cell (p := ⟨g, 0, none⟩) qz).trans q0
        clear he4
        cases A
        all_goals go_wp2_with (first
          | (at_builtin; refine wpList_app _ rfl (.tmp 64) (.tmp 70) _ rfl W3.heap.size 38 i0 _ 2 48 Try.underlying33 HI.out HZ0.out HZ1.out HZ2.out rfl (by omega) (.slice (some ⟨W3.heap.size, 0, none⟩) 0 0) 0 [] rfl HEM.out _ j _ (news.take (j * 2)) rfl (push_lt HN.out hjl) (src_take (srcT_up (HX3.out.trans' HE4.out) HS.out) hjl) (fun u hu => H1.out u (List.mem_of_mem_take hu)) (by simp only [maxLen]; omega) (by omega) HE4.out.size ?_; intro v5 w5 ho5' hg5 hat5; have ho5 : w5.ownsRow W3.heap.size 38 2 v5 j (news.take (j * 2)) := (by simpa using ho5'); obtain ⟨A5, c5, rfl⟩ := ownsRow_form ho5; have X5 := Lib.hid (push_g HE4.out HEM.out hg5); have HO5 : Hid (∀ X, (w5.alloc X).ownsRow W3.heap.size 38 2 (.slice A5 j c5) j (news.take (j * 2))) := Lib.hid (fun X => ownsRow_ext ho5 fun b hb => Below.heap_alloc _ _ _ (ownsRow_lt ho5 hb).2); clear ho5 ho5' hg5 hat5; obtain ⟨k0, k1, kz⟩ := ((HB1.out.ext HX13.out).ext X5.out).cells2)
          | (at_builtin; refine wpList_app _ rfl (.tmp 72) (.tmp 74) _ rfl W3.heap.size 38 i0 _ 2 48 Try.underlying33 HI.out HZ0.out HZ1.out HZ2.out rfl (by omega) (.slice A5 j c5) j (news.take (j * 2)) rfl (HO5.out _) (some ⟨w5.heap.size, 0, none⟩) 1 1 [_, _] rfl rfl (fun _ => ⟨_, rfl, cells2_at _ _ _ _⟩) (by simp [Value.oneCell']) (by simp only [maxLen]; omega) (by omega) (by have := X5.out.size; simp; omega) ?_; intro v6 w6 ho6 hg6 hat6; obtain ⟨A6, c6, rfl⟩ := ownsRow_form ho6; have X6 := Lib.hid (push_g (X5.out.trans' (Ext.alloc' _ _)) (HO5.out _) hg6); have HO6 := Lib.hid ho6; clear ho6 hg6 hat6; obtain ⟨q0, q1, qz⟩ := ((HB.out.ext HX3.out).ext X6.out).cells2; have qf := ((HB.out.ext HX3.out).ext X6.out).frozen 0)
          | (at_builtin; refine wpList_app _ rfl (.tmp 77) (.tmp 83) _ rfl W3.heap.size 38 i0 _ 2 48 Try.underlying33 HI.out HZ0.out HZ1.out HZ2.out rfl (by omega) (.slice A6 (j + 1) c6) (j + 1) _ rfl HO6.out _ 0 _ [] rfl rfl (fun h => absurd h (Nat.lt_irrefl _)) (by simp) (by simp only [maxLen]; omega) (by omega) (by have := X6.out.size; omega) ?_; intro v7 w7 ho7 hg7 hat7; obtain ⟨A7, c7, rfl⟩ := ownsRow_form ho7; have X7 := Lib.hid (push_g X6.out HO6.out hg7); have HO7 := Lib.hid ho7; clear ho7 hg7 hat7; obtain ⟨_, _, qz⟩ := ((HB.out.ext HX3.out).ext X7.out).cells2; have qf := ((HB.out.ext HX3.out).ext X7.out).frozen 0; have q0 := ((HB.out.ext HX3.out).ext X7.out).cell 0))
        all_goals
          go_ret
          exact ⟨ret_int HC.out.symm, RPushed.yes (j := j) HB.out HQ.out.low HSL.out HT.out HN.out HC.out (by first | exact HJE.out | (have := HJA.out; omega)) HX3.out X7.out (by rw [List.drop_eq_nil_of_le (by rw [HN.out.1]; omega)]; exact HO7.out) (by omega)⟩
end
end Go.Proofs.Ytocndkhgopjhhaa
