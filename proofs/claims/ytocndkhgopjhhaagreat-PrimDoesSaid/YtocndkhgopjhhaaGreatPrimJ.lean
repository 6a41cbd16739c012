/- touchstonelaw10.Op in memory, alone and in slices; (Op).do on a tree. -/
import Derived.Test.YtocndkhgopjhhaaGreatProg
import Derived.Test.YtocndkhgopjhhaaGreatPrimI
import Derived.Test.YtocndkhgopjhhaaGreatStep
import Derived.Outline
namespace Go.Proofs.YtocndkhgopjhhaaGreat
open Go.ChangeShapes Go.WideShapes Go.ChangeAt Go.RowKit

variable {X : Nat → Prop}

/-- five cells that read as a step -/
def POpV (B : Nat) (S : Nat → Prop) (w : World) (o : POp) (cs : List Value) : Prop :=
  ∃ av bv, cs = [.int .u8 o.kind, av, bv, .string o.text, .bool o.deep] ∧ o.text.size ≤ maxLen ∧ Strs B S w av o.a ∧ Strs B S w bv o.b
theorem POpV.ext {B : Nat} {S : Nat → Prop} {w w' : World} {o : POp} {cs : List Value} (h : POpV B S w o cs) (hx : Ext w w') : POpV B S w' o cs := by
  obtain ⟨av, bv, e, k1, h1, h2⟩ := h
  exact ⟨av, bv, e, k1, h1.ext hx, h2.ext hx⟩
/-- 'The slice value v reads as the steps l'. -/
def POps (B : Nat) (S : Nat → Prop) (w : World) (v : Value) (l : List POp) : Prop :=
  ∃ A c, v = .slice A l.length c ∧ l.length ≤ c ∧ c ≤ maxLen ∧ (0 < l.length → ∃ b o, A = some ⟨b, o, none⟩ ∧ S b ∧ b < w.heap.size ∧ ∀ i s, l[i]? = some s →
    ∃ cs, POpV B S w s cs ∧ ∀ k, k < 5 → w.cell? ⟨b, o + i * 5 + k, none⟩ = cs[k]?)
theorem POps.ext {B : Nat} {S : Nat → Prop} {w w' : World} {v : Value} {l : List POp} (h : POps B S w v l) (hx : Ext w w') : POps B S w' v l := by
  obtain ⟨A, c, e, h1, h2, h3⟩ := h
  refine ⟨A, c, e, h1, h2, fun hp => ?_⟩
  obtain ⟨b, o, e, hS, hb, hc⟩ := h3 hp
  have hz := hx.size
  refine ⟨b, o, e, hS, by omega, fun i s hi => ?_⟩
  obtain ⟨cs, hs, hk⟩ := hc i s hi
  exact ⟨cs, hs.ext hx, fun k hk' => (hx.cell (p := ⟨b, o + i * 5 + k, none⟩) hb).trans (hk k hk')⟩
theorem POps.at' {B : Nat} {S : Nat → Prop} {w : World} {v : Value} {l : List POp} (h : POps B S w v l) {i : Nat} {s : POp} (hi : l[i]? = some s) :
    ∃ b o c av bv, v = .slice (some ⟨b, o, none⟩) l.length c ∧ S b ∧ b < w.heap.size ∧ l.length ≤ c ∧ c ≤ maxLen ∧ w.cell? ⟨b, o + i * 5, none⟩ = some (.int .u8 s.kind) ∧ w.cell? ⟨b, o + i * 5 + 1, none⟩ = some av ∧ w.cell? ⟨b, o + i * 5 + 2, none⟩ = some bv ∧
      w.cell? ⟨b, o + i * 5 + 3, none⟩ = some (.string s.text) ∧ w.cell? ⟨b, o + i * 5 + 4, none⟩ = some (.bool s.deep) ∧ s.text.size ≤ maxLen ∧ Strs B S w av s.a ∧ Strs B S w bv s.b := by
  obtain ⟨A, c, e, h1, h2, h3⟩ := h
  have hil := (List.getElem?_eq_some_iff.1 hi).1
  obtain ⟨b, o, rfl, hS, hb, hc⟩ := h3 (by omega)
  obtain ⟨cs, ⟨av, bv, rfl, k1, g1, g2⟩, hk⟩ := hc i s hi
  exact ⟨b, o, c, av, bv, e, hS, hb, h1, h2, hk 0 (by omega), hk 1 (by omega), hk 2 (by omega), hk 3 (by omega), hk 4 (by omega), k1, g1, g2⟩

theorem cellsPOp : Tryz.prog.cellsOf 36 = 5 := by kernel_rfl
theorem bytesPOp : Tryz.prog.bytesOf 36 = 80 := by kernel_rfl

section
variable {H : Type} {enc : TypeId × Value → H} {w : World}
set_option maxRecDepth 20000 in
theorem pop_of_trod {n : Nat} {cs : List Value} {x : DataW H × List MemPlace} (h : DataW.trod enc Tryz.prog w 0 (fun _ => true) true n 36 cs = some x) (hw : ∀ m ∈ x.1.weights Tryz.prog 36, m ≤ reachBytes) :
    ∃ o, POpV (4 * 2199023255552) (fun b => b < w.heap.size) w o cs := by
  obtain ⟨xs, m, rfl, rfl, hl, hxl, hf⟩ := DataW.trod_struct Tryz.underlying36 h
  rw [cellsPOp] at hl
  obtain ⟨v0, v1, v2, v3, v4, rfl⟩ : ∃ v0 v1 v2 v3 v4, cs = [v0, v1, v2, v3, v4] := by
    match cs, hl with
    | [a, b, c, d, e], _ => exact ⟨_, _, _, _, _, rfl⟩
  obtain ⟨x0, x1, x2, x3, x4, rfl⟩ : ∃ x0 x1 x2 x3 x4, xs = [x0, x1, x2, x3, x4] := by
    match xs, hxl with
    | [a, b, c, d, e], _ => exact ⟨_, _, _, _, _, rfl⟩
  have f0 := hf 0 _ rfl
  have f1 := hf 1 _ rfl
  have f2 := hf 2 _ rfl
  have f3 := hf 3 _ rfl
  have f4 := hf 4 _ rfl
  change DataW.trod enc Tryz.prog w 0 (fun _ => true) true m 5 [v0] = some x0 at f0
  change DataW.trod enc Tryz.prog w 0 (fun _ => true) true m 22 [v1] = some x1 at f1
  change DataW.trod enc Tryz.prog w 0 (fun _ => true) true m 22 [v2] = some x2 at f2
  change DataW.trod enc Tryz.prog w 0 (fun _ => true) true m 9 [v3] = some x3 at f3
  change DataW.trod enc Tryz.prog w 0 (fun _ => true) true m 4 [v4] = some x4 at f4
  have hws : ∀ k, k ∈ x1.1.weights Tryz.prog 22 ∨ k ∈ x2.1.weights Tryz.prog 22 ∨ k ∈ x3.1.weights Tryz.prog 9 → k ≤ reachBytes := by
    intro k hk
    refine hw k ?_
    simp only [DataW.weights, Tryz.underlying36, List.map_cons, List.map_nil, DataW.weightsEach, List.mem_append]
    rcases hk with hk | hk | hk
    · exact .inr (.inl hk)
    · exact .inr (.inr (.inl hk))
    · exact .inr (.inr (.inr (.inl hk)))
  obtain ⟨k, e0, _, w0⟩ := DataW.trod_int Tryz.underlying5 f0
  obtain ⟨a, av, e1, ha⟩ := strs_of_trod (B := 2199023255552) rfl f1 (fun k hk => hws k (.inl hk))
  obtain ⟨b, bv, e2, hb⟩ := strs_of_trod (B := 2199023255552) rfl f2 (fun k hk => hws k (.inr (.inl hk)))
  obtain ⟨s, e3, hs⟩ : ∃ s : ByteArray, [v3] = [.string s] ∧ s.size ≤ maxLen := by
    obtain ⟨s, hs, _, hl⟩ := DataW.trod_string Tryz.underlying9 f3
    exact ⟨s, hs, hl⟩
  obtain ⟨q, e4⟩ : ∃ q : Bool, [v4] = [.bool q] := by
    obtain ⟨q, hq, _⟩ := DataW.trod_bool Tryz.underlying4 f4
    exact ⟨q, hq⟩
  simp only [List.cons.injEq, and_true] at e0 e1 e2 e3 e4
  subst e0 e1 e2 e3 e4
  exact ⟨⟨k, a, b, s, q⟩, _, _, rfl, hs, ha, hb⟩

theorem pops_of_trod {n : Nat} {cs : List Value} {x : DataW H × List MemPlace} (h : DataW.trod enc Tryz.prog w 0 (fun _ => true) true n 26 cs = some x) (hw : ∀ m ∈ x.1.weights Tryz.prog 26, m ≤ reachBytes) :
    ∃ l v, cs = [v] ∧ POps (4 * 2199023255552) (fun b => b < w.heap.size) w v l := by
  obtain ⟨l, A, c, rfl, h1, h2, h3, h4⟩ := slice_open Tryz.underlying26 cellsPOp bytesPOp (by omega) h hw (Q := fun (s : POp) cs => POpV (4 * 2199023255552) (fun b => b < w.heap.size) w s cs) (fun n cs x h hw => pop_of_trod h hw)
  refine ⟨l, _, rfl, A, c, rfl, h1, h2, fun hp => ?_⟩
  obtain ⟨b, o, e, hl, hc⟩ := h4 hp
  refine ⟨b, o, e, hl, hl, fun i s hi => ?_⟩
  obtain ⟨cs, _, hs, hk⟩ := hc i s hi
  exact ⟨cs, hs, hk⟩
end

theorem Blk.cells5 {w : World} {g : Nat} {t : TypeId} {a b c d e : Value} (hb : Blk w g t #[a, b, c, d, e]) :
    w.cell? ⟨g, 0, none⟩ = some a ∧ w.cell? ⟨g, 1, none⟩ = some b ∧ w.cell? ⟨g, 2, none⟩ = some c ∧ w.cell? ⟨g, 3, none⟩ = some d ∧ w.cell? ⟨g, 4, none⟩ = some e :=
  ⟨hb.cell 0, hb.cell 1, hb.cell 2, hb.cell 3, hb.cell 4⟩

section
variable {B Bp : Nat} {Sp : Nat → Prop} {w : World} {g : Nat} {t : N} {o : POp} {cs : List Value}

set_option maxRecDepth 100000 in
set_option maxHeartbeats 2000000 in
theorem do_0 (hB : B + 2 ≤ 2199023255552) (h : TIsX X B w g t) (hd : DirW t) (ho : POpV Bp Sp w o cs) (hS : ∀ x, Sp x → x ≠ g) (hk : o.kind = 0) :
    Calls Tryz.prog 8 #[.agg cs.toArray, ifT g] w (PPostX X (B + 2) g (pDo o t) w) := by
  have HT := Lib.hid h
  have HD := Lib.hid hd
  have HS := Lib.hid hS
  obtain ⟨av, bv, rfl, hl, ha, hb⟩ := ho
  have HA := Lib.hid ha
  have HB := Lib.hid hb
  have HL := Lib.hid hl
  obtain ⟨Aa, ca, rfl, _⟩ := ha
  obtain ⟨Ab, cb, rfl, _⟩ := hb
  have Hr : Hid (pDo o t = pMake (nDir [] []) t o.a) := Lib.hid (by unfold pDo; simp [hk])
  have k0 : (o.kind == 0) = true := by rw [hk]; rfl
  clear h hd hS hl hk
  have hx := Ext.alloc' w (.cells #[.int .u8 o.kind, .slice Aa o.a.length ca, .slice Ab o.b.length cb, .string o.text, .bool o.deep] 36)
  obtain ⟨p0, p1, p2, p3, p4⟩ := (Blk.new w 36 #[.int .u8 o.kind, .slice Aa o.a.length ca, .slice Ab o.b.length cb, .string o.text, .bool o.deep]).cells5
  have HX := Lib.hid hx
  clear hx
  go_enter Tryz.func8, Tryz.ntmps8
  go_wp2_with fail
  refine (makeDir_any hB (HT.out.ext HX.out) HD.out (HA.out.ext HX.out)).mono ?_
  rintro e w1 hq
  have he := hq.1
  subst he
  have HQ := Lib.hid (hq.from HX.out)
  clear hq p0 p1 p2 p3 p4
  go_wp2_with fail
  go_ret
  rw [Hr.out]
  exact HQ.out
set_option maxRecDepth 100000 in
set_option maxHeartbeats 2000000 in
theorem do_1 (hB : B + 2 ≤ 2199023255552) (h : TIsX X B w g t) (hd : DirW t) (ho : POpV Bp Sp w o cs) (hS : ∀ x, Sp x → x ≠ g) (hk : o.kind = 1) :
    Calls Tryz.prog 8 #[.agg cs.toArray, ifT g] w (PPostX X (B + 2) g (pDo o t) w) := by
  have HT := Lib.hid h
  have HD := Lib.hid hd
  have HS := Lib.hid hS
  obtain ⟨av, bv, rfl, hl, ha, hb⟩ := ho
  have HA := Lib.hid ha
  have HB := Lib.hid hb
  have HL := Lib.hid hl
  obtain ⟨Aa, ca, rfl, _⟩ := ha
  obtain ⟨Ab, cb, rfl, _⟩ := hb
  have Hr : Hid (pDo o t = pMake (nFile o.text) t o.a) := Lib.hid (by unfold pDo; simp [hk])
  have k0 : (o.kind == 0) = false := by rw [hk]; rfl
  have k1 : (o.kind == 1) = true := by rw [hk]; rfl
  clear h hd hS hl hk
  have hx := Ext.alloc' w (.cells #[.int .u8 o.kind, .slice Aa o.a.length ca, .slice Ab o.b.length cb, .string o.text, .bool o.deep] 36)
  obtain ⟨p0, p1, p2, p3, p4⟩ := (Blk.new w 36 #[.int .u8 o.kind, .slice Aa o.a.length ca, .slice Ab o.b.length cb, .string o.text, .bool o.deep]).cells5
  have HX := Lib.hid hx
  clear hx
  go_enter Tryz.func8, Tryz.ntmps8
  go_wp2_with fail
  refine (makeFile_any hB HL.out (HT.out.ext HX.out) HD.out (HA.out.ext HX.out)).mono ?_
  rintro e w1 hq
  have he := hq.1
  subst he
  have HQ := Lib.hid (hq.from HX.out)
  clear hq p0 p1 p2 p3 p4
  go_wp2_with fail
  go_ret
  rw [Hr.out]
  exact HQ.out
set_option maxRecDepth 100000 in
set_option maxHeartbeats 2000000 in
theorem do_2 (hB : B + 2 ≤ 2199023255552) (h : TIsX X B w g t) (hd : DirW t) (ho : POpV Bp Sp w o cs) (hS : ∀ x, Sp x → x ≠ g) (hk : o.kind = 2) :
    Calls Tryz.prog 8 #[.agg cs.toArray, ifT g] w (PPostX X (B + 2) g (pDo o t) w) := by
  have HT := Lib.hid h
  have HD := Lib.hid hd
  have HS := Lib.hid hS
  obtain ⟨av, bv, rfl, hl, ha, hb⟩ := ho
  have HA := Lib.hid ha
  have HB := Lib.hid hb
  have HL := Lib.hid hl
  obtain ⟨Aa, ca, rfl, _⟩ := ha
  obtain ⟨Ab, cb, rfl, _⟩ := hb
  have Hr : Hid (pDo o t = pMake (.mk 3 o.text [] []) t o.a) := Lib.hid (by unfold pDo; simp [hk])
  have k0 : (o.kind == 0) = false := by rw [hk]; rfl
  have k1 : (o.kind == 1) = false := by rw [hk]; rfl
  have k2 : (o.kind == 2) = true := by rw [hk]; rfl
  clear h hd hS hl hk
  have hx := Ext.alloc' w (.cells #[.int .u8 o.kind, .slice Aa o.a.length ca, .slice Ab o.b.length cb, .string o.text, .bool o.deep] 36)
  obtain ⟨p0, p1, p2, p3, p4⟩ := (Blk.new w 36 #[.int .u8 o.kind, .slice Aa o.a.length ca, .slice Ab o.b.length cb, .string o.text, .bool o.deep]).cells5
  have HX := Lib.hid hx
  clear hx
  go_enter Tryz.func8, Tryz.ntmps8
  go_wp2_with fail
  refine (makeLink_any hB HL.out (HT.out.ext HX.out) HD.out (HA.out.ext HX.out)).mono ?_
  rintro e w1 hq
  have he := hq.1
  subst he
  have HQ := Lib.hid (hq.from HX.out)
  clear hq p0 p1 p2 p3 p4
  go_wp2_with fail
  go_ret
  rw [Hr.out]
  exact HQ.out
set_option maxRecDepth 100000 in
set_option maxHeartbeats 2000000 in
theorem do_3 (hB : B + 2 ≤ 2199023255552) (h : TIsX X B w g t) (hd : DirW t) (ho : POpV Bp Sp w o cs) (hS : ∀ x, Sp x → x ≠ g) (hk : o.kind = 3) :
    Calls Tryz.prog 8 #[.agg cs.toArray, ifT g] w (PPostX X (B + 2) g (pDo o t) w) := by
  have HT := Lib.hid h
  have HD := Lib.hid hd
  have HS := Lib.hid hS
  obtain ⟨av, bv, rfl, hl, ha, hb⟩ := ho
  have HA := Lib.hid ha
  have HB := Lib.hid hb
  have HL := Lib.hid hl
  obtain ⟨Aa, ca, rfl, _⟩ := ha
  obtain ⟨Ab, cb, rfl, _⟩ := hb
  have Hr : Hid (pDo o t = pTouch t o.a) := Lib.hid (by unfold pDo; simp [hk])
  have k0 : (o.kind == 0) = false := by rw [hk]; rfl
  have k1 : (o.kind == 1) = false := by rw [hk]; rfl
  have k2 : (o.kind == 2) = false := by rw [hk]; rfl
  have k3 : (o.kind == 3) = true := by rw [hk]; rfl
  clear h hd hS hl hk
  have hx := Ext.alloc' w (.cells #[.int .u8 o.kind, .slice Aa o.a.length ca, .slice Ab o.b.length cb, .string o.text, .bool o.deep] 36)
  obtain ⟨p0, p1, p2, p3, p4⟩ := (Blk.new w 36 #[.int .u8 o.kind, .slice Aa o.a.length ca, .slice Ab o.b.length cb, .string o.text, .bool o.deep]).cells5
  have HX := Lib.hid hx
  clear hx
  go_enter Tryz.func8, Tryz.ntmps8
  go_wp2_with fail
  refine (touch_any hB (HT.out.ext HX.out) HD.out (HA.out.ext HX.out)).mono ?_
  rintro e w1 hq
  have he := hq.1
  subst he
  have HQ := Lib.hid (hq.from HX.out)
  clear hq p0 p1 p2 p3 p4
  go_wp2_with fail
  go_ret
  rw [Hr.out]
  exact HQ.out
set_option maxRecDepth 100000 in
set_option maxHeartbeats 2000000 in
theorem do_4 (hB : B + 2 ≤ 2199023255552) (h : TIsX X B w g t) (hd : DirW t) (ho : POpV Bp Sp w o cs) (hS : ∀ x, Sp x → x ≠ g) (hk : o.kind = 4) :
    Calls Tryz.prog 8 #[.agg cs.toArray, ifT g] w (PPostX X (B + 2) g (pDo o t) w) := by
  have HT := Lib.hid h
  have HD := Lib.hid hd
  have HS := Lib.hid hS
  obtain ⟨av, bv, rfl, hl, ha, hb⟩ := ho
  have HA := Lib.hid ha
  have HB := Lib.hid hb
  have HL := Lib.hid hl
  obtain ⟨Aa, ca, rfl, _⟩ := ha
  obtain ⟨Ab, cb, rfl, _⟩ := hb
  have Hr : Hid (pDo o t = pRemove wDir t o.a) := Lib.hid (by unfold pDo; simp [hk])
  have k0 : (o.kind == 0) = false := by rw [hk]; rfl
  have k1 : (o.kind == 1) = false := by rw [hk]; rfl
  have k2 : (o.kind == 2) = false := by rw [hk]; rfl
  have k3 : (o.kind == 3) = false := by rw [hk]; rfl
  have k4 : (o.kind == 4) = true := by rw [hk]; rfl
  clear h hd hS hl hk
  have hx := Ext.alloc' w (.cells #[.int .u8 o.kind, .slice Aa o.a.length ca, .slice Ab o.b.length cb, .string o.text, .bool o.deep] 36)
  obtain ⟨p0, p1, p2, p3, p4⟩ := (Blk.new w 36 #[.int .u8 o.kind, .slice Aa o.a.length ca, .slice Ab o.b.length cb, .string o.text, .bool o.deep]).cells5
  have HX := Lib.hid hx
  clear hx
  go_enter Tryz.func8, Tryz.ntmps8
  go_wp2_with fail
  refine (removeDir_any hB (HT.out.ext HX.out) HD.out (HA.out.ext HX.out)).mono ?_
  rintro e w1 hq
  have he := hq.1
  subst he
  have HQ := Lib.hid (hq.from HX.out)
  clear hq p0 p1 p2 p3 p4
  go_wp2_with fail
  go_ret
  rw [Hr.out]
  exact HQ.out
set_option maxRecDepth 100000 in
set_option maxHeartbeats 2000000 in
theorem do_5 (hB : B + 2 ≤ 2199023255552) (h : TIsX X B w g t) (hd : DirW t) (ho : POpV Bp Sp w o cs) (hS : ∀ x, Sp x → x ≠ g) (hk : o.kind = 5) :
    Calls Tryz.prog 8 #[.agg cs.toArray, ifT g] w (PPostX X (B + 2) g (pDo o t) w) := by
  have HT := Lib.hid h
  have HD := Lib.hid hd
  have HS := Lib.hid hS
  obtain ⟨av, bv, rfl, hl, ha, hb⟩ := ho
  have HA := Lib.hid ha
  have HB := Lib.hid hb
  have HL := Lib.hid hl
  obtain ⟨Aa, ca, rfl, _⟩ := ha
  obtain ⟨Ab, cb, rfl, _⟩ := hb
  have Hr : Hid (pDo o t = pRemove wLink t o.a) := Lib.hid (by unfold pDo; simp [hk])
  have k0 : (o.kind == 0) = false := by rw [hk]; rfl
  have k1 : (o.kind == 1) = false := by rw [hk]; rfl
  have k2 : (o.kind == 2) = false := by rw [hk]; rfl
  have k3 : (o.kind == 3) = false := by rw [hk]; rfl
  have k4 : (o.kind == 4) = false := by rw [hk]; rfl
  have k5 : (o.kind == 5) = true := by rw [hk]; rfl
  clear h hd hS hl hk
  have hx := Ext.alloc' w (.cells #[.int .u8 o.kind, .slice Aa o.a.length ca, .slice Ab o.b.length cb, .string o.text, .bool o.deep] 36)
  obtain ⟨p0, p1, p2, p3, p4⟩ := (Blk.new w 36 #[.int .u8 o.kind, .slice Aa o.a.length ca, .slice Ab o.b.length cb, .string o.text, .bool o.deep]).cells5
  have HX := Lib.hid hx
  clear hx
  go_enter Tryz.func8, Tryz.ntmps8
  go_wp2_with fail
  refine (unlink_any hB (HT.out.ext HX.out) HD.out (HA.out.ext HX.out)).mono ?_
  rintro e w1 hq
  have he := hq.1
  subst he
  have HQ := Lib.hid (hq.from HX.out)
  clear hq p0 p1 p2 p3 p4
  go_wp2_with fail
  go_ret
  rw [Hr.out]
  exact HQ.out
set_option maxRecDepth 100000 in
set_option maxHeartbeats 2000000 in
theorem do_6 (hB : B + 2 ≤ 2199023255552) (h : TIsX X B w g t) (hd : DirW t) (ho : POpV Bp Sp w o cs) (hS : ∀ x, Sp x → x ≠ g) (hk : o.kind = 6) :
    Calls Tryz.prog 8 #[.agg cs.toArray, ifT g] w (PPostX X (B + 2) g (pDo o t) w) := by
  have HT := Lib.hid h
  have HD := Lib.hid hd
  have HS := Lib.hid hS
  obtain ⟨av, bv, rfl, hl, ha, hb⟩ := ho
  have HA := Lib.hid ha
  have HB := Lib.hid hb
  have HL := Lib.hid hl
  obtain ⟨Aa, ca, rfl, _⟩ := ha
  obtain ⟨Ab, cb, rfl, _⟩ := hb
  have Hr : Hid (pDo o t = pRemove wAll t o.a) := Lib.hid (by unfold pDo; simp [hk])
  have k0 : (o.kind == 0) = false := by rw [hk]; rfl
  have k1 : (o.kind == 1) = false := by rw [hk]; rfl
  have k2 : (o.kind == 2) = false := by rw [hk]; rfl
  have k3 : (o.kind == 3) = false := by rw [hk]; rfl
  have k4 : (o.kind == 4) = false := by rw [hk]; rfl
  have k5 : (o.kind == 5) = false := by rw [hk]; rfl
  have k6 : (o.kind == 6) = true := by rw [hk]; rfl
  clear h hd hS hl hk
  have hx := Ext.alloc' w (.cells #[.int .u8 o.kind, .slice Aa o.a.length ca, .slice Ab o.b.length cb, .string o.text, .bool o.deep] 36)
  obtain ⟨p0, p1, p2, p3, p4⟩ := (Blk.new w 36 #[.int .u8 o.kind, .slice Aa o.a.length ca, .slice Ab o.b.length cb, .string o.text, .bool o.deep]).cells5
  have HX := Lib.hid hx
  clear hx
  go_enter Tryz.func8, Tryz.ntmps8
  go_wp2_with fail
  refine (removeAll_any hB (HT.out.ext HX.out) HD.out (HA.out.ext HX.out)).mono ?_
  rintro e w1 hq
  have he := hq.1
  subst he
  have HQ := Lib.hid (hq.from HX.out)
  clear hq p0 p1 p2 p3 p4
  go_wp2_with fail
  go_ret
  rw [Hr.out]
  exact HQ.out
set_option maxRecDepth 100000 in
set_option maxHeartbeats 2000000 in
theorem do_7 (hB : B + 2 ≤ 2199023255552) (h : TIsX X B w g t) (hd : DirW t) (ho : POpV Bp Sp w o cs) (hS : ∀ x, Sp x → x ≠ g) (hk : o.kind = 7) :
    Calls Tryz.prog 8 #[.agg cs.toArray, ifT g] w (PPostX X (B + 2) g (pDo o t) w) := by
  have HT := Lib.hid h
  have HD := Lib.hid hd
  have HS := Lib.hid hS
  obtain ⟨av, bv, rfl, hl, ha, hb⟩ := ho
  have HA := Lib.hid ha
  have HB := Lib.hid hb
  have HL := Lib.hid hl
  obtain ⟨Aa, ca, rfl, _⟩ := ha
  obtain ⟨Ab, cb, rfl, _⟩ := hb
  have Hr : Hid (pDo o t = pRename t o.a o.b) := Lib.hid (by unfold pDo; simp [hk])
  have k0 : (o.kind == 0) = false := by rw [hk]; rfl
  have k1 : (o.kind == 1) = false := by rw [hk]; rfl
  have k2 : (o.kind == 2) = false := by rw [hk]; rfl
  have k3 : (o.kind == 3) = false := by rw [hk]; rfl
  have k4 : (o.kind == 4) = false := by rw [hk]; rfl
  have k5 : (o.kind == 5) = false := by rw [hk]; rfl
  have k6 : (o.kind == 6) = false := by rw [hk]; rfl
  have k7 : (o.kind == 7) = true := by rw [hk]; rfl
  clear h hd hS hl hk
  have hx := Ext.alloc' w (.cells #[.int .u8 o.kind, .slice Aa o.a.length ca, .slice Ab o.b.length cb, .string o.text, .bool o.deep] 36)
  obtain ⟨p0, p1, p2, p3, p4⟩ := (Blk.new w 36 #[.int .u8 o.kind, .slice Aa o.a.length ca, .slice Ab o.b.length cb, .string o.text, .bool o.deep]).cells5
  have HX := Lib.hid hx
  clear hx
  go_enter Tryz.func8, Tryz.ntmps8
  go_wp2_with fail
  refine (rename_any hB (HT.out.ext HX.out) HD.out (HA.out.ext HX.out) (HB.out.ext HX.out) HS.out).mono ?_
  rintro e w1 hq
  have he := hq.1
  subst he
  have HQ := Lib.hid (hq.from HX.out)
  clear hq p0 p1 p2 p3 p4
  go_wp2_with fail
  go_ret
  rw [Hr.out]
  exact HQ.out
set_option maxRecDepth 100000 in
set_option maxHeartbeats 2000000 in
theorem do_8 (hB : B + 2 ≤ 2199023255552) (h : TIsX X B w g t) (hd : DirW t) (ho : POpV Bp Sp w o cs) (hS : ∀ x, Sp x → x ≠ g) (hk : o.kind ≠ 0 ∧ o.kind ≠ 1 ∧ o.kind ≠ 2 ∧ o.kind ≠ 3 ∧ o.kind ≠ 4 ∧ o.kind ≠ 5 ∧ o.kind ≠ 6 ∧ o.kind ≠ 7) :
    Calls Tryz.prog 8 #[.agg cs.toArray, ifT g] w (PPostX X (B + 2) g (pDo o t) w) := by
  have HT := Lib.hid h
  have HD := Lib.hid hd
  have HS := Lib.hid hS
  obtain ⟨av, bv, rfl, hl, ha, hb⟩ := ho
  have HA := Lib.hid ha
  have HB := Lib.hid hb
  have HL := Lib.hid hl
  obtain ⟨Aa, ca, rfl, _⟩ := ha
  obtain ⟨Ab, cb, rfl, _⟩ := hb
  have Hr : Hid (pDo o t = pCopy o.deep t o.a o.b) := Lib.hid (by unfold pDo; simp [hk])
  obtain ⟨h0, h1, h2, h3, h4, h5, h6, h7⟩ := hk
  have k0 : (o.kind == 0) = false := by simpa using h0
  have k1 : (o.kind == 1) = false := by simpa using h1
  have k2 : (o.kind == 2) = false := by simpa using h2
  have k3 : (o.kind == 3) = false := by simpa using h3
  have k4 : (o.kind == 4) = false := by simpa using h4
  have k5 : (o.kind == 5) = false := by simpa using h5
  have k6 : (o.kind == 6) = false := by simpa using h6
  have k7 : (o.kind == 7) = false := by simpa using h7
  clear h hd hS hl h0 h1 h2 h3 h4 h5 h6 h7
  have hx := Ext.alloc' w (.cells #[.int .u8 o.kind, .slice Aa o.a.length ca, .slice Ab o.b.length cb, .string o.text, .bool o.deep] 36)
  obtain ⟨p0, p1, p2, p3, p4⟩ := (Blk.new w 36 #[.int .u8 o.kind, .slice Aa o.a.length ca, .slice Ab o.b.length cb, .string o.text, .bool o.deep]).cells5
  have HX := Lib.hid hx
  clear hx
  go_enter Tryz.func8, Tryz.ntmps8
  go_wp2_with fail
  refine (pcopy_any hB (HT.out.ext HX.out) HD.out (HA.out.ext HX.out) (HB.out.ext HX.out)).mono ?_
  rintro e w1 hq
  have he := hq.1
  subst he
  have HQ := Lib.hid (hq.from HX.out)
  clear hq p0 p1 p2 p3 p4
  go_wp2_with fail
  go_ret
  rw [Hr.out]
  exact HQ.out
theorem do_any (hB : B + 2 ≤ 2199023255552) (h : TIsX X B w g t) (hd : DirW t) (ho : POpV Bp Sp w o cs) (hS : ∀ x, Sp x → x ≠ g) :
    Calls Tryz.prog 8 #[.agg cs.toArray, ifT g] w (PPostX X (B + 2) g (pDo o t) w) := by
  by_cases h0 : o.kind = 0
  · exact do_0 hB h hd ho hS h0
  by_cases h1 : o.kind = 1
  · exact do_1 hB h hd ho hS h1
  by_cases h2 : o.kind = 2
  · exact do_2 hB h hd ho hS h2
  by_cases h3 : o.kind = 3
  · exact do_3 hB h hd ho hS h3
  by_cases h4 : o.kind = 4
  · exact do_4 hB h hd ho hS h4
  by_cases h5 : o.kind = 5
  · exact do_5 hB h hd ho hS h5
  by_cases h6 : o.kind = 6
  · exact do_6 hB h hd ho hS h6
  by_cases h7 : o.kind = 7
  · exact do_7 hB h hd ho hS h7
  exact do_8 hB h hd ho hS ⟨h0, h1, h2, h3, h4, h5, h6, h7⟩
end
end Go.Proofs.YtocndkhgopjhhaaGreat
