/- touchstonelaw28.given, walked. -/
import Derived.Test.YtocndkhgopjhhaaProg
import Derived.Test.YtocndkhgopjhhaaGivI
import Derived.Test.YtocndkhgopjhhaaGivL
import Derived.Deep.RegionHeld3
import Derived.Deep.DeepCutAuto
import Derived.Deep.CutBlock
import Derived.Outline
namespace Go.Proofs.Ytocndkhgopjhhaa
open Go.RowKit

/-- an append in a region. -/
theorem step_app {P : Program} {o : Oper} {a : Act} {w : World} {K : Act → World → Prop} {Q : Exit → Act → World → Prop} (s x : Operand) (t : TypeId)
    (ho : o.op = .call { callee := .builtin .append, args := #[s, x], argTypes := #[t, t] })
    (base : Nat) (e : TypeId) (i : TypeInfo) (z : Value) (size bytes : Nat) (ht : P.underlying t = some (.slice e)) (hi : P.info? e = some i) (hz : i.zero = some z)
    (hsize : i.size = size) (hby : i.bytes = bytes) (hzs : z.cells.size = size) (hsz : 0 < size)
    (v : Value) (n : Nat) (xs : List Value) (hs : a.eval s = v) (hown : w.ownsRow base e size v n xs)
    (A : Option Addr) (m c : Nat) (news : List Value) (hx : a.eval x = .slice A m c) (hl : news.length = m * size) (hsrc : 0 < m → ∃ ad, A = some ad ∧ ∀ j u, news[j]? = some u → w.cell? (ad.add j) = some u) (h1 : ∀ u ∈ news, u.oneCell' = true)
    (h63 : n + m ≤ maxLen) (hbytes : ((n + m) + (n + m) / 4 + 192) * bytes ≤ 281474976710656) (hbase : base ≤ w.heap.size)
    (h : ∀ v' w', w'.ownsRow base e size v' (n + m) (xs ++ news) → w.grownBy w' v.ownBlock → K (a.put o.dst v') w') : o.wp P a w K Q := by
  obtain ⟨v', w', hr, h2, h3, _⟩ := run_app (P := P) w base t o.type e i z size bytes ht hi hz hsize hby hzs hsz v n xs hown A m c news hl hsrc h1 h63 hbytes hbase
  unfold Oper.wp execOp
  simp only [ho, resolve, invoke, builtin, Sem.run_bind, Sem.run_pure, Result.andThen_ok, List.map_toArray, List.map_cons, List.map_nil, hs, hx, hr]
  exact h v' w' h2 h3

theorem stepH_app {P : Program} {ops : Array Oper} {E : Prop} {o : Oper} {a : Act} {w : World} {K : Act → World → Prop} {Q : Exit → Act → World → Prop} (hgd : o.guard = none) (s x : Operand) (t : TypeId)
    (ho : o.op = .call { callee := .builtin .append, args := #[s, x], argTypes := #[t, t] })
    (base : Nat) (e : TypeId) (i : TypeInfo) (z : Value) (size bytes : Nat) (ht : P.underlying t = some (.slice e)) (hi : P.info? e = some i) (hz : i.zero = some z)
    (hsize : i.size = size) (hby : i.bytes = bytes) (hzs : z.cells.size = size) (hsz : 0 < size)
    (v : Value) (n : Nat) (xs : List Value) (hs : a.eval s = v) (hown : w.ownsRow base e size v n xs)
    (A : Option Addr) (m c : Nat) (news : List Value) (hx : a.eval x = .slice A m c) (hl : news.length = m * size) (hsrc : 0 < m → ∃ ad, A = some ad ∧ ∀ j u, news[j]? = some u → w.cell? (ad.add j) = some u) (h1 : ∀ u ∈ news, u.oneCell' = true)
    (h63 : n + m ≤ maxLen) (hbytes : ((n + m) + (n + m) / 4 + 192) * bytes ≤ 281474976710656) (hbase : base ≤ w.heap.size)
    (h : ∀ v' w', w'.ownsRow base e size v' (n + m) (xs ++ news) → w.grownBy w' v.ownBlock → K (a.put o.dst v') w') : if Region.wanted o (yielded ops a.tmps) = true then o.wp P a w K Q else E := by
  rw [if_pos (by simp [Region.wanted, hgd])]
  exact step_app s x t ho base e i z size bytes ht hi hz hsize hby hzs hsz v n xs hs hown A m c news hx hl hsrc h1 h63 hbytes hbase h

theorem Strs.src {B : Nat} {S : Nat → Prop} {w : World} {A : Option Addr} {n c : Nat} {zs : List ByteArray} (h : Strs B S w (.slice A n c) zs) : (0 < n → ∃ ad, A = some ad ∧ ∀ j u, (zs.map Value.string)[j]? = some u → w.cell? (ad.add j) = some u) := by
  obtain ⟨A', c', e, h1, h2, hB, hw, h3⟩ := h
  injection e with e1 e2 e3
  subst e1 e2 e3
  intro hp
  obtain ⟨b, o, e, _, hl, hc⟩ := h3 hp
  refine ⟨_, e, fun j u hj => ?_⟩
  simp only [List.getElem?_map, Option.map_eq_some_iff] at hj
  obtain ⟨z, hz, rfl⟩ := hj
  have := hc j z hz
  rcases Nat.eq_zero_or_pos j with rfl | h0
  · simpa [Addr.add] using this
  · rw [Addr.add, if_neg (by omega)]; exact this

set_option maxRecDepth 100000 in
set_option maxHeartbeats 4000000 in
theorem giv28_any {B : Nat} (hB : B ≤ 1000000) {S : Nat → Prop} {w : World} {t : Td} {v : Value} (h : Tdv B S w t v) :
    Calls Try.prog 30 #[v] w (TOwnPost B t w) := by
  obtain ⟨rv, fv, rfl, hr, hf⟩ := h
  have HR := Lib.hid hr
  have HF := Lib.hid hf
  obtain ⟨A0, c0, rfl, _, _, hn0, hwf0, _⟩ := hr
  have HWF0 := Lib.hid hwf0
  obtain ⟨A1, c1, rfl, hc1, hm1, hn1, _⟩ := hf
  obtain ⟨_, hA0, hs0⟩ := HR.out.src
  obtain ⟨_, hA1, news, hcf, hone, hs1⟩ := HF.out.src
  obtain ⟨i1, hi1, hz1, hz2, hz3⟩ := info_parts int_info
  obtain ⟨i2, hi2, hy1, hy2, hy3⟩ := info_parts fact_info
  obtain ⟨i3, hi3, hs1', hs2', hs3'⟩ := info_parts string_info
  have HI3 := Lib.hid hi3
  have HQ1 := Lib.hid hs1'
  have HQ2 := Lib.hid hs2'
  have HQ3 := Lib.hid hs3'
  have HS0 := Lib.hid (fun W (hX : Ext w W) => src_up hA0 hs0 hX)
  have HS1 := Lib.hid (fun W (hX : Ext w W) => src_up hA1 hs1 hX)
  have HI1 := Lib.hid hi1
  have HI2 := Lib.hid hi2
  have HZ1 := Lib.hid hz1
  have HZ2 := Lib.hid hz2
  have HZ3 := Lib.hid hz3
  have HY1 := Lib.hid hy1
  have HY2 := Lib.hid hy2
  have HY3 := Lib.hid hy3
  have HCF := Lib.hid hcf
  have HON := Lib.hid hone
  unfold maxLen at hm1
  clear hwf0 hi3 hs1' hs2' hs3' hi1 hi2 hz1 hz2 hz3 hy1 hy2 hy3 hA0 hA1 hs0 hs1 hcf hone
  go_enter Try.func30, Try.ntmps30
  go_upto_region 1 with fail
  obtain ⟨W1, hW⟩ : ∃ W1, W1 = ((w.alloc (.cells #[.slice A0 t.row.length c0, .slice A1 t.facts.length c1] 38)).alloc (.cells #[.slice none 0 0, .slice none 0 0] 48)) := ⟨_, rfl⟩
  have hXW : Ext w W1 := by rw [hW]; exact (Ext.alloc' _ _).trans' (Ext.alloc' _ _)
  have hB1 : Blk W1 w.heap.size 38 #[.slice A0 t.row.length c0, .slice A1 t.facts.length c1] := by rw [hW]; exact (Blk.new _ _ _).alloc _
  have hB2 : Blk W1 (w.heap.size + 1) 48 #[.slice none 0 0, .slice none 0 0] := by rw [hW]; exact Blk.new' _ _ _ (by simp)
  have HXW := Lib.hid hXW
  have HB1 := Lib.hid hB1
  have HB2 := Lib.hid hB2
  rw [← hW]
  clear hW hXW hB1 hB2
  go_cut [3] (fun s3 wx => ∃ x8 x12 gz, s3 = .pointer (some ⟨gz, 0, none⟩) ∧ W1.heap.size ≤ gz ∧ Ext W1 wx ∧ Blk wx gz 48 #[x8, x12] ∧ RowOf W1 wx 3 1 t.row.length x8 (t.row.map (Value.int .i64)) ∧ RowOf W1 wx 106 6 t.facts.length x12 news)
  case first =>
    refine wp_region_inv (by kernel_rfl) (fun listed a w' => ∃ x3 x5 x6 x7 x8 x9 x10 x11 x12 x13 : Value, a = { tmps := #[.agg #[.slice A0 t.row.length c0, .slice A1 t.facts.length c1], .pointer (some ⟨w.heap.size, 0, none⟩), .pointer (some ⟨w.heap.size + 1, 0, none⟩), x3, undef, x5, x6, x7, x8, x9, x10, x11, x12, x13,
      undef, undef, undef, undef, undef, undef, undef, undef, undef, undef, undef, undef, undef, undef, undef, undef, undef, undef, undef, undef, undef, undef, undef, undef, undef, undef, undef, undef, undef, undef, undef, undef, undef, undef], defers := [] } ∧
      GI W1 w.heap.size t.row.length t.facts.length (.slice A0 t.row.length c0) (.slice A1 t.facts.length c1) (t.row.map (Value.int .i64)) news (fun j => listed.getD j false) w' x3 x5 x6 x7 x8 x9 x10 x11 x12 x13) ?_ ?_ ?_
    · refine ⟨undef, undef, undef, undef, undef, undef, undef, undef, undef, undef, rfl, ?_⟩
      have e : (fun j => (Array.replicate (11 : Nat) false).getD j false) = fun _ => false := by
        funext j
        rw [Array.getD_eq_getD_getElem?, Array.getElem?_replicate]
        split <;> rfl
      show GI _ _ _ _ _ _ _ _ (fun j => (Array.replicate (11 : Nat) false).getD j false) _ _ _ _ _ _ _ _ _ _ _
      rw [e]
      exact GI.start W1
    · rintro listed a w' i hs ⟨x3, x5, x6, x7, x8, x9, x10, x11, x12, x13, rfl, hI⟩ hr
      obtain ⟨hi, hn, he⟩ := ready_mem hr
      have hs' : listed.size = 11 := hs
      have HIv := Lib.hid hI
      have e' := hI.1
      have HE := Lib.hid e'
      clear hr hs hI e'
      match i, hi with
      | 0, _ =>
        refine wpOp_plain rfl rfl fun K hK => ?_
        have HK := Lib.hid hK
        clear hK he
        go_simp
        exact HK.out _ _ ⟨_, _, _, _, _, _, _, _, _, _, rfl, by rw [getD_same _ _ (by omega)]; exact HIv.out.s0⟩
      | 1, _ =>
        refine wpOp_plain rfl rfl fun K hK => ?_
        have HK := Lib.hid hK
        clear hK he
        go_simp
        exact HK.out _ _ ⟨_, _, _, _, _, _, _, _, _, _, rfl, by rw [getD_same _ _ (by omega)]; exact HIv.out.s1⟩
      | 2, _ =>
        refine wpOp_plain rfl rfl fun K hK => ?_
        have HK := Lib.hid hK
        have hx6 := HIv.out.2.2.1 (he _ rfl ⟨1, .data⟩ (by simp) rfl)
        subst hx6
        have hc : w'.cell? ⟨w.heap.size, 0, none⟩ = some (.slice A0 t.row.length c0) := (HB1.out.ext HE.out).cell 0
        clear hK he
        go_simp
        exact HK.out _ _ ⟨_, _, _, _, _, _, _, _, _, _, rfl, by rw [getD_same _ _ (by omega)]; exact HIv.out.s2⟩
      | 3, _ =>
        refine wpOp_plain rfl rfl fun K hK => ?_
        have HK := Lib.hid hK
        have l0 := he _ rfl ⟨0, .data⟩ (by simp) rfl
        have hx7 := HIv.out.2.2.2.1 (he _ rfl ⟨2, .data⟩ (by simp) rfl)
        subst hx7
        have l3 := getD_false hn
        have r5 := HIv.out.2.1 l0 l3
        clear hK he
        refine step_app (.tmp 5) (.tmp 7) 35 rfl W1.heap.size 3 i1 _ 1 8 Try.underlying35 HI1.out HZ1.out HZ2.out HZ3.out rfl (by omega) x5 0 [] rfl r5.2 A0 t.row.length c0 (t.row.map (Value.int .i64)) rfl (by simp) (HS0.out _ (HXW.out.trans' HE.out)) (by simp [Value.oneCell']) (by simp only [maxLen]; omega) (by omega) HE.out.size ?_
        intro v' w2 ho hg
        rw [Nat.zero_add, List.nil_append] at ho
        exact HK.out _ _ ⟨_, _, _, _, _, _, _, _, _, _, rfl, by rw [getD_same _ _ (by omega)]; exact HIv.out.s3 l0 l3 ⟨ownsRow_form ho, ho⟩ hg⟩
      | 4, _ =>
        refine wpOp_plain rfl rfl fun K hK => ?_
        have HK := Lib.hid hK
        clear hK he
        go_simp
        exact HK.out _ _ ⟨_, _, _, _, _, _, _, _, _, _, rfl, by rw [getD_same _ _ (by omega)]; exact HIv.out.s4⟩
      | 5, _ =>
        refine wpOp_plain rfl rfl fun K hK => ?_
        have HK := Lib.hid hK
        clear hK he
        go_simp
        exact HK.out _ _ ⟨_, _, _, _, _, _, _, _, _, _, rfl, by rw [getD_same _ _ (by omega)]; exact HIv.out.s5⟩
      | 6, _ =>
        refine wpOp_plain rfl rfl fun K hK => ?_
        have HK := Lib.hid hK
        have hx10 := HIv.out.2.2.2.2.2.2.1 (he _ rfl ⟨5, .data⟩ (by simp) rfl)
        subst hx10
        have hc : w'.cell? ⟨w.heap.size, 1, none⟩ = some (.slice A1 t.facts.length c1) := (HB1.out.ext HE.out).cell 1
        clear hK he
        go_simp
        exact HK.out _ _ ⟨_, _, _, _, _, _, _, _, _, _, rfl, by rw [getD_same _ _ (by omega)]; exact HIv.out.s6⟩
      | 7, _ =>
        refine wpOp_plain rfl rfl fun K hK => ?_
        have HK := Lib.hid hK
        have l4 := he _ rfl ⟨4, .data⟩ (by simp) rfl
        have hx11 := HIv.out.2.2.2.2.2.2.2.1 (he _ rfl ⟨6, .data⟩ (by simp) rfl)
        subst hx11
        have l7 := getD_false hn
        have r9 := HIv.out.2.2.2.2.2.1 l4 l7
        clear hK he
        refine step_app (.tmp 9) (.tmp 11) 36 rfl W1.heap.size 106 i2 _ 6 72 Try.underlying36 HI2.out HY1.out HY2.out HY3.out rfl (by omega) x9 0 [] rfl r9.2 A1 t.facts.length c1 news rfl HCF.out.1 (HS1.out _ (HXW.out.trans' HE.out)) HON.out (by simp only [maxLen]; omega) (by omega) HE.out.size ?_
        intro v' w2 ho hg
        rw [Nat.zero_add, List.nil_append] at ho
        exact HK.out _ _ ⟨_, _, _, _, _, _, _, _, _, _, rfl, by rw [getD_same _ _ (by omega)]; exact HIv.out.s7 l4 l7 ⟨ownsRow_form ho, ho⟩ hg⟩
      | 8, _ =>
        refine wpOp_plain rfl rfl fun K hK => ?_
        have HK := Lib.hid hK
        have l3 := he _ rfl ⟨3, .data⟩ (by simp) rfl
        have l7 := he _ rfl ⟨7, .data⟩ (by simp) rfl
        obtain ⟨⟨A8, c8, rfl⟩, _⟩ := HIv.out.2.2.2.2.1 l3
        obtain ⟨⟨A9, c9, rfl⟩, _⟩ := HIv.out.2.2.2.2.2.2.2.2.1 l7
        clear hK he
        go_simp
        exact HK.out _ _ ⟨_, _, _, _, _, _, _, _, _, _, rfl, by rw [getD_same _ _ (by omega)]; exact HIv.out.s8 l3 l7⟩
      | 9, _ =>
        refine wpOp_plain rfl rfl fun K hK => ?_
        have HK := Lib.hid hK
        have l9 := getD_false hn
        clear hK he
        go_simp
        exact HK.out _ _ ⟨_, _, _, _, _, _, _, _, _, _, rfl, by rw [getD_same _ _ (by omega)]; exact HIv.out.s9 l9⟩
      | 10, _ =>
        refine wpOp_plain rfl rfl fun K hK => ?_
        have HK := Lib.hid hK
        have l8 := he _ rfl ⟨8, .data⟩ (by simp) rfl
        have l9 := he _ rfl ⟨9, .data⟩ (by simp) rfl
        have l3 := he _ rfl ⟨3, .phase⟩ (by simp) rfl
        have l7 := he _ rfl ⟨7, .phase⟩ (by simp) rfl
        have l10 := getD_false hn
        have hx13 := HIv.out.2.2.2.2.2.2.2.2.2.1 l8
        subst hx13
        obtain ⟨gz, rfl, hgz, hb⟩ := HIv.out.2.2.2.2.2.2.2.2.2.2.1 l9
        obtain ⟨⟨A8, c8, rfl⟩, _⟩ := HIv.out.2.2.2.2.1 l3
        obtain ⟨⟨A9, c9, rfl⟩, _⟩ := HIv.out.2.2.2.2.2.2.2.2.1 l7
        rw [if_neg (by simp only [l10]; simp)] at hb
        have k0 : w'.cell? ⟨gz, 0, none⟩ = some (.slice none 0 0) := hb.cell 0
        have k1 : w'.cell? ⟨gz, 1, none⟩ = some (.slice none 0 0) := hb.cell 1
        have k2 := hb.frozen 0
        have k3 := hb.frozen 1
        clear hK he hb
        go_simp
        exact HK.out _ _ ⟨_, _, _, _, _, _, _, _, _, _, rfl, by rw [getD_same _ _ (by omega)]; exact HIv.out.s10 l8 l9 rfl⟩
      | n + 11, h => exact absurd h (by simp)
    · rintro listed a w' hs ⟨x3, x5, x6, x7, x8, x9, x10, x11, x12, x13, rfl, hI⟩ hr
      have l0 := ready_nil hr (i := 0) rfl (by simp) hs
      have l1 := ready_nil hr (i := 1) rfl (by simp) hs
      have l4 := ready_nil hr (i := 4) rfl (by simp) hs
      have l5 := ready_nil hr (i := 5) rfl (by simp) hs
      have l9 := ready_nil hr (i := 9) rfl (by simp) hs
      have l2 := ready_nil hr (i := 2) rfl (by simp at l1 ⊢; exact l1) hs
      have l6 := ready_nil hr (i := 6) rfl (by simp at l5 ⊢; exact l5) hs
      have l3 := ready_nil hr (i := 3) rfl (by simp at l0 l2 ⊢; exact ⟨l0, l2⟩) hs
      have l7 := ready_nil hr (i := 7) rfl (by simp at l4 l6 l3 ⊢; exact ⟨l4, l6, l3⟩) hs
      have l8 := ready_nil hr (i := 8) rfl (by simp at l3 l7 ⊢; exact ⟨l3, l7⟩) hs
      have l10 := ready_nil hr (i := 10) rfl (by simp at l0 l1 l2 l3 l4 l5 l6 l7 l8 l9 ⊢; simp [l0, l1, l2, l3, l4, l5, l6, l7, l8, l9]) hs
      obtain ⟨gz, hx3, hgz, hb⟩ := hI.2.2.2.2.2.2.2.2.2.2.1 l9
      rw [if_pos l10] at hb
      have r8 := hI.2.2.2.2.1 l3
      have r12 := hI.2.2.2.2.2.2.2.2.1 l7
      have HC := Lib.hid (show Ext W1 w' ∧ _ ∧ _ ∧ _ from ⟨hI.1, hb, r8, r12⟩)
      subst hx3
      clear hI hr hs l0 l1 l2 l3 l4 l5 l6 l7 l8 l9 l10 hb r8 r12
      go_wp2_with fail
      go_meet
      case rel => exact ⟨x8, x12, gz, rfl, hgz, HC.out.1, HC.out.2.1, HC.out.2.2.1, HC.out.2.2.2⟩
  case rest =>
    obtain ⟨x8, x12, gz, rfl, hgz, hx, hb, r8, r12⟩ := hcut
    obtain ⟨⟨A, c, rfl⟩, _⟩ := r8
    obtain ⟨⟨A', c', rfl⟩, _⟩ := r12
    have HT0 := Lib.hid (tloop_start hx hb ⟨⟨A, c, rfl⟩, by assumption⟩ ⟨⟨A', c', rfl⟩, by assumption⟩ HCF.out hn0 HWF0.out)
    rename_i r8 r12
    have HgA := Lib.hid hgz
    clear hx hb r8 r12
    go_wp2_with fail
    go_loopw [4] (fun i wr => ∃ j : Nat, j ≤ t.facts.length ∧ i = .int .i64 j ∧ TLoop B t W1 A A' c c' gz j wr) (fun i _ => t.facts.length - (intOf i).toNat)
    case atStart => exact ⟨0, Nat.zero_le _, rfl, HT0.out⟩
    case round =>
      obtain ⟨j, hj, rfl, hT⟩ := hrel
      have HT := Lib.hid hT
      obtain ⟨xs, T, hx, hbz, hi, ho, hxs, hb⟩ := hT
      have hbzc : wr.cell? ⟨gz, 1, none⟩ = some (.slice A' t.facts.length c') := hbz.cell 1
      by_cases hlt : j < t.facts.length
      · obtain ⟨f, hf⟩ : ∃ f, t.facts[j]? = some f := ⟨_, List.getElem?_eq_getElem hlt⟩
        have hXr := HXW.out.trans' hx
        obtain ⟨b0, o0, nv, kv, e0, hSb, hbl, d0, d1, d2, d3, d4, d5, hsn, hik, hF⟩ := HF.out.get hf
        subst e0
        have HSN := Lib.hid hsn
        have HIK := Lib.hid hik
        obtain ⟨An, cn, rfl, hcn, hcm, hnB, hns, _⟩ := hsn
        obtain ⟨Ak, ck, rfl, hck, hckm, hkB, hkw, _⟩ := hik
        have Hns := Lib.hid hns
        have Hkw := Lib.hid hkw
        have HIK0 := Lib.hid d3
        have Hf := Lib.hid hf
        obtain ⟨gF, cur, rfl, hgF, hcur, hcz, hcc, hcmm⟩ := own_row ho (by omega)
        have hgFl := (ownsRow_lt ho (g := gF) rfl).2
        have hgzl := hbz.lt
        have hzB1 := HB1.out.lt
        have hzr := hXr.size
        have hz1r := hx.size
        have hbt : W1.cell? ⟨w.heap.size, 1, none⟩ = some (.slice (some ⟨b0, o0, none⟩) t.facts.length c1) := HB1.out.cell 1
        have hgzF := tloop_gzF hbz ho rfl
        have r2 : wr.cell? ⟨w.heap.size, 1, none⟩ = some (.slice (some ⟨b0, o0, none⟩) t.facts.length c1) := (hx.cell (p := ⟨w.heap.size, 1, none⟩) hzB1).trans hbt
        have r3 : wr.cell? ⟨b0, o0 + j * 6 + 2, none⟩ = some (.slice An f.names.length cn) := (hXr.cell (p := ⟨b0, o0 + j * 6 + 2, none⟩) hbl).trans d2
        have hS2 : wr.drew.cell? ⟨gz, 1, none⟩ = some (.slice (some ⟨gF, 0, none⟩) t.facts.length c') ∧ wr.drew.cell? ⟨w.heap.size, 1, none⟩ = some (.slice (some ⟨b0, o0, none⟩) t.facts.length c1) ∧ wr.drew.cell? ⟨b0, o0 + j * 6 + 2, none⟩ = some (.slice An f.names.length cn) ∧ StoOK gF (t.facts.length * 6) wr.drew ∧ Turns (fun k => k = gF) wr wr.drew :=
          ⟨hbzc, r2, r3, ⟨cur, hcur, hcz⟩, ⟨rfl, rfl, rfl, Nat.le_refl _, fun _ _ _ => rfl⟩⟩
        have sA : ∀ w', StoOK gF (t.facts.length * 6) w' → w'.cell? ⟨gF, j * 6 + 2, none⟩ = some (cellOf w' ⟨gF, j * 6 + 2, none⟩) := fun w' h => (h.cell (by omega)).1
        have sB : ∀ w', StoOK gF (t.facts.length * 6) w' → w'.frozen? ⟨gF, j * 6 + 2, none⟩ = false := fun w' h => (h.cell (by omega)).2
        have hlg1 : gz < wr.heap.size := hgzl
        have hlg2 : w.heap.size < wr.heap.size := by omega
        have hlg3 : b0 < wr.heap.size := by omega
        have hne2 : w.heap.size ≠ gF := by omega
        have hne3 : b0 ≠ gF := by omega
        have hj1 : (0 : Int) ≤ (j : Int) := by omega
        have hj2 : (j : Int) < (t.facts.length : Int) := by omega
        have kp : ∀ w', Turns (fun k => k = gF) wr w' → ∀ b, S b → b < w.heap.size → w'.heap[b]? = w.heap[b]? := fun w' ht b _ hb => by
          rw [ht.block b (by omega) (by omega), hXr.block b hb]
        have kz : ∀ w', Turns (fun k => k = gF) wr w' → w.heap.size ≤ w'.heap.size := fun w' ht => by have := ht.size; omega
        have KP := Lib.hid kp
        have KZ := Lib.hid kz
        unfold maxLen at hcmm
        clear hx hbz hi ho hxs hb hF hf hns hkw hcur hXr hbt d0 d1 d2 d3 d4 d5 kp kz r2 r3
        go_upto_region 5 with fail
        clear hbzc
        go_cut [] (fun wx => TMid B t W1 A (some ⟨gF, 0, none⟩) c c' gz j f wx)
        case first =>
          go_region_held3 (fun w' => w'.cell? ⟨gz, 1, none⟩ = some (.slice (some ⟨gF, 0, none⟩) t.facts.length c') ∧ w'.cell? ⟨w.heap.size, 1, none⟩ = some (.slice (some ⟨b0, o0, none⟩) t.facts.length c1) ∧ w'.cell? ⟨b0, o0 + j * 6 + 2, none⟩ = some (.slice An f.names.length cn) ∧ StoOK gF (t.facts.length * 6) w' ∧ Turns (fun k => k = gF) wr w')
            (first | exact hS2 | exact keepT (by assumption) hlg1 hlg2 hlg3 (Ext.alloc' _ _) | exact keepG (by assumption) hlg1 hlg2 hlg3 hgFl hg9 (fun k hk => by simp [Value.ownBlock] at hk; omega) | exact keepU (by assumption) hgzF hne2 hne3)
            ((refine stepH_app rfl (.tmp 24) (.tmp 30) 22 rfl wr.heap.size 9 i3 _ 1 16 Try.underlying22 HI3.out HQ1.out HQ2.out HQ3.out rfl (by omega) (.slice (some ⟨wr.heap.size, 0, none⟩) 0 0) 0 [] rfl (RowOf.fresh wr (Below.refl _ _) 9 1).2 An f.names.length cn (f.names.map Value.string) rfl (by simp) (Strs.src (HSN.out.keep (KZ.out _ (turnsOf (by assumption))) (KP.out _ (turnsOf (by assumption))) (fun _ h _ => h))) (by simp [Value.oneCell']) (by simp only [maxLen]; omega) (by omega) (by simp) ?_; intro v9 w9 ho9 hg9; obtain ⟨A9, c9, rfl⟩ := ownsRow_form ho9))
          have hx9 : Ext wr w9 := Ext.grown (Below.drew (Ext.alloc' wr (.cells #[] 9))) hg9 (fun k hk => by simp [Value.ownBlock] at hk; omega)
          rw [Nat.zero_add, List.nil_append] at ho9
          have hm := tloop_mid rfl HT.out Hf.out hx9 ho9 hnB Hns.out
          have HM := Lib.hid hm
          clear hm ho9 hg9 hx9
          go_wp2_with fail
          go_meet
          case rel => exact HM.out
        case rest =>
          have HM := Lib.hid hcut
          obtain ⟨xs, T, nv, hx, hbz, hi, ho, hxs, hb, _, _⟩ := hcut
          have hXr := HXW.out.trans' hx
          obtain ⟨_, _, nv', kv', e0, _, hbl', d0, d1, d2, d3, d4, d5, hsn, hik, hF⟩ := HF.out.get Hf.out
          simp only [Option.some.injEq, Addr.mk.injEq, and_true] at e0
          obtain ⟨rfl, rfl⟩ := e0
          obtain ⟨_, cur2, e1, _, hcur2, hcz2, _, _⟩ := own_row ho (by omega)
          simp only [Option.some.injEq, Addr.mk.injEq, and_true] at e1
          subst e1
          have hgFl2 := (ownsRow_lt ho (g := gF) rfl).2
          have hgzl2 := hbz.lt
          have hzr2 := hXr.size
          have hz1r2 := hx.size
          have hzB12 := HB1.out.lt
          have hbt : W1.cell? ⟨w.heap.size, 1, none⟩ = some (.slice (some ⟨b0, o0, none⟩) t.facts.length c1) := HB1.out.cell 1
          have r1 : wc.cell? ⟨gz, 1, none⟩ = some (.slice (some ⟨gF, 0, none⟩) t.facts.length c') := hbz.cell 1
          have r2 : wc.cell? ⟨w.heap.size, 1, none⟩ = some (.slice (some ⟨b0, o0, none⟩) t.facts.length c1) := (hx.cell (p := ⟨w.heap.size, 1, none⟩) hzB12).trans hbt
          have ek : kv' = .slice Ak f.kids.length ck := by
            have h1 := HIK0.out
            rw [d3] at h1
            injection h1
          subst ek
          have r3 : wc.cell? ⟨b0, o0 + j * 6 + 3, none⟩ = some (.slice Ak f.kids.length ck) := (hXr.cell (p := ⟨b0, o0 + j * 6 + 3, none⟩) hbl').trans d3
          have hS3 : wc.drew.cell? ⟨gz, 1, none⟩ = some (.slice (some ⟨gF, 0, none⟩) t.facts.length c') ∧ wc.drew.cell? ⟨w.heap.size, 1, none⟩ = some (.slice (some ⟨b0, o0, none⟩) t.facts.length c1) ∧ wc.drew.cell? ⟨b0, o0 + j * 6 + 3, none⟩ = some (.slice Ak f.kids.length ck) ∧ StoOK gF (t.facts.length * 6) wc.drew ∧ Turns (fun k => k = gF) wc wc.drew :=
            ⟨r1, r2, r3, ⟨cur2, hcur2, hcz2⟩, ⟨rfl, rfl, rfl, Nat.le_refl _, fun _ _ _ => rfl⟩⟩
          have sC : ∀ w', StoOK gF (t.facts.length * 6) w' → w'.cell? ⟨gF, j * 6 + 3, none⟩ = some (cellOf w' ⟨gF, j * 6 + 3, none⟩) := fun w' h => (h.cell (by omega)).1
          have sD : ∀ w', StoOK gF (t.facts.length * 6) w' → w'.frozen? ⟨gF, j * 6 + 3, none⟩ = false := fun w' h => (h.cell (by omega)).2
          have hlh2 : w.heap.size < wc.heap.size := by omega
          have hlh3 : b0 < wc.heap.size := by omega
          have kp : ∀ w', Turns (fun k => k = gF) wc w' → ∀ b, S b → b < w.heap.size → w'.heap[b]? = w.heap[b]? := fun w' ht b _ hb => by
            rw [ht.block b (by omega) (by omega), hXr.block b hb]
          have kz : ∀ w', Turns (fun k => k = gF) wc w' → w.heap.size ≤ w'.heap.size := fun w' ht => by have := ht.size; omega
          have KP2 := Lib.hid kp
          have KZ2 := Lib.hid kz
          clear hx hbz hi ho hxs hb hF hcur2 hXr hbt d0 d1 d2 d3 d4 d5 kp kz r1 r2 r3 hsn hik sA sB hS2
          go_upto_region 6 with fail
          go_region_held3 (fun w' => w'.cell? ⟨gz, 1, none⟩ = some (.slice (some ⟨gF, 0, none⟩) t.facts.length c') ∧ w'.cell? ⟨w.heap.size, 1, none⟩ = some (.slice (some ⟨b0, o0, none⟩) t.facts.length c1) ∧ w'.cell? ⟨b0, o0 + j * 6 + 3, none⟩ = some (.slice Ak f.kids.length ck) ∧ StoOK gF (t.facts.length * 6) w' ∧ Turns (fun k => k = gF) wc w')
            (first | exact hS3 | exact keepT (by assumption) hgzl2 hlh2 hlh3 (Ext.alloc' _ _) | exact keepG (by assumption) hgzl2 hlh2 hlh3 hgFl2 hg9 (fun k hk => by simp [Value.ownBlock] at hk; omega) | exact keepU (by assumption) hgzF hne2 hne3)
            ((refine stepH_app rfl (.tmp 37) (.tmp 43) 35 rfl wc.heap.size 3 i1 _ 1 8 Try.underlying35 HI1.out HZ1.out HZ2.out HZ3.out rfl (by omega) (.slice (some ⟨wc.heap.size, 0, none⟩) 0 0) 0 [] rfl (RowOf.fresh wc (Below.refl _ _) 3 1).2 Ak f.kids.length ck (f.kids.map (Value.int .i64)) rfl (by simp) (Ints.src (HIK.out.keep (KZ2.out _ (turnsOf (by assumption))) (KP2.out _ (turnsOf (by assumption))) (fun _ h _ => h))).2.2 (by simp [Value.oneCell']) (by simp only [maxLen]; omega) (by omega) (by simp) ?_; intro v9 w9 ho9 hg9; obtain ⟨A9, c9, rfl⟩ := ownsRow_form ho9))
          have hx9 : Ext wc w9 := Ext.grown (Below.drew (Ext.alloc' wc (.cells #[] 3))) hg9 (fun k hk => by simp [Value.ownBlock] at hk; omega)
          rw [Nat.zero_add, List.nil_append] at ho9
          have hl := tmid_step rfl HM.out Hf.out hx9 ho9 hkB Hkw.out
          have HL := Lib.hid hl
          clear hl ho9 hg9 hx9
          go_wp2_with fail
          go_roundw
          case rel => exact ⟨j + 1, by omega, by go_num, HL.out⟩
          case measure => simp [intOf]; omega
      · have hjn : j = t.facts.length := by omega
        subst hjn
        have hB2 := HB2.out.ext hx
        have k0 : wr.cell? ⟨gz, 0, none⟩ = some (.slice A t.row.length c) := hbz.cell 0
        have k2 : wr.cell? ⟨w.heap.size + 1, 0, none⟩ = some (.slice none 0 0) := hB2.cell 0
        have k3 : wr.cell? ⟨w.heap.size + 1, 1, none⟩ = some (.slice none 0 0) := hB2.cell 1
        have k4 := hB2.frozen 0
        have k5 := hB2.frozen 1
        have hW2 := HB2.out.lt
        have HB3 := Lib.hid hB2
        have hfc := own_facts ho rfl hn1 hxs
        have hown : ∀ g, (Value.slice A' t.facts.length c').ownBlock = some g → W1.heap.size ≤ g ∧ Nfz wr g := fun g hg => ⟨(ownsRow_lt ho hg).1, ownsRow_nfz ho hg⟩
        have HX := Lib.hid hx
        have HI := Lib.hid hi
        have HFC := Lib.hid hfc
        have Hown := Lib.hid hown
        have Hb := Lib.hid hb
        clear hB2 hbz hx hi ho hxs hb hfc hown
        go_wp2_with fail
        refine bodyPost_ret (results_td rfl _ _ _ _ _ rfl HB3.out.set01) rfl ?_
        have hF : ∀ b, W1.heap.size ≤ b → ((wr.setCell ⟨w.heap.size + 1, 0, none⟩ (.slice A t.row.length c)).setCell ⟨w.heap.size + 1, 1, none⟩ (.slice A' t.facts.length c')).heap[b]? = wr.heap[b]? := fun b hb =>
          (Below.heap_setCell _ _ _ _ (show b ≠ w.heap.size + 1 by omega)).trans (Below.heap_setCell _ _ _ _ (show b ≠ w.heap.size + 1 by omega))
        refine ⟨A, c, A', c', rfl, ((HXW.out.trans' HX.out).setCell (p := ⟨w.heap.size + 1, 0, none⟩) (by simp) _).setCell (p := ⟨w.heap.size + 1, 1, none⟩) (by simp) _, _, _, rfl, ?_, ?_⟩
        · exact HI.out.keep (by simp [World.setCell]) (fun b hb _ => hF b (Hb.out b hb).1) (fun b hb _ => ⟨by have := (Hb.out b hb).1; omega, (Hb.out b hb).2.2.2.2.same (hF b (Hb.out b hb).1)⟩)
        · refine HFC.out.keep (by simp [World.setCell]) (fun b hb _ => hF b ?_) (fun b hb _ => ?_)
          · rcases hb with hb | hb
            · exact (Hb.out b hb).1
            · exact (Hown.out b hb).1
          · rcases hb with hb | hb
            · exact ⟨by have := (Hb.out b hb).1; omega, (Hb.out b hb).2.2.2.2.same (hF b (Hb.out b hb).1)⟩
            · exact ⟨by have := (Hown.out b hb).1; omega, (Hown.out b hb).2.same (hF b (Hown.out b hb).1)⟩
end Go.Proofs.Ytocndkhgopjhhaa
