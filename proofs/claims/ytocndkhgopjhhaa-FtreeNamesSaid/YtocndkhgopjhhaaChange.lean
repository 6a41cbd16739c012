/- ftree.change: what is done at a place's parent, and the way back up. -/
import Derived.Test.YtocndkhgopjhhaaProg
import Derived.Test.YtocndkhgopjhhaaSet2
import Derived.Test.YtocndkhgopjhhaaDel1
import Derived.Test.YtocndkhgopjhhaaTreeB
import Derived.RegionTactic
import Derived.Outline
namespace Go.Proofs.Ytocndkhgopjhhaa
open Go.RowKit

/-- What is asked of the function value: that it does f at the name s. -/
def AtOk (fid : Nat) (caps : Array Value) (f : ByteArray → N → N) (s : ByteArray) (B d0 : Nat) (S : Nat → Prop) (W : World) : Prop :=
  ∀ (d : Nat) (t : N) (v : Value) (w : World), Ext W w → DirW t → Rep B S w d t v →
    Calls Try.prog fid (#[v, .int .i64 (posOf s t.names : Nat), .bool (ixFrom s 0 t.names).isSome] ++ caps) w (ChgPost (B + 1) S (d + d0) (f s t) w)

theorem ChgPost.wide {B B' : Nat} {S S' : Nat → Prop} {d d' : Nat} {t : N} {w : World} {e : Ending} {w' : World} (h : ChgPost B S d t w e w') (hB : B ≤ B') (hS : ∀ b, S b → S' b) (hd : d ≤ d') : ChgPost B' S' d' t w e w' := by
  obtain ⟨A, c, A', c', e, hx, hr⟩ := h
  exact ⟨A, c, A', c', e, hx, hr.wide hB (Below.refl _ _) (fun b h _ => h.imp (hS b) id) hd⟩

theorem atOk_set {B dx : Nat} (hB : B + 1 ≤ 2199023255552) {S : Nat → Prop} {W : World} {bx bs : Nat} {x : N} {x0 x1 x2 x3 : Value} (hb : Blk W bx 25 #[x0, x1, x2, x3]) (hx : Rep B S W dx x (.agg #[x0, x1, x2, x3])) {s : ByteArray} (hbs : Blk W bs 9 #[.string s]) (hs : s.size ≤ maxLen) :
    AtOk 139 #[.pointer (some ⟨bx, 0, none⟩), .pointer (some ⟨bs, 0, none⟩)] (N.put1 x) s B dx S W := by
  intro d t v w hW hd hr
  obtain ⟨k, tx, ns, ks⟩ := t
  have hlen : ns.length = ks.length := hd.len
  have hsd : Sorted ns := hd.sorted
  show Calls _ _ #[v, .int .i64 (posOf s ns : Nat), .bool (ixFrom s 0 ns).isSome, .pointer (some ⟨bx, 0, none⟩), .pointer (some ⟨bs, 0, none⟩)] w _
  cases hi : ixFrom s 0 ns with
  | some i =>
    have hp := ix_pos hsd hi
    have hil : i < ks.length := by have := (List.getElem?_eq_some_iff.1 ((ix_iff hsd).1 hi)).1; omega
    have e : N.put1 x s (.mk k tx ns ks) = .mk k tx ns (ks.set i x) := by unfold N.put1; rw [N.names_mk, hi]; rfl
    rw [e, hp]
    exact (set1_found (bs := bs) (by omega) hr hil (hb.ext hW) (hx.ext hW)).mono fun e w' h => h.wide (by omega) (fun _ h => h) (Nat.le_refl _)
  | none =>
    have e : N.put1 x s (.mk k tx ns ks) = .mk k tx (ns.insertIdx (posOf s ns) s) (ks.insertIdx (posOf s ns) x) := by unfold N.put1; rw [N.names_mk, hi]; rfl
    rw [e]
    exact set1_new hB hr (by have := posOf_le s ns; omega) hlen (hb.ext hW) (hx.ext hW) (hbs.ext hW) hs

set_option maxRecDepth 100000 in
theorem del1_none {B : Nat} {S : Nat → Prop} {w : World} {d : Nat} {t : N} {v : Value} (h : Rep B S w d t v) (i : Int) :
    Calls Try.prog 102 #[v, .int .i64 i, .bool false] w (ChgPost B S d t w) := by
  obtain ⟨k, tx, ns, ks⟩ := t
  have HR := Lib.hid h
  cases d with
  | zero => exact h.elim
  | succ d =>
    obtain ⟨nv, A', c', rfl, htx, hn, _⟩ := h
    obtain ⟨A, c, rfl, _⟩ := hn
    clear htx
    go_enter Try.func102, Try.ntmps102
    go_wp2_with fail
    have hbr := Blk.new' (w.alloc (.cells #[.int .u8 k, .string tx, .slice A ns.length c, .slice A' ks.length c'] 25)) 25 #[.int .u8 k, .string tx, .slice A ns.length c, .slice A' ks.length c'] (n := w.heap.size + 1) (by simp)
    have hX : Ext w ((w.alloc (.cells #[.int .u8 k, .string tx, .slice A ns.length c, .slice A' ks.length c'] 25)).alloc (.cells #[.int .u8 k, .string tx, .slice A ns.length c, .slice A' ks.length c'] 25)) := (Ext.alloc' _ _).trans' (Ext.alloc' _ _)
    refine bodyPost_ret (results_cell rfl _ _ _ _ _ _ _ rfl hbr) rfl ?_
    exact ⟨A, c, A', c', rfl, hX, HR.out.wide (Nat.le_refl _) hX (fun b h _ => .inl h) (Nat.le_refl _)⟩

theorem atOk_del {B : Nat} (hB : B ≤ 2199023255552) {S : Nat → Prop} {W : World} {s : ByteArray} : AtOk 102 #[] N.del1 s B 0 S W := by
  intro d t v w hW hd hr
  obtain ⟨k, tx, ns, ks⟩ := t
  have hlen : ns.length = ks.length := hd.len
  have hsd : Sorted ns := hd.sorted
  show Calls _ _ #[v, .int .i64 (posOf s ns : Nat), .bool (ixFrom s 0 ns).isSome] w _
  cases hi : ixFrom s 0 ns with
  | some i =>
    have hp := ix_pos hsd hi
    have hil : i < ks.length := by have := (List.getElem?_eq_some_iff.1 ((ix_iff hsd).1 hi)).1; omega
    have e : N.del1 s (.mk k tx ns ks) = .mk k tx (ns.eraseIdx i) (ks.eraseIdx i) := by unfold N.del1; rw [N.names_mk, hi]; rfl
    rw [e, hp]
    exact (del1_found hB hr hil hlen).mono fun e w' h => h.wide (by omega) (fun _ h => h) (Nat.le_refl _)
  | none =>
    have e : N.del1 s (.mk k tx ns ks) = .mk k tx ns ks := by unfold N.del1; rw [N.names_mk, hi]
    rw [e]
    exact (del1_none hr _).mono fun e w' h => h.wide (by omega) (fun _ h => h) (Nat.le_refl _)

theorem Strs.tail {B : Nat} {S : Nat → Prop} {w : World} {b o n c : Nat} {s : ByteArray} {r : List ByteArray} (h : Strs B S w (.slice (some ⟨b, o, none⟩) n c) (s :: r)) : Strs B S w (.slice (some ⟨b, o + 1, none⟩) (n - 1) (c - 1)) r := by
  obtain ⟨rfl, h1, h2, h3, h4, h5⟩ := h.at'
  obtain ⟨b', o', e, hS, hl, hc⟩ := h5 (by simp)
  injection e with e
  injection e with e1 e2
  subst e1 e2
  simp only [List.length_cons] at h1 h3 ⊢
  refine ⟨_, c - 1, by simp, by omega, by omega, by omega, fun x hx => h4 x (by simp [hx]), fun _ => ⟨b, o + 1, rfl, hS, hl, fun i x hi => ?_⟩⟩
  have := hc (i + 1) x (by simpa using hi)
  rw [show o + 1 + i = o + (i + 1) by omega]
  exact this

/-- a name's place: where it stands. -/
theorem ix_kid {t k : N} {s : ByteArray} (hd : DirW t) (hk : t.kid s = some k) : ∃ i, ixFrom s 0 t.names = some i ∧ posOf s t.names = i ∧ t.kids[i]? = some k := by
  unfold N.kid at hk
  cases hi : ixFrom s 0 t.names with
  | none => rw [hi] at hk; cases hk
  | some i => rw [hi] at hk; exact ⟨i, rfl, ix_pos hd.sorted hi, hk⟩

/-- What stands behind the store of the changed kid. -/
def ChgMid (B : Nat) (S : Nat → Prop) (d : Nat) (t : N) (W : World) (g o : Nat) (wx : World) : Prop :=
  ∃ w4 A c A' c', Ext W w4 ∧ Rep B (fun b => S b ∨ W.heap.size ≤ b) w4 d t (.agg #[.int .u8 t.kind, .string t.text, .slice A t.names.length c, .slice A' t.kids.length c']) ∧ wx = setAt4 w4 g o (.int .u8 t.kind) (.string t.text) (.slice A t.names.length c) (.slice A' t.kids.length c')

theorem RowKids.wideB {B B' : Nat} {T : Nat → Prop} {w : World} {d base : Nat} {v : Value} {ks : List N} (h : RowKids B T w d base v ks) (hB : B ≤ B') : RowKids B' T w d base v ks := by
  obtain ⟨xs, ho, hf⟩ := h
  exact ⟨xs, ho, hf.mono fun t v hr => hr.wideB hB⟩

theorem bsearch_at {B : Nat} (hB : B ≤ 35184372088832) {S : Nat → Prop} {w : World} {v : Value} {ns : List ByteArray} {s : ByteArray} {i : Nat} (h : Strs B S w v ns) (hs : Sorted ns) (hi : ixFrom s 0 ns = some i) (hp : posOf s ns = i) :
    Calls Try.prog 129 #[v, .string s] w fun e w' => e = .returned (.tuple #[.int .i64 i, .bool true]) ∧ Ext w w' := by
  refine (bsearch_any hB s h hs).mono fun e w' he => ?_
  rw [hi, hp] at he
  exact he

set_option maxRecDepth 100000 in
set_option maxHeartbeats 4000000 in
theorem change_any {fid : Nat} {caps : Array Value} {f : ByteArray → N → N} {s : ByteArray} {B d0 : Nat} {S : Nat → Prop} {W : World} (hB : B + 1 ≤ 2199023255552) (hS : ∀ b, S b → b < W.heap.size) (hat : AtOk fid caps f s B d0 S W)
    (hf : (fid = 139 ∧ ∃ a b, caps = #[.pointer a, .pointer b]) ∨ (fid = 102 ∧ caps = #[])) : ∀ (q : List ByteArray) {d : Nat} {t : N} {v pv : Value} {w : World} {Bp : Nat} {Sp : Nat → Prop}, Ext W w → t.well = true → OpenP t (q ++ [s]) → Rep B S w d t v → Strs Bp Sp w pv (q ++ [s]) →
      Calls Try.prog 101 #[v, pv, .func (.func fid) #[] caps] w (ChgPost (B + 1) S (d + d0) (N.chg f (q ++ [s]) t) w) := by
  intro q
  induction q with
  | nil =>
    intro d t v pv w Bp Sp hW hw ho hr hp
    rw [List.nil_append] at ho hp ⊢
    rw [N.chg_one]
    have hd := DirW.of hw ho
    obtain ⟨k, tx, ns, ks⟩ := t
    have HD := Lib.hid hd
    have HR := Lib.hid hr
    have HP := Lib.hid hp
    have HW := Lib.hid hW
    have HAT := Lib.hid hat
    have Hsd : Hid (Sorted ns) := Lib.hid hd.sorted
    cases d with
    | zero => exact hr.elim
    | succ d =>
      obtain ⟨nv, kv, rfl, htx, hn, hk⟩ := hr.split
      have HN := Lib.hid hn
      have HK := Lib.hid hk
      have hnB : ns.length ≤ 4 * B := by obtain ⟨_, _, _, _, _, h, _⟩ := hn; exact h
      obtain ⟨A', c', rfl, hc, hm, hl, _⟩ := hk
      obtain ⟨A, c, rfl, _⟩ := hn
      obtain ⟨Ap, cp, rfl, _, _, _, _, hpc⟩ := hp
      obtain ⟨bp, op, rfl, _, hbp, hpc⟩ := hpc (by simp)
      have p0 : w.cell? ⟨bp, op, none⟩ = some (.string s) := by simpa using hpc 0 s rfl
      have HB0 := Lib.hid ((Blk.new w 25 #[.int .u8 k, .string tx, .slice A ns.length c, .slice A' ks.length c']).alloc (.cells #[.int .u8 0, .string { data := #[] }, .slice none 0 0, .slice none 0 0] 25))
      have hu : ∀ u : Up ((w.alloc (.cells #[.int .u8 k, .string tx, .slice A ns.length c, .slice A' ks.length c'] 25)).alloc (.cells #[.int .u8 0, .string { data := #[] }, .slice none 0 0, .slice none 0 0] 25)), u.val.cell? ⟨bp, op, none⟩ = some (.string s) ∧ u.val.cell? ⟨w.heap.size, 2, none⟩ = some (.slice A ns.length c) := fun u =>
        ⟨((((Ext.alloc' w _).trans' (Ext.alloc' _ _)).trans' u.ext).cell (p := ⟨bp, op, none⟩) hbp).trans p0, (HB0.out.up u).cell 2⟩
      clear hW hw ho hr hd htx hpc hc hm hat
      rcases hf with ⟨rfl, a1, a2, rfl⟩ | ⟨rfl, rfl⟩
      all_goals
        go_enter Try.func101, Try.ntmps101
        go_wp2_with fail
        refine wp_region_up0 (by kernel_rfl) (by kernel_rfl) ?_
        repeat (go_big_quiet_step ((go_at_call 129; exact Calls.up (bsearch_any (by omega) s (((HN.out.alloc _).alloc _).up _) Hsd.out))))
        clear hu
        refine wpQuiet_nil ?_
        rintro _ ⟨u1, rfl⟩
        have HB1 := Lib.hid (HB0.out.up u1)
        have HX1 := Lib.hid (((Ext.alloc' w _).trans' (Ext.alloc' _ _)).trans' u1.ext)
        have HZ1 := Lib.hid ((Blk.new' (w.alloc (.cells #[.int .u8 k, .string tx, .slice A ns.length c, .slice A' ks.length c'] 25)) 25 #[.int .u8 0, .string { data := #[] }, .slice none 0 0, .slice none 0 0] (n := w.heap.size + 1) (by simp)).up u1)
        obtain ⟨q0, q1, q2, q3, e0, e1, e2, e3⟩ := HB1.out.cells4
        obtain ⟨r0, r1, r2, r3, g0, g1, g2, g3⟩ := HZ1.out.cells4
        have hx1z := HZ1.out.lt
        go_wp2_with fail
        refine (HAT.out (d + 1) (.mk k tx ns ks) _ _ (HW.out.trans' HX1.out) HD.out (HR.out.ext HX1.out)).mono ?_
        rintro e w2 ⟨A2, c2, A2', c2', rfl, hx2, hr2⟩
        have HX2 := Lib.hid (HX1.out.trans' hx2)
        have HR2 := Lib.hid hr2
        have HZ2 := Lib.hid (HZ1.out.ext hx2)
        have hz2 := HX1.out.size
        clear hx2 hr2 q0 q1 q2 q3 e0 e1 e2 e3 r0 r1 r2 r3 g0 g1 g2 g3
        obtain ⟨r0, r1, r2, r3, g0, g1, g2, g3⟩ := HZ2.out.cells4
        go_wp2_with fail
        have hX3 : Ext w (set4 w2 (w.heap.size + 1) (.int .u8 (f s (.mk k tx ns ks)).kind) (.string (f s (.mk k tx ns ks)).text) (.slice A2 (f s (.mk k tx ns ks)).names.length c2) (.slice A2' (f s (.mk k tx ns ks)).kids.length c2')) := HX2.out.set4 (by omega) _ _ _ _
        refine bodyPost_ret (results_cell rfl _ _ _ _ _ _ _ rfl (HZ2.out.set4 _ _ _ _)) rfl ⟨A2, c2, A2', c2', rfl, hX3, ?_⟩
        refine Rep.keep (w := w2) (S := fun b => S b ∨ u1.val.heap.size ≤ b) ?_ (fun b h _ => ?_) (fun b h _ => h.imp id fun h => by omega) _ _ _ HR2.out
        · show w2.heap.size ≤ (set4 w2 (w.heap.size + 1) _ _ _ _).heap.size
          rw [size_set4]; exact Nat.le_refl _
        · refine heap_set4 w2 (w.heap.size + 1) _ _ _ _ ?_
          have h1 := HW.out.size
          rcases h with h | h
          · have := hS b h; omega
          · omega
  | cons a q ih =>
    intro d t v pv w Bp Sp hW hw ho hr hp
    have ho' : OpenP t (a :: (q ++ [s])) := ho
    have hp' : Strs Bp Sp w pv (a :: (q ++ [s])) := hp
    obtain ⟨b, r, hbr⟩ : ∃ b r, q ++ [s] = b :: r := by
      cases h : q ++ [s] with
      | nil => simp at h
      | cons b r => exact ⟨b, r, rfl⟩
    obtain ⟨hk2, kd, hkd, hok⟩ : t.kind = 2 ∧ ∃ k, t.kid a = some k ∧ OpenP k (q ++ [s]) := by
      rw [hbr] at ho' ⊢
      exact ho'
    have hd := DirW.of hw hk2
    have hkk := hok.kind
    have hch : N.chg f (a :: q ++ [s]) t = N.put1 (N.chg f (q ++ [s]) kd) a t := by
      show N.chg f (a :: (q ++ [s])) t = _
      rw [hbr]; exact N.chg_step hd hkd hkk
    rw [hch]
    obtain ⟨i, hix, hpos, hki⟩ := ix_kid hd hkd
    have hput : N.put1 (N.chg f (q ++ [s]) kd) a t = .mk t.kind t.text t.names (t.kids.set i (N.chg f (q ++ [s]) kd)) := by unfold N.put1; rw [hix]
    rw [hput]
    have hkw := hd.kid_well hkd
    obtain ⟨k, tx, ns, ks⟩ := t
    have HW := Lib.hid hW
    have HIX := Lib.hid (show ixFrom a 0 ns = some i from hix)
    have HPOS := Lib.hid (show posOf a ns = i from hpos)
    have HOK := Lib.hid hok
    have HKW := Lib.hid hkw
    have HKK := Lib.hid hkk
    have Hsd : Hid (Sorted ns) := Lib.hid hd.sorted
    have hki : ks[i]? = some kd := hki
    show Calls Try.prog 101 #[v, pv, .func (.func fid) #[] caps] w (ChgPost (B + 1) S (d + d0) (.mk k tx ns (ks.set i (N.chg f (q ++ [s]) kd))) w)
    have hil : i < ks.length := (List.getElem?_eq_some_iff.1 hki).1
    have hql : 0 < (q ++ [s]).length := by simp
    have HQL := Lib.hid hql
    have hpl : (a :: (q ++ [s])).length = (q ++ [s]).length + 1 := rfl
    have Hbr := Lib.hid hbr
    clear ho ho' hp hch hput hix hpos hok hkw hd hk2 hkd hW hw hbr
    cases d with
    | zero => exact hr.elim
    | succ d =>
      obtain ⟨nv, kv, rfl, htx, hn, hk⟩ := hr.split
      have HN := Lib.hid hn
      have HK := Lib.hid hk
      have HR := Lib.hid hr
      have Htx := Lib.hid htx
      have hnB : ns.length ≤ 4 * B := by obtain ⟨_, _, _, _, _, h, _⟩ := hn; exact h
      have HKS := Lib.hid (hk.keep (S' := fun b => S b ∧ b < w.heap.size) (Nat.le_refl _) (fun _ _ _ => rfl) (fun b h hl => ⟨h, hl⟩))
      obtain ⟨A', c', rfl, hc, hm, hl, hkc⟩ := hk
      obtain ⟨bk, ok, rfl, _, hbk, hkc⟩ := hkc (by omega)
      obtain ⟨y0, y1, y2, y3, hy0, hy1, hy2, hy3, hyr⟩ := hkc i kd hki
      obtain ⟨Ay, cy, Ay', cy', rfl, rfl, rfl, rfl⟩ := hyr.shape
      rw [HKK.out] at hy0 hyr
      have HYR := Lib.hid hyr
      clear hyr
      obtain ⟨A, c, rfl, _⟩ := hn
      have HP := Lib.hid hp'
      obtain ⟨Ap, cp, rfl, hcp, hcm, _, _, hpc⟩ := hp'
      obtain ⟨bp, op, rfl, _, hbp, hpc⟩ := hpc (by simp)
      have HPT := Lib.hid HP.out.tail
      rw [hpl] at hcp HPT ⊢
      rw [Nat.add_sub_cancel] at HPT
      have p0 : w.cell? ⟨bp, op, none⟩ = some (.string a) := by simpa using hpc 0 a rfl
      have HB0 := Lib.hid ((Blk.new w 25 #[.int .u8 k, .string tx, .slice A ns.length c, .slice (some ⟨bk, ok, none⟩) ks.length c']).alloc (.cells #[.int .u8 0, .string { data := #[] }, .slice none 0 0, .slice none 0 0] 25))
      have hu : ∀ u : Up ((w.alloc (.cells #[.int .u8 k, .string tx, .slice A ns.length c, .slice (some ⟨bk, ok, none⟩) ks.length c'] 25)).alloc (.cells #[.int .u8 0, .string { data := #[] }, .slice none 0 0, .slice none 0 0] 25)), u.val.cell? ⟨bp, op, none⟩ = some (.string a) ∧ u.val.cell? ⟨w.heap.size, 2, none⟩ = some (.slice A ns.length c) := fun u =>
        ⟨((((Ext.alloc' w _).trans' (Ext.alloc' _ _)).trans' u.ext).cell (p := ⟨bp, op, none⟩) hbp).trans p0, (HB0.out.up u).cell 2⟩
      generalize (q ++ [s]).length = pl at hql hcp HPT hpl HQL ⊢
      clear htx hpc hkc hr hpl HP
      unfold maxLen at hm hcm
      go_enter Try.func101, Try.ntmps101
      go_wp2_with fail
      refine wp_region_up0 (by kernel_rfl) (by kernel_rfl) ?_
      repeat (go_big_quiet_step ((go_at_call 129; exact Calls.up (bsearch_at (by omega) (((HN.out.alloc _).alloc _).up _) Hsd.out HIX.out HPOS.out))))
      clear hu
      refine wpQuiet_nil ?_
      rintro _ ⟨u1, rfl⟩
      have hb1 := HB0.out.up u1
      have hx1 := ((Ext.alloc' w _).trans' (Ext.alloc' _ _)).trans' u1.ext
      have hz1 := (Blk.new' (w.alloc (.cells #[.int .u8 k, .string tx, .slice A ns.length c, .slice (some ⟨bk, ok, none⟩) ks.length c'] 25)) 25 #[.int .u8 0, .string { data := #[] }, .slice none 0 0, .slice none 0 0] (n := w.heap.size + 1) (by simp)).up u1
      obtain ⟨u2, hu2⟩ : ∃ u2, u2 = u1.val := ⟨_, rfl⟩
      rw [← hu2] at hb1 hx1 hz1 ⊢
      clear hu2 u1
      have HB1 := Lib.hid hb1
      have HX1 := Lib.hid hx1
      have HZ1 := Lib.hid hz1
      have y0 := (hx1.cell (p := ⟨bk, ok + i * 4, none⟩) hbk).trans hy0
      obtain ⟨q0, q1, q2, q3, e0, e1, e2, e3⟩ := hb1.cells4
      clear hb1 hx1 hz1
      go_wp2_with fail
      refine (cloneN_any (by omega) (HKS.out.ext' HX1.out)).mono ?_
      rintro e w2 ⟨A2, c2, rfl, hrow, hx2⟩
      obtain ⟨xs, ho, hf⟩ := hrow
      rcases ho.2 with ⟨e, hn⟩ | ⟨g, cap, cur, e, h3, h4, hnc, hcm', h5⟩
      · omega
      injection e with e1 _ e2
      subst e1 e2
      have hgl : g < w2.heap.size := (ownsRow_lt ho (g := g) rfl).2
      have hb2 := HB1.out.ext hx2
      have hz2 := HZ1.out.ext hx2
      have hu2z := HZ1.out.lt
      obtain ⟨q0, q1, q2, q3, e0, e1, e2, e3⟩ := hb2.cells4
      obtain ⟨W3, hW3⟩ : ∃ W3, W3 = w2.setCell ⟨w.heap.size, 3, none⟩ (.slice (some ⟨g, 0, none⟩) ks.length c2) := ⟨_, rfl⟩
      have hb3 : Blk W3 w.heap.size 25 #[.int .u8 k, .string tx, .slice A ns.length c, .slice (some ⟨g, 0, none⟩) ks.length c2] := by rw [hW3]; exact hb2.set3 _
      have hz3 : Blk W3 (w.heap.size + 1) 25 #[.int .u8 0, .string { data := #[] }, .slice none 0 0, .slice none 0 0] := by rw [hW3]; exact hz2.far (by simp) _
      have hx3 : Ext w W3 := by rw [hW3]; exact (HX1.out.trans' hx2).set1 (Nat.le_refl _) _
      have hgW : g < W3.heap.size := by rw [hW3]; simpa [World.setCell] using hgl
      have hr3 : RowKids B (fun b => S b ∧ b < w.heap.size) W3 d u2.heap.size (.slice (some ⟨g, 0, none⟩) ks.length c2) ks := by
        rw [hW3]
        refine RowKids.keep (w := w2) (T := fun b => S b ∧ b < w.heap.size) ⟨xs, ho, hf⟩ (by simp [World.setCell]) (fun b h _ => Below.heap_setCell _ _ _ _ (by have := h.2; simp; omega)) (fun b h _ => h) (fun g' h => Below.heap_setCell _ _ _ _ ?_)
        simp [Value.ownBlock] at h
        subst h
        simp; omega
      have HB3 := Lib.hid hb3
      have HZ3 := Lib.hid hz3
      have HX3 := Lib.hid hx3
      have HR3 := Lib.hid hr3
      have HW3 := Lib.hid hW3
      clear hb2 hz2 hb3 hz3 hx3 hr3 ho hf h4 h5 hx2 hW3
      go_wp2_with fail
      rw [← HW3.out]
      clear q0 q1 q2 q3 e0 e1 e2 e3
      obtain ⟨q0, q1, q2, q3, e0, e1, e2, e3⟩ := HB3.out.cells4
      obtain ⟨xs3, ho3, hf3⟩ := HR3.out
      obtain ⟨v0, v1, v2, v3, a0, a1, a2, a3, hr3⟩ := hf3.at_ i kd hki
      obtain ⟨Ak, ck, Ak', ck', rfl, rfl, rfl, rfl⟩ := hr3.shape
      rw [HKK.out] at a0 hr3
      have o0 := ho3.cellAt (i * 4) (by omega)
      have o1 := ho3.cellAt (i * 4 + 1) (by omega)
      have o2 := ho3.cellAt (i * 4 + 2) (by omega)
      have o3 := ho3.cellAt (i * 4 + 3) (by omega)
      rw [a0] at o0
      rw [a1] at o1
      rw [a2] at o2
      rw [a3] at o3
      have z0 := ho3.frozenAt (i * 4)
      have z1 := ho3.frozenAt (i * 4 + 1)
      have z2 := ho3.frozenAt (i * 4 + 2)
      have z3 := ho3.frozenAt (i * 4 + 3)
      have hwW := HB3.out.lt
      have HRK := Lib.hid hr3
      clear ho3 hf3 a0 a1 a2 a3 hr3
      have HX3d := Lib.hid (show Ext w W3.drew from HX3.out.trans' ⟨rfl, rfl, rfl, Nat.le_refl _, fun _ _ => rfl⟩)
      have HRKd := Lib.hid (show Rep B S W3.drew d kd _ from HRK.out.wide (Nat.le_refl _) (w' := W3.drew) ⟨rfl, rfl, rfl, Nat.le_refl _, fun _ _ => rfl⟩ (fun b h _ => h.1) (Nat.le_refl _))
      go_cut [] (fun wx => ChgMid (B + 1) S (d + d0) (N.chg f (q ++ [s]) kd) W3 g (i * 4) wx)
      case first =>
        go_region_with (go_at_call 101; (with_reducible refine (ih (d := d) (HW.out.trans' HX3d.out) HKW.out HOK.out HRKd.out (HPT.out.ext HX3d.out)).mono ?_); rintro e w4 ⟨A4, c4, A4', c4', rfl, hx4, hr4⟩; have HX4 := Lib.hid hx4; have HR4 := Lib.hid hr4; have c30 := (hx4.cell (p := ⟨w.heap.size, 3, none⟩) hwW).trans q3; have c0 := (hx4.cell (p := ⟨g, i * 4, none⟩) hgW).trans o0; have c1 := (hx4.cell (p := ⟨g, i * 4 + 1, none⟩) hgW).trans o1; have c2' := (hx4.cell (p := ⟨g, i * 4 + 2, none⟩) hgW).trans o2; have c3 := (hx4.cell (p := ⟨g, i * 4 + 3, none⟩) hgW).trans o3; have k0 := (hx4.frozen (p := ⟨g, i * 4, none⟩) hgW).trans z0; have k1 := (hx4.frozen (p := ⟨g, i * 4 + 1, none⟩) hgW).trans z1; have k2 := (hx4.frozen (p := ⟨g, i * 4 + 2, none⟩) hgW).trans z2; have k3 := (hx4.frozen (p := ⟨g, i * 4 + 3, none⟩) hgW).trans z3; clear hx4 hr4)
        all_goals
          go_wp2_with fail
          go_meet
          case rel => exact ⟨_, A4, c4, A4', c4', (show Ext W3 _ from ⟨HX4.out.os, HX4.out.tape, HX4.out.output, HX4.out.size, HX4.out.block⟩), HR4.out, rfl⟩
      case rest =>
        obtain ⟨w4, A4, c4, A4', c4', hx4, hr4, rfl⟩ := hcut
        have HX4 := Lib.hid hx4
        have HR4 := Lib.hid hr4
        have HZ4 := Lib.hid (HZ3.out.ext hx4)
        have HB4 := Lib.hid (HB3.out.ext hx4)
        clear hx4 hr4 o0 o1 o2 o3 q0 q1 q2 q3 e0 e1 e2 e3 z0 z1 z2 z3
        have hb5 := HB4.out.farAt4 (g' := g) (o := i * 4) (by omega) (.int .u8 (N.chg f (q ++ [s]) kd).kind) (.string (N.chg f (q ++ [s]) kd).text) (.slice A4 (N.chg f (q ++ [s]) kd).names.length c4) (.slice A4' (N.chg f (q ++ [s]) kd).kids.length c4')
        have hz5 := HZ4.out.farAt4 (g' := g) (o := i * 4) (by omega) (.int .u8 (N.chg f (q ++ [s]) kd).kind) (.string (N.chg f (q ++ [s]) kd).text) (.slice A4 (N.chg f (q ++ [s]) kd).names.length c4) (.slice A4' (N.chg f (q ++ [s]) kd).kids.length c4')
        obtain ⟨q0, q1, q2, q3, e0, e1, e2, e3⟩ := hb5.cells4
        obtain ⟨r0, r1, r2, r3, g0, g1, g2, g3⟩ := hz5.cells4
        have HZ5 := Lib.hid hz5
        obtain ⟨W5, hW5⟩ : ∃ W5, W5 = setAt4 w4 g (i * 4) (.int .u8 (N.chg f (q ++ [s]) kd).kind) (.string (N.chg f (q ++ [s]) kd).text) (.slice A4 (N.chg f (q ++ [s]) kd).names.length c4) (.slice A4' (N.chg f (q ++ [s]) kd).kids.length c4') := ⟨_, rfl⟩
        rw [← hW5] at q0 q1 q2 q3 e0 e1 e2 e3 r0 r1 r2 r3 g0 g1 g2 g3 HZ5 ⊢
        have HW5 := Lib.hid hW5
        clear hb5 hz5 hW5
        go_wp2_with fail
        have hWw := HW.out.size
        have hW3z := HB3.out.lt
        have hu3 : u2.heap.size ≤ g := by assumption
        have hwz1 := HZ3.out.lt
        have hx5 : Ext w W5 := by rw [HW5.out]; exact (HX3.out.trans' HX4.out).setAt4 (by omega) _ _ _ _ _
        have hX6 : Ext w (set4 W5 (w.heap.size + 1) (.int .u8 k) (.string tx) (.slice A ns.length c) (.slice (some ⟨g, 0, none⟩) ks.length c2)) := hx5.set4 (by omega) _ _ _ _
        have hbr := HZ5.out.set4 (.int .u8 k) (.string tx) (.slice A ns.length c) (.slice (some ⟨g, 0, none⟩) ks.length c2)
        refine bodyPost_ret (results_cell rfl _ _ _ _ _ _ _ rfl hbr) rfl ⟨A, c, _, _, by rw [N.kids_mk, List.length_set]; rfl, hX6, ?_⟩
        rw [N.kids_mk, List.length_set, show d + 1 + d0 = (d + d0) + 1 by omega]
        refine Rep.join Htx.out (HN.out.wide (by omega) hX6 (fun b h _ => .inl h)) ?_
        have r1 := (HR3.out.wideB (Nat.le_succ B)).keep (F := w4) (T' := fun b => S b ∧ b < w.heap.size) HX4.out.size (fun b h hl => HX4.out.block b hl) (fun b h _ => h) (fun g' h => by
          simp [Value.ownBlock] at h
          subst h
          exact HX4.out.block _ hgW)
        have r2 := r1.set (F := W5) (x := N.chg f (q ++ [s]) kd) (T' := fun b => (S b ∧ b < w.heap.size) ∨ W3.heap.size ≤ b) (d' := d + d0) rfl hil HW5.out (fun b h _ => ⟨.inl h, by have := h.2; omega⟩) (by omega) (by
          rw [HW5.out]
          refine Rep.keep (by rw [size_setAt4]; exact Nat.le_refl _) (fun b h _ => heap_setAt4 _ _ _ _ _ _ _ ?_) (fun b h _ => ?_) _ _ _ HR4.out
          · rcases h with h | h
            · have := hS b h; omega
            · omega
          · rcases h with h | h
            · have := hS b h
              exact .inl ⟨h, by omega⟩
            · exact .inr h)
        have r3 := r2.keep (F := set4 W5 (w.heap.size + 1) (.int .u8 k) (.string tx) (.slice A ns.length c) (.slice (some ⟨g, 0, none⟩) ks.length c2)) (T' := fun b => (S b ∧ b < w.heap.size) ∨ W3.heap.size ≤ b)
          (by rw [size_set4]; exact Nat.le_refl _) (fun b h _ => heap_set4 _ _ _ _ _ _ (by rcases h with h | h <;> omega)) (fun b h _ => h) (fun g' h => heap_set4 _ _ _ _ _ _ (by simp [Value.ownBlock] at h; omega))
        exact r3.kids (B' := B + 1) (T' := fun b => S b ∨ w.heap.size ≤ b) (by rw [List.length_set]; omega) (Nat.le_refl _) (fun b h => h.elim (fun h => .inl h.1) (fun h => .inr (by omega))) (fun b h => .inr (by omega))
end Go.Proofs.Ytocndkhgopjhhaa
