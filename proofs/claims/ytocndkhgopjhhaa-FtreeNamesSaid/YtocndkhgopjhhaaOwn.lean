import Derived.Test.YtocndkhgopjhhaaProg
import Derived.Test.YtocndkhgopjhhaaBase
import Derived.Test.YtocndkhgopjhhaaLibs
namespace Go.Proofs.Ytocndkhgopjhhaa
open Go.RowKit

theorem node_info : (Try.prog.info? 25).map (fun i => (i.zero, i.size, i.bytes)) = some (some (.agg #[.int .u8 0, .string { data := #[] }, .slice none 0 0, .slice none 0 0]), 4, 72) := by kernel_rfl
theorem string_info : (Try.prog.info? 9).map (fun i => (i.zero, i.size, i.bytes)) = some (some (.string { data := #[] }), 1, 16) := by kernel_rfl

theorem cloneS_any {B : Nat} (hB : B ≤ 8796093022208) {S : Nat → Prop} {w : World} {v : Value} {ns : List ByteArray} (h : Strs B S w v ns) :
    Calls Try.prog 104 #[v] w fun e w' => ∃ A c, e = .returned (.slice A ns.length c) ∧ OwnStrs w' w.heap.size (.slice A ns.length c) ns ∧ Ext w w' := by
  obtain ⟨A, c, rfl, hc, hm, hl, _, g⟩ := h
  have fin : ∀ (e : Ending) (w' : World) (v' : Value), e = .returned v' → OwnStrs w' w.heap.size v' ns → Ext w w' → ∃ A c, e = .returned (.slice A ns.length c) ∧ OwnStrs w' w.heap.size (.slice A ns.length c) ns ∧ Ext w w' := by
    intro e w' v' he ho hx
    rcases ho.2 with ⟨rfl, hn⟩ | ⟨g, cap, cur, rfl, _⟩
    · exact ⟨none, 0, by rw [he, hn], by rw [hn]; exact ho, hx⟩
    · exact ⟨_, cap, he, ho, hx⟩
  by_cases hz : ns.length = 0
  · have e := List.eq_nil_of_length_eq_zero hz
    subst e
    cases A with
    | none =>
      refine (Try.slices_Clone_string_nil 0 c w).mono ?_
      rintro e w' ⟨rfl, rfl⟩
      exact fin _ _ _ rfl (World.ownsRow_nil _ _ _ _) (Below.refl _ _)
    | some a =>
      refine (Try.slices_Clone_string_zero a c w).mono ?_
      rintro e w' ⟨v', rfl, ho, _, hx⟩
      exact fin _ _ _ rfl ho hx
  · obtain ⟨b, o, rfl, _, _, k⟩ := g (by omega)
    refine (Try.slices_Clone_string b o ns.length c ns w (Nat.le_refl _) (by omega) (fun j hj => k j _ (by simp [List.getD, List.getElem?_eq_getElem hj]))).mono ?_
    rintro e w' ⟨v', rfl, ho, _, hx⟩
    rw [List.take_length] at ho
    exact fin _ _ _ rfl ho hx

set_option maxRecDepth 100000 in
set_option maxHeartbeats 2000000 in
theorem own_any (B : Nat) (hB : B ≤ 2199023255552) (S : Nat → Prop) (d : Nat) : ∀ (t : N) (v : Value) (w : World), Rep B S w d t v →
    Calls Try.prog 89 #[v] w (OwnPost B d t w) := by
  obtain ⟨i0, hi0, hz0, hz1, hz2⟩ := info_parts node_info
  have HI := Lib.hid hi0
  have HZ0 := Lib.hid hz0
  have HZ1 := Lib.hid hz1
  have HZ2 := Lib.hid hz2
  clear hi0 hz0 hz1 hz2
  induction d with
  | zero => intro t v w h; exact h.elim
  | succ d ih =>
    rintro ⟨k, tx, ns, ks⟩ v w ⟨nv, A, c, rfl, htx, hn, hc, hm, hBk, hk⟩
    have HN := Lib.hid hn
    obtain ⟨An, cn, rfl, hcn, hmn, hBn, hsn, hns⟩ := hn
    have Htx := Lib.hid htx
    have Hsn := Lib.hid hsn
    have HBn := Lib.hid hBn
    clear hns hsn htx hcn hmn hBn
    unfold maxLen at hm
    go_enter Try.func89, Try.ntmps89
    go_wp2_with fail
    refine (cloneS_any (by omega) ((HN.out.alloc _).alloc _)).mono ?_
    rintro e w1 ⟨An', cn', rfl, hon, hx1⟩
    have Hon := Lib.hid hon
    have Hx1 := Lib.hid hx1
    obtain ⟨hcx, hfx⟩ := hx1.rules
    have hzx := hx1.size
    simp only [World.size_alloc] at hcx hfx hzx
    have hzx0 : w.heap.size < w1.heap.size := by omega
    have hzx1 : w.heap.size + 1 < w1.heap.size := by omega
    clear hon hx1
    go_wp2_with fail
    have hbx0 := (((Blk.new w 25 #[.int .u8 k, .string tx, .slice An ns.length cn, .slice A ks.length c]).alloc (.cells #[.int .u8 0, .string { data := #[] }, .slice none 0 0, .slice none 0 0] 25)).ext Hx1.out).set2 (.slice An' ns.length cn')
    have hbx1 := ((Blk.new' (w.alloc (.cells #[.int .u8 k, .string tx, .slice An ns.length cn, .slice A ks.length c] 25)) 25 #[.int .u8 0, .string { data := #[] }, .slice none 0 0, .slice none 0 0] (n := w.heap.size + 1) (by simp)).ext Hx1.out).far (p := ⟨w.heap.size, 2, none⟩) (by simp) (.slice An' ns.length cn')
    have hX1 : Ext w (w1.setCell ⟨w.heap.size, 2, none⟩ (.slice An' ns.length cn')) := (((Ext.alloc' _ _).trans' (Ext.alloc' _ _)).trans' Hx1.out).set1 (Nat.le_refl _) _
    have HS1 := Lib.hid (OwnStrs.strs Hon.out HBn.out Hsn.out)
    have hon1 : ∀ g, (Value.slice An' ns.length cn').ownBlock = some g → w.heap.size + 2 ≤ g ∧ g < w1.heap.size ∧ Nfz w1 g := fun g hg => ⟨by simpa using (ownsRow_lt Hon.out hg).1, (ownsRow_lt Hon.out hg).2, ownsRow_nfz Hon.out hg⟩
    have HB0 := Lib.hid hbx0
    have HB1 := Lib.hid hbx1
    have HX1 := Lib.hid hX1
    have HO1 := Lib.hid hon1
    clear hbx0 hbx1 hX1 hon1
    go_loopw [3, 13] (fun x i wr => ∃ (j : Nat) (T : Nat → Prop) (kA : Option Addr) (kc : Nat), j ≤ ks.length ∧ i = .int .i64 j ∧ x = .slice kA j kc ∧ Ext w wr ∧
        Blk wr w.heap.size 25 #[.int .u8 k, .string tx, .slice An' ns.length cn', .slice A ks.length c] ∧ Blk wr (w.heap.size + 1) 25 #[.int .u8 0, .string { data := #[] }, .slice none 0 0, .slice none 0 0] ∧
        Strs (4 * B) T wr (.slice An' ns.length cn') ns ∧ OwnKids B T wr d (w.heap.size + 2) (.slice kA j kc) (ks.take j) ∧ (∀ b, T b → w.heap.size + 2 ≤ b ∧ b < wr.heap.size ∧ Nfz wr b)) (fun _ i _ => ks.length - (intOf i).toNat)
    case atStart =>
      refine ⟨0, fun b => (Value.slice An' ns.length cn').ownBlock = some b, none, 0, Nat.zero_le _, rfl, rfl, HX1.out, HB0.out, HB1.out, ?_, OwnKids.nil, fun b hb => ?_⟩
      · refine HS1.out.keep (by simp [World.setCell]) (fun b hb hl => Below.heap_setCell _ _ _ _ ?_) (fun _ h _ => h)
        have := HO1.out b hb; simp; omega
      · have h1 := HO1.out b hb
        exact ⟨h1.1, by simp [World.setCell]; omega, h1.2.2.same (Below.heap_setCell _ _ _ _ (by simp; omega))⟩
    case round =>
      obtain ⟨j, T, kA, kc, hj, rfl, rfl, hx, hb0, hb1, hst, ⟨xs, ho, hT, hkk⟩, hlt⟩ := hrel
      have Hx := Lib.hid hx
      have Hb0 := Lib.hid hb0
      have Hb1 := Lib.hid hb1
      have Hst := Lib.hid hst
      have Ho := Lib.hid ho
      have HT := Lib.hid hT
      have Hkk := Lib.hid hkk
      have Hlt := Lib.hid hlt
      obtain ⟨hcy, hfy⟩ := hx.rules
      have hzy := hb1.lt
      obtain ⟨p0, p1, p2, p3, f0, f1, f2, f3⟩ := hb0.cells4
      obtain ⟨r0, r1, r2, r3, g0, g1, g2, g3⟩ := hb1.cells4
      have hzy0 : w.heap.size < wr.heap.size := by omega
      clear hx hb0 hb1 hst ho hT hkk hlt hcx hfx
      by_cases hjl : j < ks.length
      · obtain ⟨b, o, rfl, hS, hbs, hcell⟩ := hk (by omega)
        have hbs' : b < wr.heap.size := by omega
        obtain ⟨v0, v1, v2, v3, c0, c1, c2, c3, hr⟩ := hcell j _ (List.getElem?_eq_getElem hjl)
        obtain ⟨_, _, _, _, rfl, rfl, rfl, rfl⟩ := hr.shape
        have Hr := Lib.hid hr
        clear hcell hr
        go_wp2_with fail
        refine (ih _ _ _ ((Hr.out.ext Hx.out).alloc _)).mono ?_
        rintro e w2 ⟨A1, c1', A2, c2', rfl, hx2, hr2⟩
        have Hx2 := Lib.hid hx2
        have Hr2 := Lib.hid hr2
        have hz2 := hx2.size
        simp only [World.size_alloc] at hz2
        clear hx2 hr2
        have htl : (ks.take j).length = j := by rw [List.length_take]; omega
        have hBj : j + 1 ≤ 2199023255552 := by omega
        have hbs2 : w.heap.size + 2 ≤ w2.heap.size := by omega
        have ho2 : ∀ X, (w2.alloc X).ownsRow (w.heap.size + 2) 25 4 (.slice kA j kc) j xs := fun X => by
          have h := Ho.out
          rw [htl] at h
          refine ownsRow_ext h fun g hg => ?_
          have hl := (ownsRow_lt h hg).2
          rw [Below.heap_alloc _ _ _ (by omega), Hx2.out.block g (by simp; omega), Below.heap_alloc _ _ _ hl]
        have HO2 := Lib.hid ho2
        clear ho2
        go_wp2_with (at_builtin; refine wpList_app _ rfl (.tmp 17) (.tmp 20) _ rfl (w.heap.size + 2) 25 i0 _ 4 72 Try.underlying23 HI.out HZ0.out HZ1.out HZ2.out rfl (by omega) (.slice kA j kc) j xs rfl (HO2.out _) (some ⟨w2.heap.size, 0, none⟩) 1 1 [_, _, _, _] rfl rfl (fun _ => ⟨_, rfl, cells4_new _ _ _ _ _ _⟩) (by simp [Value.oneCell']) (by simp only [maxLen]; omega) (by omega) (by simp; omega) ?_; intro v' w3 ho' hg' hat')
        obtain ⟨A3, c3', rfl⟩ := ownsRow_form ho'
        go_roundw
        case rel =>
          obtain ⟨T', q1, q2, q3, q4, q5⟩ := round_push (w := w) (List.getElem?_eq_getElem hjl) (by omega) (by omega) Hx.out Ho.out HT.out Hkk.out Hlt.out ((Ext.alloc' _ _).trans' Hx2.out) (fun b hb => ⟨by have := hb.1; simp at this; omega, hb.2⟩) Hr2.out ho' hg' hat'
          exact ⟨j + 1, T', A3, c3', by omega, by go_num, rfl, q1, q2 _ _ _ (by omega) Hb0.out, q2 _ _ _ (by omega) Hb1.out, q3 _ _ _ Hst.out, q4, q5⟩
        case measure => simp [intOf]; omega
      · have hjj : j = ks.length := by omega
        subst hjj
        clear hjl
        go_wp2_with fail
        refine bodyPost_ret (results_cell rfl _ _ _ _ _ _ _ rfl ((Hb1.out.far (p := ⟨w.heap.size, 3, none⟩) (by simp) _).set4 _ _ _ _)) rfl ?_
        have hX : Ext w (set4 (wr.setCell ⟨w.heap.size, 3, none⟩ (.slice kA ks.length kc)) (w.heap.size + 1) (.int .u8 k) (.string tx) (.slice An' ns.length cn') (.slice kA ks.length kc)) := ((Hx.out.set1 (p := ⟨w.heap.size, 3, none⟩) (Nat.le_refl _) _).set4 (by omega) _ _ _ _)
        have hok : OwnKids B T wr d (w.heap.size + 2) (.slice kA ks.length kc) ks := by
          have : OwnKids B T wr d (w.heap.size + 2) (.slice kA ks.length kc) (ks.take ks.length) := ⟨xs, Ho.out, HT.out, Hkk.out⟩
          rwa [List.take_length] at this
        refine ⟨An', cn', kA, kc, rfl, hX, copy_end Htx.out hBk (base := w.heap.size + 2) (by omega) Hst.out hok Hlt.out ?_ ?_⟩
        · change _ ≤ (set4 _ _ _ _ _ _).heap.size
          rw [size_set4]; simp [World.setCell]
        · intro b hb _
          refine (heap_set4 (wr.setCell ⟨w.heap.size, 3, none⟩ (.slice kA ks.length kc)) (w.heap.size + 1) _ _ _ _ (by omega)).trans ?_
          exact Below.heap_setCell _ _ _ _ (by simp; omega)
end Go.Proofs.Ytocndkhgopjhhaa
