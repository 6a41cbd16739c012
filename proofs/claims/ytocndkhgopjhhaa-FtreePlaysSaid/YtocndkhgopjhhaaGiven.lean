import Derived.Test.YtocndkhgopjhhaaProg
import Derived.Test.YtocndkhgopjhhaaBase
import Derived.Test.YtocndkhgopjhhaaOwn
namespace Go.Proofs.Ytocndkhgopjhhaa
open Go.RowKit

set_option maxRecDepth 100000 in
set_option maxHeartbeats 2000000 in
theorem given_any (B : Nat) (hB : B ≤ 2199023255552) (S : Nat → Prop) (d : Nat) : ∀ (t : N) (v : Value) (w : World), Rep B S w d t v →
    Calls Try.prog 25 #[v] w (OwnPost B d t w) := by
  obtain ⟨i0, hi0, hz0, hz1, hz2⟩ := info_parts node_info
  have HI := Lib.hid hi0
  have HZ0 := Lib.hid hz0
  have HZ1 := Lib.hid hz1
  have HZ2 := Lib.hid hz2
  clear hi0 hz0 hz1 hz2
  induction d with
  | zero => intro t v w h; exact h.elim
  | succ d ih =>
    rintro ⟨k, tx, ns, ks⟩ v w ⟨nv, A, c, rfl, htx, hn, hc, hm, hBk, hk⟩
    have HN := Lib.hid hn
    obtain ⟨An, cn, rfl, hcn, hmn, hBn, hsn, hns⟩ := hn
    have Htx := Lib.hid htx
    have Hsn := Lib.hid hsn
    clear hsn htx
    obtain ⟨j0, hj0, hy0, hy1, hy2⟩ := info_parts string_info
    have hem : ∀ (W : World), W.heap.size = w.heap.size + 2 → (W.alloc (.cells #[] 9)).ownsRow (w.heap.size + 2) 9 1 (.slice (some ⟨w.heap.size + 2, 0, none⟩) 0 0) 0 [] := fun W hW =>
      ⟨rfl, .inr ⟨w.heap.size + 2, 0, #[], rfl, Nat.le_refl _, by rw [← hW]; exact heap_alloc_new W _, Nat.le_refl _, Nat.zero_le _, rfl, rfl⟩⟩
    have Hem := Lib.hid hem
    have hsrc : ∀ (W : World), Ext w W → 0 < ns.length → ∃ ad, An = some ad ∧ ∀ j u, (ns.map Value.string)[j]? = some u → W.cell? (ad.add j) = some u := fun W hW hp => by
      obtain ⟨b, o, rfl, _, hb, hc⟩ := hns hp
      refine ⟨_, rfl, fun j u hu => ?_⟩
      simp only [List.getElem?_map, Option.map_eq_some_iff] at hu
      obtain ⟨s, hs, rfl⟩ := hu
      have h1 := (hW.cell (p := ⟨b, o + j, none⟩) hb).trans (hc j s hs)
      rcases Nat.eq_zero_or_pos j with rfl | h0
      · simpa [Addr.add] using h1
      · rw [Addr.add, if_neg (by omega)]; exact h1
    have Hsrc := Lib.hid hsrc
    have Hj0 := Lib.hid hj0
    have Hy0 := Lib.hid hy0
    have Hy1 := Lib.hid hy1
    have Hy2 := Lib.hid hy2
    have hBn2 : ns.length ≤ 8796093022208 := by omega
    have HBn := Lib.hid hBn
    clear hem hsrc hj0 hy0 hy1 hy2 hns hcn hmn hBn
    unfold maxLen at hm
    go_enter Try.func25, Try.ntmps25
    go_wp2_with
      (at_builtin
       refine wpList_app _ rfl (.tmp 5) (.tmp 7) _ rfl (w.heap.size + 2) 9 j0 _ 1 16 Try.underlying22 Hj0.out Hy0.out Hy1.out Hy2.out rfl (by omega) (.slice (some ⟨w.heap.size + 2, 0, none⟩) 0 0) 0 [] rfl (Hem.out _ (by simp)) An ns.length cn (ns.map Value.string) rfl (by simp) (Hsrc.out _ (((Ext.alloc' _ _).trans' (Ext.alloc' _ _)).trans' (Ext.alloc' _ _))) (by simp [Value.oneCell']) (by simp only [maxLen]; omega) (by omega) (by simp) ?_
       intro nv' w1 hon hgr hat0
       obtain ⟨An', cn', rfl⟩ := ownsRow_form hon
       have hba := (((Blk.new w 25 #[.int .u8 k, .string tx, .slice An ns.length cn, .slice A ks.length c]).alloc (.cells #[.int .u8 0, .string { data := #[] }, .slice none 0 0, .slice none 0 0] 25)).alloc (.cells #[] 9)).grown hgr (by simp [Value.ownBlock])
       have hbb := ((Blk.new' (w.alloc (.cells #[.int .u8 k, .string tx, .slice An ns.length cn, .slice A ks.length c] 25)) 25 #[.int .u8 0, .string { data := #[] }, .slice none 0 0, .slice none 0 0] (n := w.heap.size + 1) (by simp)).alloc (.cells #[] 9)).grown hgr (by simp [Value.ownBlock])
       obtain ⟨p0, p1, p2, p3, f0, f1, f2, f3⟩ := hba.cells4
       have Hba := Lib.hid hba
       have Hbb := Lib.hid hbb
       have Hgr := Lib.hid hgr
       have Hon0 := Lib.hid hon
       have hzx1 := hbb.lt
       have hzx0 : w.heap.size < w1.heap.size := by omega
       clear hba hbb hgr hon)
    have Hon : Hid (OwnStrs w1 (w.heap.size + 2) (.slice An' ns.length cn') ns) := by have h := Hon0.out; simp only [Nat.zero_add, List.nil_append] at h; exact h
    have hbx0 := Hba.out.set2 (.slice An' ns.length cn')
    have hbx1 := Hbb.out.far (p := ⟨w.heap.size, 2, none⟩) (by simp) (.slice An' ns.length cn')
    have hX0 : Ext w w1 := (((Ext.alloc' _ _).trans' (Ext.alloc' _ _)).trans' (Ext.alloc' _ _)).grown Hgr.out (by simp [Value.ownBlock])
    have hX1 : Ext w (w1.setCell ⟨w.heap.size, 2, none⟩ (.slice An' ns.length cn')) := hX0.set1 (Nat.le_refl _) _
    have HS1 := Lib.hid (OwnStrs.strs Hon.out HBn.out Hsn.out)
    have hon1 : ∀ g, (Value.slice An' ns.length cn').ownBlock = some g → w.heap.size + 2 ≤ g ∧ g < w1.heap.size ∧ Nfz w1 g := fun g hg => ⟨by simpa using (ownsRow_lt Hon.out hg).1, (ownsRow_lt Hon.out hg).2, ownsRow_nfz Hon.out hg⟩
    have HB0 := Lib.hid hbx0
    have HB1 := Lib.hid hbx1
    have HX1 := Lib.hid hX1
    have HO1 := Lib.hid hon1
    clear hbx0 hbx1 hX1 hon1
    go_loopw [3, 4] (fun x i wr => ∃ (j : Nat) (T : Nat → Prop) (kA : Option Addr) (kc : Nat), j ≤ ks.length ∧ i = .int .i64 j ∧ x = .slice kA j kc ∧ Ext w wr ∧
        Blk wr w.heap.size 25 #[.int .u8 k, .string tx, .slice An' ns.length cn', .slice A ks.length c] ∧ Blk wr (w.heap.size + 1) 25 #[.int .u8 0, .string { data := #[] }, .slice none 0 0, .slice none 0 0] ∧
        Strs (4 * B) T wr (.slice An' ns.length cn') ns ∧ OwnKids B T wr d (w.heap.size + 2) (.slice kA j kc) (ks.take j) ∧ (∀ b, T b → w.heap.size + 2 ≤ b ∧ b < wr.heap.size ∧ Nfz wr b)) (fun _ i _ => ks.length - (intOf i).toNat)
    case atStart =>
      refine ⟨0, fun b => (Value.slice An' ns.length cn').ownBlock = some b, none, 0, Nat.zero_le _, rfl, rfl, HX1.out, HB0.out, HB1.out, ?_, OwnKids.nil, fun b hb => ?_⟩
      · refine HS1.out.keep (by simp [World.setCell]) (fun b hb hl => Below.heap_setCell _ _ _ _ ?_) (fun _ h _ => h)
        have := HO1.out b hb; simp; omega
      · have h1 := HO1.out b hb
        exact ⟨h1.1, by simp [World.setCell]; omega, h1.2.2.same (Below.heap_setCell _ _ _ _ (by simp; omega))⟩
    case round =>
      obtain ⟨j, T, kA, kc, hj, rfl, rfl, hx, hb0, hb1, hst, ⟨xs, ho, hT, hkk⟩, hlt⟩ := hrel
      have Hx := Lib.hid hx
      have Hb0 := Lib.hid hb0
      have Hb1 := Lib.hid hb1
      have Hst := Lib.hid hst
      have Ho := Lib.hid ho
      have HT := Lib.hid hT
      have Hkk := Lib.hid hkk
      have Hlt := Lib.hid hlt
      obtain ⟨hcy, hfy⟩ := hx.rules
      have hzy := hb1.lt
      obtain ⟨p0, p1, p2, p3, f0, f1, f2, f3⟩ := hb0.cells4
      obtain ⟨r0, r1, r2, r3, g0, g1, g2, g3⟩ := hb1.cells4
      have hzy0 : w.heap.size < wr.heap.size := by omega
      clear hx hb0 hb1 hst ho hT hkk hlt
      by_cases hjl : j < ks.length
      · obtain ⟨b, o, rfl, hS, hbs, hcell⟩ := hk (by omega)
        have hbs' : b < wr.heap.size := by omega
        obtain ⟨v0, v1, v2, v3, c0, c1, c2, c3, hr⟩ := hcell j _ (List.getElem?_eq_getElem hjl)
        obtain ⟨_, _, _, _, rfl, rfl, rfl, rfl⟩ := hr.shape
        have Hr := Lib.hid hr
        clear hcell hr
        go_wp2_with fail
        refine (ih _ _ _ (Hr.out.ext Hx.out)).mono ?_
        rintro e w2 ⟨A1, c1', A2, c2', rfl, hx2, hr2⟩
        have Hx2 := Lib.hid hx2
        have Hr2 := Lib.hid hr2
        have hz2 := hx2.size
        clear hx2 hr2
        have htl : (ks.take j).length = j := by rw [List.length_take]; omega
        have hBj : j + 1 ≤ 2199023255552 := by omega
        have hbs2 : w.heap.size + 2 ≤ w2.heap.size := by omega
        have ho2 : ∀ X, (w2.alloc X).ownsRow (w.heap.size + 2) 25 4 (.slice kA j kc) j xs := fun X => by
          have h := Ho.out
          rw [htl] at h
          refine ownsRow_ext h fun g hg => ?_
          have hl := (ownsRow_lt h hg).2
          rw [Below.heap_alloc _ _ _ (by omega), Hx2.out.block g hl]
        have HO2 := Lib.hid ho2
        clear ho2
        go_wp2_with (at_builtin; refine wpList_app _ rfl (.tmp 17) (.tmp 24) _ rfl (w.heap.size + 2) 25 i0 _ 4 72 Try.underlying23 HI.out HZ0.out HZ1.out HZ2.out rfl (by omega) (.slice kA j kc) j xs rfl (HO2.out _) (some ⟨w2.heap.size, 0, none⟩) 1 1 [_, _, _, _] rfl rfl (fun _ => ⟨_, rfl, cells4_new _ _ _ _ _ _⟩) (by simp [Value.oneCell']) (by simp only [maxLen]; omega) (by omega) (by simp; omega) ?_; intro v' w3 ho' hg' hat')
        obtain ⟨A3, c3', rfl⟩ := ownsRow_form ho'
        go_roundw
        case rel =>
          obtain ⟨T', q1, q2, q3, q4, q5⟩ := round_push (w := w) (List.getElem?_eq_getElem hjl) (by omega) (by omega) Hx.out Ho.out HT.out Hkk.out Hlt.out Hx2.out (fun b hb => hb) Hr2.out ho' hg' hat'
          exact ⟨j + 1, T', A3, c3', by omega, by go_num, rfl, q1, q2 _ _ _ (by omega) Hb0.out, q2 _ _ _ (by omega) Hb1.out, q3 _ _ _ Hst.out, q4, q5⟩
        case measure => simp [intOf]; omega
      · have hjj : j = ks.length := by omega
        subst hjj
        clear hjl
        go_wp2_with fail
        refine bodyPost_ret (results_cell rfl _ _ _ _ _ _ _ rfl ((Hb1.out.far (p := ⟨w.heap.size, 3, none⟩) (by simp) _).set4 _ _ _ _)) rfl ?_
        have hX : Ext w (set4 (wr.setCell ⟨w.heap.size, 3, none⟩ (.slice kA ks.length kc)) (w.heap.size + 1) (.int .u8 k) (.string tx) (.slice An' ns.length cn') (.slice kA ks.length kc)) := ((Hx.out.set1 (p := ⟨w.heap.size, 3, none⟩) (Nat.le_refl _) _).set4 (by omega) _ _ _ _)
        have hok : OwnKids B T wr d (w.heap.size + 2) (.slice kA ks.length kc) ks := by
          have : OwnKids B T wr d (w.heap.size + 2) (.slice kA ks.length kc) (ks.take ks.length) := ⟨xs, Ho.out, HT.out, Hkk.out⟩
          rwa [List.take_length] at this
        refine ⟨An', cn', kA, kc, rfl, hX, copy_end Htx.out hBk (base := w.heap.size + 2) (by omega) Hst.out hok Hlt.out ?_ ?_⟩
        · change _ ≤ (set4 _ _ _ _ _ _).heap.size
          rw [size_set4]; simp [World.setCell]
        · intro b hb _
          refine (heap_set4 (wr.setCell ⟨w.heap.size, 3, none⟩ (.slice kA ks.length kc)) (w.heap.size + 1) _ _ _ _ (by omega)).trans ?_
          exact Below.heap_setCell _ _ _ _ (by simp; omega)
end Go.Proofs.Ytocndkhgopjhhaa
