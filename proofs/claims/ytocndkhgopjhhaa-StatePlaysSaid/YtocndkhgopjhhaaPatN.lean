/- pat.May, walked. -/
import Derived.Test.YtocndkhgopjhhaaPatM
import Derived.Laws.OwnMore
import Derived.Outline
namespace Go.Proofs.Ytocndkhgopjhhaa
open Go.RowKit

theorem int_info : (Try.prog.info? 3).map (fun i => (i.zero, i.size, i.bytes)) = some (some (.int .i64 0), 1, 8) := by kernel_rfl
theorem stA_nil (n : Nat) : stA n [] = madeCells #[.int .i64 0] n := by
  apply Array.ext
  · simp [stA, madeCells]
  · intro i h1 h2
    simp only [stA, List.size_toArray, List.length_map, List.length_range] at h1
    simp [stA, madeCells, Nat.mod_one]
theorem make_stands (n : Nat) (hn : n ≤ 1000000) (W : World) : (Instr.makeSlice 35 (.int .i64 n) (.int .i64 n)).run Try.prog W = .ok (.slice (some ⟨W.heap.size, 0, none⟩) n n) (W.alloc (.cells (stA n []) 3)) := by
  obtain ⟨i, hi, hz, hs, hb⟩ := info_parts int_info
  have := run_makeSlice (P := Try.prog) W 35 3 i (.int .i64 0) Try.underlying35 hi hz .i64 .i64 n n (by omega) (Int.le_refl _) (by rw [hs]; omega) (by rw [hb]; omega) (by omega)
  rw [stA_nil]
  simp only [hs, Int.toNat_natCast, Nat.mul_one] at this
  exact this

theorem wf64_of {z : Int} (h1 : -9223372036854775808 ≤ z) (h2 : z ≤ 9223372036854775807) : (Lit.int .i64 z).wf = true := by
  simp [Lit.wf, IntKind.min, IntKind.max, IntKind.signed, IntKind.bits]
  omega
theorem kidsAll_take {fs : List Fc} {j : Nat} {f : Fc} (h : fs[j]? = some f) : kidsAll (fs.take (j + 1)) = kidsAll (fs.take j) ++ f.kids := by
  rw [List.take_add_one, h]; simp [kidsAll]
theorem wf_nat {z : Int} {i n : Nat} (h1 : (i : Int) < z) (h2 : z < (n : Int)) : ∃ k : Nat, z = k ∧ i < k ∧ k < n := ⟨z.toNat, by omega, by omega, by omega⟩

set_option maxRecDepth 100000 in
set_option maxHeartbeats 4000000 in
theorem patMay_walk {B : Nat} (hB : B ≤ 1000000) {S : Nat → Prop} {w : World} {v : Value} {f0 : Fc} {fs : List Fc} (h : Facts B S w v (f0 :: fs)) (hd : dirF f0 = true) :
    Calls Try.prog 90 #[v] w fun e w' => e = .returned (.bool (mayF (f0 :: fs))) ∧ Ext w w' := by
  have H := Lib.hid h
  obtain ⟨A, c, rfl, hc, hm, hn⟩ := h.form
  unfold maxLen at hm
  obtain ⟨b, o, nv, kv, rfl, _, hb, c0, c1, c2, c3, c4, c5, hsn, hik, hF⟩ := h.get (i := 0) rfl
  simp only [Nat.zero_mul, Nat.add_zero] at c0 c1 c2 c3 c4 c5
  have HF := Lib.hid hF
  have Hd := Lib.hid hd
  have h0 : ((f0 :: fs).length == 0) = false := by simp
  have h0' : (((f0 :: fs).length : Int) == 0) = false := by simp; omega
  have h1 : 0 < (f0 :: fs).length := by simp
  have HM : Hid (mayF (f0 :: fs) = (mayL (f0 :: fs).length 0 (f0 :: fs) && !((standsL (f0 :: fs)).drop 1).any not1)) := by
    unfold Hid mayF; simp only [decide_eq_true h1, Bool.true_and, List.head?_cons, Option.any_some, hd]
  obtain ⟨gs, hgs⟩ : ∃ gs, f0 :: fs = gs := ⟨_, rfl⟩
  rw [hgs] at H hc hn h0 h0' h1 HM
  rw [hgs]
  obtain ⟨n, hn'⟩ : ∃ n, gs.length = n := ⟨_, rfl⟩
  have HN := Lib.hid hn'
  rw [hn'] at hc hn h0 h0' h1 HM H
  rw [hn']
  have hmk := make_stands n (by omega)
  have h1i : (1 : Int) ≤ (n : Int) := by omega
  clear hn' h hF hd hgs hsn hik
  go_enter Try.func90, Try.ntmps90
  go_wp2_with (first | (go_at_call 130; refine (dir_any HF.out).mono ?_; rw [Hd.out]; rintro e w5 ⟨rfl, hx5⟩; obtain ⟨u5, rfl⟩ := Up.of hx5; clear hx5))
  obtain ⟨g, hg⟩ : ∃ g, u5.val.heap.size = g := ⟨_, rfl⟩
  have hzg := u5.ext.size
  have hX0 : Ext w (u5.val.alloc (.cells (stA n []) 3)) := u5.ext.trans' (Ext.alloc' _ _)
  have hBk : Blk (u5.val.alloc (.cells (stA n []) 3)) g 3 (stA n []) := Blk.new' _ _ _ hg.symm
  rw [hg] at hzg ⊢
  have HX0 := Lib.hid hX0
  have HBk := Lib.hid hBk
  clear hX0 hBk hg hmk c0 c1 c2 c3 c4 c5 h0 h0'
  go_loopw [23] (fun i wr => ∃ (j : Nat), j ≤ n ∧ i = .int .i64 j ∧ Ext w wr ∧ Blk wr g 3 (stA n (kidsAll (gs.take j))) ∧ (kidsAll (gs.take j)).length ≤ j * 1000000 ∧ mayL n j (gs.drop j) = mayL n 0 gs) (fun i _ => n - (intOf i).toNat)
  case atStart => exact ⟨0, Nat.zero_le _, rfl, HX0.out, HBk.out, Nat.zero_le _, rfl⟩
  case round =>
    obtain ⟨j, hj, rfl, hx, hbk, hlen, hy⟩ := hrel
    have Hx := Lib.hid hx
    have Hbk := Lib.hid hbk
    have hgl := hbk.lt
    obtain ⟨hcx, hfx⟩ := hx.rules
    have hsz := hx.size
    clear hbk hx
    by_cases hlt : j < n
    · have hlt' : j < gs.length := by have := HN.out; omega
      rw [mayL_at hlt'] at hy
      obtain ⟨f, hf⟩ : ∃ f, gs[j] = f := ⟨_, rfl⟩
      have hf' : gs[j]? = some f := by rw [List.getElem?_eq_getElem hlt', hf]
      rw [hf] at hy
      obtain ⟨b', o', nv, kv, e, _, _, c0, c1, c2, c3, c4, c5, hsn, hik, hF⟩ := H.out.get hf'
      simp only [Option.some.injEq, Addr.mk.injEq, and_true] at e
      obtain ⟨rfl, rfl⟩ := e
      obtain ⟨An, cn, rfl, _⟩ := hsn
      have HF2 := Lib.hid hF
      have HK := Lib.hid hik
      have Hkt : Hid (kidsAll (gs.take (j + 1)) = kidsAll (gs.take j) ++ f.kids) := kidsAll_take hf'
      obtain ⟨Ak, ck, rfl, hck, hmk, hBk, hwk, hkk⟩ := hik
      have Hkk := Lib.hid hkk
      unfold maxLen at hmk
      have hbr : b < wr.heap.size := by omega
      have hbr1 : b < wr.heap.size + 1 := by omega
      clear hF hf hf' hkk hwk
      cases hO : oneF f
      · rw [hO] at hy
        have HO := Lib.hid hO
        have Hy : Hid (mayL n 0 gs = false) := by unfold Hid; rw [← hy]; rfl
        clear hy hO
        go_wp2_with (first | (go_at_call 131; refine (one_any ((HF2.out.ext Hx.out).alloc _)).mono ?_; rw [HO.out]; rintro e w7 ⟨rfl, hx7⟩; have Hx7 := Lib.hid hx7; clear hx7))
        go_ret
        exact ⟨ret_bool (by rw [HM.out, Hy.out]; rfl), (Hx.out.trans' (Ext.alloc' _ _)).trans' Hx7.out⟩
      · rw [hO] at hy
        have HO := Lib.hid hO
        have Hy : Hid ((kidsOk j n f.kids && mayL n ((j + 1 : Nat) : Int) (gs.drop (j + 1))) = mayL n 0 gs) := by unfold Hid; rw [← hy]; simp
        clear hy hO
        have hfb : ∀ (W : World), Ext (wr.alloc (.cells #[.bool f.known, .int .u8 f.kind, .slice An f.names.length cn, .slice Ak f.kids.length ck, .int .i64 f.rest, .int .i64 f.beside] 106)) W → W.cell? ⟨wr.heap.size, 3, none⟩ = some (.slice Ak f.kids.length ck) := fun W hW =>
          ((Blk.new wr 106 #[.bool f.known, .int .u8 f.kind, .slice An f.names.length cn, .slice Ak f.kids.length ck, .int .i64 f.rest, .int .i64 f.beside]).ext hW).cell 3
        have Hfb := Lib.hid hfb
        clear hfb
        go_wp2_with (first | (go_at_call 131; refine (one_any ((HF2.out.ext Hx.out).alloc _)).mono ?_; rw [HO.out]; rintro e w7 ⟨rfl, hx7⟩; have hfc := Hfb.out _ hx7; have Hx7 := Lib.hid hx7; clear hx7))
        have hx7' : Ext w w7 := (Hx.out.trans' (Ext.alloc' _ _)).trans' Hx7.out
        have HX7 := Lib.hid hx7'
        have HB7 : Hid (Blk w7 g 3 (stA n (kidsAll (gs.take j)))) := Lib.hid ((Hbk.out.alloc _).ext Hx7.out)
        obtain ⟨l, hl⟩ : ∃ l, kidsAll (gs.take j) = l := ⟨_, rfl⟩
        rw [hl] at HB7 Hkt hlen
        clear hx7' hcx hfx hfc hl
        go_loopw [34] (fun i wi => ∃ (k : Nat), k ≤ f.kids.length ∧ i = .int .i64 k ∧ Ext w wi ∧ Blk wi g 3 (stA n (l ++ f.kids.take k)) ∧ kidsOk j n (f.kids.drop k) = kidsOk j n f.kids) (fun i _ => f.kids.length - (intOf i).toNat)
        case atStart => exact ⟨0, Nat.zero_le _, rfl, HX7.out, by simpa using HB7.out, rfl⟩
        case round =>
          rename_i wi _
          obtain ⟨k, hk, rfl, hxi, hbi, hyi⟩ := hrel
          have Hxi := Lib.hid hxi
          have Hbi := Lib.hid hbi
          have hgi := hbi.lt
          obtain ⟨hci, hfi⟩ := hxi.rules
          clear hbi hxi
          by_cases hkl : k < f.kids.length
          · rw [kidsOk_at hkl] at hyi
            obtain ⟨bk, ok, rfl, _, hbk, hck'⟩ := Hkk.out (by omega)
            obtain ⟨z, hz⟩ : ∃ z, f.kids[k] = z := ⟨_, rfl⟩
            have hz' : f.kids[k]? = some z := by rw [List.getElem?_eq_getElem hkl, hz]
            have cz := hck' k z hz'
            rw [hz] at hyi
            have Htk : Hid (f.kids.take (k + 1) = f.kids.take k ++ [z]) := by unfold Hid; rw [List.take_add_one, hz']; rfl
            clear hck' hz hz'
            by_cases z1 : z ≤ (j : Int)
            · have Hy2 : Hid (mayL n 0 gs = false) := by
                unfold Hid; rw [← Hy.out, ← hyi, decide_eq_false (by omega)]; simp
              clear hyi
              go_wp2_with fail
              go_ret
              exact ⟨ret_bool (by rw [HM.out, Hy2.out]; rfl), Hxi.out⟩
            · by_cases z2 : (n : Int) ≤ z
              · have Hy2 : Hid (mayL n 0 gs = false) := by
                  unfold Hid; rw [← Hy.out, ← hyi, decide_eq_false (show ¬ z < (n : Int) by omega)]; simp
                have z1' : (j : Int) < z := by omega
                clear hyi
                go_wp2_with fail
                go_ret
                exact ⟨ret_bool (by rw [HM.out, Hy2.out]; rfl), Hxi.out⟩
              · obtain ⟨z', rfl, z3, z4⟩ := wf_nat (by omega : (j : Int) < z) (by omega : z < (n : Int))
                have Hy2 : Hid (kidsOk j n (f.kids.drop (k + 1)) = kidsOk j n f.kids) := by
                  unfold Hid; rw [← hyi, decide_eq_true (show (j : Int) < (z' : Int) by omega), decide_eq_true (show (z' : Int) < (n : Int) by omega)]; simp
                obtain ⟨q, hq⟩ : ∃ q, (l ++ f.kids.take k).count (z' : Int) = q := ⟨_, rfl⟩
                have cg := Hbi.out.cell z'
                rw [stA_get _ z4, hq] at cg
                have fg := Hbi.out.frozen z'
                have hql : q ≤ 1000001000000 := by
                  have := List.count_le_length (a := (z' : Int)) (l := l ++ f.kids.take k)
                  rw [hq, List.length_append, List.length_take] at this
                  omega
                have Hst : Hid ((stA n (l ++ f.kids.take k)).setIfInBounds z' (.int .i64 ((q : Int) + 1)) = stA n (l ++ f.kids.take (k + 1))) := by
                  unfold Hid; rw [← hq, stA_push, Htk.out, List.append_assoc]
                have z3' : (j : Int) < (z' : Int) := by omega
                have z4' : (z' : Int) < (n : Int) := by omega
                have z5' : (0 : Int) ≤ (z' : Int) := by omega
                clear hyi hq z1 z2
                go_wp2_with fail
                go_roundw
                case rel =>
                  refine ⟨k + 1, by omega, by go_num, Hxi.out.setCell (p := ⟨g, z', none⟩) (by simp; omega) _, ?_, Hy2.out⟩
                  have := Hbi.out.set_ z' (.int .i64 ((q : Int) + 1))
                  rw [Hst.out] at this
                  exact this
                case measure => simp [intOf]; omega
          · rw [kidsOk_end hkl] at hyi
            have hkk : k = f.kids.length := by omega
            subst hkk
            have Hy2 : Hid (mayL n ((j + 1 : Nat) : Int) (gs.drop (j + 1)) = mayL n 0 gs) := by
              unfold Hid; rw [← Hy.out, ← hyi]; simp
            clear hyi
            go_wp2_with fail
            go_roundw
            case rel =>
              refine ⟨j + 1, by omega, by go_num, Hxi.out, ?_, ?_, Hy2.out⟩
              · have := Hbi.out
                rw [List.take_length] at this
                rw [Hkt.out]; exact this
              · rw [Hkt.out, List.length_append]; omega
            case measure => simp [intOf]; omega
    · rw [mayL_end (by have := HN.out; omega)] at hy
      have Hy := Lib.hid hy
      have hjn : j = n := by omega
      subst hjn
      clear hy
      have Hs : Hid (gs.take j = gs) := by unfold Hid; rw [← HN.out]; exact List.take_length
      have hI : Ints 1000000 (fun b => b = g) wr (.slice (if j = 1 then some ⟨g, 0, none⟩ else some ⟨g, 1, none⟩) (j - 1) (j - 1)) ((standsL gs).drop 1) := by
        have hbo := Hbk.out
        rw [Hs.out] at hbo
        have hlen' : ((standsL gs).drop 1).length = j - 1 := by simp [standsL, HN.out]
        refine ⟨_, j - 1, by rw [hlen'], by omega, by simp only [maxLen]; omega, by omega, ?_, fun hp => ⟨g, 1, if_neg (by omega), rfl, hbo.lt, ?_⟩⟩
        · intro z hz
          obtain ⟨x, _, rfl⟩ : ∃ x ∈ List.range gs.length, ((kidsAll gs).count (x : Int) : Int) = z := by
            have := List.mem_of_mem_drop hz
            simpa [standsL] using this
          have hc := List.count_le_length (a := (x : Int)) (l := kidsAll gs)
          rw [Hs.out] at hlen
          exact wf64_of (by omega) (by omega)
        · intro i z hz
          have hil := (List.getElem?_eq_some_iff.1 hz).1
          rw [hlen'] at hil
          rw [List.getElem?_drop] at hz
          have := hbo.cell (1 + i)
          rw [stA_get _ (by omega)] at this
          rw [this]
          have e : (standsL gs)[1 + i]? = some ((kidsAll gs).count ((1 + i : Nat) : Int) : Int) := by
            have := HN.out
            rw [standsL, List.getElem?_map, List.getElem?_range (by omega)]; rfl
          rw [e] at hz
          injection hz with hz
          rw [hz]
      obtain ⟨zz, hzz⟩ : ∃ zz, (standsL gs).drop 1 = zz := ⟨_, rfl⟩
      rw [hzz] at hI HM
      have HI := Lib.hid hI
      clear hI hlen hzz
      go_wp2_with (go_at_call 132; refine (containsI_any HI.out).mono ?_; rintro e w1 ⟨rfl, rfl⟩)
      all_goals
        go_ret
        exact ⟨ret_bool (by rw [HM.out, ← Hy.out]; rfl), Hx.out⟩

theorem patMay_any {B : Nat} (hB : B ≤ 1000000) {S : Nat → Prop} {w : World} {v : Value} {fs : List Fc} (h : Facts B S w v fs) :
    Calls Try.prog 90 #[v] w fun e w' => e = .returned (.bool (mayF fs)) ∧ Ext w w' := by
  cases fs with
  | nil =>
    obtain ⟨A, c, rfl, _⟩ := h.form
    go_enter Try.func90, Try.ntmps90
    go_wp2_with fail
    go_ret
    exact ⟨rfl, Below.refl _ _⟩
  | cons f0 fs =>
    cases hd : dirF f0
    · obtain ⟨A, c, rfl, hc, hm, hn⟩ := h.form
      unfold maxLen at hm
      obtain ⟨b, o, nv, kv, rfl, _, hb, c0, c1, c2, c3, c4, c5, hsn, hik, hF⟩ := h.get (i := 0) rfl
      simp only [Nat.zero_mul, Nat.add_zero] at c0 c1 c2 c3 c4 c5
      have HF := Lib.hid hF
      have Hd := Lib.hid hd
      have h0 : ((f0 :: fs).length == 0) = false := by simp
      have h0' : (((f0 :: fs).length : Int) == 0) = false := by simp; omega
      have h1 : 0 < (f0 :: fs).length := by simp
      have HM : Hid (mayF (f0 :: fs) = false) := by
        unfold Hid mayF; simp [hd]
      obtain ⟨gs, hgs⟩ : ∃ gs, f0 :: fs = gs := ⟨_, rfl⟩
      rw [hgs] at hc hn h0 h0' h1 HM
      rw [hgs]
      clear h hF hd hgs hsn hik
      go_enter Try.func90, Try.ntmps90
      go_wp2_with (first | (go_at_call 130; refine (dir_any HF.out).mono ?_; rw [Hd.out]; rintro e w5 ⟨rfl, hx5⟩; obtain ⟨u5, rfl⟩ := Up.of hx5; clear hx5))
      go_ret
      exact ⟨ret_bool HM.out.symm, u5.ext⟩
    · exact patMay_walk hB h hd
end Go.Proofs.Ytocndkhgopjhhaa
