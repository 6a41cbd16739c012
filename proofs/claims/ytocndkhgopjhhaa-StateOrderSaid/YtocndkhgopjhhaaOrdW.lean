/- StateOrder, walked. -/
import Derived.Test.YtocndkhgopjhhaaProg
import Derived.Test.YtocndkhgopjhhaaOrdP
import Derived.Test.YtocndkhgopjhhaaOrdL
import Derived.Test.YtocndkhgopjhhaaOrdN
import Derived.Deep.DeepCutAuto
import Derived.Deep.CutBlock
import Derived.Outline
namespace Go.Proofs.Ytocndkhgopjhhaa
open Go.RowKit

theorem op_info : (Try.prog.info? 40).map (fun i => (i.zero, i.size, i.bytes)) = some (some (.agg #[.int .u8 0, .slice none 0 0, .slice none 0 0]), 3, 56) := by kernel_rfl
theorem td28_info : (Try.prog.info? 38).map (fun i => (i.zero, i.size, i.bytes)) = some (some (.agg #[.slice none 0 0, .slice none 0 0]), 2, 48) := by kernel_rfl

theorem cells3_new (w : World) (t : TypeId) (v0 v1 v2 : Value) : ∀ j u, [v0, v1, v2][j]? = some u → (w.alloc (.cells #[v0, v1, v2] t)).cell? ((⟨w.heap.size, 0, none⟩ : Addr).add j) = some u := by
  intro j u hj
  match j, hj with
  | 0, hj => simp at hj; subst hj; simp [Addr.add]
  | 1, hj => simp at hj; subst hj; simp [Addr.add]
  | 2, hj => simp at hj; subst hj; simp [Addr.add]
  | j + 3, hj => simp at hj
theorem cells2_new (w : World) (t : TypeId) (v0 v1 : Value) : ∀ j u, [v0, v1][j]? = some u → (w.alloc (.cells #[v0, v1] t)).cell? ((⟨w.heap.size, 0, none⟩ : Addr).add j) = some u := by
  intro j u hj
  match j, hj with
  | 0, hj => simp at hj; subst hj; simp [Addr.add]
  | 1, hj => simp at hj; subst hj; simp [Addr.add]
  | j + 2, hj => simp at hj

set_option maxRecDepth 100000 in
set_option maxHeartbeats 8000000 in
theorem orderLaw {S : Nat → Prop} {w : World} {v : Value} {l : List Td} (h : TdsV B44 S w v l) :
    Calls Try.prog 4 #[v] w fun e w' => e = .returned (.bool true) ∧ Ext w w' := by
  obtain ⟨A, c, rfl, hc, hm, hB, g⟩ := h
  have G := Lib.hid g
  obtain ⟨i1, hi1, hz1, hz2, hz3⟩ := info_parts op_info
  obtain ⟨i2, hi2, hy1, hy2, hy3⟩ := info_parts td28_info
  have HI1 := Lib.hid hi1
  have HI2 := Lib.hid hi2
  have HZ1 := Lib.hid hz1
  have HZ2 := Lib.hid hz2
  have HZ3 := Lib.hid hz3
  have HY1 := Lib.hid hy1
  have HY2 := Lib.hid hy2
  have HY3 := Lib.hid hy3
  unfold maxLen at hm
  clear g hi1 hi2 hz1 hz2 hz3 hy1 hy2 hy3
  obtain ⟨l7, hl7⟩ : ∃ l7, l.take 70 = l7 := ⟨_, rfl⟩
  have HL7 := Lib.hid hl7
  clear hl7
  go_enter Try.func4, Try.ntmps4
  go_upto_block 0 with fail
  go_cut [3] (fun s3 wx => ∃ oA oc xs, s3 = .slice oA l7.length oc ∧ Ext w wx ∧ wx.ownsRow w.heap.size 40 3 (.slice oA l7.length oc) l7.length xs ∧ OpCells B44 S w l7 xs)
  case first =>
    go_wp2_with fail
    go_loopw [3, 4] (fun s i wr => ∃ (j : Nat) (oA : Option Addr) (oc : Nat) (xs : List Value), j ≤ l.length ∧ j ≤ 70 ∧ i = .int .i64 j ∧ s = .slice oA j oc ∧ Ext w wr ∧ wr.ownsRow w.heap.size 40 3 (.slice oA j oc) j xs ∧ OpCells B44 S w (l.take j) xs) (fun _ i _ => l.length - (intOf i).toNat)
    case atStart => exact ⟨0, none, 0, [], Nat.zero_le _, by omega, rfl, rfl, Below.refl _ _, World.ownsRow_nil _ _ _ _, OpCells.nil⟩
    case round =>
      obtain ⟨j, oA, oc, xs, hj, hj70, rfl, rfl, hx, ho, hxs⟩ := hrel
      have Hx := Lib.hid hx
      have Ho := Lib.hid ho
      have Hxs := Lib.hid hxs
      have hz := hx.size
      obtain ⟨hcx, hfx⟩ := hx.rules
      clear hx ho hxs
      by_cases h1 : j < l.length
      · by_cases h2 : j < 70
        · obtain ⟨t, ht⟩ : ∃ t, l[j]? = some t := ⟨_, List.getElem?_eq_getElem h1⟩
          obtain ⟨b, o, rfl, hb, hcell⟩ := G.out (by omega)
          obtain ⟨rv, fv, c0, c1, htd⟩ := hcell j t ht
          obtain ⟨Ar, cr, Af, cf, e⟩ := htd.form
          injection e with e
          simp only [Array.mk.injEq, List.cons.injEq, and_true] at e
          obtain ⟨rfl, rfl⟩ := e
          have Htd := Lib.hid htd
          have Ht := Lib.hid ht
          have hbr : b < wr.heap.size := by omega
          have i1' : (0 : Int) ≤ (j : Int) := by omega
          have i2' : (j : Int) < (l.length : Int) := by omega
          have i3' : (j : Int) < 70 := by omega
          clear hcell htd ht
          have HO2 : Hid (∀ X, (wr.alloc X).ownsRow w.heap.size 40 3 (.slice oA j oc) j xs) := Lib.hid fun X => ownsRow_ext Ho.out fun g hg => Below.heap_alloc _ _ _ (ownsRow_lt Ho.out hg).2
          go_wp2_with (at_builtin; refine wpList_app _ rfl (.tmp 25) (.tmp 31) _ rfl w.heap.size 40 i1 _ 3 56 Try.underlying34 HI1.out HZ1.out HZ2.out HZ3.out rfl (by omega) (.slice oA j oc) j xs rfl (HO2.out _) (some ⟨wr.heap.size, 0, none⟩) 1 1 [_, _, _] rfl rfl (fun _ => ⟨_, rfl, cells3_new _ _ _ _ _⟩) (by simp [Value.oneCell']) (by simp only [maxLen]; omega) (by omega) (by simp; omega) ?_; intro v' w3 ho' hg' hat')
          obtain ⟨A3, c3', rfl⟩ := ownsRow_form ho'
          go_roundw
          case rel =>
            refine ⟨j + 1, A3, c3', _, by omega, by omega, by go_num, rfl, ?_, ho', ?_⟩
            · exact Ext.grown (Hx.out.trans' (Ext.alloc' _ _)) hg' (fun g hg => (ownsRow_lt Ho.out hg).1)
            · have := Hxs.out.push Htd.out
              rw [List.take_add_one, Ht.out]
              exact this
          case measure => simp [intOf]; omega
        · have hj : j = 70 := by omega
          subst hj
          have hlt : l7.length = 70 := by rw [← HL7.out, List.length_take]; omega
          have HT := Lib.hid hlt
          clear hlt
          go_wp2_with fail
          go_meet
          case rel => exact ⟨oA, oc, xs, by rw [HT.out], Hx.out, by rw [HT.out]; exact Ho.out, by rw [← HL7.out]; exact Hxs.out⟩
      · have hjl : j = l.length := by omega
        subst hjl
        have hlt : l7 = l := by rw [← HL7.out]; exact List.take_of_length_le (by omega)
        have HT := Lib.hid hlt
        clear hlt
        go_wp2_with fail
        go_meet
        case rel => exact ⟨oA, oc, xs, by rw [HT.out], Hx.out, by rw [HT.out]; exact Ho.out, by rw [HT.out]; have := Hxs.out; rw [List.take_length] at this; exact this⟩
  case rest =>
    obtain ⟨oA, oc, xs, rfl, hx, ho, hxs⟩ := hcut
    have Hx := Lib.hid hx
    have hops := own_ops ho rfl hxs hx
    have Hops := Lib.hid hops
    clear hx ho hxs hops
    cases hlong : longF (l7.map fun t => ((0 : Int), t))
    case true =>
      have HL := Lib.hid hlong
      clear hlong
      go_wp2_with (first
        | (go_at_call 26; refine (long28_any Hops.out).mono ?_; rw [HL.out]; rintro e w1 ⟨rfl, rfl⟩)
        | (go_at_call 27; refine (awake28_any _).mono ?_; rintro e w2 ⟨rfl, hx2⟩; have Hx2 := Lib.hid hx2; clear hx2))
      go_ret
      exact ⟨rfl, Hx.out.trans' Hx2.out⟩
    have HL := Lib.hid hlong
    obtain ⟨hl60, hbig⟩ := long_take (l := l) (by rw [HL7.out]; exact hlong)
    have HBg := Lib.hid hbig
    clear hlong hbig
    go_wp2_with (first
      | (go_at_call 26; refine (long28_any Hops.out).mono ?_; rw [HL.out]; rintro e w1 ⟨rfl, rfl⟩)
      | (go_at_call 27; refine (awake28_any _).mono ?_; rintro e w2 ⟨rfl, hx2⟩; have Hx2 := Lib.hid (Hx.out.trans' hx2); clear hx2)
      | (go_at_call 28; refine (qnew_any 256 _ (by decide) (by decide)).mono ?_; rintro e w1 ⟨rfl, rfl⟩))
    have HOL := Lib.hid (OrdL.start (S := S) Hx2.out)
    go_upto_block 2 with fail
    go_loopw [7, 8] (fun s i wr => ∃ j : Nat, j ≤ l.length ∧ i = .int .i64 j ∧ OrdL S w w2 wr j s) (fun _ i _ => l.length - (intOf i).toNat)
    case atStart => exact ⟨0, Nat.zero_le _, rfl, HOL.out⟩
    case round =>
      obtain ⟨j, hj, rfl, T, M, ins, iA, ic, cells, rfl, hx, hq, hil, hd, ho, hcl, hap⟩ := hrel
      have HX := Lib.hid hx
      have HQ := Lib.hid hq
      have HD := Lib.hid hd
      have HO := Lib.hid ho
      have HCL := Lib.hid hcl
      have HAP := Lib.hid hap
      have hz := hx.size
      obtain ⟨hcx, hfx⟩ := hx.rules
      clear hx hq hd ho hcl hap
      by_cases h1 : j < l.length
      · obtain ⟨t, ht⟩ : ∃ t, l[j]? = some t := ⟨_, List.getElem?_eq_getElem h1⟩
        have hbt := HBg.out t (List.mem_of_getElem? ht)
        obtain ⟨b, o, rfl, hb, hcell⟩ := G.out (by omega)
        obtain ⟨rv, fv, c0, c1, htd⟩ := hcell j t ht
        obtain ⟨Ar, cr, Af, cf, e⟩ := htd.form
        injection e with e
        simp only [Array.mk.injEq, List.cons.injEq, and_true] at e
        obtain ⟨rfl, rfl⟩ := e
        have Htd := Lib.hid (htd.small hbt)
        have hbr : b < wr.heap.size := by omega
        have k1 : (0 : Int) ≤ (j : Int) := by omega
        have k2 : (j : Int) < (l.length : Int) := by omega
        clear hcell htd ht hbt
        obtain ⟨z, hz0⟩ : ∃ z, pushC t 256 ins = z := ⟨_, rfl⟩
        by_cases hp0 : z = 0
        · subst hp0
          have HZ0 := Lib.hid hz0
          clear hz0
          go_wp2_with (first
            | (go_at_call 30; refine (giv28_any (B := 128) (by omega) (Htd.out.ext HX.out)).mono ?_; rintro e w3 ⟨A3, c3, A3', c3', rfl, hx3, htd3⟩; have Hx3 := Lib.hid hx3; have Htd3 := Lib.hid htd3; clear hx3 htd3)
            | (go_at_call 29; refine ((HQ.out.ext Hx3.out).push (by omega) (sz_le HQ.out Hx3.out) Htd3.out).mono ?_; rw [HZ0.out]; rintro e w4 ⟨rfl, hp4⟩; rw [if_pos rfl] at hp4; have hx4 := pushed_ext Hx2.out HX.out HQ.out Hx3.out hp4; have HX4 := Lib.hid hx4; obtain ⟨hc4, hf4⟩ := hx4.rules; have ho4 := pushed_row Hx3.out hp4 HO.out HAP.out; have HO4 : Hid (∀ X, (w4.alloc X).ownsRow w2.heap.size 38 2 (.slice iA ins.length ic) ins.length cells) := Lib.hid (fun X => ownsRow_ext ho4 fun g hg => Below.heap_alloc _ _ _ (ownsRow_lt ho4 hg).2); have hz4 : w2.heap.size ≤ w4.heap.size := (by obtain ⟨T', M', hq', _⟩ := hp4; exact sz_le hq' (Below.refl _ _)); have Hp4 := Lib.hid hp4; clear hp4 hx4 ho4)
            | (at_builtin; refine wpList_app _ rfl (.tmp 60) (.tmp 65) _ rfl w2.heap.size 38 i2 _ 2 48 Try.underlying33 HI2.out HY1.out HY2.out HY3.out rfl (by omega) (.slice iA ins.length ic) ins.length cells rfl (HO4.out _) (some ⟨w4.heap.size, 0, none⟩) 1 1 [_, _] rfl rfl (fun _ => ⟨_, rfl, cells2_new _ _ _ _⟩) (by simp [Value.oneCell']) (by simp only [maxLen]; omega) (by omega) (by simp; omega) ?_; intro v' w5 ho' hg' hat'))
          obtain ⟨A5, c5, rfl⟩ := ownsRow_form ho'
          go_roundw
          case rel => exact ⟨j + 1, by omega, by go_num, ordl_push Hx2.out HX.out HQ.out hil HD.out HO.out HCL.out HAP.out Hx3.out HZ0.out Hp4.out Htd.out ho' hg' hat'⟩
          case measure => simp [intOf]; omega
        · have HZ0 : Hid (pushC t 256 ins = z) := Lib.hid hz0
          have HZN : Hid (¬ pushC t 256 ins = 0) := Lib.hid (by rw [hz0]; exact hp0)
          have hzb : (z == 0) = false := by rw [beq_eq_false_iff_ne]; exact hp0
          clear hz0 hp0
          go_wp2_with (first
            | (go_at_call 30; refine (giv28_any (B := 128) (by omega) (Htd.out.ext HX.out)).mono ?_; rintro e w3 ⟨A3, c3, A3', c3', rfl, hx3, htd3⟩; have Hx3 := Lib.hid hx3; have Htd3 := Lib.hid htd3; clear hx3 htd3)
            | (go_at_call 29; refine ((HQ.out.ext Hx3.out).push (by omega) (sz_le HQ.out Hx3.out) Htd3.out).mono ?_; rintro e w4 ⟨rfl, hp4⟩; rw [if_neg HZN.out] at hp4; rw [HZ0.out]; have Hp4 := Lib.hid hp4; clear hp4))
          go_roundw
          case rel => exact ⟨j + 1, by omega, by go_num, ordl_keep Hx2.out HX.out HQ.out hil HD.out HO.out HCL.out HAP.out Hx3.out Hp4.out⟩
          case measure => simp [intOf]; omega
      · go_wp2_with fail
        have hap2 : ∀ g, (Value.slice iA ins.length ic).ownBlock = some g → ¬ M g := fun g h => (HAP.out g h).2
        have HAP2 := Lib.hid hap2
        have hN0 : OrdN T M w w2 wr ins iA ic cells 0 (-1) := ⟨ins, [], HQ.out, by simp, rfl, HX.out, HO.out, .inl ⟨rfl, rfl⟩⟩
        have HN0 := Lib.hid hN0
        have hil2 : ins.length ≤ 60 := by omega
        clear hap2 hN0 hcx hfx
        go_loopw [9, 10] (fun la i wx => ∃ (m : Nat) (lv : Int), la = .int .i64 lv ∧ i = .int .i64 m ∧ m ≤ ins.length ∧ OrdN T M w w2 wx ins iA ic cells m lv) (fun _ i _ => ins.length - (intOf i).toNat)
        case atStart => exact ⟨0, -1, rfl, rfl, Nat.zero_le _, HN0.out⟩
        case round =>
          rename_i wx _
          obtain ⟨m, lv, rfl, rfl, hml, ts, pop, hq, hp, hpm, hx, ho, hlast⟩ := hrel
          have hlen := ordn_len hp hpm
          have HQx := Lib.hid hq
          have HP := Lib.hid hp
          have HPM := Lib.hid hpm
          have HXx := Lib.hid hx
          have HOx := Lib.hid ho
          have HLA := Lib.hid hlast
          clear hq hp hpm hx ho hlast
          by_cases hmn : m < ins.length
          · have htl1 : ts.length ≤ 1000 := by omega
            have htl0 : 0 < ts.length := by omega
            clear hlen
            go_wp2_with (go_at_call 31; refine (HQx.out.pop htl1 htl0).mono ?_; rintro e w6 ⟨A6, c6, A6', c6', r, rest, rfl, hr6, hmin6, hq6, ht6, htd6⟩; have HR6 := Lib.hid hr6; have HM6 := Lib.hid hmin6; have HQ6 := Lib.hid hq6; have HT6 := Lib.hid ht6; have HTD6 := Lib.hid htd6; clear hr6 hmin6 hq6 ht6 htd6)
            obtain ⟨p, hpl, hpr⟩ := ordn_find HP.out HR6.out
            have HPR := Lib.hid hpr
            obtain ⟨W7, hW⟩ : ∃ W7, W7 = w6.alloc (.cells #[.slice A6 r.row.length c6, .slice A6' r.facts.length c6'] 48) := ⟨_, rfl⟩
            have HO7 : Hid (W7.ownsRow w2.heap.size 38 2 (.slice iA ins.length ic) ins.length cells) := Lib.hid (by rw [hW]; exact ordn_row HOx.out HAP2.out HT6.out)
            have HX7 : Hid (Ext w W7) := Lib.hid (by rw [hW]; exact ordn_ext Hx2.out HQx.out HXx.out HT6.out _)
            have HTD7 : Hid (Tdv 128 T W7 r (.agg #[.slice A6 r.row.length c6, .slice A6' r.facts.length c6'])) := Lib.hid (by rw [hW]; exact HTD6.out.ext (Ext.alloc' _ _))
            have hB7 : Blk W7 w6.heap.size 48 #[.slice A6 r.row.length c6, .slice A6' r.facts.length c6'] := by rw [hW]; exact Blk.new _ _ _
            have q0 : W7.cell? ⟨w6.heap.size, 0, none⟩ = some (.slice A6 r.row.length c6) := hB7.cell 0
            have q1 : W7.cell? ⟨w6.heap.size, 1, none⟩ = some (.slice A6' r.facts.length c6') := hB7.cell 1
            have qz := hB7.lt
            have HE7 : Hid (Ext (w6.alloc (.cells #[.slice A6 r.row.length c6, .slice A6' r.facts.length c6'] 48)) W7) := Lib.hid (by rw [hW]; exact Below.refl _ _)
            have hu := (up_rules W7).1
            rw [← hW]
            clear hW hB7 hpr
            go_loopw [13, 14] (fun a i wi => ∃ (k : Nat) (u : Up W7) (z : Int), k ≤ ins.length ∧ i = .int .i64 k ∧ a = .int .i64 z ∧ z = atI p k ∧ wi = u.val) (fun _ i _ => ins.length - (intOf i).toNat)
            case atStart => obtain ⟨u, hu'⟩ := Up.self W7; exact ⟨0, u, -1, Nat.zero_le _, rfl, rfl, (atI_start p).symm, hu'⟩
            case round =>
              obtain ⟨k, u, z, hk, rfl, rfl, hz0, rfl⟩ := hrel
              have HZ := Lib.hid hz0
              clear hz0
              by_cases hkl : k < ins.length
              · obtain ⟨tk, htk⟩ : ∃ tk, ins[k]? = some tk := ⟨_, List.getElem?_eq_getElem hkl⟩
                obtain ⟨gI, rvk, fvk, rfl, hgI, hgIl, hnc, hcm, d0, d1, htdk⟩ := own_td_cell HO7.out HCL.out htk
                obtain ⟨Ak, ck, Ak', ck', e⟩ := htdk.form
                injection e with e
                simp only [Array.mk.injEq, List.cons.injEq, and_true] at e
                obtain ⟨rfl, rfl⟩ := e
                have HTDK := Lib.hid (htdk.ext HX7.out)
                have k1 : (0 : Int) ≤ (k : Int) := by omega
                have k2 : (k : Int) < (ins.length : Int) := by omega
                unfold maxLen at hcm
                clear htdk
                by_cases hkp : k = p
                · have hrt : r = tk := by have h1 := HPR.out; rw [← hkp, htk] at h1; injection h1 with h1; exact h1.symm
                  have HS := Lib.hid (decide_eq_true hrt)
                  have HA := Lib.hid (atI_yes hkp)
                  clear hrt htk hkp
                  go_wp2_with fail
                  refine wp_region_up (by kernel_rfl) (by kernel_rfl) ?_
                  repeat (go_big_quiet_step ((go_at_call 32; exact Calls.up (same28_val HS.out (HTD7.out.up _) (HTDK.out.up _)))))
                  refine wpQuiet_nil ?_
                  rintro _ ⟨u3, rfl⟩
                  go_wp2_with fail
                  go_roundw
                  case rel => exact ⟨k + 1, u3, k, by omega, by go_num, rfl, HA.out.symm, rfl⟩
                  case measure => simp [intOf]; omega
                · have hrt : ¬ r = tk := fun e => HD.out.at_ne htk HPR.out hkp (by rw [e])
                  have HS := Lib.hid (decide_eq_false hrt)
                  have HA := Lib.hid (atI_no hkp)
                  clear hrt htk hkp
                  go_wp2_with fail
                  refine wp_region_up (by kernel_rfl) (by kernel_rfl) ?_
                  repeat (go_big_quiet_step ((go_at_call 32; exact Calls.up (same28_val HS.out (HTD7.out.up _) (HTDK.out.up _)))))
                  refine wpQuiet_nil ?_
                  rintro _ ⟨u3, rfl⟩
                  go_wp2_with fail
                  go_roundw
                  case rel => exact ⟨k + 1, u3, z, by omega, by go_num, rfl, by rw [HA.out]; exact HZ.out, rfl⟩
                  case measure => simp [intOf]; omega
              · have hkn : k = ins.length := by omega
                have hzp : z = (p : Int) := by rw [HZ.out, hkn]; exact atI_end hpl
                subst hzp
                clear HZ
                have a1 : decide ((p : Int) < 0) = false := decide_eq_false (by omega)
                have p1 : (0 : Int) ≤ (p : Int) := by omega
                have p2 : (p : Int) < (ins.length : Int) := by omega
                rcases HLA.out with ⟨hm0, rfl⟩ | ⟨pl, tl, rfl, hpl', htl, htlp, hminl⟩
                · go_wp2_with fail
                  refine wp_region_up (by kernel_rfl) (by kernel_rfl) ?_
                  repeat (go_big_quiet_step (fail))
                  refine wpQuiet_nil ?_
                  rintro _ ⟨u3, rfl⟩
                  go_wp2_with fail
                  go_roundw
                  case rel => exact ⟨m + 1, p, rfl, by go_num, by omega, ordn_step Hx2.out HQx.out HP.out HPM.out HXx.out HOx.out HAP2.out HR6.out HM6.out HQ6.out HT6.out (HE7.out.trans' u3.ext) hpl HPR.out⟩
                  case measure => simp [intOf]; omega
                · have HLT := Lib.hid (ordn_less HD.out HP.out HR6.out htlp hminl)
                  obtain ⟨gI, rv1, fv1, rfl, hgI, hgIl, hnc, hcm, d0, d1, htd1⟩ := own_td_cell HO7.out HCL.out htl
                  obtain ⟨gI2, rv2, fv2, e2, _, _, _, _, f0, f1, htd2⟩ := own_td_cell HO7.out HCL.out HPR.out
                  simp only [Option.some.injEq, Addr.mk.injEq, and_true] at e2
                  subst e2
                  obtain ⟨Ak, ck, Ak', ck', e⟩ := htd1.form
                  injection e with e
                  simp only [Array.mk.injEq, List.cons.injEq, and_true] at e
                  obtain ⟨rfl, rfl⟩ := e
                  obtain ⟨Am, cm, Am', cm', e⟩ := htd2.form
                  injection e with e
                  simp only [Array.mk.injEq, List.cons.injEq, and_true] at e
                  obtain ⟨rfl, rfl⟩ := e
                  have HR1 := Lib.hid (htd1.ext HX7.out).row
                  have HR2 := Lib.hid (htd2.ext HX7.out).row
                  have l1 : (0 : Int) ≤ (pl : Int) := by omega
                  have l2 : (pl : Int) < (ins.length : Int) := by omega
                  unfold maxLen at hcm
                  clear htl htlp hminl htd1 htd2
                  go_wp2_with fail
                  refine wp_region_up (by kernel_rfl) (by kernel_rfl) ?_
                  repeat (go_big_quiet_step ((go_at_call 33; exact Calls.up (less28_val HLT.out (HR1.out.up _) (HR2.out.up _)))))
                  refine wpQuiet_nil ?_
                  rintro _ ⟨u3, rfl⟩
                  go_wp2_with fail
                  go_roundw
                  case rel => exact ⟨m + 1, p, rfl, by go_num, by omega, ordn_step Hx2.out HQx.out HP.out HPM.out HXx.out HOx.out HAP2.out HR6.out HM6.out HQ6.out HT6.out (HE7.out.trans' u3.ext) hpl HPR.out⟩
                  case measure => simp [intOf]; omega
          · have hts : ts = [] := List.eq_nil_of_length_eq_zero (by omega)
            subst hts
            go_wp2_with (go_at_call 34; refine HQx.out.len.mono ?_; rintro e w5 ⟨rfl, rfl⟩)
            go_ret
            exact ⟨rfl, HXx.out⟩
end Go.Proofs.Ytocndkhgopjhhaa
