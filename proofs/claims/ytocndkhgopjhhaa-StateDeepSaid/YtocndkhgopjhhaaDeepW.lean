/- StateDeep, walked: it answers yes. -/
import Derived.Test.YtocndkhgopjhhaaProg
import Derived.Test.YtocndkhgopjhhaaDeepL
import Derived.Deep.DeepCutAuto
import Derived.Deep.CutBlock
import Derived.Outline
namespace Go.Proofs.Ytocndkhgopjhhaa
open Go.RowKit

set_option maxRecDepth 100000 in
set_option maxHeartbeats 8000000 in
theorem deepLaw {w : World} {v : Value} {l : List Int} (h : U8s w v l) :
    Calls Try.prog 5 #[v] w fun e w' => e = .returned (.bool true) ∧ Ext w w' := by
  obtain ⟨A, c, rfl, hc, hm, hz, g⟩ := h
  have G := Lib.hid g
  have HZ := Lib.hid hz
  unfold maxLen at hm
  clear g hz
  obtain ⟨i1, hi1, hz1, hz2, hz3⟩ := info_parts int_info
  have HI1 := Lib.hid hi1
  have HZ1 := Lib.hid hz1
  have HZ2 := Lib.hid hz2
  have HZ3 := Lib.hid hz3
  clear hi1 hz1 hz2 hz3
  by_cases hlong : 60 < (l.length : Int)
  · go_enter Try.func5, Try.ntmps5
    go_wp2_with (go_at_call 27; refine (awake28_any _).mono ?_; rintro e w2 ⟨rfl, hx2⟩; have Hx2 := Lib.hid hx2; clear hx2)
    go_ret
    exact ⟨rfl, Hx2.out⟩
  have hl60 : l.length ≤ 60 := by omega
  go_enter Try.func5, Try.ntmps5
  go_wp2_with (first
    | (go_at_call 27; refine (awake28_any _).mono ?_; rintro e w2 ⟨rfl, hx2⟩; have Hx2 := Lib.hid hx2; clear hx2)
    | (go_at_call 28; refine (qnew_any 256 _ (by decide) (by decide)).mono ?_; rintro e w1 ⟨rfl, rfl⟩)
    | (go_at_call 35; refine (root28_any _).mono ?_; rintro e w3 ⟨rfl, rfl⟩)
    | (go_at_call 29; refine (deep_start l.length Hx2.out).mono ?_; rintro e w4 ⟨rfl, ha⟩; have HA0 := Lib.hid ha; clear ha))
  go_loopw [5, 6] (fun la i wr => ∃ (n : Nat) (last : List Int) (ts : List Td), i = .int .i64 n ∧ DeepAt w w2 n l.length la last ts wr) (fun _ i _ => 1000 - (intOf i).toNat)
  case atStart => exact ⟨0, [], _, rfl, HA0.out⟩
  case round =>
    obtain ⟨n, last, ts, rfl, ha⟩ := hrel
    have HA := Lib.hid ha
    have hsm := ha.small
    obtain ⟨Al, cl, rfl⟩ := ha.lv
    clear ha HA0
    by_cases hts : 0 < ts.length
    · have hn0 : (0 : Int) ≤ (n : Int) := by omega
      have hn1 : (n : Int) ≤ 1000 := by omega
      go_upto_region 11 with (first
        | (go_at_call 34; refine HA.out.len.mono ?_; rintro e w5 ⟨rfl, rfl⟩)
        | (go_at_call 31; refine (deep_pop hl60 Hx2.out HA.out hts).mono ?_; rintro e w6 ⟨A6, c6, A6', c6', row, rfl, hp6⟩; have HP6 := Lib.hid hp6; clear hp6))
      have hB6 := Blk.new w6 48 #[.slice A6 row.length c6, .slice A6' 1 c6']
      have HB6 := Lib.hid hB6
      have hsp := HP6.out
      obtain ⟨T, M, ts6, hq6, hk6, hw6, hr6, hf6, hl6, hrn6, hless6⟩ := hsp
      have HR6 := Lib.hid hr6
      have HL6 := Lib.hid hl6
      have HLS := Lib.hid hless6
      have HRN := Lib.hid hrn6
      have hrow : row.length ≤ 128 := by
        obtain ⟨_, _, _, _, _, hB, _⟩ := hr6
        exact hB
      clear hq6 hk6 hw6 hr6 hf6 hl6 hless6 hB6 hrn6
      go_cut [54] (fun s54 wx => s54 = .bool false ∧ Ext (w6.alloc (.cells #[.slice A6 row.length c6, .slice A6' 1 c6'] 48)) wx)
      case first =>
        by_cases hn2 : 0 < n
        case' neg => have hnz : decide (0 < n) = false := decide_eq_false hn2
        case neg => 
          go_wp2_with fail
          go_meet
          case rel => exact ⟨rfl, Below.refl _ _⟩
        case pos =>
          have HLS2 := Lib.hid (HLS.out hn2)
          go_wp2_with fail
          refine (less_val HLS2.out (HL6.out.alloc _) (HR6.out.alloc _)).mono ?_
          rintro e w7 ⟨rfl, hx7⟩
          have Hx7 := Lib.hid hx7
          clear hx7
          go_wp2_with fail
          go_meet
          case rel => exact ⟨rfl, Hx7.out⟩
      case rest =>
        obtain ⟨rfl, hx7⟩ := hcut
        have Hx7 := Lib.hid hx7
        have hB7 := HB6.out.ext hx7
        have q0 : wc.cell? ⟨w6.heap.size, 0, none⟩ = some (.slice A6 row.length c6) := hB7.cell 0
        have qz := hB7.lt
        have HB7 := Lib.hid hB7
        have hx67 := (Ext.alloc' w6 _).trans' hx7
        have HX67 := Lib.hid hx67
        obtain ⟨_, hA6, hs6⟩ := HR6.out.src
        have HS6 := Lib.hid (src_up hA6 hs6 (hx67.trans' (Ext.alloc' wc (.cells #[] 3))))
        have HRF := Lib.hid (RowOf.fresh (W1 := w6) wc hx67 3 1)
        have hzc := hx67.size
        clear hx7 hB7 hx67 hA6 hs6
        go_wp2_with (at_builtin; refine wpList_app _ rfl (.tmp 55) (.tmp 57) _ rfl w6.heap.size 3 i1 _ 1 8 Try.underlying35 HI1.out HZ1.out HZ2.out HZ3.out rfl (by omega) (.slice (some ⟨wc.heap.size, 0, none⟩) 0 0) 0 [] rfl HRF.out.2 A6 row.length c6 (row.map (Value.int .i64)) rfl (by simp) HS6.out (by simp [Value.oneCell']) (by simp only [maxLen]; omega) (by omega) (by simp; omega) ?_; intro v8 w8 ho8 hg8 hat8)
        obtain ⟨A8, c8, rfl⟩ := ownsRow_form ho8
        rw [Nat.zero_add, List.nil_append] at ho8
        have hz8 := hg8.size
        simp only [World.size_alloc] at hz8
        have hB8 : Blk w8 w6.heap.size 48 #[.slice A6 row.length c6, .slice A6' 1 c6'] := (HB7.out.alloc _).grown hg8 (by simp [Value.ownBlock]; omega)
        have hx8 : Ext w6 w8 := (HX67.out.trans' (Ext.alloc' _ _)).grown hg8 (fun g hg => by simp [Value.ownBlock] at hg; omega)
        have HIN := Lib.hid (deep_in HP6.out hx8 hB8 (Nat.le_refl _) ho8)
        clear hg8 hat8 ho8 hB8 hx8 q0 qz hzc hz8
        rw [Nat.zero_add]
        go_loopw [9] (fun kk wx => ∃ k : Nat, kk = .int .i64 k ∧ k ≤ 3 ∧ (k = 0 ∨ n < l.length) ∧ DeepIn w w2 n l.length row (.slice A6 row.length c6) (.slice A6' 1 c6') (.slice A8 row.length c8) w6.heap.size k wx) (fun kk _ => 3 - (intOf kk).toNat)
        case atStart => exact ⟨0, rfl, by omega, .inl rfl, HIN.out⟩
        case round =>
          obtain ⟨k, rfl, hk3, hkn, hin⟩ := hrel
          have HD := Lib.hid hin
          clear hin HIN
          by_cases hnl : n < l.length
          · obtain ⟨z, hz⟩ : ∃ z, l[n]? = some z := ⟨_, List.getElem?_eq_getElem hnl⟩
            obtain ⟨hz0, hz255⟩ := HZ.out z (List.mem_of_getElem? hz)
            obtain ⟨b, o, rfl, hb, hcell⟩ := G.out (by omega)
            have hxw : Ext w wr := by
              obtain ⟨_, _, _, _, _, hxw, _⟩ := HD.out
              exact hxw
            have c0 : wr.cell? ⟨b, o + n, none⟩ = some (.int .u8 z) := (hxw.cell (p := ⟨b, o + n, none⟩) hb).trans (hcell n z hz)
            have i1' : (0 : Int) ≤ (n : Int) := by omega
            have i2' : (n : Int) < (l.length : Int) := by omega
            clear hcell hz
            by_cases hkz : (k : Int) < z % 4
            · go_upto_region 17 with fail
              obtain ⟨Post, hPost⟩ : ∃ Post : World → Prop, Post = DeepIn w w2 n l.length row (.slice A6 row.length c6) (.slice A6' 1 c6') (.slice A8 row.length c8) w6.heap.size (k + 1) := ⟨_, rfl⟩
              have hk2 : k < 3 := by omega
              have c7 : wr.cell? ⟨w6.heap.size, 0, none⟩ = some (.slice A6 row.length c6) ∧ wr.cell? ⟨w6.heap.size, 1, none⟩ = some (.slice A6' 1 c6') ∧ w6.heap.size < wr.heap.size := by
                obtain ⟨_, _, _, _, _, _, hb, _⟩ := HD.out
                exact ⟨hb.cell 0, hb.cell 1, hb.lt⟩
              have HC7 := Lib.hid c7
              have HRw : Hid (Ints 128 (fun _ => True) wr (.slice A6 row.length c6) row) := by
                obtain ⟨_, _, _, _, _, _, _, _, hr, _⟩ := HD.out
                exact Lib.hid (hr.keep (Nat.le_refl _) (fun _ _ _ => rfl) (fun _ _ _ => trivial))
              clear c0 c7
              go_cut [10] (fun s10 wx => s10 = .int .i64 0 ∧ Post wx)
              case first =>
                refine wp_region_inv2 (by kernel_rfl) (fun listed a w' => ∃ x10 x75 x76 x77 x78 x79 x80 x81 x82 x83 x84 x85 x86 : Value, a = { tmps := #[Value.slice (some { block := b, off := o }) l.length c, undef, u2, Value.pointer (some { block := w2.heap.size, off := 0 }), Value.int IntKind.i64 0, Value.slice A8 row.length c8, Value.int IntKind.i64 ↑n, Value.pointer (some { block := w6.heap.size, off := 0 }), Value.int IntKind.i64 0, Value.int IntKind.i64 ↑k, x10, Value.slice (some { block := b, off := o }) l.length c, Value.int IntKind.i64 ↑l.length, Value.bool false, Value.bool false, Value.bool true, Value.bool false, Value.bool false, undef, Value.tuple #[Value.pointer (some { block := w2.heap.size, off := 0 }), Value.int IntKind.i64 0], Value.tuple #[Value.pointer (some { block := w2.heap.size, off := 0 }), Value.int IntKind.i64 0], Value.pointer (some { block := w2.heap.size, off := 0 }), Value.int IntKind.i64 0, Value.int IntKind.i64 0, Value.bool false, Value.bool false, Value.pointer (some { block := w2.heap.size, off := 0 }), Value.slice (some { block := w2.heap.size + 1, off := 0 }) 1 1, Value.agg #[Value.slice none 0 0, Value.slice (some { block := w2.heap.size + 1, off := 0 }) 1 1], Value.int IntKind.i64 0, Value.bool false, Value.bool false, u32, u33, u34, u35, u36, u37, u38, u39, u40, u41, u42, u43, u44, u45, u46, u47, u48, u49, u50, u51, u52, u53, Value.bool false, Value.slice (some { block := wc.heap.size, off := 0 }) 0 0, Value.pointer (some { block := w6.heap.size, off := 0 }), Value.slice A6 row.length c6, Value.slice A8 row.length c8, Value.int IntKind.i64 ↑n, Value.slice (some { block := b, off := o }) l.length c, Value.int IntKind.i64 ↑l.length, Value.bool true, Value.bool true, Value.int IntKind.i64 ↑k, Value.slice (some { block := b, off := o }) l.length c, Value.int IntKind.i64 ↑n, Value.pointer (some { block := b, off := o + n }), Value.int IntKind.u8 z, Value.int IntKind.u8 (z % 4), Value.int IntKind.i64 (z % 4), Value.bool true, Value.bool true, u73, u74, x75, x76, x77, x78, x79, x80, x81, x82, x83, x84, x85, x86, u87, u88], defers := [] } ∧
                  DI Post wr w2.heap.size w6.heap.size row.length (k : Int) (.slice A6 row.length c6) (.slice A6' 1 c6') (row.map (Value.int .i64)) (fun j => listed.getD j false) w' x10 x75 x76 x77 x78 x79 x80 x81 x82 x83 x84 x85 x86) ?_ ?_ ?_
                · refine ⟨u10, u75, u76, u77, u78, u79, u80, u81, u82, u83, u84, u85, u86, rfl, .inl ?_⟩
                  have e : (fun j => (Array.replicate (13 : Nat) false).getD j false) = fun _ => false := by
                    funext j
                    rw [Array.getD_eq_getD_getElem?, Array.getElem?_replicate]
                    split <;> rfl
                  show DA _ _ _ _ _ _ _ _ (fun j => (Array.replicate (13 : Nat) false).getD j false) _ _ _ _ _ _ _ _ _ _ _ _
                  rw [e]
                  exact DA.start wr
                · rintro listed a w' i hs ⟨x10, x75, x76, x77, x78, x79, x80, x81, x82, x83, x84, x85, x86, rfl, hI⟩ hr hcl
                  obtain ⟨hi, hn, he⟩ := ready_mem hr
                  have hs' : listed.size = 13 := hs
                  have e10 : listed.getD 11 false = true → ∀ j, j < 11 → listed.getD j false = true := by
                    intro h11
                    have c := hcl
                    have l0 := c 11 _ rfl h11 ⟨0, .data⟩ (by simp) rfl
                    have l10 := c 11 _ rfl h11 ⟨10, .data⟩ (by simp) rfl
                    have l7 := c 10 _ rfl l10 ⟨7, .data⟩ (by simp) rfl
                    have l9 := c 10 _ rfl l10 ⟨9, .data⟩ (by simp) rfl
                    have l8 := c 9 _ rfl l9 ⟨8, .data⟩ (by simp) rfl
                    have l4 := c 7 _ rfl l7 ⟨4, .data⟩ (by simp) rfl
                    have l6 := c 7 _ rfl l7 ⟨6, .data⟩ (by simp) rfl
                    have l1 := c 4 _ rfl l4 ⟨1, .data⟩ (by simp) rfl
                    have l3 := c 4 _ rfl l4 ⟨3, .data⟩ (by simp) rfl
                    have l2 := c 3 _ rfl l3 ⟨2, .data⟩ (by simp) rfl
                    have l5 := c 6 _ rfl l6 ⟨5, .data⟩ (by simp) rfl
                    intro j hj
                    match j, hj with
                    | 0, _ => exact l0
                    | 1, _ => exact l1
                    | 2, _ => exact l2
                    | 3, _ => exact l3
                    | 4, _ => exact l4
                    | 5, _ => exact l5
                    | 6, _ => exact l6
                    | 7, _ => exact l7
                    | 8, _ => exact l8
                    | 9, _ => exact l9
                    | 10, _ => exact l10
                    | n + 11, h => exact absurd h (by omega)
                  have h11 : i < 11 → listed.getD 11 false = false := by
                    intro hi11
                    cases h : listed.getD 11 false
                    · rfl
                    · have := e10 h i hi11
                      rw [getD_false hn] at this; cases this
                  match i, hi with
                  | 0, _ =>
                    refine wpOp_plain rfl rfl fun K hK => ?_
                    have HK := Lib.hid hK
                    have HA := Lib.hid (hI.pre (h11 (by omega)))
                    clear hK he hI hcl e10 h11 hr
                    go_simp
                    exact HK.out _ _ ⟨_, _, _, _, _, _, _, _, _, _, _, _, _, rfl, .inl (by rw [getD_same _ _ (by omega)]; exact HA.out.s0)⟩
                  | 1, _ =>
                    refine wpOp_plain rfl rfl fun K hK => ?_
                    have HK := Lib.hid hK
                    have HA := Lib.hid (hI.pre (h11 (by omega)))
                    clear hK he hI hcl e10 h11 hr
                    go_simp
                    exact HK.out _ _ ⟨_, _, _, _, _, _, _, _, _, _, _, _, _, rfl, .inl (by rw [getD_same _ _ (by omega)]; exact HA.out.s1)⟩
                  | 2, _ =>
                    refine wpOp_plain rfl rfl fun K hK => ?_
                    have HK := Lib.hid hK
                    have HA := Lib.hid (hI.pre (h11 (by omega)))
                    clear hK he hI hcl e10 h11 hr
                    go_simp
                    exact HK.out _ _ ⟨_, _, _, _, _, _, _, _, _, _, _, _, _, rfl, .inl (by rw [getD_same _ _ (by omega)]; exact HA.out.s2)⟩
                  | 3, _ =>
                    refine wpOp_plain rfl rfl fun K hK => ?_
                    have HK := Lib.hid hK
                    have HA := Lib.hid (hI.pre (h11 (by omega)))
                    have hx77 := HA.out.2.2.2.1 (he _ rfl ⟨2, .data⟩ (by simp) rfl)
                    subst hx77
                    have hc : w'.cell? ⟨w6.heap.size, 0, none⟩ = some (.slice A6 row.length c6) := (HA.out.1.cell (p := ⟨w6.heap.size, 0, none⟩) HC7.out.2.2).trans HC7.out.1
                    clear hK he hI hcl e10 h11 hr
                    go_simp
                    exact HK.out _ _ ⟨_, _, _, _, _, _, _, _, _, _, _, _, _, rfl, .inl (by rw [getD_same _ _ (by omega)]; exact HA.out.s3)⟩
                  | 4, _ =>
                    refine wpOp_plain rfl rfl fun K hK => ?_
                    have HK := Lib.hid hK
                    have HA := Lib.hid (hI.pre (h11 (by omega)))
                    have l1 := he _ rfl ⟨1, .data⟩ (by simp) rfl
                    have l4 := getD_false hn
                    have hx78 := HA.out.2.2.2.2.1 (he _ rfl ⟨3, .data⟩ (by simp) rfl)
                    subst hx78
                    have r := HA.out.2.2.1 l1 l4
                    have hsrc := (HRw.out.ext HA.out.1).src.2.2
                    clear hK he hI hcl e10 h11 hr
                    refine step_app2 (.tmp 76) (.tmp 78) 35 rfl wr.heap.size 3 i1 _ 1 8 Try.underlying35 HI1.out HZ1.out HZ2.out HZ3.out rfl (by omega) x76 0 [] rfl r.2 A6 row.length c6 (row.map (Value.int .i64)) rfl (by simp) hsrc (by simp [Value.oneCell']) (by simp only [maxLen]; omega) (by omega) HA.out.1.size ?_
                    intro v' w9 ho hg hat
                    rw [Nat.zero_add, List.nil_append] at ho
                    exact HK.out _ _ ⟨_, _, _, _, _, _, _, _, _, _, _, _, _, rfl, .inl (by rw [getD_same _ _ (by omega)]; exact HA.out.s4 l1 l4 ⟨ownsRow_form ho, ho⟩ hg hat)⟩
                  | 5, _ =>
                    refine wpOp_plain rfl rfl fun K hK => ?_
                    have HK := Lib.hid hK
                    have HA := Lib.hid (hI.pre (h11 (by omega)))
                    clear hK he hI hcl e10 h11 hr
                    go_simp
                    exact HK.out _ _ ⟨_, _, _, _, _, _, _, _, _, _, _, _, _, rfl, .inl (by rw [getD_same _ _ (by omega)]; exact HA.out.s5)⟩
                  | 6, _ =>
                    refine wpOp_plain rfl rfl fun K hK => ?_
                    have HK := Lib.hid hK
                    have HA := Lib.hid (hI.pre (h11 (by omega)))
                    have hx80 := HA.out.2.2.2.2.2.2.1 (he _ rfl ⟨5, .data⟩ (by simp) rfl)
                    subst hx80
                    have l6 := getD_false hn
                    clear hK he hI hcl e10 h11 hr
                    go_simp
                    exact HK.out _ _ ⟨_, _, _, _, _, _, _, _, _, _, _, _, _, rfl, .inl (by rw [getD_same _ _ (by omega)]; exact HA.out.s6 l6)⟩
                  | 7, _ =>
                    refine wpOp_plain rfl rfl fun K hK => ?_
                    have HK := Lib.hid hK
                    have HA := Lib.hid (hI.pre (h11 (by omega)))
                    have l4 := he _ rfl ⟨4, .data⟩ (by simp) rfl
                    have l6 := he _ rfl ⟨6, .data⟩ (by simp) rfl
                    have l7 := getD_false hn
                    have r := HA.out.2.2.2.2.2.1 l4 l7
                    obtain ⟨b81, hx81, hb81, _⟩ := HA.out.2.2.2.2.2.2.2.1 l6 l7
                    subst hx81
                    clear hK he hI hcl e10 h11 hr
                    refine step_app2 (.tmp 79) (.tmp 81) 35 rfl wr.heap.size 3 i1 _ 1 8 Try.underlying35 HI1.out HZ1.out HZ2.out HZ3.out rfl (by omega) x79 row.length (row.map (Value.int .i64)) rfl r.2 (some ⟨b81, 0, none⟩) 1 1 [.int .i64 (k : Int)] rfl (by simp) (one_src hb81) (by simp [Value.oneCell']) (by simp only [maxLen]; omega) (by omega) HA.out.1.size ?_
                    intro v' w9 ho hg hat
                    exact HK.out _ _ ⟨_, _, _, _, _, _, _, _, _, _, _, _, _, rfl, .inl (by rw [getD_same _ _ (by omega)]; exact HA.out.s7 l4 l6 l7 ⟨ownsRow_form ho, ho⟩ hg)⟩
                  | 8, _ =>
                    refine wpOp_plain rfl rfl fun K hK => ?_
                    have HK := Lib.hid hK
                    have HA := Lib.hid (hI.pre (h11 (by omega)))
                    clear hK he hI hcl e10 h11 hr
                    go_simp
                    exact HK.out _ _ ⟨_, _, _, _, _, _, _, _, _, _, _, _, _, rfl, .inl (by rw [getD_same _ _ (by omega)]; exact HA.out.s8)⟩
                  | 9, _ =>
                    refine wpOp_plain rfl rfl fun K hK => ?_
                    have HK := Lib.hid hK
                    have HA := Lib.hid (hI.pre (h11 (by omega)))
                    have hx83 := HA.out.2.2.2.2.2.2.2.2.2.1 (he _ rfl ⟨8, .data⟩ (by simp) rfl)
                    subst hx83
                    have l9 := getD_false hn
                    have hc : w'.cell? ⟨w6.heap.size, 1, none⟩ = some (.slice A6' 1 c6') := (HA.out.1.cell (p := ⟨w6.heap.size, 1, none⟩) HC7.out.2.2).trans HC7.out.2.1
                    clear hK he hI hcl e10 h11 hr
                    go_simp
                    exact HK.out _ _ ⟨_, _, _, _, _, _, _, _, _, _, _, _, _, rfl, .inl (by rw [getD_same _ _ (by omega)]; exact HA.out.s9 l9)⟩
                  | 10, _ =>
                    refine wpOp_plain rfl rfl fun K hK => ?_
                    have HK := Lib.hid hK
                    have HA := Lib.hid (hI.pre (h11 (by omega)))
                    have l7 := he _ rfl ⟨7, .data⟩ (by simp) rfl
                    have l9 := he _ rfl ⟨9, .data⟩ (by simp) rfl
                    obtain ⟨⟨A82, c82, hx82⟩, _⟩ := HA.out.2.2.2.2.2.2.2.2.1 l7
                    have hx84 := HA.out.2.2.2.2.2.2.2.2.2.2.1 l9
                    subst hx82 hx84
                    clear hK he hI hcl e10 h11 hr
                    go_simp
                    exact HK.out _ _ ⟨_, _, _, _, _, _, _, _, _, _, _, _, _, rfl, .inl (by rw [getD_same _ _ (by omega)]; exact HA.out.s10 l7 l9)⟩
                  | 11, _ =>
                    refine wpOp_plain rfl rfl fun K hK => ?_
                    have HK := Lib.hid hK
                    have HA := Lib.hid (hI.pre (getD_false hn))
                    have l12 : (if (12 : Nat) = 11 then true else listed.getD 12 false) = false := by
                      rw [if_neg (by omega)]
                      cases h : listed.getD 12 false
                      · rfl
                      · have := hcl 12 _ rfl h ⟨11, .data⟩ (by simp) rfl
                        rw [getD_false hn] at this; cases this
                    have hx75 := HA.out.2.1 (he _ rfl ⟨0, .data⟩ (by simp) rfl)
                    have l10 := he _ rfl ⟨10, .data⟩ (by simp) rfl
                    have hx85 := HA.out.2.2.2.2.2.2.2.2.2.2.2.1 l10
                    obtain ⟨l7, l9⟩ := HA.out.2.2.2.2.2.2.2.2.2.2.2.2.2.1 l10
                    have r := HA.out.2.2.2.2.2.2.2.2.1 l7
                    have hx84 := HA.out.2.2.2.2.2.2.2.2.2.2.1 l9
                    subst hx75 hx85 hx84
                    clear hK he hI hcl e10 h11 hr
                    go_simp
                    refine (deep_push Hx2.out HD.out hnl hl60 hk2 HRN.out HA.out.1 r).mono ?_
                    rintro e w9 ⟨rfl, hd9⟩
                    exact HK.out _ _ ⟨_, _, _, _, _, _, _, _, _, _, _, _, _, rfl, .inr (by rw [getD_same _ _ (by omega)]; exact ⟨rfl, rfl, by rw [hPost]; exact hd9, fun h => absurd (l12.symm.trans h) (by simp)⟩)⟩
                  | 12, _ =>
                    refine wpOp_plain rfl rfl fun K hK => ?_
                    have HK := Lib.hid hK
                    have l11 := he _ rfl ⟨11, .data⟩ (by simp) rfl
                    obtain ⟨hx86, hp, _⟩ := hI.post l11
                    subst hx86
                    clear hK he hI hcl e10 h11 hr
                    go_simp
                    exact HK.out _ _ ⟨_, _, _, _, _, _, _, _, _, _, _, _, _, rfl, .inr (by rw [getD_same _ _ (by omega)]; exact ⟨l11, rfl, hp, fun _ => rfl⟩)⟩
                  | n + 13, h => exact absurd h (by simp)
                · rintro listed a w' hs ⟨x10, x75, x76, x77, x78, x79, x80, x81, x82, x83, x84, x85, x86, rfl, hI⟩ hr
                  have l0 := ready_nil hr (i := 0) rfl (by simp) hs
                  have l1 := ready_nil hr (i := 1) rfl (by simp) hs
                  have l2 := ready_nil hr (i := 2) rfl (by simp) hs
                  have l5 := ready_nil hr (i := 5) rfl (by simp) hs
                  have l8 := ready_nil hr (i := 8) rfl (by simp) hs
                  have l3 := ready_nil hr (i := 3) rfl (by simp at l2 ⊢; exact l2) hs
                  have l4 := ready_nil hr (i := 4) rfl (by simp at l1 l3 ⊢; exact ⟨l1, l3⟩) hs
                  have l6 := ready_nil hr (i := 6) rfl (by simp at l5 ⊢; exact l5) hs
                  have l7 := ready_nil hr (i := 7) rfl (by simp at l4 l6 ⊢; simp [l4, l6]) hs
                  have l9 := ready_nil hr (i := 9) rfl (by simp at l8 ⊢; exact l8) hs
                  have l10 := ready_nil hr (i := 10) rfl (by simp at l7 l9 ⊢; simp [l7, l9]) hs
                  have l11 := ready_nil hr (i := 11) rfl (by simp at l0 l7 l10 ⊢; simp [l0, l7, l10]) hs
                  have l12 := ready_nil hr (i := 12) rfl (by simp at l0 l1 l2 l3 l4 l5 l6 l7 l8 l9 l10 l11 ⊢; simp [l0, l1, l2, l3, l4, l5, l6, l7, l8, l9, l10, l11]) hs
                  obtain ⟨_, hp, hx10⟩ := hI.post l11
                  have hx10' := hx10 l12
                  subst hx10'
                  have HP9 := Lib.hid hp
                  clear hI hr hs l0 l1 l2 l3 l4 l5 l6 l7 l8 l9 l10 l11 l12 hp hx10
                  go_wp2_with fail
                  go_meet
                  case rel => exact ⟨rfl, HP9.out⟩
              case rest =>
                obtain ⟨rfl, hp⟩ := hcut
                rw [hPost] at hp
                have HP9 := Lib.hid hp
                clear hp hPost
                go_wp2_with fail
                go_roundw
                case rel => exact ⟨k + 1, by go_num, by omega, .inr hnl, HP9.out⟩
                case measure => simp [intOf]; omega
            · go_wp2_with fail
              go_roundw
              case rel =>
                obtain ⟨ts', ha'⟩ := deep_next HD.out hk3 hkn
                exact ⟨n + 1, row, ts', by go_num, ha'⟩
              case measure => simp [intOf]; omega
          · go_wp2_with fail
            go_roundw
            case rel =>
              obtain ⟨ts', ha'⟩ := deep_next HD.out hk3 hkn
              exact ⟨n + 1, row, ts', by go_num, ha'⟩
            case measure => simp [intOf]; omega
    · have HE := Lib.hid HA.out.ext
      go_wp2_with (go_at_call 34; refine HA.out.len.mono ?_; rintro e w5 ⟨rfl, rfl⟩)
      go_ret
      exact ⟨rfl, HE.out⟩
end Go.Proofs.Ytocndkhgopjhhaa
