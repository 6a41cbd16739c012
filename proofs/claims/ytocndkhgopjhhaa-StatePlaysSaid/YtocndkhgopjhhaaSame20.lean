/- touchstoneref20.Same, touchstoneref28.Same. -/
import Derived.Test.YtocndkhgopjhhaaProg
import Derived.Test.YtocndkhgopjhhaaUnder
import Derived.Test.YtocndkhgopjhhaaPatM
import Derived.Deep.RegionHeld3
import Derived.Deep.DeepCutAuto
import Derived.Deep.CutBlock
import Derived.Outline
namespace Go.Proofs.Ytocndkhgopjhhaa
open Go.RowKit

instance : DecidableEq Fc := fun a b =>
  if h : a.known = b.known ∧ a.kind = b.kind ∧ a.rest = b.rest ∧ a.beside = b.beside ∧ a.names = b.names ∧ a.kids = b.kids then isTrue (by obtain ⟨h1, h2, h3, h4, h5, h6⟩ := h; cases a; cases b; simp_all)
  else isFalse (fun e => h (by subst e; simp))
theorem Fc.eq_iff {a b : Fc} : a = b ↔ a.known = b.known ∧ a.kind = b.kind ∧ a.rest = b.rest ∧ a.beside = b.beside ∧ a.names = b.names ∧ a.kids = b.kids :=
  ⟨fun e => by subst e; simp, fun ⟨h1, h2, h3, h4, h5, h6⟩ => by cases a; cases b; simp_all⟩
theorem dropEq_at {α : Type} [DecidableEq α] {a b : List α} {j : Nat} (h1 : j < a.length) (h2 : j < b.length) : decide (a.drop j = b.drop j) = (decide (a[j] = b[j]) && decide (a.drop (j + 1) = b.drop (j + 1))) := by
  rw [List.drop_eq_getElem_cons h1, List.drop_eq_getElem_cons h2, Bool.eq_iff_iff, Bool.and_eq_true, decide_eq_true_eq, decide_eq_true_eq, decide_eq_true_eq, List.cons.injEq]
theorem dropEq_end {α : Type} [DecidableEq α] {a b : List α} {j : Nat} (h1 : ¬ j < a.length) (h2 : a.length = b.length) : decide (a.drop j = b.drop j) = true := by
  rw [List.drop_eq_nil_of_le (by omega), List.drop_eq_nil_of_le (by omega)]; simp

theorem Blk.drewI {w : World} {g : Nat} {t : TypeId} {cs : Array Value} (h : Blk w g t cs) : Blk w.drew g t cs := h
/-- The cells of a fact. -/
def fcells (f : Fc) (nv kv : Value) : Array Value := #[.bool f.known, .int .u8 f.kind, nv, kv, .int .i64 f.rest, .int .i64 f.beside]

set_option maxRecDepth 100000 in
set_option maxHeartbeats 4000000 in
theorem same20_any {B1 B2 : Nat} {S1 S2 : Nat → Prop} {w : World} {v1 v2 : Value} {a b : List Fc} (h1 : Facts B1 S1 w v1 a) (h2 : Facts B2 S2 w v2 b) :
    Calls Try.prog 98 #[v1, v2] w fun e w' => e = .returned (.bool (decide (a = b))) ∧ Ext w w' := by
  have H1 := Lib.hid h1
  have H2 := Lib.hid h2
  obtain ⟨A1, c1, rfl, hc1, hm1, _⟩ := h1.form
  obtain ⟨A2, c2, rfl, hc2, hm2, _⟩ := h2.form
  unfold maxLen at hm1 hm2
  clear h1 h2
  by_cases hl : a.length = b.length
  case neg =>
    have hb : ((a.length : Int) != (b.length : Int)) = true := by rw [bne_iff_ne]; omega
    have HE : Hid (decide (a = b) = false) := Lib.hid (decide_eq_false (fun e => hl (by rw [e])))
    clear hl
    go_enter Try.func98, Try.ntmps98
    go_wp2_with fail
    go_ret
    exact ⟨ret_bool HE.out.symm, Below.refl _ _⟩
  have HL := Lib.hid hl
  have hb : ((a.length : Int) != (b.length : Int)) = false := by simp [hl]
  have hb' : (a.length != b.length) = false := by simp [hl]
  have hle1 : a.length ≤ b.length := by omega
  have hle2 : b.length ≤ a.length := by omega
  clear hl
  go_enter Try.func98, Try.ntmps98
  go_wp2_with fail
  go_loopw [5] (fun i wr => ∃ (j : Nat), j ≤ a.length ∧ i = .int .i64 j ∧ Ext w wr ∧ decide (a.drop j = b.drop j) = decide (a = b)) (fun i _ => a.length - (intOf i).toNat)
  case atStart => exact ⟨0, Nat.zero_le _, rfl, Below.refl _ _, rfl⟩
  case round =>
    obtain ⟨j, hj, rfl, hx, hy⟩ := hrel
    have Hx := Lib.hid hx
    obtain ⟨hcx, hfx⟩ := hx.rules
    have hz := hx.size
    clear hx
    by_cases hja : j < a.length
    · have hjb : j < b.length := by omega
      rw [dropEq_at hja hjb] at hy
      obtain ⟨f, hf⟩ : ∃ f, a[j] = f := ⟨_, rfl⟩
      obtain ⟨g, hg⟩ : ∃ g, b[j] = g := ⟨_, rfl⟩
      rw [hf, hg] at hy
      have hf' : a[j]? = some f := by rw [List.getElem?_eq_getElem hja, hf]
      have hg' : b[j]? = some g := by rw [List.getElem?_eq_getElem hjb, hg]
      obtain ⟨b1, o1, nv1, kv1, rfl, _, hb1, p0, p1, p2, p3, p4, p5, hs1, hk1, _⟩ := H1.out.get hf'
      obtain ⟨b2, o2, nv2, kv2, rfl, _, hb2, q0, q1, q2, q3, q4, q5, hs2, hk2, _⟩ := H2.out.get hg'
      have hb1r : b1 < wr.heap.size := by omega
      have hb2r : b2 < wr.heap.size := by omega
      have Hs1 := Lib.hid hs1
      have Hs2 := Lib.hid hs2
      have Hk1 := Lib.hid hk1
      have Hk2 := Lib.hid hk2
      have Hy := Lib.hid hy
      have i1 : (0 : Int) ≤ (j : Int) := by omega
      have i2 : (j : Int) < (a.length : Int) := by omega
      have i3 : (j : Int) < (b.length : Int) := by omega
      have e0 : wr.cell? ⟨b1, o1 + j * 6, none⟩ = some (.bool f.known) := (hcx _ _ hb1).trans p0
      obtain ⟨An1, cn1, rfl, _⟩ := hs1
      obtain ⟨Ak1, ck1, rfl, _⟩ := hk1
      obtain ⟨An2, cn2, rfl, _⟩ := hs2
      obtain ⟨Ak2, ck2, rfl, _⟩ := hk2
      clear hf hg hf' hg' hy
      go_upto_region 6 with fail
      go_cut [6, 7] (fun s6 s7 wx => ∃ g6 g7, s6 = .pointer (some ⟨g6, 0, none⟩) ∧ s7 = .pointer (some ⟨g7, 0, none⟩) ∧ Ext wr wx ∧ Blk wx g6 106 (fcells f (.slice An1 f.names.length cn1) (.slice Ak1 f.kids.length ck1)) ∧ Blk wx g7 106 (fcells g (.slice An2 g.names.length cn2) (.slice Ak2 g.kids.length ck2)))
      case first =>
        go_region
        all_goals
          go_wp2_with fail
          go_meet
          case rel =>
            refine ⟨_, _, rfl, rfl, ?_, ?_, ?_⟩
            · first | exact Below.drew ((Ext.alloc' _ _).trans' (Ext.alloc' _ _)) | exact (Ext.alloc' _ _).trans' (Ext.alloc' _ _)
            · first | exact Blk.drewI ((Blk.new _ _ _).alloc _) | exact Blk.drewI (Blk.new' _ _ _ (by simp)) | exact (Blk.new _ _ _).alloc _ | exact Blk.new' _ _ _ (by simp)
            · first | exact Blk.drewI ((Blk.new _ _ _).alloc _) | exact Blk.drewI (Blk.new' _ _ _ (by simp)) | exact (Blk.new _ _ _).alloc _ | exact Blk.new' _ _ _ (by simp)
      case rest =>
        obtain ⟨g6, g7, rfl, rfl, hxc, hb6, hb7⟩ := hcut
        have HXC := Lib.hid (Hx.out.trans' hxc)
        have HB6 := Lib.hid hb6
        have HB7 := Lib.hid hb7
        have x0 : wc.cell? ⟨g6, 0, none⟩ = some (.bool f.known) := hb6.cell 0
        have x1 : wc.cell? ⟨g6, 1, none⟩ = some (.int .u8 f.kind) := hb6.cell 1
        have x2 : wc.cell? ⟨g6, 2, none⟩ = some (.slice An1 f.names.length cn1) := hb6.cell 2
        have x3 : wc.cell? ⟨g6, 3, none⟩ = some (.slice Ak1 f.kids.length ck1) := hb6.cell 3
        have x4 : wc.cell? ⟨g6, 4, none⟩ = some (.int .i64 f.rest) := hb6.cell 4
        have x5 : wc.cell? ⟨g6, 5, none⟩ = some (.int .i64 f.beside) := hb6.cell 5
        have y0 : wc.cell? ⟨g7, 0, none⟩ = some (.bool g.known) := hb7.cell 0
        have y1 : wc.cell? ⟨g7, 1, none⟩ = some (.int .u8 g.kind) := hb7.cell 1
        have y2 : wc.cell? ⟨g7, 2, none⟩ = some (.slice An2 g.names.length cn2) := hb7.cell 2
        have y3 : wc.cell? ⟨g7, 3, none⟩ = some (.slice Ak2 g.kids.length ck2) := hb7.cell 3
        have y4 : wc.cell? ⟨g7, 4, none⟩ = some (.int .i64 g.rest) := hb7.cell 4
        have y5 : wc.cell? ⟨g7, 5, none⟩ = some (.int .i64 g.beside) := hb7.cell 5
        have HF : ¬ f = g → Hid (decide (a = b) = false) := fun h => Lib.hid (by rw [← Hy.out, decide_eq_false h]; rfl)
        have HFN := Lib.hid HF
        clear hxc hb6 hb7 hcx hfx HF
        by_cases m0 : f.known = g.known
        case neg =>
          have t0 : (f.known != g.known) = true := by rw [bne_iff_ne]; exact m0
          have s0 : (f.known == g.known) = false := by rw [beq_eq_false_iff_ne]; exact m0
          have HE := HFN.out (fun e => m0 (by rw [e]))
          clear m0
          go_wp2_with fail
          go_ret
          exact ⟨ret_bool HE.out.symm, HXC.out⟩
        have t0 : (f.known != g.known) = false := by simp [m0]
        have s0 : (f.known == g.known) = true := by simp [m0]
        have M0 := Lib.hid m0
        clear m0
        by_cases m1 : f.kind = g.kind
        case neg =>
          have t1 : (f.kind != g.kind) = true := by rw [bne_iff_ne]; exact m1
          have s1 : (f.kind == g.kind) = false := by rw [beq_eq_false_iff_ne]; exact m1
          have HE := HFN.out (fun e => m1 (by rw [e]))
          clear m1
          go_wp2_with fail
          go_ret
          exact ⟨ret_bool HE.out.symm, HXC.out⟩
        have t1 : (f.kind != g.kind) = false := by simp [m1]
        have s1 : (f.kind == g.kind) = true := by simp [m1]
        have M1 := Lib.hid m1
        clear m1
        by_cases m2 : f.rest = g.rest
        case neg =>
          have t2 : (f.rest != g.rest) = true := by rw [bne_iff_ne]; exact m2
          have s2 : (f.rest == g.rest) = false := by rw [beq_eq_false_iff_ne]; exact m2
          have HE := HFN.out (fun e => m2 (by rw [e]))
          clear m2
          go_wp2_with fail
          go_ret
          exact ⟨ret_bool HE.out.symm, HXC.out⟩
        have t2 : (f.rest != g.rest) = false := by simp [m2]
        have s2 : (f.rest == g.rest) = true := by simp [m2]
        have M2 := Lib.hid m2
        clear m2
        by_cases m3 : f.beside = g.beside
        case neg =>
          have t3 : (f.beside != g.beside) = true := by rw [bne_iff_ne]; exact m3
          have s3 : (f.beside == g.beside) = false := by rw [beq_eq_false_iff_ne]; exact m3
          have HE := HFN.out (fun e => m3 (by rw [e]))
          clear m3
          go_wp2_with fail
          go_ret
          exact ⟨ret_bool HE.out.symm, HXC.out⟩
        have t3 : (f.beside != g.beside) = false := by simp [m3]
        have s3 : (f.beside == g.beside) = true := by simp [m3]
        have M3 := Lib.hid m3
        clear m3
        have z6 := HB6.out.lt
        have z7 := HB7.out.lt
        by_cases m4 : f.names = g.names
        case neg =>
          have HN := Lib.hid (decide_eq_false m4)
          have HE := HFN.out (fun e => m4 (by rw [e]))
          clear m4
          go_wp2_with (go_at_call 138; refine (same6_any (Hs1.out.ext HXC.out) (Hs2.out.ext HXC.out)).mono ?_; rw [HN.out]; rintro e w3 ⟨rfl, hx3⟩; have Hx3 := Lib.hid hx3; obtain ⟨hc3, hf3⟩ := hx3.rules; clear hx3)
          go_ret
          exact ⟨ret_bool HE.out.symm, HXC.out.trans' Hx3.out⟩
        have HN := Lib.hid (decide_eq_true m4)
        have M4 := Lib.hid m4
        clear m4
        by_cases m5 : f.kids.length = g.kids.length
        case neg =>
          have t5 : ((f.kids.length : Int) != (g.kids.length : Int)) = true := by rw [bne_iff_ne]; omega
          have HE := HFN.out (fun e => m5 (by rw [e]))
          clear m5
          go_wp2_with (go_at_call 138; refine (same6_any (Hs1.out.ext HXC.out) (Hs2.out.ext HXC.out)).mono ?_; rw [HN.out]; rintro e w3 ⟨rfl, hx3⟩; have Hx3 := Lib.hid hx3; obtain ⟨hc3, hf3⟩ := hx3.rules; clear hx3)
          go_ret
          exact ⟨ret_bool HE.out.symm, HXC.out.trans' Hx3.out⟩
        have t5 : ((f.kids.length : Int) != (g.kids.length : Int)) = false := by simp [m5]
        have t5' : (f.kids.length != g.kids.length) = false := by simp [m5]
        have M5 := Lib.hid m5
        have lk1 : f.kids.length ≤ g.kids.length := by omega
        have lk2 : g.kids.length ≤ f.kids.length := by omega
        clear m5
        go_wp2_with (go_at_call 138; refine (same6_any (Hs1.out.ext HXC.out) (Hs2.out.ext HXC.out)).mono ?_; rw [HN.out]; rintro e w3 ⟨rfl, hx3⟩; have Hx3 := Lib.hid hx3; obtain ⟨hc3, hf3⟩ := hx3.rules; clear hx3)
        have HX3 := Lib.hid (HXC.out.trans' Hx3.out)
        have z3 := Hx3.out.size
        have g6l : g6 < w3.heap.size := by omega
        have g7l : g7 < w3.heap.size := by omega
        have xw3 : w3.cell? ⟨g6, 3, none⟩ = some (.slice Ak1 f.kids.length ck1) := (hc3 _ _ z6).trans x3
        have yw3 : w3.cell? ⟨g7, 3, none⟩ = some (.slice Ak2 g.kids.length ck2) := (hc3 _ _ z7).trans y3
        have hu := (up_rules w3).1
        obtain ⟨_, _, e1, _, _, _, _, gk1⟩ := Hk1.out
        injection e1 with e1 _ e2
        subst e1 e2
        obtain ⟨_, _, e1, _, _, _, _, gk2⟩ := Hk2.out
        injection e1 with e1 _ e2
        subst e1 e2
        have GK1 := Lib.hid gk1
        have GK2 := Lib.hid gk2
        have hmk : ck1 ≤ 9223372036854775807 ∧ ck2 ≤ 9223372036854775807 ∧ f.kids.length ≤ ck1 ∧ g.kids.length ≤ ck2 := by
          obtain ⟨_, _, e1, h1, h2, _⟩ := Hk1.out
          obtain ⟨_, _, e2, h3, h4, _⟩ := Hk2.out
          injection e1 with _ _ e1
          injection e2 with _ _ e2
          subst e1 e2
          unfold maxLen at h2 h4
          omega
        obtain ⟨hmk1, hmk2, hmk3, hmk4⟩ := hmk
        clear gk1 gk2 hc3 hf3 x0 x1 x2 x3 x4 x5 y0 y1 y2 y3 y4 y5 t0 t1 t2 t3 s0 s1 s2 s3 p0 p1 p2 p3 p4 p5 q0 q1 q2 q3 q4 q5 e0
        go_loopw [8] (fun i wi => ∃ (k : Nat) (u : Up w3), k ≤ f.kids.length ∧ i = .int .i64 k ∧ wi = u.val ∧ decide (f.kids.drop k = g.kids.drop k) = decide (f.kids = g.kids)) (fun i _ => f.kids.length - (intOf i).toNat)
        case atStart => obtain ⟨u, hu⟩ := Up.self w3; exact ⟨0, u, Nat.zero_le _, rfl, hu, rfl⟩
        case round =>
          obtain ⟨k, u, hk, rfl, rfl, hyk⟩ := hrel
          by_cases hk1 : k < f.kids.length
          · have hk2 : k < g.kids.length := by omega
            rw [dropEq_at hk1 hk2] at hyk
            obtain ⟨bk1, ok1, rfl, _, hbk1, hck1⟩ := GK1.out (by omega)
            obtain ⟨bk2, ok2, rfl, _, hbk2, hck2⟩ := GK2.out (by omega)
            obtain ⟨x, hxx⟩ : ∃ x, f.kids[k] = x := ⟨_, rfl⟩
            obtain ⟨y, hyy⟩ : ∃ y, g.kids[k] = y := ⟨_, rfl⟩
            have r1 : w3.cell? ⟨bk1, ok1 + k, none⟩ = some (.int .i64 x) := (HX3.out.cell (p := ⟨bk1, ok1 + k, none⟩) hbk1).trans (hck1 k x (by rw [List.getElem?_eq_getElem hk1, hxx]))
            have r2 : w3.cell? ⟨bk2, ok2 + k, none⟩ = some (.int .i64 y) := (HX3.out.cell (p := ⟨bk2, ok2 + k, none⟩) hbk2).trans (hck2 k y (by rw [List.getElem?_eq_getElem hk2, hyy]))
            have hb1' : bk1 < w3.heap.size := by have := HX3.out.size; omega
            have hb2' : bk2 < w3.heap.size := by have := HX3.out.size; omega
            rw [hxx, hyy] at hyk
            clear hck1 hck2 hxx hyy
            by_cases hxy : x = y
            · have u1 : (x != y) = false := by simp [hxy]
              have u2 : (x == y) = true := by simp [hxy]
              have HyK : Hid (decide (f.kids.drop (k + 1) = g.kids.drop (k + 1)) = decide (f.kids = g.kids)) := Lib.hid (by rw [← hyk, decide_eq_true hxy]; rfl)
              clear hyk hxy
              go_wp2_with fail
              refine wp_region_up (by kernel_rfl) (by kernel_rfl) ?_
              repeat (go_big_quiet_step (fail))
              refine wpQuiet_nil ?_
              rintro _ ⟨u3, rfl⟩
              go_wp2_with fail
              go_roundw
              case rel => exact ⟨k + 1, u3, by omega, by go_num, rfl, HyK.out⟩
              case measure => simp [intOf]; omega
            · have u1 : (x != y) = true := by rw [bne_iff_ne]; exact hxy
              have u2 : (x == y) = false := by rw [beq_eq_false_iff_ne]; exact hxy
              have hne : ¬ f.kids = g.kids := by rw [decide_eq_false hxy] at hyk; simpa using hyk.symm
              have HE := HFN.out (fun e => hne (by rw [e]))
              clear hyk hxy hne
              go_wp2_with fail
              refine wp_region_up (by kernel_rfl) (by kernel_rfl) ?_
              repeat (go_big_quiet_step (fail))
              refine wpQuiet_nil ?_
              rintro _ ⟨u3, rfl⟩
              go_wp2_with fail
              go_ret
              exact ⟨ret_bool HE.out.symm, HX3.out.trans' u3.ext⟩
          · rw [dropEq_end hk1 M5.out] at hyk
            have hkk : f.kids = g.kids := of_decide_eq_true hyk.symm
            have hfg : f = g := Fc.eq_iff.2 ⟨M0.out, M1.out, M2.out, M3.out, M4.out, hkk⟩
            have HyJ : Hid (decide (a.drop (j + 1) = b.drop (j + 1)) = decide (a = b)) := Lib.hid (by rw [← Hy.out, decide_eq_true hfg]; rfl)
            clear hyk hkk hfg
            go_wp2_with fail
            go_roundw
            case rel => exact ⟨j + 1, by omega, by go_num, HX3.out.trans' u.ext, HyJ.out⟩
            case measure => simp [intOf]; omega
    · rw [dropEq_end hja HL.out] at hy
      have Hy := Lib.hid hy
      clear hy
      go_wp2_with fail
      go_ret
      exact ⟨ret_bool Hy.out, Hx.out⟩
end Go.Proofs.Ytocndkhgopjhhaa
