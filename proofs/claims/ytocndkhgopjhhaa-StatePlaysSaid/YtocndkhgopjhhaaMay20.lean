/- touchstoneref20.dir, one: may a fact be? -/
import Derived.Test.YtocndkhgopjhhaaProg
import Derived.Test.YtocndkhgopjhhaaPat1
import Derived.Test.YtocndkhgopjhhaaWell7
import Derived.Test.YtocndkhgopjhhaaPatM
import Derived.Outline
namespace Go.Proofs.Ytocndkhgopjhhaa
open Go.RowKit

set_option maxRecDepth 100000 in
set_option maxHeartbeats 1000000 in
theorem dir20_any {B : Nat} {S : Nat → Prop} {w : World} {f : Fc} {v : Value} (h : Fv B S w f v) :
    Calls Try.prog 159 #[v] w fun e w' => e = .returned (.bool (dirF f)) ∧ Ext w w' := by
  obtain ⟨nv, kv, rfl, w1, w2, w3, ⟨A, c, rfl, _⟩, ⟨A', c', rfl, _⟩⟩ := h
  cases hk : f.known
  · go_enter Try.func159, Try.ntmps159
    go_wp2_with fail
    go_ret
    exact ⟨ret_bool (by simp [dirF, hk]), Ext.alloc' _ _⟩
  · go_enter Try.func159, Try.ntmps159
    go_wp2_with fail
    go_ret
    exact ⟨ret_bool (by simp [dirF, hk]), Ext.alloc' _ _⟩

set_option maxRecDepth 100000 in
set_option maxHeartbeats 4000000 in
theorem one20_a {B : Nat} {S : Nat → Prop} {w : World} {f : Fc} {v : Value} (h : Fv B S w f v) (h1 : (decide (3 < f.kind) || (!f.known && f.kind != 0) || (f.names.length : Int) != (f.kids.length : Int)) = true) :
    Calls Try.prog 160 #[v] w fun e w' => e = .returned (.bool (oneF f)) ∧ Ext w w' := by
  have HF := Lib.hid h
  obtain ⟨nv, kv, rfl, w1, w2, w3, hn, hk⟩ := h
  obtain ⟨A, c, rfl, hc, hm, _, hs, hcl⟩ := hn
  obtain ⟨A', c', rfl, hc', hm', _, _, _⟩ := hk
  obtain ⟨known, kind, names, kids, rest, beside⟩ := f
  simp only at *
  unfold maxLen at hm hm'
  have Hs := Lib.hid hs
  have Hcl := Lib.hid hcl
  clear hs hcl
  have hO : oneF ⟨known, kind, names, kids, rest, beside⟩ = false := by rw [oneF, if_pos h1]
  rw [hO]
  clear hO
  cases k1 : decide (3 < kind)
  · cases known
    · cases k2 : (kind != 0)
      · rw [k1, k2] at h1
        simp only [Bool.false_or, Bool.not_false, Bool.and_false] at h1
        have k1' : ¬ 3 < kind := of_decide_eq_false k1
        go_enter Try.func160, Try.ntmps160
        go_wp2_with fail
        go_ret
        exact ⟨rfl, Ext.alloc' _ _⟩
      · have k1' : ¬ 3 < kind := of_decide_eq_false k1
        clear h1
        go_enter Try.func160, Try.ntmps160
        go_wp2_with fail
        go_ret
        exact ⟨rfl, Ext.alloc' _ _⟩
    · rw [k1] at h1
      simp only [Bool.false_or, Bool.not_true, Bool.false_and] at h1
      have k1' : ¬ 3 < kind := of_decide_eq_false k1
      go_enter Try.func160, Try.ntmps160
      go_wp2_with fail
      go_ret
      exact ⟨rfl, Ext.alloc' _ _⟩
  · have k1' : 3 < kind := of_decide_eq_true k1
    clear h1
    go_enter Try.func160, Try.ntmps160
    go_wp2_with fail
    go_ret
    exact ⟨rfl, Ext.alloc' _ _⟩
set_option maxRecDepth 100000 in
set_option maxHeartbeats 4000000 in
theorem one20_b {B : Nat} {S : Nat → Prop} {w : World} {f : Fc} {v : Value} (h : Fv B S w f v) (h1 : (decide (3 < f.kind) || (!f.known && f.kind != 0) || (f.names.length : Int) != (f.kids.length : Int)) = false) (hd : dirF f = false) :
    Calls Try.prog 160 #[v] w fun e w' => e = .returned (.bool (oneF f)) ∧ Ext w w' := by
  have HF := Lib.hid h
  obtain ⟨nv, kv, rfl, w1, w2, w3, hn, hk⟩ := h
  obtain ⟨A, c, rfl, hc, hm, _, hs, hcl⟩ := hn
  obtain ⟨A', c', rfl, hc', hm', _, _, _⟩ := hk
  obtain ⟨known, kind, names, kids, rest, beside⟩ := f
  simp only at *
  unfold maxLen at hm hm'
  have Hs := Lib.hid hs
  have Hcl := Lib.hid hcl
  clear hs hcl
  have h1' := h1
  simp only [Bool.or_eq_false_iff] at h1'
  obtain ⟨⟨g1, g2⟩, g3⟩ := h1'
  have k1' : ¬ 3 < kind := of_decide_eq_false g1
  have hlen : names.length = kids.length := by
    have : (names.length : Int) = (kids.length : Int) := by simpa using g3
    omega
  have hu := (up_rules (w.alloc (.cells #[.bool known, .int .u8 kind, .slice A names.length c, .slice A' kids.length c', .int .i64 rest, .int .i64 beside] 106))).1
  simp only [World.size_alloc] at hu
  have Hd := Lib.hid hd
  have hO : oneF ⟨known, kind, names, kids, rest, beside⟩ = ((names.length : Int) == 0 && rest == 0 && beside == 0) := by
    rw [oneF, if_neg (by simp only; rw [h1]; simp), if_neg (by rw [hd]; simp)]
  rw [hO]
  clear hO hd h1 g1 hlen
  cases known
  · have k2 : (kind != 0) = false := by simpa using g2
    clear g2
    cases m1 : ((names.length : Int) == 0)
    · go_enter Try.func160, Try.ntmps160
      go_wp2_with (first | (go_at_call 159; refine (dir20_any ((HF.out).alloc _)).mono ?_; rw [Hd.out]; rintro e w5 ⟨rfl, hx5⟩; obtain ⟨u5, rfl⟩ := Up.of hx5; clear hx5))
      go_ret
      exact ⟨rfl, (Ext.alloc' _ _).trans' u5.ext⟩
    · cases m2 : (rest == 0)
      · go_enter Try.func160, Try.ntmps160
        go_wp2_with (first | (go_at_call 159; refine (dir20_any ((HF.out).alloc _)).mono ?_; rw [Hd.out]; rintro e w5 ⟨rfl, hx5⟩; obtain ⟨u5, rfl⟩ := Up.of hx5; clear hx5))
        go_ret
        exact ⟨rfl, (Ext.alloc' _ _).trans' u5.ext⟩
      · cases m3 : (beside == 0)
        · go_enter Try.func160, Try.ntmps160
          go_wp2_with (first | (go_at_call 159; refine (dir20_any ((HF.out).alloc _)).mono ?_; rw [Hd.out]; rintro e w5 ⟨rfl, hx5⟩; obtain ⟨u5, rfl⟩ := Up.of hx5; clear hx5))
          go_ret
          exact ⟨rfl, (Ext.alloc' _ _).trans' u5.ext⟩
        · go_enter Try.func160, Try.ntmps160
          go_wp2_with (first | (go_at_call 159; refine (dir20_any ((HF.out).alloc _)).mono ?_; rw [Hd.out]; rintro e w5 ⟨rfl, hx5⟩; obtain ⟨u5, rfl⟩ := Up.of hx5; clear hx5))
          go_ret
          exact ⟨rfl, (Ext.alloc' _ _).trans' u5.ext⟩
  · clear g2
    cases m1 : ((names.length : Int) == 0)
    · go_enter Try.func160, Try.ntmps160
      go_wp2_with (first | (go_at_call 159; refine (dir20_any ((HF.out).alloc _)).mono ?_; rw [Hd.out]; rintro e w5 ⟨rfl, hx5⟩; obtain ⟨u5, rfl⟩ := Up.of hx5; clear hx5))
      go_ret
      exact ⟨rfl, (Ext.alloc' _ _).trans' u5.ext⟩
    · cases m2 : (rest == 0)
      · go_enter Try.func160, Try.ntmps160
        go_wp2_with (first | (go_at_call 159; refine (dir20_any ((HF.out).alloc _)).mono ?_; rw [Hd.out]; rintro e w5 ⟨rfl, hx5⟩; obtain ⟨u5, rfl⟩ := Up.of hx5; clear hx5))
        go_ret
        exact ⟨rfl, (Ext.alloc' _ _).trans' u5.ext⟩
      · cases m3 : (beside == 0)
        · go_enter Try.func160, Try.ntmps160
          go_wp2_with (first | (go_at_call 159; refine (dir20_any ((HF.out).alloc _)).mono ?_; rw [Hd.out]; rintro e w5 ⟨rfl, hx5⟩; obtain ⟨u5, rfl⟩ := Up.of hx5; clear hx5))
          go_ret
          exact ⟨rfl, (Ext.alloc' _ _).trans' u5.ext⟩
        · go_enter Try.func160, Try.ntmps160
          go_wp2_with (first | (go_at_call 159; refine (dir20_any ((HF.out).alloc _)).mono ?_; rw [Hd.out]; rintro e w5 ⟨rfl, hx5⟩; obtain ⟨u5, rfl⟩ := Up.of hx5; clear hx5))
          go_ret
          exact ⟨rfl, (Ext.alloc' _ _).trans' u5.ext⟩
set_option maxRecDepth 100000 in
set_option maxHeartbeats 4000000 in
theorem one20_c {B : Nat} {S : Nat → Prop} {w : World} {f : Fc} {v : Value} (h : Fv B S w f v) (h1 : (decide (3 < f.kind) || (!f.known && f.kind != 0) || (f.names.length : Int) != (f.kids.length : Int)) = false) (hd : dirF f = true) :
    Calls Try.prog 160 #[v] w fun e w' => e = .returned (.bool (oneF f)) ∧ Ext w w' := by
  have HF := Lib.hid h
  obtain ⟨nv, kv, rfl, w1, w2, w3, hn, hk⟩ := h
  obtain ⟨A, c, rfl, hc, hm, _, hs, hcl⟩ := hn
  obtain ⟨A', c', rfl, hc', hm', _, _, _⟩ := hk
  obtain ⟨known, kind, names, kids, rest, beside⟩ := f
  simp only at *
  unfold maxLen at hm hm'
  have Hs := Lib.hid hs
  have Hcl := Lib.hid hcl
  clear hs hcl
  have h1' := h1
  simp only [Bool.or_eq_false_iff] at h1'
  obtain ⟨⟨g1, g2⟩, g3⟩ := h1'
  have k1' : ¬ 3 < kind := of_decide_eq_false g1
  have hlen : names.length = kids.length := by
    have : (names.length : Int) = (kids.length : Int) := by simpa using g3
    omega
  have hu := (up_rules (w.alloc (.cells #[.bool known, .int .u8 kind, .slice A names.length c, .slice A' kids.length c', .int .i64 rest, .int .i64 beside] 106))).1
  simp only [World.size_alloc] at hu
  have hkk : known = true ∧ kind = 2 := by simpa [dirF] using hd
  obtain ⟨rfl, rfl⟩ := hkk
  have Hd := Lib.hid hd
  have hO : oneF ⟨true, 2, names, kids, rest, beside⟩ = (namesUp none names && tailF ⟨true, 2, names, kids, rest, beside⟩) := by
    rw [oneF, if_neg (by simp only; rw [h1]; simp), if_pos hd]
  have HO := Lib.hid hO
  clear hO hd h1 g1 g2 k1' hlen
  go_enter Try.func160, Try.ntmps160
  go_wp2_with (first | (go_at_call 159; refine (dir20_any ((HF.out).alloc _)).mono ?_; rw [Hd.out]; rintro e w5 ⟨rfl, hx5⟩; obtain ⟨u5, rfl⟩ := Up.of hx5; clear hx5))
  go_loopw [3] (fun i wr => ∃ (j : Nat), j ≤ names.length ∧ i = .int .i64 j ∧ Ext (w.alloc (.cells #[.bool true, .int .u8 2, .slice A names.length c, .slice A' kids.length c', .int .i64 rest, .int .i64 beside] 106)) wr ∧ namesUp (prevOf names j) (names.drop j) = namesUp none names) (fun i _ => names.length - (intOf i).toNat)
  case atStart => exact ⟨0, Nat.zero_le _, rfl, u5.ext, rfl⟩
  case round =>
    obtain ⟨j, hj, rfl, hx, hy⟩ := hrel
    have HX := Lib.hid hx
    have HB := Lib.hid ((Blk.new w 106 #[.bool true, .int .u8 2, .slice A names.length c, .slice A' kids.length c', .int .i64 rest, .int .i64 beside]).ext hx)
    have c0 : wr.cell? ⟨w.heap.size, 0, none⟩ = some (.bool true) := HB.out.cell 0
    have c1 : wr.cell? ⟨w.heap.size, 1, none⟩ = some (.int .u8 2) := HB.out.cell 1
    have c2 : wr.cell? ⟨w.heap.size, 2, none⟩ = some (.slice A names.length c) := HB.out.cell 2
    have c3 : wr.cell? ⟨w.heap.size, 3, none⟩ = some (.slice A' kids.length c') := HB.out.cell 3
    have c4 : wr.cell? ⟨w.heap.size, 4, none⟩ = some (.int .i64 rest) := HB.out.cell 4
    have c5 : wr.cell? ⟨w.heap.size, 5, none⟩ = some (.int .i64 beside) := HB.out.cell 5
    have bl := HB.out.lt
    obtain ⟨hu, hfu⟩ := up_rules wr
    have hzx := hx.size
    simp only [World.size_alloc] at hzx
    clear hx
    by_cases hlt : j < names.length
    · rw [namesUp_at hlt] at hy
      obtain ⟨b, o, rfl, hS, hbs, hcell⟩ := Hcl.out (by omega)
      have hbs' : b < wr.heap.size := by omega
      have cj : wr.cell? ⟨b, o + j, none⟩ = _ := (((Ext.alloc' w _).trans' HX.out).cell (p := ⟨b, o + j, none⟩) hbs).trans (hcell j _ (List.getElem?_eq_getElem hlt))
      have Hsz := Lib.hid (Hs.out _ (List.getElem_mem hlt))
      cases hnm : nameB names[j]
      · rw [hnm] at hy
        have HNM := Lib.hid hnm
        have Hy : Hid (namesUp none names = false) := by unfold Hid; rw [← hy]; rfl
        clear hy hcell hnm
        go_wp2_with fail
        refine wp_region_up0 (by kernel_rfl) (by kernel_rfl) ?_
        repeat (go_big_quiet_step ((go_at_call 82; exact Calls.up ((name6_any _ _ Hsz.out).mono fun e w' h => ⟨HNM.out ▸ h.1, h.2 ▸ Below.refl _ _⟩))))
        refine wpQuiet_nil ?_
        rintro _ ⟨u1, rfl⟩
        go_wp2_with fail
        go_ret
        exact ⟨ret_bool (by rw [HO.out, Hy.out]; rfl), (Ext.alloc' _ _).trans' (HX.out.trans' u1.ext)⟩
      · rw [hnm] at hy
        have HNM := Lib.hid hnm
        clear hnm
        cases j with
        | zero =>
          simp only [Nat.add_zero] at cj
          have Hy : Hid (namesUp (prevOf names (0 + 1)) (names.drop (0 + 1)) = namesUp none names) := by unfold Hid; rw [← hy]; rfl
          clear hy hcell
          go_wp2_with fail
          refine wp_region_up0 (by kernel_rfl) (by kernel_rfl) ?_
          repeat (go_big_quiet_step ((go_at_call 82; exact Calls.up ((name6_any _ _ Hsz.out).mono fun e w' h => ⟨HNM.out ▸ h.1, h.2 ▸ Below.refl _ _⟩))))
          refine wpQuiet_nil ?_
          rintro _ ⟨u1, rfl⟩
          go_wp2_with fail
          go_roundw
          case rel => exact ⟨0 + 1, by omega, by go_num, HX.out.trans' u1.ext, Hy.out⟩
          case measure => simp [intOf]; omega
        | succ j =>
          have hlj : j < names.length := by omega
          have cp : wr.cell? ⟨b, o + j, none⟩ = _ := (((Ext.alloc' w _).trans' HX.out).cell (p := ⟨b, o + j, none⟩) hbs).trans (hcell j _ (List.getElem?_eq_getElem hlj))
          have hp : prevOf names (j + 1) = some names[j] := by simp [prevOf, List.getElem?_eq_getElem hlj]
          have hjp : (0 : Int) < ((j + 1 : Nat) : Int) := by omega
          rw [hp] at hy
          clear hp hcell
          cases hle : (Op.bytesLess names[j + 1].toList names[j].toList || names[j + 1].toList == names[j].toList)
          · have hle' : leS names[j + 1] names[j] = false := hle
            have Hy : Hid (namesUp (prevOf names (j + 1 + 1)) (names.drop (j + 1 + 1)) = namesUp none names) := by unfold Hid; rw [← hy]; simp [hle']
            clear hy
            go_wp2_with fail
            refine wp_region_up0 (by kernel_rfl) (by kernel_rfl) ?_
            repeat (go_big_quiet_step ((go_at_call 82; exact Calls.up ((name6_any _ _ Hsz.out).mono fun e w' h => ⟨HNM.out ▸ h.1, h.2 ▸ Below.refl _ _⟩))))
            refine wpQuiet_nil ?_
            rintro _ ⟨u1, rfl⟩
            go_wp2_with fail
            go_roundw
            case rel => exact ⟨j + 1 + 1, by omega, by go_num, HX.out.trans' u1.ext, Hy.out⟩
            case measure => simp [intOf]; omega
          · have hle' : leS names[j + 1] names[j] = true := hle
            have Hy : Hid (namesUp none names = false) := by unfold Hid; rw [← hy]; simp [hle']
            clear hy
            go_wp2_with fail
            refine wp_region_up0 (by kernel_rfl) (by kernel_rfl) ?_
            repeat (go_big_quiet_step ((go_at_call 82; exact Calls.up ((name6_any _ _ Hsz.out).mono fun e w' h => ⟨HNM.out ▸ h.1, h.2 ▸ Below.refl _ _⟩))))
            refine wpQuiet_nil ?_
            rintro _ ⟨u1, rfl⟩
            go_wp2_with fail
            go_ret
            exact ⟨ret_bool (by rw [HO.out, Hy.out]; rfl), (Ext.alloc' _ _).trans' (HX.out.trans' u1.ext)⟩
    · rw [namesUp_end hlt] at hy
      have HO2 : Hid (oneF ⟨true, 2, names, kids, rest, beside⟩ = tailF ⟨true, 2, names, kids, rest, beside⟩) := Lib.hid (by rw [HO.out, ← hy]; rfl)
      clear hy
      by_cases r2 : rest = 2
      · subst r2
        cases b1 : decide (0 ≤ beside)
        · have b1' : ¬ 0 ≤ beside := of_decide_eq_false b1
          go_wp2_with fail
          go_ret
          exact ⟨ret_bool (by rw [HO2.out, tailF, if_pos rfl]; simp only [b1, Bool.false_and]), (Ext.alloc' _ _).trans' HX.out⟩
        · have b1' : 0 ≤ beside := of_decide_eq_true b1
          go_wp2_with fail
          go_ret
          exact ⟨ret_bool (by rw [HO2.out, tailF, if_pos rfl]; simp only [b1, Bool.true_and]), (Ext.alloc' _ _).trans' HX.out⟩
      · have r2' : (rest == 2) = false := by simpa using r2
        cases r0 : (rest == 0)
        · cases r1 : (rest == 1)
          · go_wp2_with fail
            go_ret
            exact ⟨ret_bool (by rw [HO2.out, tailF, if_neg r2]; simp [r0, r1]), (Ext.alloc' _ _).trans' HX.out⟩
          · go_wp2_with fail
            go_ret
            exact ⟨ret_bool (by rw [HO2.out, tailF, if_neg r2]; simp [r0, r1]), (Ext.alloc' _ _).trans' HX.out⟩
        · go_wp2_with fail
          go_ret
          exact ⟨ret_bool (by rw [HO2.out, tailF, if_neg r2]; simp [r0]), (Ext.alloc' _ _).trans' HX.out⟩

theorem one20_any {B : Nat} {S : Nat → Prop} {w : World} {f : Fc} {v : Value} (h : Fv B S w f v) :
    Calls Try.prog 160 #[v] w fun e w' => e = .returned (.bool (oneF f)) ∧ Ext w w' := by
  cases h1 : (decide (3 < f.kind) || (!f.known && f.kind != 0) || (f.names.length : Int) != (f.kids.length : Int))
  · cases hd : dirF f
    · exact one20_b h h1 hd
    · exact one20_c h h1 hd
  · exact one20_a h h1
end Go.Proofs.Ytocndkhgopjhhaa
/- touchstoneref20.May says what pat.May says: the plain law. -/
namespace Go.Proofs.Ytocndkhgopjhhaa
open Go.RowKit

/-- What above goes through: the kids of one fact, of all; none: in more than one. -/
def scanK (n : Int) (i : Int) : Int → List Int → Option Int
  | a, [] => some a
  | a, k :: ks => if k = n then (if 0 ≤ a then none else scanK n i i ks) else scanK n i a ks
def scanL (n : Int) : Int → Int → List Fc → Option Int
  | _, a, [] => some a
  | i, a, f :: fs => match scanK n i a f.kids with
    | none => none
    | some a' => scanL n (i + 1) a' fs
def aboveF (fs : List Fc) (n : Int) : Int := (scanL n 0 (-1) fs).getD (-1)
/-- What touchstoneref20.May asks. -/
def may20F (fs : List Fc) : Bool := decide (0 < fs.length) && fs.head?.any dirF && fs.all oneF && decide (((kidsAll fs).length : Int) = (fs.length : Int) - 1) && ((List.range fs.length).drop 1).all fun (z : Nat) => decide (0 ≤ aboveF fs z) && decide (aboveF fs z < z)

theorem scanK_zero {n i : Int} : ∀ {ks : List Int} {a : Int}, ks.count n = 0 → scanK n i a ks = some a
  | [], a, _ => rfl
  | k :: ks, a, h => by
    rw [List.count_cons] at h
    have hk : k ≠ n := fun e => by subst e; simp at h
    rw [scanK, if_neg hk]
    exact scanK_zero (by omega)
theorem scanK_more {n i : Int} : ∀ {ks : List Int} {a : Int}, 0 ≤ a → 0 < ks.count n → scanK n i a ks = none
  | [], a, _, h => by simp at h
  | k :: ks, a, ha, h => by
    rw [scanK]
    by_cases hk : k = n
    · rw [if_pos hk, if_pos ha]
    · rw [if_neg hk]
      rw [List.count_cons] at h
      have : (k == n) = false := by simpa using hk
      rw [this] at h
      exact scanK_more ha (by simpa using h)
theorem scanK_one {n i : Int} (hi : 0 ≤ i) : ∀ {ks : List Int} {a : Int}, a < 0 → ks.count n = 1 → scanK n i a ks = some i
  | [], a, _, h => by simp at h
  | k :: ks, a, ha, h => by
    rw [scanK]
    rw [List.count_cons] at h
    by_cases hk : k = n
    · rw [if_pos hk, if_neg (by omega)]
      have : (k == n) = true := by simpa using hk
      rw [this] at h
      exact scanK_zero (by simpa using h)
    · rw [if_neg hk]
      have : (k == n) = false := by simpa using hk
      rw [this] at h
      exact scanK_one hi ha (by simpa using h)
theorem scanK_two {n i : Int} (hi : 0 ≤ i) : ∀ {ks : List Int} {a : Int}, 2 ≤ ks.count n → scanK n i a ks = none
  | [], a, h => by simp at h
  | k :: ks, a, h => by
    rw [scanK]
    rw [List.count_cons] at h
    by_cases hk : k = n
    · rw [if_pos hk]
      have : (k == n) = true := by simpa using hk
      rw [this] at h
      split
      · rfl
      · exact scanK_more hi (by rw [if_pos rfl] at h; omega)
    · rw [if_neg hk]
      have : (k == n) = false := by simpa using hk
      rw [this] at h
      exact scanK_two hi (by simpa using h)

theorem kidsAll_cons (f : Fc) (fs : List Fc) (z : Int) : (kidsAll (f :: fs)).count z = f.kids.count z + (kidsAll fs).count z := by
  simp [kidsAll, List.flatMap_cons, List.count_append]
theorem scanL_zero {n : Int} : ∀ {fs : List Fc} {i a : Int}, (kidsAll fs).count n = 0 → scanL n i a fs = some a
  | [], _, _, _ => rfl
  | f :: fs, i, a, h => by
    rw [kidsAll_cons] at h
    rw [scanL, scanK_zero (by omega)]
    exact scanL_zero (by omega)
theorem scanL_more {n : Int} : ∀ {fs : List Fc} {i a : Int}, 0 ≤ a → 0 < (kidsAll fs).count n → scanL n i a fs = none
  | [], _, _, _, h => by simp [kidsAll] at h
  | f :: fs, i, a, ha, h => by
    rw [kidsAll_cons] at h
    rw [scanL]
    rcases Nat.eq_zero_or_pos (f.kids.count n) with h0 | h0
    · rw [scanK_zero h0]; exact scanL_more ha (by omega)
    · rw [scanK_more ha h0]
theorem scanL_two {n : Int} : ∀ {fs : List Fc} {i a : Int}, 0 ≤ i → a < 0 → 2 ≤ (kidsAll fs).count n → scanL n i a fs = none
  | [], _, _, _, _, h => by simp [kidsAll] at h
  | f :: fs, i, a, hi, ha, h => by
    rw [kidsAll_cons] at h
    rw [scanL]
    rcases (by omega : f.kids.count n = 0 ∨ f.kids.count n = 1 ∨ 2 ≤ f.kids.count n) with h0 | h0 | h0
    · rw [scanK_zero h0]; exact scanL_two (by omega) ha (by omega)
    · rw [scanK_one hi ha h0]; exact scanL_more hi (by omega)
    · rw [scanK_two hi h0]
theorem scanL_one {n : Int} : ∀ {fs : List Fc} {i : Nat} {a : Int}, a < 0 → (kidsAll fs).count n = 1 → ∃ j f, fs[j]? = some f ∧ n ∈ f.kids ∧ scanL n i a fs = some ((i + j : Nat) : Int)
  | [], _, _, _, h => by simp [kidsAll] at h
  | f :: fs, i, a, ha, h => by
    rw [kidsAll_cons] at h
    rw [scanL]
    rcases (by omega : f.kids.count n = 0 ∨ f.kids.count n = 1) with h0 | h0
    · rw [scanK_zero h0]
      have h' : (kidsAll fs).count n = 1 := by omega
      obtain ⟨j, g, h1, h2, h3⟩ := scanL_one (fs := fs) (i := i + 1) ha h'
      refine ⟨j + 1, g, by simpa using h1, h2, ?_⟩
      have e : ((i : Int) + 1) = ((i + 1 : Nat) : Int) := by omega
      rw [e]
      show scanL n _ a fs = _
      rw [h3]
      congr 1
      omega
    · rw [scanK_one (by omega) ha h0]
      refine ⟨0, f, rfl, List.count_pos_iff.1 (by omega), ?_⟩
      show scanL n _ (i : Int) fs = _
      rw [scanL_zero (by omega)]
      simp
theorem mem_two {n : Int} : ∀ {fs : List Fc} {i j : Nat} {f g : Fc}, (kidsAll fs).count n = 1 → fs[i]? = some f → fs[j]? = some g → n ∈ f.kids → n ∈ g.kids → i = j
  | [], i, _, _, _, _, h, _, _, _ => by simp at h
  | x :: fs, i, j, f, g, hc, hi, hj, hf, hg => by
    rw [kidsAll_cons] at hc
    have pos : ∀ {k : Nat} {y : Fc}, fs[k]? = some y → n ∈ y.kids → 0 < (kidsAll fs).count n := fun hk hy => by
      refine List.count_pos_iff.2 ?_
      exact List.mem_flatMap.2 ⟨_, List.mem_of_getElem? hk, hy⟩
    match i, j with
    | 0, 0 => rfl
    | 0, j + 1 =>
      simp at hi hj
      subst hi
      have := pos hj hg
      have := List.count_pos_iff.2 hf
      omega
    | i + 1, 0 =>
      simp at hi hj
      subst hj
      have := pos hi hf
      have := List.count_pos_iff.2 hg
      omega
    | i + 1, j + 1 =>
      simp at hi hj
      have h1 := pos hi hf
      have := mem_two (fs := fs) (by omega) hi hj hf hg
      omega

theorem above_iff (fs : List Fc) (z : Int) : (0 ≤ aboveF fs z ∧ aboveF fs z < z) ↔ ((kidsAll fs).count z = 1 ∧ ∀ (i : Nat) f, fs[i]? = some f → z ∈ f.kids → (i : Int) < z) := by
  unfold aboveF
  rcases (by omega : (kidsAll fs).count z = 0 ∨ (kidsAll fs).count z = 1 ∨ 2 ≤ (kidsAll fs).count z) with h | h | h
  · rw [scanL_zero h]
    constructor
    · rintro ⟨h1, _⟩; simp at h1
    · rintro ⟨h1, _⟩; omega
  · obtain ⟨j, f, h1, h2, h3⟩ := scanL_one (n := z) (fs := fs) (i := 0) (a := -1) (by omega) h
    have h3' : scanL z 0 (-1) fs = some ((0 + j : Nat) : Int) := h3
    rw [h3']
    simp only [Option.getD_some, Nat.zero_add]
    constructor
    · rintro ⟨_, hz⟩
      refine ⟨h, fun i g hg hm => ?_⟩
      have := mem_two h hg h1 hm h2
      omega
    · rintro ⟨_, ha⟩
      exact ⟨by omega, ha j f h1 h2⟩
  · rw [scanL_two (by omega) (by omega) h]
    constructor
    · rintro ⟨h1, _⟩; simp at h1
    · rintro ⟨h1, _⟩; omega

theorem countP_step (L : List Int) (m : Int) : L.countP (fun k => decide (1 ≤ k) && decide (k < m + 1)) = L.countP (fun k => decide (1 ≤ k) && decide (k < m)) + (if 1 ≤ m then L.count m else 0) := by
  induction L with
  | nil => simp
  | cons x L ih =>
    rw [List.countP_cons, List.countP_cons, List.count_cons, ih]
    by_cases h1 : 1 ≤ m
    · rw [if_pos h1, if_pos h1]
      rcases Int.lt_trichotomy x m with h | h | h
      · have e1 : (x == m) = false := by rw [beq_eq_false_iff_ne]; omega
        have e2 : decide (x < m + 1) = true := decide_eq_true (by omega)
        have e3 : decide (x < m) = true := decide_eq_true h
        rw [e1, e2, e3]
        simp
        omega
      · subst h
        have e2 : decide (x < x + 1) = true := decide_eq_true (by omega)
        have e3 : decide (x < x) = false := decide_eq_false (by omega)
        have e4 : decide (1 ≤ x) = true := decide_eq_true h1
        rw [e2, e3, e4]
        simp
        omega
      · have e1 : (x == m) = false := by rw [beq_eq_false_iff_ne]; omega
        have e2 : decide (x < m + 1) = false := decide_eq_false (by omega)
        have e3 : decide (x < m) = false := decide_eq_false (by omega)
        rw [e1, e2, e3]
        simp
    · rw [if_neg h1, if_neg h1]
      have e : (decide (1 ≤ x) && decide (x < m + 1)) = (decide (1 ≤ x) && decide (x < m)) := by
        by_cases hx : 1 ≤ x
        · rw [decide_eq_false (show ¬ x < m + 1 by omega), decide_eq_false (show ¬ x < m by omega)]
        · rw [decide_eq_false hx]; rfl
      rw [e]
      omega
theorem countP_all (L : List Int) : ∀ (n : Nat), (∀ z : Nat, 1 ≤ z → z < n → L.count (z : Int) = 1) → L.countP (fun k => decide (1 ≤ k) && decide (k < (n : Int))) = n - 1
  | 0, _ => by
    rw [List.countP_eq_zero]
    intro a _
    by_cases h : 1 ≤ a
    · simp; omega
    · simp [h]
  | n + 1, h => by
    have e : ((n + 1 : Nat) : Int) = (n : Int) + 1 := by omega
    rw [e, countP_step, countP_all L n (fun z h1 h2 => h z h1 (by omega))]
    by_cases hn : 1 ≤ n
    · rw [if_pos (by omega), h n hn (by omega)]; omega
    · rw [if_neg (by omega)]; omega

theorem mayL_iff (n : Int) : ∀ (i : Nat) (fs : List Fc), mayL n i fs = true ↔ (∀ f ∈ fs, oneF f = true) ∧ ∀ (j : Nat) f, fs[j]? = some f → ∀ k ∈ f.kids, ((i + j : Nat) : Int) < k ∧ k < n
  | _, [] => by simp [mayL]
  | i, f :: fs => by
    have e : ((i : Int) + 1) = ((i + 1 : Nat) : Int) := by omega
    rw [mayL, Bool.and_eq_true, Bool.and_eq_true, e, mayL_iff n (i + 1) fs]
    unfold kidsOk
    rw [List.all_eq_true]
    constructor
    · rintro ⟨⟨h1, h2⟩, h3, h4⟩
      refine ⟨fun g hg => ?_, fun j g hj k hk => ?_⟩
      · rcases List.mem_cons.1 hg with rfl | hg
        · exact h1
        · exact h3 g hg
      · match j with
        | 0 =>
          simp at hj
          subst hj
          have := h2 k hk
          simp only [Bool.and_eq_true, decide_eq_true_eq] at this
          exact ⟨by omega, this.2⟩
        | j + 1 =>
          have := h4 j g (by simpa using hj) k hk
          exact ⟨by omega, this.2⟩
    · rintro ⟨h1, h2⟩
      refine ⟨⟨h1 f (List.mem_cons_self ..), fun k hk => ?_⟩, fun g hg => h1 g (List.mem_cons_of_mem _ hg), fun j g hj k hk => ?_⟩
      · have := h2 0 f rfl k hk
        simp only [Bool.and_eq_true, decide_eq_true_eq]
        exact ⟨by omega, this.2⟩
      · have := h2 (j + 1) g (by simpa using hj) k hk
        exact ⟨by omega, this.2⟩

theorem stands_iff (fs : List Fc) : (!((standsL fs).drop 1).any not1) = true ↔ ∀ z : Nat, 1 ≤ z → z < fs.length → (kidsAll fs).count (z : Int) = 1 := by
  unfold standsL
  rw [Bool.not_eq_true', List.any_eq_false]
  constructor
  · intro h z h1 h2
    have hm : ((kidsAll fs).count (z : Int) : Int) ∈ ((List.range fs.length).map fun (z : Nat) => ((kidsAll fs).count (z : Int) : Int)).drop 1 := by
      refine List.mem_iff_getElem?.2 ⟨z - 1, ?_⟩
      rw [List.getElem?_drop, show 1 + (z - 1) = z by omega, List.getElem?_map, List.getElem?_range h2]
      rfl
    have := h _ hm
    unfold not1 at this
    have : ((kidsAll fs).count (z : Int) : Int) = 1 := by simpa using this
    omega
  · intro h x hx
    obtain ⟨i, hi⟩ := List.mem_iff_getElem?.1 hx
    rw [List.getElem?_drop, List.getElem?_map] at hi
    obtain ⟨z, hz, rfl⟩ := Option.map_eq_some_iff.1 hi
    have hl := (List.getElem?_eq_some_iff.1 hz).1
    rw [List.length_range] at hl
    rw [List.getElem?_range hl] at hz
    injection hz with hz
    have := h z (by omega) (by omega)
    unfold not1
    rw [this]
    decide
theorem range1_iff (n : Nat) (p : Nat → Bool) : ((List.range n).drop 1).all p = true ↔ ∀ z, 1 ≤ z → z < n → p z = true := by
  rw [List.all_eq_true]
  constructor
  · intro h z h1 h2
    refine h z (List.mem_iff_getElem?.2 ⟨z - 1, ?_⟩)
    rw [List.getElem?_drop, show 1 + (z - 1) = z by omega, List.getElem?_range h2]
  · intro h x hx
    obtain ⟨i, hi⟩ := List.mem_iff_getElem?.1 hx
    rw [List.getElem?_drop] at hi
    have hl := (List.getElem?_eq_some_iff.1 hi).1
    rw [List.length_range] at hl
    rw [List.getElem?_range hl] at hi
    injection hi with hi
    exact h x (by omega) (by omega)

theorem may20_eq (fs : List Fc) : may20F fs = mayF fs := by
  rw [Bool.eq_iff_iff]
  unfold may20F mayF
  simp only [Bool.and_eq_true]
  rw [stands_iff, range1_iff, show (0 : Int) = ((0 : Nat) : Int) from rfl, mayL_iff, List.all_eq_true]
  have mem : ∀ {j : Nat} {f : Fc} {k : Int}, fs[j]? = some f → k ∈ f.kids → k ∈ kidsAll fs := fun hj hk => List.mem_flatMap.2 ⟨_, List.mem_of_getElem? hj, hk⟩
  constructor
  · rintro ⟨⟨⟨h1, h3⟩, h4⟩, h5⟩
    have h4 := of_decide_eq_true h4
    have hcnt : ∀ z : Nat, 1 ≤ z → z < fs.length → (kidsAll fs).count (z : Int) = 1 ∧ ∀ (i : Nat) f, fs[i]? = some f → (z : Int) ∈ f.kids → (i : Int) < z := fun z hz1 hz2 => by
      have := h5 z hz1 hz2
      simp only [Bool.and_eq_true, decide_eq_true_eq] at this
      exact (above_iff fs z).1 this
    have hP := countP_all (kidsAll fs) fs.length (fun z a b => (hcnt z a b).1)
    have hlen : (kidsAll fs).countP (fun k => decide (1 ≤ k) && decide (k < (fs.length : Int))) = (kidsAll fs).length := by omega
    have hin := List.countP_eq_length.1 hlen
    refine ⟨⟨h1, h3, fun j f hj k hk => ?_⟩, fun z a b => (hcnt z a b).1⟩
    have hk1 := hin k (mem hj hk)
    simp only [Bool.and_eq_true, decide_eq_true_eq] at hk1
    obtain ⟨z, rfl⟩ : ∃ z : Nat, k = (z : Int) := ⟨k.toNat, by omega⟩
    have := (hcnt z (by omega) (by omega)).2 j f hj hk
    exact ⟨by omega, hk1.2⟩
  · rintro ⟨⟨h1, h3, h4⟩, h5⟩
    have hin : ∀ k ∈ kidsAll fs, (decide (1 ≤ k) && decide (k < (fs.length : Int))) = true := fun k hk => by
      obtain ⟨f, hf, hkf⟩ := List.mem_flatMap.1 hk
      obtain ⟨j, hj⟩ := List.mem_iff_getElem?.1 hf
      have := h4 j f hj k hkf
      simp only [Bool.and_eq_true, decide_eq_true_eq]
      exact ⟨by omega, this.2⟩
    have hP := countP_all (kidsAll fs) fs.length h5
    have hlen := List.countP_eq_length.2 hin
    have hpos : 0 < fs.length := of_decide_eq_true h1.1
    refine ⟨⟨⟨h1, h3⟩, decide_eq_true (by omega)⟩, fun z a b => ?_⟩
    simp only [Bool.and_eq_true, decide_eq_true_eq]
    refine (above_iff fs z).2 ⟨h5 z a b, fun i f hi hm => ?_⟩
    have := h4 i f hi _ hm
    omega
end Go.Proofs.Ytocndkhgopjhhaa
/- touchstoneref20.above, May. -/
namespace Go.Proofs.Ytocndkhgopjhhaa
open Go.RowKit

set_option maxRecDepth 100000 in
set_option maxHeartbeats 4000000 in
theorem above20_any {B : Nat} {S : Nat → Prop} {w : World} {v : Value} {fs : List Fc} {n : Int} (h : Facts B S w v fs) :
    Calls Try.prog 161 #[v, .int .i64 n] w fun e w' => e = .returned (.int .i64 (aboveF fs n)) ∧ w' = w := by
  obtain ⟨A, c, rfl, hc, hm, hB, g⟩ := h
  have G := Lib.hid g
  unfold maxLen at hm
  clear g
  have HA : Hid (aboveF fs n = (scanL n 0 (-1) fs).getD (-1)) := Lib.hid rfl
  go_enter Try.func161, Try.ntmps161
  go_wp2_with fail
  go_loopw [5, 6] (fun x i wr => ∃ (j : Nat) (a : Int), j ≤ fs.length ∧ i = .int .i64 j ∧ x = .int .i64 a ∧ w = wr ∧ scanL n j a (fs.drop j) = scanL n 0 (-1) fs) (fun _ i _ => fs.length - (intOf i).toNat)
  case atStart => exact ⟨0, -1, Nat.zero_le _, rfl, rfl, rfl, rfl⟩
  case round =>
    obtain ⟨j, a, hj, rfl, rfl, rfl, hy⟩ := hrel
    by_cases hlt : j < fs.length
    · have hij : (j : Int) < (fs.length : Int) := by omega
      obtain ⟨b, o, rfl, hS, hb, hcell⟩ := G.out (by omega)
      obtain ⟨nv, kv, _, _, _, d3, _, _, _, _, _, _, ⟨Ak, ck, rfl, hck, hmk, _, _, hkc⟩⟩ := hcell j _ (List.getElem?_eq_getElem hlt)
      rw [List.drop_eq_getElem_cons hlt, scanL] at hy
      generalize fs[j] = f at hy d3 hkc hck
      have HY := Lib.hid hy
      have HK := Lib.hid hkc
      unfold maxLen at hmk
      clear hcell hy hkc
      go_wp2_with fail
      go_loopw [5, 7] (fun x i wr => ∃ (q : Nat) (a' : Int), q ≤ f.kids.length ∧ i = .int .i64 q ∧ x = .int .i64 a' ∧ w = wr ∧ scanK n j a' (f.kids.drop q) = scanK n j a f.kids) (fun _ i _ => f.kids.length - (intOf i).toNat)
      case atStart => exact ⟨0, a, Nat.zero_le _, rfl, rfl, rfl, rfl⟩
      case round =>
        obtain ⟨q, a', hq, rfl, rfl, rfl, hz⟩ := hrel
        by_cases hlq : q < f.kids.length
        · have hiq : (q : Int) < (f.kids.length : Int) := by omega
          obtain ⟨bk, ok, rfl, hSk, hbk, hkk⟩ := HK.out (by omega)
          have cq := hkk q _ (List.getElem?_eq_getElem hlq)
          rw [List.drop_eq_getElem_cons hlq, scanK] at hz
          generalize f.kids[q] = k at hz cq
          clear hkk
          by_cases hk : k = n
          · have hk' : (k == n) = true := by simpa using hk
            rw [if_pos hk] at hz
            by_cases ha : 0 ≤ a'
            · rw [if_pos ha] at hz
              have HR : Hid (aboveF fs n = -1) := Lib.hid (by rw [HA.out, ← HY.out, ← hz]; rfl)
              clear hz hk
              go_wp2_with fail
              go_ret
              exact ⟨ret_int HR.out.symm, rfl⟩
            · rw [if_neg ha] at hz
              have HZ := Lib.hid hz
              clear hz hk
              go_wp2_with fail
              go_roundw
              case rel => exact ⟨q + 1, j, by omega, by go_num, rfl, (by first | rfl | trivial), HZ.out⟩
              case measure => simp [intOf]; omega
          · have hk' : (k == n) = false := by simpa using hk
            rw [if_neg hk] at hz
            have HZ := Lib.hid hz
            clear hz hk
            go_wp2_with fail
            go_roundw
            case rel => exact ⟨q + 1, a', by omega, by go_num, rfl, (by first | rfl | trivial), HZ.out⟩
            case measure => simp [intOf]; omega
        · have hiq : ¬ (q : Int) < (f.kids.length : Int) := by omega
          rw [List.drop_eq_nil_of_le (by omega), scanK] at hz
          have HZ : Hid (scanL n ((j + 1 : Nat) : Int) a' (fs.drop (j + 1)) = scanL n 0 (-1) fs) := Lib.hid (by rw [← HY.out, ← hz]; rfl)
          clear hz
          go_wp2_with fail
          go_roundw
          case rel => exact ⟨j + 1, a', by omega, by go_num, rfl, (by first | rfl | trivial), HZ.out⟩
          case measure => simp [intOf]; omega
    · have hij : ¬ (j : Int) < (fs.length : Int) := by omega
      rw [List.drop_eq_nil_of_le (by omega), scanL] at hy
      have HR : Hid (aboveF fs n = a) := Lib.hid (by rw [HA.out, ← hy]; rfl)
      clear hy
      go_wp2_with fail
      go_ret
      exact ⟨ret_int HR.out.symm, rfl⟩

/-- how many stand in the first facts. -/
def kidsN (fs : List Fc) (j : Nat) : Nat := (kidsAll (fs.take j)).length
theorem kidsN_succ {fs : List Fc} {j : Nat} (h : j < fs.length) : kidsN fs (j + 1) = kidsN fs j + fs[j].kids.length := by
  unfold kidsN kidsAll
  rw [List.take_succ_eq_append_getElem h, List.flatMap_append, List.length_append]
  simp
theorem kidsN_end (fs : List Fc) : kidsN fs fs.length = (kidsAll fs).length := by unfold kidsN; rw [List.take_length]
theorem kidsN_le {B : Nat} {fs : List Fc} (h : ∀ f ∈ fs, f.kids.length ≤ B) : ∀ j, kidsN fs j ≤ j * B
  | 0 => by simp [kidsN, kidsAll]
  | j + 1 => by
    by_cases hj : j < fs.length
    · rw [kidsN_succ hj]
      have := kidsN_le h j
      have := h _ (List.getElem_mem hj)
      rw [Nat.succ_mul]; omega
    · have h1 : kidsN fs (j + 1) = kidsN fs j := by unfold kidsN; rw [List.take_of_length_le (by omega), List.take_of_length_le (by omega)]
      have := kidsN_le h j
      rw [h1, Nat.succ_mul]; omega
theorem Facts.kidsLe {B : Nat} {S : Nat → Prop} {w : World} {v : Value} {fs : List Fc} (h : Facts B S w v fs) : ∀ f ∈ fs, f.kids.length ≤ B := by
  intro f hf
  obtain ⟨A, c, rfl, _, _, _, g⟩ := h
  obtain ⟨b, o, _, _, _, hc⟩ := g (List.length_pos_of_mem hf)
  obtain ⟨i, hi⟩ := List.mem_iff_getElem?.1 hf
  obtain ⟨_, _, _, _, _, _, _, _, _, _, _, _, ⟨_, _, _, _, _, hl, _⟩⟩ := hc i f hi
  exact hl
theorem Facts.fv {B : Nat} {S : Nat → Prop} {w : World} {A : Option Addr} {n c : Nat} {fs : List Fc} (h : Facts B S w (.slice A n c) fs) {i : Nat} {f : Fc} (hi : fs[i]? = some f) :
    ∃ b o nv kv, A = some ⟨b, o, none⟩ ∧ b < w.heap.size ∧ w.cell? ⟨b, o + i * 6, none⟩ = some (.bool f.known) ∧ w.cell? ⟨b, o + i * 6 + 1, none⟩ = some (.int .u8 f.kind) ∧ w.cell? ⟨b, o + i * 6 + 2, none⟩ = some nv ∧ w.cell? ⟨b, o + i * 6 + 3, none⟩ = some kv ∧
      w.cell? ⟨b, o + i * 6 + 4, none⟩ = some (.int .i64 f.rest) ∧ w.cell? ⟨b, o + i * 6 + 5, none⟩ = some (.int .i64 f.beside) ∧ Fv B S w f (.agg #[.bool f.known, .int .u8 f.kind, nv, kv, .int .i64 f.rest, .int .i64 f.beside]) ∧ ∃ An cn Ak ck, nv = .slice An f.names.length cn ∧ kv = .slice Ak f.kids.length ck := by
  obtain ⟨A', c', e, _, _, _, g⟩ := h
  injection e with e1 e2 e3
  subst e1 e2 e3
  obtain ⟨b, o, rfl, _, hb, hc⟩ := g (by have := (List.getElem?_eq_some_iff.1 hi).1; omega)
  obtain ⟨nv, kv, c0, c1, c2, c3, c4, c5, w1, w2, w3, hn, hk⟩ := hc i f hi
  have hn0 := hn
  have hk0 := hk
  obtain ⟨An, cn, en, _⟩ := hn0
  obtain ⟨Ak, ck, ek, _⟩ := hk0
  exact ⟨b, o, nv, kv, rfl, hb, c0, c1, c2, c3, c4, c5, ⟨nv, kv, rfl, w1, w2, w3, hn, hk⟩, An, cn, Ak, ck, en, ek⟩

set_option maxRecDepth 100000 in
set_option maxHeartbeats 4000000 in
theorem may20_any {B : Nat} (hBB : B ≤ 1000000) {S : Nat → Prop} {w : World} {v : Value} {fs : List Fc} (h : Facts B S w v fs) :
    Calls Try.prog 146 #[v] w fun e w' => e = .returned (.bool (mayF fs)) ∧ Ext w w' := by
  rw [← may20_eq]
  have H := Lib.hid h
  have HKN := Lib.hid (kidsN_le h.kidsLe)
  obtain ⟨A, c, rfl, hc, hm, hB, _⟩ := h
  unfold maxLen at hm
  obtain ⟨r, hr⟩ : ∃ r, r = may20F fs := ⟨_, rfl⟩
  rw [← hr]
  have HR : Hid (r = (decide (0 < fs.length) && fs.head?.any dirF && fs.all oneF && decide (((kidsAll fs).length : Int) = (fs.length : Int) - 1) && ((List.range fs.length).drop 1).all fun (z : Nat) => decide (0 ≤ aboveF fs z) && decide (aboveF fs z < z))) := Lib.hid hr
  clear hr
  by_cases h0 : fs.length = 0
  · have HF : Hid (r = false) := Lib.hid (by rw [HR.out, decide_eq_false (by omega)]; simp)
    have h0' : (((fs.length : Int)) == 0) = true := by rw [beq_iff_eq]; omega
    clear h0
    go_enter Try.func146, Try.ntmps146
    go_wp2_with fail
    go_ret
    exact ⟨ret_bool HF.out.symm, Below.refl _ _⟩
  have hl0 : 0 < fs.length := by omega
  have h0' : (((fs.length : Int)) == 0) = false := by rw [beq_eq_false_iff_ne]; omega
  obtain ⟨f0, hf0⟩ : ∃ f, fs[0]? = some f := ⟨_, List.getElem?_eq_getElem hl0⟩
  have hhd : fs.head?.any dirF = dirF f0 := by rw [List.head?_eq_getElem?, hf0]; rfl
  obtain ⟨b, o, nv, kv, rfl, hb, c0, c1, c2, c3, c4, c5, hfv, An, cn, Ak, ck, rfl, rfl⟩ := H.out.fv hf0
  simp only [Nat.zero_mul, Nat.add_zero] at c0 c1 c2 c3 c4 c5
  have HFV := Lib.hid hfv
  have HHD := Lib.hid hhd
  clear hfv hf0 hhd h0
  cases hd : dirF f0
  · have HF : Hid (r = false) := Lib.hid (by rw [HR.out, HHD.out, hd]; simp)
    have HDD := Lib.hid hd
    clear hd HR HHD
    go_enter Try.func146, Try.ntmps146
    go_wp2_with (go_at_call 159; refine (dir20_any HFV.out).mono ?_; rw [HDD.out]; rintro e w1 ⟨rfl, x1⟩; have X1 := Lib.hid x1; clear x1)
    go_ret
    exact ⟨ret_bool HF.out.symm, X1.out⟩
  have HR : Hid (r = (fs.all oneF && decide (((kidsAll fs).length : Int) = (fs.length : Int) - 1) && ((List.range fs.length).drop 1).all fun (z : Nat) => decide (0 ≤ aboveF fs z) && decide (aboveF fs z < z))) := Lib.hid (by rw [HR.out, HHD.out, hd, decide_eq_true hl0]; rfl)
  have HDD := Lib.hid hd
  clear hd HHD
  go_enter Try.func146, Try.ntmps146
  go_wp2_with (go_at_call 159; refine (dir20_any HFV.out).mono ?_; rw [HDD.out]; rintro e w1 ⟨rfl, x1⟩; have X1 := Lib.hid x1; clear x1)
  clear c0 c1 c2 c3 c4 c5
  go_loopw [3, 4] (fun x i wr => ∃ (j : Nat), j ≤ fs.length ∧ i = .int .i64 j ∧ x = .int .i64 (kidsN fs j : Int) ∧ Ext w wr ∧ ∀ (q : Nat) f, q < j → fs[q]? = some f → oneF f = true) (fun _ i _ => fs.length - (intOf i).toNat)
  case atStart => exact ⟨0, Nat.zero_le _, rfl, rfl, X1.out, fun q f hq _ => absurd hq (Nat.not_lt_zero _)⟩
  case round =>
    obtain ⟨j, hj, rfl, rfl, hx, hall⟩ := hrel
    have HX := Lib.hid hx
    have HALL := Lib.hid hall
    have hkn : kidsN fs j ≤ 1000000 * 1000000 := Nat.le_trans (HKN.out j) (Nat.mul_le_mul (by omega) hBB)
    clear hx hall
    by_cases hlt : j < fs.length
    · have hij : (j : Int) < (fs.length : Int) := by omega
      obtain ⟨f, hf⟩ : ∃ f, fs[j]? = some f := ⟨_, List.getElem?_eq_getElem hlt⟩
      have hks : kidsN fs (j + 1) = kidsN fs j + f.kids.length := by rw [kidsN_succ hlt, (List.getElem?_eq_some_iff.1 hf).2]
      have hfl : f.kids.length ≤ 1000000 := Nat.le_trans (H.out.kidsLe f (List.mem_of_getElem? hf)) hBB
      obtain ⟨b', o', nv', kv', e, hb', d0, d1, d2, d3, d4, d5, hfv', An', cn', Ak', ck', rfl, rfl⟩ := (H.out.ext HX.out).fv hf
      injection e with e
      injection e with e1 e2
      subst e1 e2
      have HFV' := Lib.hid hfv'
      have HF := Lib.hid hf
      have HKS := Lib.hid hks
      clear hfv' hf hks
      cases ho : oneF f
      · have HFF : Hid (r = false) := Lib.hid (by
          rw [HR.out]
          have : fs.all oneF = false := by
            rw [List.all_eq_false]
            exact ⟨f, List.mem_of_getElem? HF.out, by simp [ho]⟩
          rw [this]; rfl)
        have HO := Lib.hid ho
        clear ho
        go_wp2_with (go_at_call 160; refine (one20_any HFV'.out).mono ?_; rw [HO.out]; rintro e w2 ⟨rfl, x2⟩; have X2 := Lib.hid (HX.out.trans' x2); have d3' := (x2.cell (p := ⟨b, o + j * 6 + 3, none⟩) hb').trans d3; have hb2 := Nat.lt_of_lt_of_le hb' x2.size; clear x2)
        go_ret
        exact ⟨ret_bool HFF.out.symm, X2.out⟩
      · have HO := Lib.hid ho
        clear ho
        go_wp2_with (go_at_call 160; refine (one20_any HFV'.out).mono ?_; rw [HO.out]; rintro e w2 ⟨rfl, x2⟩; have X2 := Lib.hid (HX.out.trans' x2); have d3' := (x2.cell (p := ⟨b, o + j * 6 + 3, none⟩) hb').trans d3; have hb2 := Nat.lt_of_lt_of_le hb' x2.size; clear x2)
        go_roundw
        case rel =>
          refine ⟨j + 1, by omega, by go_num, ?_, X2.out, fun q g hq hg => ?_⟩
          · rw [HKS.out]; go_num
          · rcases Nat.lt_or_ge q j with hl | hl
            · exact HALL.out q g hl hg
            · obtain rfl : q = j := by omega
              rw [HF.out] at hg
              injection hg with hg
              subst hg
              exact HO.out
        case measure => simp [intOf]; omega
    · have hij : ¬ (j : Int) < (fs.length : Int) := by omega
      have hje : j = fs.length := by omega
      subst hje
      have hone : fs.all oneF = true := by
        rw [List.all_eq_true]
        intro f hf
        obtain ⟨q, hq⟩ := List.mem_iff_getElem?.1 hf
        exact HALL.out q f (List.getElem?_eq_some_iff.1 hq).1 hq
      have HR : Hid (r = (decide (((kidsAll fs).length : Int) = (fs.length : Int) - 1) && ((List.range fs.length).drop 1).all fun (z : Nat) => decide (0 ≤ aboveF fs z) && decide (aboveF fs z < z))) := Lib.hid (by rw [HR.out, hone]; rfl)
      have hke := kidsN_end fs
      rw [hke]
      rw [hke] at hkn
      clear hone hke HALL HKN
      generalize (kidsAll fs).length = kl at HR hkn
      by_cases hk : (kl : Int) = (fs.length : Int) - 1
      · have hk' : ((kl : Int) != (fs.length : Int) - 1) = false := by simpa using hk
        have HR : Hid (r = ((List.range fs.length).drop 1).all fun (z : Nat) => decide (0 ≤ aboveF fs z) && decide (aboveF fs z < z)) := Lib.hid (by rw [HR.out, decide_eq_true hk]; rfl)
        clear hk
        go_wp2_with fail
        go_loopw [5] (fun i wy => ∃ (j : Nat), 1 ≤ j ∧ j ≤ fs.length ∧ i = .int .i64 j ∧ wr = wy ∧ ∀ z : Nat, 1 ≤ z → z < j → (decide (0 ≤ aboveF fs z) && decide (aboveF fs z < z)) = true) (fun i _ => fs.length - (intOf i).toNat)
        case atStart => exact ⟨1, Nat.le_refl _, by omega, rfl, rfl, fun z h1 h2 => by omega⟩
        case round =>
          obtain ⟨j, hj1, hj, rfl, rfl, hall⟩ := hrel
          have HALL := Lib.hid hall
          clear hall
          by_cases hlt : j < fs.length
          · have hij : (j : Int) < (fs.length : Int) := by omega
            obtain ⟨a, ha⟩ : ∃ a, a = aboveF fs j := ⟨_, rfl⟩
            have HA := Lib.hid ha
            clear ha
            have bad : (decide (0 ≤ a) && decide (a < (j : Int))) = false → r = false := fun hb => by
              rw [HR.out]
              rw [← Bool.not_eq_true, range1_iff]
              intro hh
              have := hh j hj1 hlt
              rw [← HA.out, hb] at this
              cases this
            by_cases h1 : a < 0
            · have HFF : Hid (r = false) := Lib.hid (bad (by rw [decide_eq_false (by omega)]; rfl))
              have h1' : decide (a < 0) = true := decide_eq_true h1
              clear bad h1
              go_wp2_with (go_at_call 161; refine (above20_any (H.out.ext HX.out)).mono ?_; rw [← HA.out]; rintro e w3 ⟨rfl, hw3⟩; subst w3)
              go_ret
              exact ⟨ret_bool HFF.out.symm, HX.out⟩
            · have h1' : decide (a < 0) = false := decide_eq_false h1
              by_cases h2 : (j : Int) ≤ a
              · have HFF : Hid (r = false) := Lib.hid (bad (by rw [decide_eq_false (show ¬ a < (j : Int) by omega)]; simp))
                have h2' : decide ((j : Int) ≤ a) = true := decide_eq_true h2
                clear bad h1 h2
                go_wp2_with (go_at_call 161; refine (above20_any (H.out.ext HX.out)).mono ?_; rw [← HA.out]; rintro e w3 ⟨rfl, hw3⟩; subst w3)
                go_ret
                exact ⟨ret_bool HFF.out.symm, HX.out⟩
              · have h2' : decide ((j : Int) ≤ a) = false := decide_eq_false h2
                have H1 := Lib.hid h1
                have H2 := Lib.hid h2
                clear bad h1 h2
                go_wp2_with (go_at_call 161; refine (above20_any (H.out.ext HX.out)).mono ?_; rw [← HA.out]; rintro e w3 ⟨rfl, hw3⟩; subst w3)
                go_roundw
                case rel =>
                  have h1 := H1.out
                  have h2 := H2.out
                  refine ⟨j + 1, by omega, by omega, by go_num, (by first | rfl | trivial), fun z z1 z2 => ?_⟩
                  rcases Nat.lt_or_ge z j with hl | hl
                  · exact HALL.out z z1 hl
                  · obtain rfl : z = j := by omega
                    rw [← HA.out]
                    simp only [Bool.and_eq_true, decide_eq_true_eq]
                    omega
                case measure => simp [intOf]; omega
          · have hij : ¬ (j : Int) < (fs.length : Int) := by omega
            have HT : Hid (r = true) := Lib.hid (by
              rw [HR.out, range1_iff]
              exact fun z h1 h2 => HALL.out z h1 (by omega))
            go_wp2_with fail
            go_ret
            exact ⟨ret_bool HT.out.symm, HX.out⟩
      · have hk' : ((kl : Int) != (fs.length : Int) - 1) = true := by simpa using hk
        have HFF : Hid (r = false) := Lib.hid (by rw [HR.out, decide_eq_false hk]; rfl)
        clear hk
        go_wp2_with fail
        go_ret
        exact ⟨ret_bool HFF.out.symm, HX.out⟩
end Go.Proofs.Ytocndkhgopjhhaa
