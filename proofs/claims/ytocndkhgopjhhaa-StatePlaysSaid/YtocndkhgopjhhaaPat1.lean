/- pat.one at a directory. -/
import Derived.Test.YtocndkhgopjhhaaPat
namespace Go.Proofs.Ytocndkhgopjhhaa
open Go.RowKit

set_option maxRecDepth 100000 in
set_option maxHeartbeats 4000000 in
theorem one_c {B : Nat} {S : Nat → Prop} {w : World} {f : Fc} {v : Value} (h : Fv B S w f v) (h1 : (decide (3 < f.kind) || (!f.known && f.kind != 0) || (f.names.length : Int) != (f.kids.length : Int)) = false) (hd : dirF f = true) :
    Calls Try.prog 131 #[v] w fun e w' => e = .returned (.bool (oneF f)) ∧ Ext w w' := by
  have HF := Lib.hid h
  obtain ⟨nv, kv, rfl, w1, w2, w3, hn, hk⟩ := h
  obtain ⟨A, c, rfl, hc, hm, _, hs, hcl⟩ := hn
  obtain ⟨A', c', rfl, hc', hm', _, _, _⟩ := hk
  obtain ⟨known, kind, names, kids, rest, beside⟩ := f
  simp only at *
  unfold maxLen at hm hm'
  have Hs := Lib.hid hs
  have Hcl := Lib.hid hcl
  clear hs hcl
  have h1' := h1
  simp only [Bool.or_eq_false_iff] at h1'
  obtain ⟨⟨g1, g2⟩, g3⟩ := h1'
  have k1' : ¬ 3 < kind := of_decide_eq_false g1
  have hlen : names.length = kids.length := by
    have : (names.length : Int) = (kids.length : Int) := by simpa using g3
    omega
  have hu := (up_rules (w.alloc (.cells #[.bool known, .int .u8 kind, .slice A names.length c, .slice A' kids.length c', .int .i64 rest, .int .i64 beside] 106))).1
  simp only [World.size_alloc] at hu
  have hkk : known = true ∧ kind = 2 := by simpa [dirF] using hd
  obtain ⟨rfl, rfl⟩ := hkk
  have Hd := Lib.hid hd
  have hO : oneF ⟨true, 2, names, kids, rest, beside⟩ = (namesUp none names && tailF ⟨true, 2, names, kids, rest, beside⟩) := by
    rw [oneF, if_neg (by simp only; rw [h1]; simp), if_pos hd]
  have HO := Lib.hid hO
  clear hO hd h1 g1 g2 k1' hlen
  go_enter Try.func131, Try.ntmps131
  go_wp2_with (first | (go_at_call 130; refine (dir_any ((HF.out).alloc _)).mono ?_; rw [Hd.out]; rintro e w5 ⟨rfl, hx5⟩; obtain ⟨u5, rfl⟩ := Up.of hx5; clear hx5))
  go_loopw [49] (fun i wr => ∃ (j : Nat) (u : Up (w.alloc (.cells #[.bool true, .int .u8 2, .slice A names.length c, .slice A' kids.length c', .int .i64 rest, .int .i64 beside] 106))), j ≤ names.length ∧ i = .int .i64 j ∧ wr = u.val ∧ namesUp (prevOf names j) (names.drop j) = namesUp none names) (fun i _ => names.length - (intOf i).toNat)
  case atStart => exact ⟨0, u5, Nat.zero_le _, rfl, rfl, rfl⟩
  case round =>
    obtain ⟨j, u, hj, rfl, rfl, hy⟩ := hrel
    by_cases hlt : j < names.length
    · rw [namesUp_at hlt] at hy
      obtain ⟨b, o, rfl, hS, hbs, hcell⟩ := Hcl.out (by omega)
      have hbs' : b < w.heap.size + 1 := by omega
      have cj := hcell j _ (List.getElem?_eq_getElem hlt)
      have Hsz := Lib.hid (Hs.out _ (List.getElem_mem hlt))
      cases hnm : nameB names[j]
      · rw [hnm] at hy
        have Hy : Hid (namesUp none names = false) := by unfold Hid; rw [← hy]; rfl
        clear hy hcell
        go_wp2_with (go_at_call 80; refine (pathName_any _ _ Hsz.out).mono ?_; rintro e w1 ⟨rfl, hx1⟩; obtain ⟨u1, rfl⟩ := Up.to _ hx1; clear hx1)
        go_ret
        exact ⟨ret_bool (by rw [HO.out, Hy.out]; rfl), (Ext.alloc' _ _).trans' (Up.ext _)⟩
      · rw [hnm] at hy
        cases j with
        | zero =>
          simp only [Nat.add_zero] at cj
          have Hy : Hid (namesUp (prevOf names (0 + 1)) (names.drop (0 + 1)) = namesUp none names) := by unfold Hid; rw [← hy]; rfl
          clear hy hcell
          go_wp2_with (go_at_call 80; refine (pathName_any _ _ Hsz.out).mono ?_; rintro e w1 ⟨rfl, hx1⟩; obtain ⟨u1, rfl⟩ := Up.to _ hx1; clear hx1)
          go_roundw
          case rel => exact ⟨0 + 1, u1, by omega, by go_num, rfl, Hy.out⟩
          case measure => simp [intOf]; omega
        | succ j =>
          have hlj : j < names.length := by omega
          have cp := hcell j _ (List.getElem?_eq_getElem hlj)
          have hp : prevOf names (j + 1) = some names[j] := by simp [prevOf, List.getElem?_eq_getElem hlj]
          have hjp : (0 : Int) < ((j + 1 : Nat) : Int) := by omega
          rw [hp] at hy
          clear hp hcell
          cases hle : (Op.bytesLess names[j + 1].toList names[j].toList || names[j + 1].toList == names[j].toList)
          · have hle' : leS names[j + 1] names[j] = false := hle
            have Hy : Hid (namesUp (prevOf names (j + 1 + 1)) (names.drop (j + 1 + 1)) = namesUp none names) := by unfold Hid; rw [← hy]; simp [hle']
            clear hy
            go_wp2_with (go_at_call 80; refine (pathName_any _ _ Hsz.out).mono ?_; rintro e w1 ⟨rfl, hx1⟩; obtain ⟨u1, rfl⟩ := Up.to _ hx1; clear hx1)
            go_roundw
            case rel => exact ⟨j + 1 + 1, u1, by omega, by go_num, rfl, Hy.out⟩
            case measure => simp [intOf]; omega
          · have hle' : leS names[j + 1] names[j] = true := hle
            have Hy : Hid (namesUp none names = false) := by unfold Hid; rw [← hy]; simp [hle']
            clear hy
            go_wp2_with (go_at_call 80; refine (pathName_any _ _ Hsz.out).mono ?_; rintro e w1 ⟨rfl, hx1⟩; obtain ⟨u1, rfl⟩ := Up.to _ hx1; clear hx1)
            go_ret
            exact ⟨ret_bool (by rw [HO.out, Hy.out]; rfl), (Ext.alloc' _ _).trans' (Up.ext _)⟩
    · rw [namesUp_end hlt] at hy
      have HO2 : Hid (oneF ⟨true, 2, names, kids, rest, beside⟩ = tailF ⟨true, 2, names, kids, rest, beside⟩) := Lib.hid (by rw [HO.out, ← hy]; rfl)
      clear hy
      by_cases r2 : rest = 2
      · subst r2
        cases b1 : decide (0 ≤ beside)
        · have b1' : ¬ 0 ≤ beside := of_decide_eq_false b1
          go_wp2_with fail
          go_ret
          exact ⟨ret_bool (by rw [HO2.out, tailF, if_pos rfl]; simp only [b1, Bool.false_and]), (Ext.alloc' _ _).trans' (Up.ext _)⟩
        · have b1' : 0 ≤ beside := of_decide_eq_true b1
          go_wp2_with fail
          go_ret
          exact ⟨ret_bool (by rw [HO2.out, tailF, if_pos rfl]; simp only [b1, Bool.true_and]), (Ext.alloc' _ _).trans' (Up.ext _)⟩
      · have r2' : (rest == 2) = false := by simpa using r2
        cases r0 : (rest == 0)
        · cases r1 : (rest == 1)
          · go_wp2_with fail
            go_ret
            exact ⟨ret_bool (by rw [HO2.out, tailF, if_neg r2]; simp [r0, r1]), (Ext.alloc' _ _).trans' (Up.ext _)⟩
          · go_wp2_with fail
            go_ret
            exact ⟨ret_bool (by rw [HO2.out, tailF, if_neg r2]; simp [r0, r1]), (Ext.alloc' _ _).trans' (Up.ext _)⟩
        · go_wp2_with fail
          go_ret
          exact ⟨ret_bool (by rw [HO2.out, tailF, if_neg r2]; simp [r0]), (Ext.alloc' _ _).trans' (Up.ext _)⟩

theorem one_any {B : Nat} {S : Nat → Prop} {w : World} {f : Fc} {v : Value} (h : Fv B S w f v) :
    Calls Try.prog 131 #[v] w fun e w' => e = .returned (.bool (oneF f)) ∧ Ext w w' := by
  cases h1 : (decide (3 < f.kind) || (!f.known && f.kind != 0) || (f.names.length : Int) != (f.kids.length : Int))
  · cases hd : dirF f
    · exact one_b h h1 hd
    · exact one_c h h1 hd
  · exact one_a h h1
end Go.Proofs.Ytocndkhgopjhhaa
