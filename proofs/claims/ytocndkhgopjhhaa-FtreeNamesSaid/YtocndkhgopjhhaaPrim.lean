/- prim: taken, at; how a call through the interface finds a tree's methods. -/
import Derived.Test.YtocndkhgopjhhaaProg
import Derived.Test.YtocndkhgopjhhaaMake
import Derived.Test.YtocndkhgopjhhaaTreeB
import Derived.Outline
namespace Go.Proofs.Ytocndkhgopjhhaa
open Go.RowKit

abbrev ifT (g : Nat) : Value := .iface 65 (.pointer (some ⟨g, 0, none⟩))
set_option maxRecDepth 100000 in
theorem m_kind (v : Value) (w : World) : (method 328 65 v "Kind").run Try.prog w = .ok (48, v) w := by kernel_rfl
set_option maxRecDepth 100000 in
theorem m_empty (v : Value) (w : World) : (method 328 65 v "Empty").run Try.prog w = .ok (50, v) w := by kernel_rfl
set_option maxRecDepth 100000 in
theorem m_put (v : Value) (w : World) : (method 328 65 v "Put").run Try.prog w = .ok (44, v) w := by kernel_rfl
set_option maxRecDepth 100000 in
theorem m_del (v : Value) (w : World) : (method 328 65 v "Del").run Try.prog w = .ok (45, v) w := by kernel_rfl
set_option maxRecDepth 100000 in
theorem m_move (v : Value) (w : World) : (method 328 65 v "Move").run Try.prog w = .ok (46, v) w := by kernel_rfl
set_option maxRecDepth 100000 in
theorem m_copy (v : Value) (w : World) : (method 328 65 v "Copy").run Try.prog w = .ok (47, v) w := by kernel_rfl

set_option maxRecDepth 100000 in
theorem na_kind (g : Nat) (w : World) : (nilAhead 328 65 (.pointer (some ⟨g, 0, none⟩)) "Kind").run Try.prog w = .ok (some false) w := by kernel_rfl

/-- all but the last, the room staying -/
theorem Strs.init' {B : Nat} {S : Nat → Prop} {w : World} {A : Option Addr} {n c : Nat} {s : ByteArray} {q : List ByteArray} (h : Strs B S w (.slice A n c) (q ++ [s])) : Strs B S w (.slice A q.length c) q := by
  have h1 := h.at'.1
  have := h.take (k := q.length) (by simp)
  rwa [List.take_left' rfl] at this

set_option maxRecDepth 100000 in
set_option maxHeartbeats 1000000 in
theorem taken_any {B Bp : Nat} (hB : B ≤ 2199023255552) {S Sp : Nat → Prop} {w : World} {g d : Nat} {t : N} {pv : Value} {p : List ByteArray} (h : TreeAt B S w g d t) (hw : t.well = true) (hp : Strs Bp Sp w pv p) :
    Calls Try.prog 145 #[ifT g, pv] w fun e w' => e = .returned (.bool (takenB t p)) ∧ Ext w w' := by
  have HP := Lib.hid hp
  have HT := Lib.hid h
  have HW := Lib.hid hw
  have mk := m_kind
  have nk := na_kind
  clear h hw
  rcases snoc_or p with rfl | ⟨q, s, rfl⟩
  · obtain ⟨Ap, cp, rfl, _⟩ := hp
    go_enter Try.func145, Try.ntmps145
    go_wp2_with fail
    refine wp_region_up0 (by kernel_rfl) (by kernel_rfl) ?_
    repeat (go_big_quiet_step (fail))
    refine wpQuiet_nil ?_
    rintro _ ⟨u1, rfl⟩
    go_wp2_with fail
    go_ret
    exact ⟨rfl, u1.ext⟩
  · obtain ⟨Ap, cp, rfl, _⟩ := id hp
    obtain ⟨bp, op, rfl, hn, hcp, hcm, _, hbp, hc, hs⟩ := hp.last
    have HPI := Lib.hid hp.init'
    have Ho : Hid (takenB t (q ++ [s]) = (nameB s && decide (t.kindAt q = 2))) := Lib.hid (by unfold takenB; rw [openB_snoc]; simp)
    have Hs := Lib.hid hs
    rw [hn] at HP ⊢
    unfold maxLen at hcm
    have hu : ∀ u : Up w, u.val.cell? ⟨bp, op + q.length, none⟩ = some (.string s) := fun u => (u.ext.cell (p := ⟨bp, op + q.length, none⟩) hbp).trans hc
    have hdl : decide ((q.length : Int) < 0) = false := decide_eq_false (by omega)
    clear hp hn hs
    cases hnb : nameB s
    · have Hnb := Lib.hid hnb
      clear hnb
      go_enter Try.func145, Try.ntmps145
      go_wp2_with fail
      refine wp_region_up0 (by kernel_rfl) (by kernel_rfl) ?_
      repeat (go_big_quiet_step ((go_at_call 80; exact Calls.up (Hnb.out ▸ pathName_any s _ Hs.out))))
      refine wpQuiet_nil ?_
      rintro _ ⟨u1, rfl⟩
      go_wp2_with fail
      go_ret
      exact ⟨ret_bool (by rw [Ho.out, Hnb.out]; rfl), u1.ext⟩
    · have Hnb := Lib.hid hnb
      clear hnb
      go_enter Try.func145, Try.ntmps145
      go_wp2_with fail
      refine wp_region_up0 (by kernel_rfl) (by kernel_rfl) ?_
      repeat (go_big_quiet_step (first
        | (go_at_call 80; exact Calls.up (Hnb.out ▸ pathName_any s _ Hs.out))
        | (go_at_call 48; exact Calls.up (tkind_any hB (HT.out.ext (Up.ext _)) HW.out (HPI.out.ext (Up.ext _))))))
      refine wpQuiet_nil ?_
      rintro _ ⟨u1, rfl⟩
      go_wp2_with fail
      go_ret
      refine ⟨ret_bool ?_, u1.ext⟩
      rw [Ho.out, Hnb.out, Bool.true_and]
      rw [Bool.eq_iff_iff]; simp only [beq_iff_eq]
      exact decide_eq_true_iff.symm

/-- places in a slice that was just built -/
structure Places (B : Nat) (S : Nat → Prop) (w : World) (b : Nat) (n : Nat) (ps : List (List ByteArray)) : Prop where
  len : n = ps.length
  few : ps.length ≤ 2
  lt : b < w.heap.size
  cell : ∀ (i : Nat) (p : List ByteArray), ps[i]? = some p → ∃ v, w.cell? ⟨b, i, none⟩ = some v ∧ Strs B S w v p

set_option maxRecDepth 100000 in
set_option maxHeartbeats 2000000 in
theorem at_no {B Bp : Nat} (hB : B ≤ 2199023255552) {S Sp : Nat → Prop} {w : World} {g d : Nat} {t : N} {fv : Value} {b n : Nat} {ps : List (List ByteArray)} (h : TreeAt B S w g d t) (hw : t.well = true) (hp : Places Bp Sp w b n ps) (hno : ps.all (takenB t) = false) :
    Calls Try.prog 115 #[ifT g, fv, .slice (some ⟨b, 0, none⟩) n n] w fun e w' => e = .returned (.int .i64 5) ∧ Ext w w' := by
  have HT := Lib.hid h
  have HW := Lib.hid hw
  have HP := Lib.hid hp
  have Hno := Lib.hid hno
  obtain ⟨rfl, hfew, hbl, hcell⟩ := hp
  clear h hw hno
  go_enter Try.func115, Try.ntmps115
  go_wp2_with fail
  go_loopw [13] (fun i wr => ∃ j : Nat, j ≤ ps.length ∧ i = .int .i64 j ∧ Ext w wr ∧ (ps.drop j).all (takenB t) = false) (fun i _ => ps.length - (intOf i).toNat)
  case atStart => exact ⟨0, Nat.zero_le _, rfl, Below.refl _ _, Hno.out⟩
  case round =>
    obtain ⟨j, hj, rfl, hx, hd⟩ := hrel
    have Hx := Lib.hid hx
    have hzx := hx.size
    by_cases hlt : j < ps.length
    · obtain ⟨v, hv, hs⟩ := hcell j _ (List.getElem?_eq_getElem hlt)
      have hv' : wr.cell? ⟨b, j, none⟩ = some v := (hx.cell (p := ⟨b, j, none⟩) hbl).trans hv
      have HS := Lib.hid hs
      obtain ⟨A, c, rfl, _⟩ := hs
      rw [List.drop_eq_getElem_cons hlt, List.all_cons] at hd
      have hbl' : b < wr.heap.size := by omega
      have Hcell := Lib.hid hcell
      clear hx hcell
      cases htk : takenB t ps[j]
      · have Htk := Lib.hid htk
        clear htk hd
        go_wp2_with (go_at_call 145; refine (taken_any hB (HT.out.ext Hx.out) HW.out (HS.out.ext Hx.out)).mono ?_; rw [Htk.out]; rintro e w1 ⟨rfl, hx1⟩; have HX1 := Lib.hid (Hx.out.trans' hx1); clear hx1)
        go_ret
        exact ⟨rfl, HX1.out⟩
      · have Htk := Lib.hid htk
        rw [htk, Bool.true_and] at hd
        have Hd := Lib.hid hd
        clear htk hd
        go_wp2_with (go_at_call 145; refine (taken_any hB (HT.out.ext Hx.out) HW.out (HS.out.ext Hx.out)).mono ?_; rw [Htk.out]; rintro e w1 ⟨rfl, hx1⟩; have HX1 := Lib.hid (Hx.out.trans' hx1); clear hx1)
        go_roundw
        case rel => exact ⟨j + 1, by omega, by go_num, HX1.out, Hd.out⟩
        case measure => simp [intOf]; omega
    · rw [List.drop_eq_nil_of_le (by omega)] at hd
      cases hd

/-- the closures that prim hands to at -/
def IsDo (fid : Nat) (caps : Array Value) : Prop :=
  (∃ a b c, (fid = 143 ∨ fid = 144 ∨ fid = 116) ∧ caps = #[.pointer a, .pointer b, .pointer c]) ∨ (∃ a b, fid = 120 ∧ caps = #[.pointer a, .pointer b]) ∨ (∃ a b c d, fid = 118 ∧ caps = #[.pointer a, .pointer b, .pointer c, .pointer d])

set_option maxRecDepth 100000 in
set_option maxHeartbeats 2000000 in
theorem at_yes {B Bp : Nat} (hB : B ≤ 2199023255552) {S Sp : Nat → Prop} {w : World} {g d : Nat} {t : N} {fid : Nat} {caps : Array Value} {b n : Nat} {ps : List (List ByteArray)} {c : Int} {R : World → Prop} (h : TreeAt B S w g d t) (hw : t.well = true) (hp : Places Bp Sp w b n ps) (hyes : ps.all (takenB t) = true)
    (hf : ∀ w1, Ext w w1 → Calls Try.prog fid caps w1 fun e w2 => e = .returned (.int .i64 c) ∧ R w2) (hid : IsDo fid caps) :
    Calls Try.prog 115 #[ifT g, .func (.func fid) #[] caps, .slice (some ⟨b, 0, none⟩) n n] w fun e w' => e = .returned (.int .i64 c) ∧ R w' := by
  have HT := Lib.hid h
  have HW := Lib.hid hw
  have HP := Lib.hid hp
  have Hyes := Lib.hid hyes
  have HF := Lib.hid hf
  obtain ⟨rfl, hfew, hbl, hcell⟩ := hp
  clear h hw hyes hf
  have key : ∀ (j : Nat) (hlt : j < ps.length), takenB t ps[j] = true := fun j hlt => List.all_eq_true.1 Hyes.out _ (List.getElem_mem hlt)
  have Hkey := Lib.hid key
  clear key
  rcases hid with ⟨a1, a2, a3, (rfl | rfl | rfl), rfl⟩ | ⟨a1, a2, rfl, rfl⟩ | ⟨a1, a2, a3, a4, rfl, rfl⟩
  all_goals
    go_enter Try.func115, Try.ntmps115
    go_wp2_with fail
    go_loopw [13] (fun i wr => ∃ j : Nat, j ≤ ps.length ∧ i = .int .i64 j ∧ Ext w wr) (fun i _ => ps.length - (intOf i).toNat)
    case atStart => exact ⟨0, Nat.zero_le _, rfl, Below.refl _ _⟩
    case round =>
      obtain ⟨j, hj, rfl, hx⟩ := hrel
      have Hx := Lib.hid hx
      have hzx := hx.size
      by_cases hlt : j < ps.length
      · obtain ⟨v, hv, hs⟩ := hcell j _ (List.getElem?_eq_getElem hlt)
        have hv' : wr.cell? ⟨b, j, none⟩ = some v := (hx.cell (p := ⟨b, j, none⟩) hbl).trans hv
        have HS := Lib.hid hs
        obtain ⟨A, c, rfl, _⟩ := hs
        have hbl' : b < wr.heap.size := by omega
        have Hcell := Lib.hid hcell
        have Htk := Lib.hid (Hkey.out j hlt)
        clear hx hcell
        go_wp2_with (go_at_call 145; refine (taken_any hB (HT.out.ext Hx.out) HW.out (HS.out.ext Hx.out)).mono ?_; rw [Htk.out]; rintro e w1 ⟨rfl, hx1⟩; have HX1 := Lib.hid (Hx.out.trans' hx1); clear hx1)
        go_roundw
        case rel => exact ⟨j + 1, by omega, by go_num, HX1.out⟩
        case measure => simp [intOf]; omega
      · have Hcell := Lib.hid hcell
        clear hcell hx
        go_wp2_with fail
        refine (HF.out _ Hx.out).mono ?_
        rintro e w2 ⟨rfl, hr⟩
        have HRR := Lib.hid hr
        clear hr
        go_wp2_with fail
        go_ret
        exact ⟨rfl, HRR.out⟩
end Go.Proofs.Ytocndkhgopjhhaa
