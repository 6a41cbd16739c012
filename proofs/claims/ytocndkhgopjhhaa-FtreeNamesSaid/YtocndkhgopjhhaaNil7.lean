/- (*ftree.Tree): nobody's tree; a tree's calls as TIs has them. -/
import Derived.Test.YtocndkhgopjhhaaProg
import Derived.Test.YtocndkhgopjhhaaPrimK
import Derived.Outline
namespace Go.Proofs.Ytocndkhgopjhhaa
open Go.RowKit

abbrev zAgg : Value := .agg #[.int .u8 0, .string { data := #[] }, .slice none 0 0, .slice none 0 0]
theorem tat_nil (A : Option Addr) (n c : Nat) (w : World) : Calls Try.prog 108 #[.pointer none, .slice A n c] w fun e w' => e = .returned zAgg ∧ Ext w w' := by
  go_enter Try.func108, Try.ntmps108
  go_wp2_with fail
  have hbr := Blk.new w 25 #[.int .u8 0, .string { data := #[] }, .slice none 0 0, .slice none 0 0]
  exact bodyPost_ret (results_cell rfl _ _ _ _ _ _ _ rfl hbr) rfl ⟨rfl, Ext.alloc' _ _⟩
theorem troot_nil (w : World) : Calls Try.prog 43 #[.pointer none] w fun e w' => e = .returned (.agg #[.int .u8 2, .string { data := #[] }, .slice none 0 0, .slice none 0 0]) ∧ Ext w w' := by
  go_enter Try.func43, Try.ntmps43
  go_wp2_with fail
  have hbr := Blk.new w 25 #[.int .u8 2, .string { data := #[] }, .slice none 0 0, .slice none 0 0]
  exact bodyPost_ret (results_cell rfl _ _ _ _ _ _ _ rfl hbr) rfl ⟨rfl, Ext.alloc' _ _⟩
theorem tclone_nil (w : World) : Calls Try.prog 51 #[.pointer none] w fun e w' => e = .returned (.pointer none) ∧ Ext w w' := by
  go_enter Try.func51, Try.ntmps51
  go_wp2_with fail
  go_ret
  exact ⟨rfl, Below.refl _ _⟩
theorem tkind_nil (A : Option Addr) (n c : Nat) (w : World) : Calls Try.prog 48 #[.pointer none, .slice A n c] w fun e w' => e = .returned (.int .u8 0) ∧ Ext w w' := by
  have hf := field0
  go_enter Try.func48, Try.ntmps48
  go_wp2_with (go_at_call 108; refine (tat_nil _ _ _ _).mono ?_; rintro e w1 ⟨rfl, hx1⟩; have HX1 := Lib.hid hx1; clear hx1)
  go_ret
  exact ⟨rfl, HX1.out⟩
theorem ttext_nil (A : Option Addr) (n c : Nat) (w : World) : Calls Try.prog 49 #[.pointer none, .slice A n c] w fun e w' => e = .returned (.string { data := #[] }) ∧ Ext w w' := by
  have hf := field1
  go_enter Try.func49, Try.ntmps49
  go_wp2_with (go_at_call 108; refine (tat_nil _ _ _ _).mono ?_; rintro e w1 ⟨rfl, hx1⟩; have HX1 := Lib.hid hx1; clear hx1)
  go_ret
  exact ⟨rfl, HX1.out⟩
theorem tempty_nil (A : Option Addr) (n c : Nat) (w : World) : Calls Try.prog 50 #[.pointer none, .slice A n c] w fun e w' => e = .returned (.bool false) ∧ Ext w w' := by
  go_enter Try.func50, Try.ntmps50
  go_wp2_with (go_at_call 108; refine (tat_nil _ _ _ _).mono ?_; rintro e w1 ⟨rfl, hx1⟩; have HX1 := Lib.hid hx1; clear hx1)
  go_ret
  exact ⟨rfl, HX1.out.trans' (Ext.alloc' _ _)⟩
theorem tdel_nil (A : Option Addr) (n c : Nat) (w : World) : Calls Try.prog 45 #[.pointer none, .slice A n c] w fun e w' => e = .returned (.tuple #[]) ∧ Ext w w' := by
  by_cases h : ((n : Int) == 0) = true
  · go_enter Try.func45, Try.ntmps45
    go_wp2_with fail
    refine bodyPost_ret (results_none rfl _ _ _) rfl ?_
    exact ⟨rfl, Below.refl _ _⟩
  · have h' : ((n : Int) == 0) = false := by simpa using h
    clear h
    go_enter Try.func45, Try.ntmps45
    go_wp2_with (go_at_call 48; refine (tkind_nil _ _ _ _).mono ?_; rintro e w1 ⟨rfl, hx1⟩; have HX1 := Lib.hid hx1; clear hx1)
    refine bodyPost_ret (results_none rfl _ _ _) rfl ?_
    exact ⟨rfl, HX1.out⟩
theorem apart_nil (A : Option Addr) (n c : Nat) (A' : Option Addr) (n' c' : Nat) (w : World) : Calls Try.prog 107 #[.pointer none, .slice A n c, .slice A' n' c'] w fun e w' => e = .returned (.bool false) ∧ Ext w w' := by
  cases h : decide (0 < n)
  · go_enter Try.func107, Try.ntmps107
    go_wp2_with fail
    go_ret
    exact ⟨rfl, Below.refl _ _⟩
  · go_enter Try.func107, Try.ntmps107
    go_wp2_with (go_at_call 48; refine (tkind_nil _ _ _ _).mono ?_; rintro e w1 ⟨rfl, hx1⟩; have HX1 := Lib.hid hx1; clear hx1)
    go_ret
    exact ⟨rfl, HX1.out⟩
theorem tmove_nil (A : Option Addr) (n c : Nat) (A' : Option Addr) (n' c' : Nat) (w : World) : Calls Try.prog 46 #[.pointer none, .slice A n c, .slice A' n' c'] w fun e w' => e = .returned (.tuple #[]) ∧ Ext w w' := by
  go_enter Try.func46, Try.ntmps46
  go_wp2_with (go_at_call 107; refine (apart_nil _ _ _ _ _ _ _).mono ?_; rintro e w1 ⟨rfl, hx1⟩; have HX1 := Lib.hid hx1; clear hx1)
  go_end0
  exact ⟨rfl, HX1.out⟩
theorem tcopy_nil (A : Option Addr) (n c : Nat) (A' : Option Addr) (n' c' : Nat) (w : World) : Calls Try.prog 47 #[.pointer none, .slice A n c, .slice A' n' c'] w fun e w' => e = .returned (.tuple #[]) ∧ Ext w w' := by
  go_enter Try.func47, Try.ntmps47
  go_wp2_with (go_at_call 107; refine (apart_nil _ _ _ _ _ _ _).mono ?_; rintro e w1 ⟨rfl, hx1⟩; have HX1 := Lib.hid hx1; clear hx1)
  go_end0
  exact ⟨rfl, HX1.out⟩
theorem topen_nil {B : Nat} {S : Nat → Prop} {w : World} {pv : Value} {p : List ByteArray} (hp : Strs B S w pv p) : Calls Try.prog 99 #[.pointer none, pv] w fun e w' => e = .returned (.bool false) ∧ Ext w w' := by
  rcases snoc_or p with rfl | ⟨q, s, rfl⟩
  · obtain ⟨Ap, cp, rfl, _⟩ := hp
    go_enter Try.func99, Try.ntmps99
    go_wp2_with fail
    go_ret
    exact ⟨rfl, Below.refl _ _⟩
  · obtain ⟨Ap, cp, rfl, _⟩ := id hp
    obtain ⟨bp, op, rfl, hn, hcp, hcm, _, hbp, hc, hs⟩ := hp.last
    have Hs := Lib.hid hs
    rw [hn]
    unfold maxLen at hcm
    have hf := field0
    clear hp hn hs
    cases hnb : nameB s
    · have Hnb := Lib.hid hnb
      clear hnb
      go_enter Try.func99, Try.ntmps99
      go_wp2_with (go_at_call 80; refine (pathName_any s _ Hs.out).mono ?_; rw [Hnb.out]; rintro e w1 ⟨rfl, hx1⟩; have HX1 := Lib.hid hx1; clear hx1)
      go_ret
      exact ⟨rfl, HX1.out⟩
    · have Hnb := Lib.hid hnb
      clear hnb
      go_enter Try.func99, Try.ntmps99
      go_wp2_with (first | (go_at_call 80; refine (pathName_any s _ Hs.out).mono ?_; rw [Hnb.out]; rintro e w1 ⟨rfl, hx1⟩; have HX1 := Lib.hid hx1; clear hx1) | (go_at_call 108; refine (tat_nil _ _ _ _).mono ?_; rintro e w2 ⟨rfl, hx2⟩; have HX2 := Lib.hid hx2; clear hx2))
      go_ret
      exact ⟨rfl, HX1.out.trans' HX2.out⟩
theorem tput_nil {B Bx dx : Nat} (hBx : Bx ≤ 2199023255552) {S Sx : Nat → Prop} {w : World} {pv xv : Value} {p : List ByteArray} {x : N} (hp : Strs B S w pv p) (hx : Rep Bx Sx w dx x xv) (hw : x.well = true) : Calls Try.prog 44 #[.pointer none, pv, xv] w fun e w' => e = .returned (.tuple #[]) ∧ Ext w w' := by
  obtain ⟨A, c, A', c', rfl⟩ := hx.agg
  have HP := Lib.hid hp
  have HX := Lib.hid hx
  have HW := Lib.hid hw
  obtain ⟨Ap, cp, rfl, _⟩ := hp
  have hb0 := Ext.alloc' w (.cells #[.int .u8 x.kind, .string x.text, .slice A x.names.length c, .slice A' x.kids.length c'] 25)
  have HB0 := Lib.hid hb0
  clear hx hw hb0
  go_enter Try.func44, Try.ntmps44
  go_wp2_with (first
    | (go_at_call 15; refine (well_any _ hBx _ _ _ _ _ (HX.out.ext HB0.out)).mono ?_; rw [HW.out]; rintro e w1 ⟨rfl, hx1⟩; have HX1 := Lib.hid (HB0.out.trans' hx1); clear hx1)
    | (go_at_call 99; refine (topen_nil (HP.out.ext HX1.out)).mono ?_; rintro e w2 ⟨rfl, hx2⟩; have HX2 := Lib.hid (HX1.out.trans' hx2); clear hx2))
  go_end0
  exact ⟨rfl, HX2.out⟩

/-- What a call on a tree comes to. -/
def TPost (B g : Nat) (t : N) (w : World) (e : Ending) (w' : World) : Prop := e = .returned (.tuple #[]) ∧ Turns (fun b => b = g) w w' ∧ TIs B w' g t
theorem TPost.of {B B' g d : Nat} {S : Nat → Prop} {t : N} {w : World} {e : Ending} {w' : World} (h : DonePost B S g d t w e w') (hB : B ≤ B') : TPost B' g t w e w' := ⟨h.1, h.2.1, TIs.of h.2.2 hB⟩
section
variable {B B1 B2 : Nat} {S1 S2 : Nat → Prop} {w : World} {g : Nat} {t : N} {v1 v2 : Value} {a b : List ByteArray}
theorem TIs.put {Bx dx : Nat} {Sx : Nat → Prop} {x : N} {xv : Value} (hB : B + 2 ≤ 2199023255552) (h : TIs B w g t) (hd : DirW t) (h1 : Strs B1 S1 w v1 a) (hx : Rep Bx Sx w dx x xv) (hBx : Bx ≤ B) : Calls Try.prog 44 #[.pointer (some ⟨g, 0, none⟩), v1, xv] w (TPost (B + 2) g (t.tput a x) w) := by
  obtain ⟨d, h, _⟩ := h
  exact (tput_any (by omega) h hd.wf h1 (hx.wideB hBx)).mono fun e w' hp => TPost.of hp (by omega)
theorem TIs.del (hB : B + 2 ≤ 2199023255552) (h : TIs B w g t) (hd : DirW t) (h1 : Strs B1 S1 w v1 a) : Calls Try.prog 45 #[.pointer (some ⟨g, 0, none⟩), v1] w (TPost (B + 2) g (t.tdel a) w) := by
  obtain ⟨d, h, _⟩ := h
  exact (tdel_any (by omega) h hd.wf h1).mono fun e w' hp => TPost.of hp (by omega)
theorem TIs.move (hB : B + 2 ≤ 2199023255552) (h : TIs B w g t) (hd : DirW t) (h1 : Strs B1 S1 w v1 a) (h2 : Strs B2 S2 w v2 b) (hS : ∀ b, S1 b → b ≠ g) : Calls Try.prog 46 #[.pointer (some ⟨g, 0, none⟩), v1, v2] w (TPost (B + 2) g (t.tmove a b) w) := by
  obtain ⟨d, h, _⟩ := h
  exact (tmove_any hB h hd.wf h1 h2 hS).mono fun e w' hp => TPost.of hp (by omega)
theorem TIs.copy (hB : B + 2 ≤ 2199023255552) (h : TIs B w g t) (hd : DirW t) (h1 : Strs B1 S1 w v1 a) (h2 : Strs B2 S2 w v2 b) : Calls Try.prog 47 #[.pointer (some ⟨g, 0, none⟩), v1, v2] w (TPost (B + 2) g (t.tcopy a b) w) := by
  obtain ⟨d, h, _⟩ := h
  exact (tcopy_any (by omega) h hd.wf h1 h2).mono fun e w' hp => TPost.of hp (by omega)
end
theorem Blk.turnN {w w' : World} {F : Nat → Prop} {g : Nat} {t : TypeId} {cs : Array Value} (h : Blk w g t cs) (ht : Turns F w w') (hg : ¬ F g) : Blk w' g t cs := (ht.block g h.lt hg).trans h
theorem Rep.turnN {B : Nat} {w w' : World} {gt d : Nat} {t : N} {v : Value} (h : Rep B (fun b => b ≠ gt) w d t v) (ht : Turns (fun b => b = gt) w w') : Rep B (fun b => b ≠ gt) w' d t v := Rep.keep ht.size (fun b hb hl => ht.block b hl hb) (fun _ h _ => h) _ _ _ h
theorem Rep.farN {B : Nat} {S : Nat → Prop} {w : World} {gt d : Nat} {t : N} {v : Value} (h : Rep B S w d t v) (hS : ∀ b, S b → b ≠ gt) : Rep B (fun b => b ≠ gt) w d t v := h.wide (Nat.le_refl _) (Below.refl _ _) (fun b h _ => hS b h) (Nat.le_refl _)
theorem strs2n (w : World) (a b : ByteArray) (ha : a.size ≤ maxLen) (hb : b.size ≤ maxLen) : Strs 16 (fun b => w.heap.size ≤ b) (w.alloc (.cells #[.string a, .string b] 9)) (.slice (some ⟨w.heap.size, 0, none⟩) 2 2) [a, b] := Strs.new w [a, b] (by simp; exact ⟨ha, hb⟩) (by simp) (by simp [maxLen])
end Go.Proofs.Ytocndkhgopjhhaa
