/- prim, where there is no file system. -/
import Derived.Test.YtocndkhgopjhhaaProg
import Derived.Test.YtocndkhgopjhhaaPrimK
import Derived.Outline
namespace Go.Proofs.Ytocndkhgopjhhaa
open Go.RowKit

theorem at_nil (w : World) (fv : Value) (A : Option Addr) (n c : Nat) : Calls Try.prog 115 #[.nilIface, fv, .slice A n c] w fun e w' => e = .returned (.int .i64 2) ∧ Ext w w' := by
  go_enter Try.func115, Try.ntmps115
  go_wp2_with fail
  go_ret
  exact ⟨rfl, Below.refl _ _⟩

set_option maxRecDepth 100000 in
theorem put_nil (w : World) (A : Option Addr) (n c : Nat) (k : Int) (s : ByteArray) (A1 : Option Addr) (n1 c1 : Nat) (A2 : Option Addr) (n2 c2 : Nat)  : Calls Try.prog 111 #[.nilIface, .slice A n c, .agg #[.int .u8 k, .string s, .slice A1 n1 c1, .slice A2 n2 c2]] w fun e w' => e = .returned (.int .i64 2) ∧ Ext w w' := by
  go_enter Try.func111, Try.ntmps111
  go_wp2_with fail
  refine (at_nil _ _ _ _ _).mono ?_
  rintro e w1 ⟨rfl, hx⟩
  have HX := Lib.hid hx
  clear hx
  go_wp2_with fail
  go_ret
  exact ⟨rfl, Ext.trans' (by repeat (first | exact Below.refl _ _ | refine Ext.trans' ?_ (Ext.alloc' _ _))) HX.out⟩

set_option maxRecDepth 100000 in
theorem remove_nil (w : World) (A : Option Addr) (n c : Nat) (fv : Value) (hone : fv.oneCell' = true) : Calls Try.prog 112 #[.nilIface, .slice A n c, fv] w fun e w' => e = .returned (.int .i64 2) ∧ Ext w w' := by
  go_enter Try.func112, Try.ntmps112
  go_wp2_with fail
  refine (at_nil _ _ _ _ _).mono ?_
  rintro e w1 ⟨rfl, hx⟩
  have HX := Lib.hid hx
  clear hx
  go_wp2_with fail
  go_ret
  exact ⟨rfl, Ext.trans' (by repeat (first | exact Below.refl _ _ | refine Ext.trans' ?_ (Ext.alloc' _ _))) HX.out⟩

set_option maxRecDepth 100000 in
theorem touch_nil (w : World) (A : Option Addr) (n c : Nat)  : Calls Try.prog 72 #[.nilIface, .slice A n c] w fun e w' => e = .returned (.int .i64 2) ∧ Ext w w' := by
  go_enter Try.func72, Try.ntmps72
  go_wp2_with fail
  refine (at_nil _ _ _ _ _).mono ?_
  rintro e w1 ⟨rfl, hx⟩
  have HX := Lib.hid hx
  clear hx
  go_wp2_with fail
  go_ret
  exact ⟨rfl, Ext.trans' (by repeat (first | exact Below.refl _ _ | refine Ext.trans' ?_ (Ext.alloc' _ _))) HX.out⟩

set_option maxRecDepth 100000 in
theorem makeDir_nil (w : World) (A : Option Addr) (n c : Nat)  : Calls Try.prog 61 #[.nilIface, .slice A n c] w fun e w' => e = .returned (.int .i64 2) ∧ Ext w w' := by
  go_enter Try.func61, Try.ntmps61
  go_wp2_with fail
  refine (put_nil _ _ _ _ _ _ _ _ _ _ _ _).mono ?_
  rintro e w1 ⟨rfl, hx⟩
  have HX := Lib.hid hx
  clear hx
  go_wp2_with fail
  go_ret
  exact ⟨rfl, Ext.trans' (by repeat (first | exact Below.refl _ _ | refine Ext.trans' ?_ (Ext.alloc' _ _))) HX.out⟩

set_option maxRecDepth 100000 in
theorem makeFile_nil (w : World) (A : Option Addr) (n c : Nat) (s : ByteArray)  : Calls Try.prog 63 #[.nilIface, .slice A n c, .string s] w fun e w' => e = .returned (.int .i64 2) ∧ Ext w w' := by
  go_enter Try.func63, Try.ntmps63
  go_wp2_with fail
  refine (put_nil _ _ _ _ _ _ _ _ _ _ _ _).mono ?_
  rintro e w1 ⟨rfl, hx⟩
  have HX := Lib.hid hx
  clear hx
  go_wp2_with fail
  go_ret
  exact ⟨rfl, Ext.trans' (by repeat (first | exact Below.refl _ _ | refine Ext.trans' ?_ (Ext.alloc' _ _))) HX.out⟩

set_option maxRecDepth 100000 in
theorem makeLink_nil (w : World) (A : Option Addr) (n c : Nat) (s : ByteArray)  : Calls Try.prog 71 #[.nilIface, .slice A n c, .string s] w fun e w' => e = .returned (.int .i64 2) ∧ Ext w w' := by
  go_enter Try.func71, Try.ntmps71
  go_wp2_with fail
  refine (put_nil _ _ _ _ _ _ _ _ _ _ _ _).mono ?_
  rintro e w1 ⟨rfl, hx⟩
  have HX := Lib.hid hx
  clear hx
  go_wp2_with fail
  go_ret
  exact ⟨rfl, Ext.trans' (by repeat (first | exact Below.refl _ _ | refine Ext.trans' ?_ (Ext.alloc' _ _))) HX.out⟩

set_option maxRecDepth 100000 in
theorem removeDir_nil (w : World) (A : Option Addr) (n c : Nat)  : Calls Try.prog 62 #[.nilIface, .slice A n c] w fun e w' => e = .returned (.int .i64 2) ∧ Ext w w' := by
  go_enter Try.func62, Try.ntmps62
  go_wp2_with fail
  refine (remove_nil _ _ _ _ _ rfl).mono ?_
  rintro e w1 ⟨rfl, hx⟩
  have HX := Lib.hid hx
  clear hx
  go_wp2_with fail
  go_ret
  exact ⟨rfl, Ext.trans' (by repeat (first | exact Below.refl _ _ | refine Ext.trans' ?_ (Ext.alloc' _ _))) HX.out⟩

set_option maxRecDepth 100000 in
theorem unlink_nil (w : World) (A : Option Addr) (n c : Nat)  : Calls Try.prog 64 #[.nilIface, .slice A n c] w fun e w' => e = .returned (.int .i64 2) ∧ Ext w w' := by
  go_enter Try.func64, Try.ntmps64
  go_wp2_with fail
  refine (remove_nil _ _ _ _ _ rfl).mono ?_
  rintro e w1 ⟨rfl, hx⟩
  have HX := Lib.hid hx
  clear hx
  go_wp2_with fail
  go_ret
  exact ⟨rfl, Ext.trans' (by repeat (first | exact Below.refl _ _ | refine Ext.trans' ?_ (Ext.alloc' _ _))) HX.out⟩

set_option maxRecDepth 100000 in
theorem removeAll_nil (w : World) (A : Option Addr) (n c : Nat)  : Calls Try.prog 70 #[.nilIface, .slice A n c] w fun e w' => e = .returned (.int .i64 2) ∧ Ext w w' := by
  go_enter Try.func70, Try.ntmps70
  go_wp2_with fail
  refine (remove_nil _ _ _ _ _ rfl).mono ?_
  rintro e w1 ⟨rfl, hx⟩
  have HX := Lib.hid hx
  clear hx
  go_wp2_with fail
  go_ret
  exact ⟨rfl, Ext.trans' (by repeat (first | exact Below.refl _ _ | refine Ext.trans' ?_ (Ext.alloc' _ _))) HX.out⟩

set_option maxRecDepth 100000 in
theorem rename_nil (w : World) (A : Option Addr) (n c : Nat) (A' : Option Addr) (n' c' : Nat)  : Calls Try.prog 65 #[.nilIface, .slice A n c, .slice A' n' c'] w fun e w' => e = .returned (.int .i64 2) ∧ Ext w w' := by
  go_enter Try.func65, Try.ntmps65
  go_wp2_with fail
  refine (at_nil _ _ _ _ _).mono ?_
  rintro e w1 ⟨rfl, hx⟩
  have HX := Lib.hid hx
  clear hx
  go_wp2_with fail
  go_ret
  exact ⟨rfl, Ext.trans' (by repeat (first | exact Below.refl _ _ | refine Ext.trans' ?_ (Ext.alloc' _ _))) HX.out⟩

set_option maxRecDepth 100000 in
theorem pcopy_nil (w : World) (A : Option Addr) (n c : Nat) (A' : Option Addr) (n' c' : Nat) (b : Bool)  : Calls Try.prog 69 #[.nilIface, .slice A n c, .slice A' n' c', .bool b] w fun e w' => e = .returned (.int .i64 2) ∧ Ext w w' := by
  go_enter Try.func69, Try.ntmps69
  go_wp2_with fail
  refine (at_nil _ _ _ _ _).mono ?_
  rintro e w1 ⟨rfl, hx⟩
  have HX := Lib.hid hx
  clear hx
  go_wp2_with fail
  go_ret
  exact ⟨rfl, Ext.trans' (by repeat (first | exact Below.refl _ _ | refine Ext.trans' ?_ (Ext.alloc' _ _))) HX.out⟩

theorem Blk.cells5' {w : World} {g : Nat} {t : TypeId} {a b c d e : Value} (hb : Blk w g t #[a, b, c, d, e]) :
    w.cell? ⟨g, 0, none⟩ = some a ∧ w.cell? ⟨g, 1, none⟩ = some b ∧ w.cell? ⟨g, 2, none⟩ = some c ∧ w.cell? ⟨g, 3, none⟩ = some d ∧ w.cell? ⟨g, 4, none⟩ = some e :=
  ⟨hb.cell 0, hb.cell 1, hb.cell 2, hb.cell 3, hb.cell 4⟩
set_option maxRecDepth 100000 in
theorem do_nil0 (w : World) (z : Int) (A : Option Addr) (n c : Nat) (A' : Option Addr) (n' c' : Nat) (s : ByteArray) (b : Bool) (hz : z = 0) : Calls Try.prog 67 #[.agg #[.int .u8 z, .slice A n c, .slice A' n' c', .string s, .bool b], .nilIface] w fun e w' => e = .returned (.int .i64 2) ∧ Ext w w' := by
  subst hz
  obtain ⟨p0, p1, p2, p3, p4⟩ : _ ∧ _ ∧ _ ∧ _ ∧ _ := (Blk.cells5' (Blk.new w 89 #[.int .u8 0, .slice A n c, .slice A' n' c', .string s, .bool b]))
  go_enter Try.func67, Try.ntmps67
  go_wp2_with fail
  refine (makeDir_nil _ _ _ _).mono ?_
  rintro e w1 ⟨rfl, hx⟩
  have HX := Lib.hid hx
  clear hx p0 p1 p2 p3 p4
  go_wp2_with fail
  go_ret
  exact ⟨rfl, Ext.trans' (Ext.alloc' _ _) HX.out⟩

set_option maxRecDepth 100000 in
theorem do_nil1 (w : World) (z : Int) (A : Option Addr) (n c : Nat) (A' : Option Addr) (n' c' : Nat) (s : ByteArray) (b : Bool) (hz : z = 1) : Calls Try.prog 67 #[.agg #[.int .u8 z, .slice A n c, .slice A' n' c', .string s, .bool b], .nilIface] w fun e w' => e = .returned (.int .i64 2) ∧ Ext w w' := by
  subst hz
  obtain ⟨p0, p1, p2, p3, p4⟩ : _ ∧ _ ∧ _ ∧ _ ∧ _ := (Blk.cells5' (Blk.new w 89 #[.int .u8 1, .slice A n c, .slice A' n' c', .string s, .bool b]))
  go_enter Try.func67, Try.ntmps67
  go_wp2_with fail
  refine (makeFile_nil _ _ _ _ _).mono ?_
  rintro e w1 ⟨rfl, hx⟩
  have HX := Lib.hid hx
  clear hx p0 p1 p2 p3 p4
  go_wp2_with fail
  go_ret
  exact ⟨rfl, Ext.trans' (Ext.alloc' _ _) HX.out⟩

set_option maxRecDepth 100000 in
theorem do_nil2 (w : World) (z : Int) (A : Option Addr) (n c : Nat) (A' : Option Addr) (n' c' : Nat) (s : ByteArray) (b : Bool) (hz : z = 2) : Calls Try.prog 67 #[.agg #[.int .u8 z, .slice A n c, .slice A' n' c', .string s, .bool b], .nilIface] w fun e w' => e = .returned (.int .i64 2) ∧ Ext w w' := by
  subst hz
  obtain ⟨p0, p1, p2, p3, p4⟩ : _ ∧ _ ∧ _ ∧ _ ∧ _ := (Blk.cells5' (Blk.new w 89 #[.int .u8 2, .slice A n c, .slice A' n' c', .string s, .bool b]))
  go_enter Try.func67, Try.ntmps67
  go_wp2_with fail
  refine (makeLink_nil _ _ _ _ _).mono ?_
  rintro e w1 ⟨rfl, hx⟩
  have HX := Lib.hid hx
  clear hx p0 p1 p2 p3 p4
  go_wp2_with fail
  go_ret
  exact ⟨rfl, Ext.trans' (Ext.alloc' _ _) HX.out⟩

set_option maxRecDepth 100000 in
theorem do_nil3 (w : World) (z : Int) (A : Option Addr) (n c : Nat) (A' : Option Addr) (n' c' : Nat) (s : ByteArray) (b : Bool) (hz : z = 3) : Calls Try.prog 67 #[.agg #[.int .u8 z, .slice A n c, .slice A' n' c', .string s, .bool b], .nilIface] w fun e w' => e = .returned (.int .i64 2) ∧ Ext w w' := by
  subst hz
  obtain ⟨p0, p1, p2, p3, p4⟩ : _ ∧ _ ∧ _ ∧ _ ∧ _ := (Blk.cells5' (Blk.new w 89 #[.int .u8 3, .slice A n c, .slice A' n' c', .string s, .bool b]))
  go_enter Try.func67, Try.ntmps67
  go_wp2_with fail
  refine (touch_nil _ _ _ _).mono ?_
  rintro e w1 ⟨rfl, hx⟩
  have HX := Lib.hid hx
  clear hx p0 p1 p2 p3 p4
  go_wp2_with fail
  go_ret
  exact ⟨rfl, Ext.trans' (Ext.alloc' _ _) HX.out⟩

set_option maxRecDepth 100000 in
theorem do_nil4 (w : World) (z : Int) (A : Option Addr) (n c : Nat) (A' : Option Addr) (n' c' : Nat) (s : ByteArray) (b : Bool) (hz : z = 4) : Calls Try.prog 67 #[.agg #[.int .u8 z, .slice A n c, .slice A' n' c', .string s, .bool b], .nilIface] w fun e w' => e = .returned (.int .i64 2) ∧ Ext w w' := by
  subst hz
  obtain ⟨p0, p1, p2, p3, p4⟩ : _ ∧ _ ∧ _ ∧ _ ∧ _ := (Blk.cells5' (Blk.new w 89 #[.int .u8 4, .slice A n c, .slice A' n' c', .string s, .bool b]))
  go_enter Try.func67, Try.ntmps67
  go_wp2_with fail
  refine (removeDir_nil _ _ _ _).mono ?_
  rintro e w1 ⟨rfl, hx⟩
  have HX := Lib.hid hx
  clear hx p0 p1 p2 p3 p4
  go_wp2_with fail
  go_ret
  exact ⟨rfl, Ext.trans' (Ext.alloc' _ _) HX.out⟩

set_option maxRecDepth 100000 in
theorem do_nil5 (w : World) (z : Int) (A : Option Addr) (n c : Nat) (A' : Option Addr) (n' c' : Nat) (s : ByteArray) (b : Bool) (hz : z = 5) : Calls Try.prog 67 #[.agg #[.int .u8 z, .slice A n c, .slice A' n' c', .string s, .bool b], .nilIface] w fun e w' => e = .returned (.int .i64 2) ∧ Ext w w' := by
  subst hz
  obtain ⟨p0, p1, p2, p3, p4⟩ : _ ∧ _ ∧ _ ∧ _ ∧ _ := (Blk.cells5' (Blk.new w 89 #[.int .u8 5, .slice A n c, .slice A' n' c', .string s, .bool b]))
  go_enter Try.func67, Try.ntmps67
  go_wp2_with fail
  refine (unlink_nil _ _ _ _).mono ?_
  rintro e w1 ⟨rfl, hx⟩
  have HX := Lib.hid hx
  clear hx p0 p1 p2 p3 p4
  go_wp2_with fail
  go_ret
  exact ⟨rfl, Ext.trans' (Ext.alloc' _ _) HX.out⟩

set_option maxRecDepth 100000 in
theorem do_nil6 (w : World) (z : Int) (A : Option Addr) (n c : Nat) (A' : Option Addr) (n' c' : Nat) (s : ByteArray) (b : Bool) (hz : z = 6) : Calls Try.prog 67 #[.agg #[.int .u8 z, .slice A n c, .slice A' n' c', .string s, .bool b], .nilIface] w fun e w' => e = .returned (.int .i64 2) ∧ Ext w w' := by
  subst hz
  obtain ⟨p0, p1, p2, p3, p4⟩ : _ ∧ _ ∧ _ ∧ _ ∧ _ := (Blk.cells5' (Blk.new w 89 #[.int .u8 6, .slice A n c, .slice A' n' c', .string s, .bool b]))
  go_enter Try.func67, Try.ntmps67
  go_wp2_with fail
  refine (removeAll_nil _ _ _ _).mono ?_
  rintro e w1 ⟨rfl, hx⟩
  have HX := Lib.hid hx
  clear hx p0 p1 p2 p3 p4
  go_wp2_with fail
  go_ret
  exact ⟨rfl, Ext.trans' (Ext.alloc' _ _) HX.out⟩

set_option maxRecDepth 100000 in
theorem do_nil7 (w : World) (z : Int) (A : Option Addr) (n c : Nat) (A' : Option Addr) (n' c' : Nat) (s : ByteArray) (b : Bool) (hz : z = 7) : Calls Try.prog 67 #[.agg #[.int .u8 z, .slice A n c, .slice A' n' c', .string s, .bool b], .nilIface] w fun e w' => e = .returned (.int .i64 2) ∧ Ext w w' := by
  subst hz
  obtain ⟨p0, p1, p2, p3, p4⟩ : _ ∧ _ ∧ _ ∧ _ ∧ _ := (Blk.cells5' (Blk.new w 89 #[.int .u8 7, .slice A n c, .slice A' n' c', .string s, .bool b]))
  go_enter Try.func67, Try.ntmps67
  go_wp2_with fail
  refine (rename_nil _ _ _ _ _ _ _).mono ?_
  rintro e w1 ⟨rfl, hx⟩
  have HX := Lib.hid hx
  clear hx p0 p1 p2 p3 p4
  go_wp2_with fail
  go_ret
  exact ⟨rfl, Ext.trans' (Ext.alloc' _ _) HX.out⟩

set_option maxRecDepth 100000 in
theorem do_nil8 (w : World) (z : Int) (A : Option Addr) (n c : Nat) (A' : Option Addr) (n' c' : Nat) (s : ByteArray) (b : Bool) (hz : z ≠ 0 ∧ z ≠ 1 ∧ z ≠ 2 ∧ z ≠ 3 ∧ z ≠ 4 ∧ z ≠ 5 ∧ z ≠ 6 ∧ z ≠ 7) : Calls Try.prog 67 #[.agg #[.int .u8 z, .slice A n c, .slice A' n' c', .string s, .bool b], .nilIface] w fun e w' => e = .returned (.int .i64 2) ∧ Ext w w' := by
  obtain ⟨h0, h1, h2, h3, h4, h5, h6, h7⟩ := hz
  have k0 : (z == 0) = false := by simpa using h0
  have k1 : (z == 1) = false := by simpa using h1
  have k2 : (z == 2) = false := by simpa using h2
  have k3 : (z == 3) = false := by simpa using h3
  have k4 : (z == 4) = false := by simpa using h4
  have k5 : (z == 5) = false := by simpa using h5
  have k6 : (z == 6) = false := by simpa using h6
  have k7 : (z == 7) = false := by simpa using h7
  clear h0 h1 h2 h3 h4 h5 h6 h7
  obtain ⟨p0, p1, p2, p3, p4⟩ : _ ∧ _ ∧ _ ∧ _ ∧ _ := (Blk.cells5' (Blk.new w 89 #[.int .u8 z, .slice A n c, .slice A' n' c', .string s, .bool b]))
  go_enter Try.func67, Try.ntmps67
  go_wp2_with fail
  refine (pcopy_nil _ _ _ _ _ _ _ _).mono ?_
  rintro e w1 ⟨rfl, hx⟩
  have HX := Lib.hid hx
  clear hx p0 p1 p2 p3 p4
  go_wp2_with fail
  go_ret
  exact ⟨rfl, Ext.trans' (Ext.alloc' _ _) HX.out⟩

theorem do_nil (w : World) (z : Int) (A : Option Addr) (n c : Nat) (A' : Option Addr) (n' c' : Nat) (s : ByteArray) (b : Bool) : Calls Try.prog 67 #[.agg #[.int .u8 z, .slice A n c, .slice A' n' c', .string s, .bool b], .nilIface] w fun e w' => e = .returned (.int .i64 2) ∧ Ext w w' := by
  by_cases h0 : z = 0
  · exact do_nil0 _ _ _ _ _ _ _ _ _ _ h0
  by_cases h1 : z = 1
  · exact do_nil1 _ _ _ _ _ _ _ _ _ _ h1
  by_cases h2 : z = 2
  · exact do_nil2 _ _ _ _ _ _ _ _ _ _ h2
  by_cases h3 : z = 3
  · exact do_nil3 _ _ _ _ _ _ _ _ _ _ h3
  by_cases h4 : z = 4
  · exact do_nil4 _ _ _ _ _ _ _ _ _ _ h4
  by_cases h5 : z = 5
  · exact do_nil5 _ _ _ _ _ _ _ _ _ _ h5
  by_cases h6 : z = 6
  · exact do_nil6 _ _ _ _ _ _ _ _ _ _ h6
  by_cases h7 : z = 7
  · exact do_nil7 _ _ _ _ _ _ _ _ _ _ h7
  exact do_nil8 _ _ _ _ _ _ _ _ _ _ ⟨h0, h1, h2, h3, h4, h5, h6, h7⟩
end Go.Proofs.Ytocndkhgopjhhaa
