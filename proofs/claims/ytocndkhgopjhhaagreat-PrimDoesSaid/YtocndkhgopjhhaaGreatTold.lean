/- (touchstonelaw10.Op).told: a step by the document. -/
import Derived.Test.YtocndkhgopjhhaaGreatProg
import Derived.Test.YtocndkhgopjhhaaGreatPrimJ
import Derived.Test.YtocndkhgopjhhaaGreatR10A
import Derived.Test.YtocndkhgopjhhaaGreatR10B
import Derived.Outline
namespace Go.Proofs.YtocndkhgopjhhaaGreat
open Go.ChangeShapes Go.WideShapes Go.ChangeAt Go.RowKit
set_option linter.unusedVariables false

variable {X : Nat → Prop}

theorem RPostX.from {B g : Nat} {r : Int × N} {w w1 w' : World} {e : Ending} (h : RPostX X B g r w1 e w') (hx : Ext w w1) : RPostX X B g r w e w' := ⟨h.1, Turns.trans (Turns.ofExt hx) h.2.1 (fun _ h _ => h), h.2.2⟩

section
variable {B Bp : Nat} {Sp : Nat → Prop} {w : World} {g : Nat} {t : N} {o : POp} {cs : List Value}

set_option maxRecDepth 100000 in
set_option maxHeartbeats 2000000 in
theorem told_0 (hB : B + 40 ≤ 2199023255552) (hla : o.a.length ≤ 20) (hlb : o.b.length ≤ 20) (h : FIs X B w g t) (hd : DirW t) (ho : POpV Bp Sp w o cs) (hS : ∀ x, Sp x → x ≠ g) (hk : o.kind = 0) :
    Calls Tryz.prog 9 #[.agg cs.toArray, .pointer (some ⟨g, 0, none⟩)] w (RPostX X (B + 40) g (pDo o t) w) := by
  have HT := Lib.hid h
  have HD := Lib.hid hd
  have HS := Lib.hid hS
  obtain ⟨av, bv, rfl, hl, ha, hb⟩ := ho
  have HA := Lib.hid ha
  have HB := Lib.hid hb
  have HL := Lib.hid hl
  obtain ⟨Aa, ca, rfl, _⟩ := ha
  obtain ⟨Ab, cb, rfl, _⟩ := hb
  have Hr : Hid (pDo o t = pMake (nDir [] []) t o.a) := Lib.hid (by unfold pDo; simp [hk])
  have k0 : (o.kind == 0) = true := by rw [hk]; rfl
  clear h hd hS hl hk
  have hx := Ext.alloc' w (.cells #[.int .u8 o.kind, .slice Aa o.a.length ca, .slice Ab o.b.length cb, .string o.text, .bool o.deep] 36)
  obtain ⟨p0, p1, p2, p3, p4⟩ := (Blk.new w 36 #[.int .u8 o.kind, .slice Aa o.a.length ca, .slice Ab o.b.length cb, .string o.text, .bool o.deep]).cells5
  have HX := Lib.hid hx
  clear hx
  go_enter Tryz.func9, Tryz.ntmps9
  go_wp2_with fail
  refine (makeDir10_any hB hla (HT.out.ext HX.out) HD.out (HA.out.ext HX.out)).mono ?_
  rintro e w1 hq
  have he := hq.1
  subst he
  have HQ := Lib.hid (hq.from HX.out)
  clear hq p0 p1 p2 p3 p4
  go_wp2_with fail
  go_ret
  rw [Hr.out]
  exact HQ.out
set_option maxRecDepth 100000 in
set_option maxHeartbeats 2000000 in
theorem told_1 (hB : B + 40 ≤ 2199023255552) (hla : o.a.length ≤ 20) (hlb : o.b.length ≤ 20) (h : FIs X B w g t) (hd : DirW t) (ho : POpV Bp Sp w o cs) (hS : ∀ x, Sp x → x ≠ g) (hk : o.kind = 1) :
    Calls Tryz.prog 9 #[.agg cs.toArray, .pointer (some ⟨g, 0, none⟩)] w (RPostX X (B + 40) g (pDo o t) w) := by
  have HT := Lib.hid h
  have HD := Lib.hid hd
  have HS := Lib.hid hS
  obtain ⟨av, bv, rfl, hl, ha, hb⟩ := ho
  have HA := Lib.hid ha
  have HB := Lib.hid hb
  have HL := Lib.hid hl
  obtain ⟨Aa, ca, rfl, _⟩ := ha
  obtain ⟨Ab, cb, rfl, _⟩ := hb
  have Hr : Hid (pDo o t = pMake (nFile o.text) t o.a) := Lib.hid (by unfold pDo; simp [hk])
  have k0 : (o.kind == 0) = false := by rw [hk]; rfl
  have k1 : (o.kind == 1) = true := by rw [hk]; rfl
  clear h hd hS hl hk
  have hx := Ext.alloc' w (.cells #[.int .u8 o.kind, .slice Aa o.a.length ca, .slice Ab o.b.length cb, .string o.text, .bool o.deep] 36)
  obtain ⟨p0, p1, p2, p3, p4⟩ := (Blk.new w 36 #[.int .u8 o.kind, .slice Aa o.a.length ca, .slice Ab o.b.length cb, .string o.text, .bool o.deep]).cells5
  have HX := Lib.hid hx
  clear hx
  go_enter Tryz.func9, Tryz.ntmps9
  go_wp2_with fail
  refine (makeFile10_any hB hla (HT.out.ext HX.out) HD.out (HA.out.ext HX.out) HL.out).mono ?_
  rintro e w1 hq
  have he := hq.1
  subst he
  have HQ := Lib.hid (hq.from HX.out)
  clear hq p0 p1 p2 p3 p4
  go_wp2_with fail
  go_ret
  rw [Hr.out]
  exact HQ.out
set_option maxRecDepth 100000 in
set_option maxHeartbeats 2000000 in
theorem told_2 (hB : B + 40 ≤ 2199023255552) (hla : o.a.length ≤ 20) (hlb : o.b.length ≤ 20) (h : FIs X B w g t) (hd : DirW t) (ho : POpV Bp Sp w o cs) (hS : ∀ x, Sp x → x ≠ g) (hk : o.kind = 2) :
    Calls Tryz.prog 9 #[.agg cs.toArray, .pointer (some ⟨g, 0, none⟩)] w (RPostX X (B + 40) g (pDo o t) w) := by
  have HT := Lib.hid h
  have HD := Lib.hid hd
  have HS := Lib.hid hS
  obtain ⟨av, bv, rfl, hl, ha, hb⟩ := ho
  have HA := Lib.hid ha
  have HB := Lib.hid hb
  have HL := Lib.hid hl
  obtain ⟨Aa, ca, rfl, _⟩ := ha
  obtain ⟨Ab, cb, rfl, _⟩ := hb
  have Hr : Hid (pDo o t = pMake (.mk 3 o.text [] []) t o.a) := Lib.hid (by unfold pDo; simp [hk])
  have k0 : (o.kind == 0) = false := by rw [hk]; rfl
  have k1 : (o.kind == 1) = false := by rw [hk]; rfl
  have k2 : (o.kind == 2) = true := by rw [hk]; rfl
  clear h hd hS hl hk
  have hx := Ext.alloc' w (.cells #[.int .u8 o.kind, .slice Aa o.a.length ca, .slice Ab o.b.length cb, .string o.text, .bool o.deep] 36)
  obtain ⟨p0, p1, p2, p3, p4⟩ := (Blk.new w 36 #[.int .u8 o.kind, .slice Aa o.a.length ca, .slice Ab o.b.length cb, .string o.text, .bool o.deep]).cells5
  have HX := Lib.hid hx
  clear hx
  go_enter Tryz.func9, Tryz.ntmps9
  go_wp2_with fail
  refine (makeLink10_any hB hla (HT.out.ext HX.out) HD.out (HA.out.ext HX.out) HL.out).mono ?_
  rintro e w1 hq
  have he := hq.1
  subst he
  have HQ := Lib.hid (hq.from HX.out)
  clear hq p0 p1 p2 p3 p4
  go_wp2_with fail
  go_ret
  rw [Hr.out]
  exact HQ.out
set_option maxRecDepth 100000 in
set_option maxHeartbeats 2000000 in
theorem told_3 (hB : B + 40 ≤ 2199023255552) (hla : o.a.length ≤ 20) (hlb : o.b.length ≤ 20) (h : FIs X B w g t) (hd : DirW t) (ho : POpV Bp Sp w o cs) (hS : ∀ x, Sp x → x ≠ g) (hk : o.kind = 3) :
    Calls Tryz.prog 9 #[.agg cs.toArray, .pointer (some ⟨g, 0, none⟩)] w (RPostX X (B + 40) g (pDo o t) w) := by
  have HT := Lib.hid h
  have HD := Lib.hid hd
  have HS := Lib.hid hS
  obtain ⟨av, bv, rfl, hl, ha, hb⟩ := ho
  have HA := Lib.hid ha
  have HB := Lib.hid hb
  have HL := Lib.hid hl
  obtain ⟨Aa, ca, rfl, _⟩ := ha
  obtain ⟨Ab, cb, rfl, _⟩ := hb
  have Hr : Hid (pDo o t = pTouch t o.a) := Lib.hid (by unfold pDo; simp [hk])
  have k0 : (o.kind == 0) = false := by rw [hk]; rfl
  have k1 : (o.kind == 1) = false := by rw [hk]; rfl
  have k2 : (o.kind == 2) = false := by rw [hk]; rfl
  have k3 : (o.kind == 3) = true := by rw [hk]; rfl
  clear h hd hS hl hk
  have hx := Ext.alloc' w (.cells #[.int .u8 o.kind, .slice Aa o.a.length ca, .slice Ab o.b.length cb, .string o.text, .bool o.deep] 36)
  obtain ⟨p0, p1, p2, p3, p4⟩ := (Blk.new w 36 #[.int .u8 o.kind, .slice Aa o.a.length ca, .slice Ab o.b.length cb, .string o.text, .bool o.deep]).cells5
  have HX := Lib.hid hx
  clear hx
  go_enter Tryz.func9, Tryz.ntmps9
  go_wp2_with fail
  refine (touch10_any hB hla (HT.out.ext HX.out) HD.out (HA.out.ext HX.out)).mono ?_
  rintro e w1 hq
  have he := hq.1
  subst he
  have HQ := Lib.hid (hq.from HX.out)
  clear hq p0 p1 p2 p3 p4
  go_wp2_with fail
  go_ret
  rw [Hr.out]
  exact HQ.out
set_option maxRecDepth 100000 in
set_option maxHeartbeats 2000000 in
theorem told_4 (hB : B + 40 ≤ 2199023255552) (hla : o.a.length ≤ 20) (hlb : o.b.length ≤ 20) (h : FIs X B w g t) (hd : DirW t) (ho : POpV Bp Sp w o cs) (hS : ∀ x, Sp x → x ≠ g) (hk : o.kind = 4) :
    Calls Tryz.prog 9 #[.agg cs.toArray, .pointer (some ⟨g, 0, none⟩)] w (RPostX X (B + 40) g (pDo o t) w) := by
  have HT := Lib.hid h
  have HD := Lib.hid hd
  have HS := Lib.hid hS
  obtain ⟨av, bv, rfl, hl, ha, hb⟩ := ho
  have HA := Lib.hid ha
  have HB := Lib.hid hb
  have HL := Lib.hid hl
  obtain ⟨Aa, ca, rfl, _⟩ := ha
  obtain ⟨Ab, cb, rfl, _⟩ := hb
  have Hr : Hid (pDo o t = pRemove wDir t o.a) := Lib.hid (by unfold pDo; simp [hk])
  have k0 : (o.kind == 0) = false := by rw [hk]; rfl
  have k1 : (o.kind == 1) = false := by rw [hk]; rfl
  have k2 : (o.kind == 2) = false := by rw [hk]; rfl
  have k3 : (o.kind == 3) = false := by rw [hk]; rfl
  have k4 : (o.kind == 4) = true := by rw [hk]; rfl
  clear h hd hS hl hk
  have hx := Ext.alloc' w (.cells #[.int .u8 o.kind, .slice Aa o.a.length ca, .slice Ab o.b.length cb, .string o.text, .bool o.deep] 36)
  obtain ⟨p0, p1, p2, p3, p4⟩ := (Blk.new w 36 #[.int .u8 o.kind, .slice Aa o.a.length ca, .slice Ab o.b.length cb, .string o.text, .bool o.deep]).cells5
  have HX := Lib.hid hx
  clear hx
  go_enter Tryz.func9, Tryz.ntmps9
  go_wp2_with fail
  refine (removeDir10_any hB hla (HT.out.ext HX.out) HD.out (HA.out.ext HX.out)).mono ?_
  rintro e w1 hq
  have he := hq.1
  subst he
  have HQ := Lib.hid (hq.from HX.out)
  clear hq p0 p1 p2 p3 p4
  go_wp2_with fail
  go_ret
  rw [Hr.out]
  exact HQ.out
set_option maxRecDepth 100000 in
set_option maxHeartbeats 2000000 in
theorem told_5 (hB : B + 40 ≤ 2199023255552) (hla : o.a.length ≤ 20) (hlb : o.b.length ≤ 20) (h : FIs X B w g t) (hd : DirW t) (ho : POpV Bp Sp w o cs) (hS : ∀ x, Sp x → x ≠ g) (hk : o.kind = 5) :
    Calls Tryz.prog 9 #[.agg cs.toArray, .pointer (some ⟨g, 0, none⟩)] w (RPostX X (B + 40) g (pDo o t) w) := by
  have HT := Lib.hid h
  have HD := Lib.hid hd
  have HS := Lib.hid hS
  obtain ⟨av, bv, rfl, hl, ha, hb⟩ := ho
  have HA := Lib.hid ha
  have HB := Lib.hid hb
  have HL := Lib.hid hl
  obtain ⟨Aa, ca, rfl, _⟩ := ha
  obtain ⟨Ab, cb, rfl, _⟩ := hb
  have Hr : Hid (pDo o t = pRemove wLink t o.a) := Lib.hid (by unfold pDo; simp [hk])
  have k0 : (o.kind == 0) = false := by rw [hk]; rfl
  have k1 : (o.kind == 1) = false := by rw [hk]; rfl
  have k2 : (o.kind == 2) = false := by rw [hk]; rfl
  have k3 : (o.kind == 3) = false := by rw [hk]; rfl
  have k4 : (o.kind == 4) = false := by rw [hk]; rfl
  have k5 : (o.kind == 5) = true := by rw [hk]; rfl
  clear h hd hS hl hk
  have hx := Ext.alloc' w (.cells #[.int .u8 o.kind, .slice Aa o.a.length ca, .slice Ab o.b.length cb, .string o.text, .bool o.deep] 36)
  obtain ⟨p0, p1, p2, p3, p4⟩ := (Blk.new w 36 #[.int .u8 o.kind, .slice Aa o.a.length ca, .slice Ab o.b.length cb, .string o.text, .bool o.deep]).cells5
  have HX := Lib.hid hx
  clear hx
  go_enter Tryz.func9, Tryz.ntmps9
  go_wp2_with fail
  refine (unlink10_any hB hla (HT.out.ext HX.out) HD.out (HA.out.ext HX.out)).mono ?_
  rintro e w1 hq
  have he := hq.1
  subst he
  have HQ := Lib.hid (hq.from HX.out)
  clear hq p0 p1 p2 p3 p4
  go_wp2_with fail
  go_ret
  rw [Hr.out]
  exact HQ.out
set_option maxRecDepth 100000 in
set_option maxHeartbeats 2000000 in
theorem told_6 (hB : B + 40 ≤ 2199023255552) (hla : o.a.length ≤ 20) (hlb : o.b.length ≤ 20) (h : FIs X B w g t) (hd : DirW t) (ho : POpV Bp Sp w o cs) (hS : ∀ x, Sp x → x ≠ g) (hk : o.kind = 6) :
    Calls Tryz.prog 9 #[.agg cs.toArray, .pointer (some ⟨g, 0, none⟩)] w (RPostX X (B + 40) g (pDo o t) w) := by
  have HT := Lib.hid h
  have HD := Lib.hid hd
  have HS := Lib.hid hS
  obtain ⟨av, bv, rfl, hl, ha, hb⟩ := ho
  have HA := Lib.hid ha
  have HB := Lib.hid hb
  have HL := Lib.hid hl
  obtain ⟨Aa, ca, rfl, _⟩ := ha
  obtain ⟨Ab, cb, rfl, _⟩ := hb
  have Hr : Hid (pDo o t = pRemove wAll t o.a) := Lib.hid (by unfold pDo; simp [hk])
  have k0 : (o.kind == 0) = false := by rw [hk]; rfl
  have k1 : (o.kind == 1) = false := by rw [hk]; rfl
  have k2 : (o.kind == 2) = false := by rw [hk]; rfl
  have k3 : (o.kind == 3) = false := by rw [hk]; rfl
  have k4 : (o.kind == 4) = false := by rw [hk]; rfl
  have k5 : (o.kind == 5) = false := by rw [hk]; rfl
  have k6 : (o.kind == 6) = true := by rw [hk]; rfl
  clear h hd hS hl hk
  have hx := Ext.alloc' w (.cells #[.int .u8 o.kind, .slice Aa o.a.length ca, .slice Ab o.b.length cb, .string o.text, .bool o.deep] 36)
  obtain ⟨p0, p1, p2, p3, p4⟩ := (Blk.new w 36 #[.int .u8 o.kind, .slice Aa o.a.length ca, .slice Ab o.b.length cb, .string o.text, .bool o.deep]).cells5
  have HX := Lib.hid hx
  clear hx
  go_enter Tryz.func9, Tryz.ntmps9
  go_wp2_with fail
  refine (removeAll10_any hB hla (HT.out.ext HX.out) HD.out (HA.out.ext HX.out)).mono ?_
  rintro e w1 hq
  have he := hq.1
  subst he
  have HQ := Lib.hid (hq.from HX.out)
  clear hq p0 p1 p2 p3 p4
  go_wp2_with fail
  go_ret
  rw [Hr.out]
  exact HQ.out
set_option maxRecDepth 100000 in
set_option maxHeartbeats 2000000 in
theorem told_7 (hB : B + 40 ≤ 2199023255552) (hla : o.a.length ≤ 20) (hlb : o.b.length ≤ 20) (h : FIs X B w g t) (hd : DirW t) (ho : POpV Bp Sp w o cs) (hS : ∀ x, Sp x → x ≠ g) (hk : o.kind = 7) :
    Calls Tryz.prog 9 #[.agg cs.toArray, .pointer (some ⟨g, 0, none⟩)] w (RPostX X (B + 40) g (pDo o t) w) := by
  have HT := Lib.hid h
  have HD := Lib.hid hd
  have HS := Lib.hid hS
  obtain ⟨av, bv, rfl, hl, ha, hb⟩ := ho
  have HA := Lib.hid ha
  have HB := Lib.hid hb
  have HL := Lib.hid hl
  obtain ⟨Aa, ca, rfl, _⟩ := ha
  obtain ⟨Ab, cb, rfl, _⟩ := hb
  have Hr : Hid (pDo o t = pRename t o.a o.b) := Lib.hid (by unfold pDo; simp [hk])
  have k0 : (o.kind == 0) = false := by rw [hk]; rfl
  have k1 : (o.kind == 1) = false := by rw [hk]; rfl
  have k2 : (o.kind == 2) = false := by rw [hk]; rfl
  have k3 : (o.kind == 3) = false := by rw [hk]; rfl
  have k4 : (o.kind == 4) = false := by rw [hk]; rfl
  have k5 : (o.kind == 5) = false := by rw [hk]; rfl
  have k6 : (o.kind == 6) = false := by rw [hk]; rfl
  have k7 : (o.kind == 7) = true := by rw [hk]; rfl
  clear h hd hS hl hk
  have hx := Ext.alloc' w (.cells #[.int .u8 o.kind, .slice Aa o.a.length ca, .slice Ab o.b.length cb, .string o.text, .bool o.deep] 36)
  obtain ⟨p0, p1, p2, p3, p4⟩ := (Blk.new w 36 #[.int .u8 o.kind, .slice Aa o.a.length ca, .slice Ab o.b.length cb, .string o.text, .bool o.deep]).cells5
  have HX := Lib.hid hx
  clear hx
  go_enter Tryz.func9, Tryz.ntmps9
  go_wp2_with fail
  refine (rename10_any hB hla hlb (HT.out.ext HX.out) HD.out (HA.out.ext HX.out) (HB.out.ext HX.out) HS.out).mono ?_
  rintro e w1 hq
  have he := hq.1
  subst he
  have HQ := Lib.hid (hq.from HX.out)
  clear hq p0 p1 p2 p3 p4
  go_wp2_with fail
  go_ret
  rw [Hr.out]
  exact HQ.out
set_option maxRecDepth 100000 in
set_option maxHeartbeats 2000000 in
theorem told_8 (hB : B + 40 ≤ 2199023255552) (hla : o.a.length ≤ 20) (hlb : o.b.length ≤ 20) (h : FIs X B w g t) (hd : DirW t) (ho : POpV Bp Sp w o cs) (hS : ∀ x, Sp x → x ≠ g) (hk : o.kind ≠ 0 ∧ o.kind ≠ 1 ∧ o.kind ≠ 2 ∧ o.kind ≠ 3 ∧ o.kind ≠ 4 ∧ o.kind ≠ 5 ∧ o.kind ≠ 6 ∧ o.kind ≠ 7) :
    Calls Tryz.prog 9 #[.agg cs.toArray, .pointer (some ⟨g, 0, none⟩)] w (RPostX X (B + 40) g (pDo o t) w) := by
  have HT := Lib.hid h
  have HD := Lib.hid hd
  have HS := Lib.hid hS
  obtain ⟨av, bv, rfl, hl, ha, hb⟩ := ho
  have HA := Lib.hid ha
  have HB := Lib.hid hb
  have HL := Lib.hid hl
  obtain ⟨Aa, ca, rfl, _⟩ := ha
  obtain ⟨Ab, cb, rfl, _⟩ := hb
  have Hr : Hid (pDo o t = pCopy o.deep t o.a o.b) := Lib.hid (by unfold pDo; simp [hk])
  obtain ⟨h0, h1, h2, h3, h4, h5, h6, h7⟩ := hk
  have k0 : (o.kind == 0) = false := by simpa using h0
  have k1 : (o.kind == 1) = false := by simpa using h1
  have k2 : (o.kind == 2) = false := by simpa using h2
  have k3 : (o.kind == 3) = false := by simpa using h3
  have k4 : (o.kind == 4) = false := by simpa using h4
  have k5 : (o.kind == 5) = false := by simpa using h5
  have k6 : (o.kind == 6) = false := by simpa using h6
  have k7 : (o.kind == 7) = false := by simpa using h7
  clear h hd hS hl h0 h1 h2 h3 h4 h5 h6 h7
  have hx := Ext.alloc' w (.cells #[.int .u8 o.kind, .slice Aa o.a.length ca, .slice Ab o.b.length cb, .string o.text, .bool o.deep] 36)
  obtain ⟨p0, p1, p2, p3, p4⟩ := (Blk.new w 36 #[.int .u8 o.kind, .slice Aa o.a.length ca, .slice Ab o.b.length cb, .string o.text, .bool o.deep]).cells5
  have HX := Lib.hid hx
  clear hx
  go_enter Tryz.func9, Tryz.ntmps9
  go_wp2_with fail
  refine (copy10_any hB hlb (HT.out.ext HX.out) HD.out (HA.out.ext HX.out) (HB.out.ext HX.out)).mono ?_
  rintro e w1 hq
  have he := hq.1
  subst he
  have HQ := Lib.hid (hq.from HX.out)
  clear hq p0 p1 p2 p3 p4
  go_wp2_with fail
  go_ret
  rw [Hr.out]
  exact HQ.out
theorem told_any (hB : B + 40 ≤ 2199023255552) (hla : o.a.length ≤ 20) (hlb : o.b.length ≤ 20) (h : FIs X B w g t) (hd : DirW t) (ho : POpV Bp Sp w o cs) (hS : ∀ x, Sp x → x ≠ g) :
    Calls Tryz.prog 9 #[.agg cs.toArray, .pointer (some ⟨g, 0, none⟩)] w (RPostX X (B + 40) g (pDo o t) w) := by
  by_cases h0 : o.kind = 0
  · exact told_0 hB hla hlb h hd ho hS h0
  by_cases h1 : o.kind = 1
  · exact told_1 hB hla hlb h hd ho hS h1
  by_cases h2 : o.kind = 2
  · exact told_2 hB hla hlb h hd ho hS h2
  by_cases h3 : o.kind = 3
  · exact told_3 hB hla hlb h hd ho hS h3
  by_cases h4 : o.kind = 4
  · exact told_4 hB hla hlb h hd ho hS h4
  by_cases h5 : o.kind = 5
  · exact told_5 hB hla hlb h hd ho hS h5
  by_cases h6 : o.kind = 6
  · exact told_6 hB hla hlb h hd ho hS h6
  by_cases h7 : o.kind = 7
  · exact told_7 hB hla hlb h hd ho hS h7
  exact told_8 hB hla hlb h hd ho hS ⟨h0, h1, h2, h3, h4, h5, h6, h7⟩
end
end Go.Proofs.YtocndkhgopjhhaaGreat
