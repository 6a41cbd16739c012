/- Region 31 of touchstonelaw07.FtreeNames: what is told of the tree, one question behind the other. -/
import Derived.Test.YtocndkhgopjhhaaProg
import Derived.Test.YtocndkhgopjhhaaNm3
import Derived.Test.YtocndkhgopjhhaaNil7
import Derived.Deep.RegionHeld3
import Derived.Outline
namespace Go.Proofs.Ytocndkhgopjhhaa
open Go.RowKit

/-- the region of that number. -/
def findReg (n : Nat) : Code → Option Code
  | .region i ops d => if i = n then some (.region i ops d) else none
  | .seq a b => match findReg n a with
    | some c => some c
    | none => findReg n b
  | .cond _ a b => match findReg n a with
    | some c => some c
    | none => findReg n b
  | .block _ c => findReg n c
  | .loop c => findReg n c
  | .scope c => findReg n c
  | _ => none
theorem ft_kd0 : exF.kindAt [] = 2 := by decide +kernel
theorem ft_kd1 : exF.kindAt [bD, bL, bX] = 0 := by decide +kernel
theorem ft_tx0 : ((exF.get [bD, bL]).getD N.zero).text = bTo := by decide +kernel
theorem ft_tx1 : ((exF.get [bD]).getD N.zero).text = bN := by decide +kernel
theorem ft_em0 : emptyB ((exF.get [bD]).getD N.zero) = false := by decide +kernel
theorem ft_em1 : emptyB ((exF.get [bA]).getD N.zero) = false := by decide +kernel
theorem ft_em2 : emptyB ((exF.get [bQ]).getD N.zero) = false := by decide +kernel
theorem ext4 {w1 w : World} {a b c d : Addr} {x y u v : Value} (h : w.cell? a = some x ∧ w.cell? b = some y ∧ w.cell? c = some u ∧ w.cell? d = some v ∧ Ext w1 w) : Ext w1 w := h.2.2.2.2
theorem keep4 {w1 w w' : World} {n : Nat} {x y u v : Value} (h : w.cell? ⟨n, 0, none⟩ = some x ∧ w.cell? ⟨n, 1, none⟩ = some y ∧ w.cell? ⟨n, 2, none⟩ = some u ∧ w.cell? ⟨n, 3, none⟩ = some v ∧ Ext w1 w) (hn : n < w1.heap.size) (hx : Ext w w') : w'.cell? ⟨n, 0, none⟩ = some x ∧ w'.cell? ⟨n, 1, none⟩ = some y ∧ w'.cell? ⟨n, 2, none⟩ = some u ∧ w'.cell? ⟨n, 3, none⟩ = some v ∧ Ext w1 w' := by
  obtain ⟨h1, h2, h3, h4, h5⟩ := h
  have := h5.size
  have hl : n < w.heap.size := by omega
  exact ⟨(hx.cell (p := ⟨n, 0, none⟩) hl).trans h1, (hx.cell (p := ⟨n, 1, none⟩) hl).trans h2, (hx.cell (p := ⟨n, 2, none⟩) hl).trans h3, (hx.cell (p := ⟨n, 3, none⟩) hl).trans h4, h5.trans' hx⟩
theorem TIs.rootE {B : Nat} {w : World} {g : Nat} {t : N} (hB : B ≤ 2199023255552) (h : TIs B w g t) : Calls Try.prog 43 #[.pointer (some ⟨g, 0, none⟩)] w fun e w' => ∃ d, OwnPost B d t w e w' := by
  obtain ⟨d, hc⟩ := h.root hB
  exact hc.mono fun e w' h => ⟨d, h⟩

set_option maxRecDepth 100000 in
set_option maxHeartbeats 32000000 in
theorem ft_reg31 {w : World} {g b B B7 d7 : Nat} {S7 : Nat → Prop} (hB : B ≤ 2199023255552) (TR : TIs B w g exF) {A7 A7' : Option Addr} {c7 c7' : Nat} (HB : Blk w b 25 #[.int .u8 exF.kind, .string exF.text, .slice A7 exF.names.length c7, .slice A7' exF.kids.length c7']) (R7 : Rep B7 S7 w d7 exF (.agg #[.int .u8 exF.kind, .string exF.text, .slice A7 exF.names.length c7, .slice A7' exF.kids.length c7'])) {Q : Exit → Act → World → Prop} {x0 x1 x2 x3 x4 x6 x8 x9 x10 x11 x12 x13 x14 x15 x16 x17 x18 x19 x20 x21 x22 x23 x24 x25 x26 x27 x28 x29 x30 x31 x32 x33 x34 x35 x36 x37 x38 x39 x40 x41 x42 x43 x44 x45 x46 x47 x48 x49 x50 x51 x52 x53 x54 x55 x56 x57 x58 x59 x60 x61 x62 x63 x64 x65 x66 x67 x68 x69 x70 x71 x72 x73 x74 x75 x76 x77 x78 x79 x80 x81 x82 x83 x84 x85 x86 x87 x88 x89 x90 x91 x92 x93 x94 x95 x96 x97 x98 x99 x100 x101 x102 x103 x104 x105 x106 x107 x108 x109 x110 x111 x112 x113 x114 x115 x116 x117 x118 x119 x120 x121 x122 x123 x124 x125 x126 x127 x128 x129 x130 x131 x132 x133 x134 x135 x136 x137 x138 x139 x140 x141 x142 x143 x144 x145 x146 x147 x148 x149 x150 x151 x152 x153 x154 x155 x156 x157 x158 x159 x160 x161 x162 x163 x164 x165 x166 x167 x168 x169 x170 x171 x172 x173 x174 x175 x176 x177 x178 x179 x180 x181 x182 x183 x184 x185 x186 x187 x188 x189 x190 x191 x192 x193 x194 x195 x196 x197 x198 x199 x200 x201 x202 x203 x204 x205 x206 x207 x208 x209 x210 x211 x212 x213 x214 x215 x216 x217 x218 x219 x220 x221 x222 x223 x224 x225 x226 x227 x228 x229 x230 x231 x232 x233 x234 x235 x236 x237 x238 x239 x240 x241 x242 x243 x244 x245 x246 x247 x248 x249 x250 x251 x252 x253 x254 x255 x256 x257 x258 x259 x260 x261 x262 x263 x264 x265 x266 x267 x268 x269 x270 x271 x272 x273 x274 x275 x276 x277 x278 x279 x280 x281 x282 x283 x284 x285 x286 x287 x288 x289 x290 x291 x292 x293 x294 x295 x296 x297 x298 x299 x300 x301 x302 x303 x304 x305 x306 x307 x308 x309 x310 x311 x312 x313 x314 x315 x316 x317 x318 x319 x320 x321 x322 x323 x324 x325 x326 x327 x328 x329 x330 x331 x332 x333 x334 x335 x336 x337 : Value}
    (hQ : ∀ (y215 y216 y217 y218 y219 y220 y221 y222 y223 y224 y225 y226 y227 y228 y229 y230 y231 y232 y233 y234 y235 y236 y237 y238 y239 y240 y241 y242 y243 y244 y245 y246 y247 y248 y249 y250 y251 y252 y253 y254 y255 y256 : Value) (w' : World), Ext w w' → Q .normal { tmps := #[x0, x1, x2, x3, x4, .pointer (some ⟨g, 0, none⟩), x6, .pointer (some ⟨b, 0, none⟩), x8, x9, x10, x11, x12, x13, x14, x15, x16, x17, x18, x19, x20, x21, x22, x23, x24, x25, x26, x27, x28, x29, x30, x31, x32, x33, x34, x35, x36, x37, x38, x39, x40, x41, x42, x43, x44, x45, x46, x47, x48, x49, x50, x51, x52, x53, x54, x55, x56, x57, x58, x59, x60, x61, x62, x63, x64, x65, x66, x67, x68, x69, x70, x71, x72, x73, x74, x75, x76, x77, x78, x79, x80, x81, x82, x83, x84, x85, x86, x87, x88, x89, x90, x91, x92, x93, x94, x95, x96, x97, x98, x99, x100, x101, x102, x103, x104, x105, x106, x107, x108, x109, x110, x111, x112, x113, x114, x115, x116, x117, x118, x119, x120, x121, x122, x123, x124, x125, x126, x127, x128, x129, x130, x131, x132, x133, x134, x135, x136, x137, x138, x139, x140, x141, x142, x143, x144, x145, x146, x147, x148, x149, x150, x151, x152, x153, x154, x155, x156, x157, x158, x159, x160, x161, x162, x163, x164, x165, x166, x167, x168, x169, x170, x171, x172, x173, x174, x175, x176, x177, x178, x179, x180, x181, x182, x183, x184, x185, x186, x187, x188, x189, x190, x191, x192, x193, x194, x195, x196, x197, x198, x199, x200, x201, x202, x203, x204, x205, x206, x207, x208, x209, x210, x211, x212, x213, x214, y215, y216, y217, y218, y219, y220, y221, y222, y223, y224, y225, y226, y227, y228, y229, y230, y231, y232, y233, y234, y235, y236, y237, y238, y239, y240, y241, y242, y243, y244, y245, y246, y247, y248, y249, y250, y251, y252, y253, y254, y255, y256, .bool false, x258, x259, x260, x261, x262, x263, x264, x265, x266, x267, x268, x269, x270, x271, x272, x273, x274, x275, x276, x277, x278, x279, x280, x281, x282, x283, x284, x285, x286, x287, x288, x289, x290, x291, x292, x293, x294, x295, x296, x297, x298, x299, x300, x301, x302, x303, x304, x305, x306, x307, x308, x309, x310, x311, x312, x313, x314, x315, x316, x317, x318, x319, x320, x321, x322, x323, x324, x325, x326, x327, x328, x329, x330, x331, x332, x333, x334, x335, x336, x337], defers := [] } w') : ∀ c, Try.f6.body.bind (findReg 31) = some c → c.wp Try.prog Q { tmps := #[x0, x1, x2, x3, x4, .pointer (some ⟨g, 0, none⟩), x6, .pointer (some ⟨b, 0, none⟩), x8, x9, x10, x11, x12, x13, x14, x15, x16, x17, x18, x19, x20, x21, x22, x23, x24, x25, x26, x27, x28, x29, x30, x31, x32, x33, x34, x35, x36, x37, x38, x39, x40, x41, x42, x43, x44, x45, x46, x47, x48, x49, x50, x51, x52, x53, x54, x55, x56, x57, x58, x59, x60, x61, x62, x63, x64, x65, x66, x67, x68, x69, x70, x71, x72, x73, x74, x75, x76, x77, x78, x79, x80, x81, x82, x83, x84, x85, x86, x87, x88, x89, x90, x91, x92, x93, x94, x95, x96, x97, x98, x99, x100, x101, x102, x103, x104, x105, x106, x107, x108, x109, x110, x111, x112, x113, x114, x115, x116, x117, x118, x119, x120, x121, x122, x123, x124, x125, x126, x127, x128, x129, x130, x131, x132, x133, x134, x135, x136, x137, x138, x139, x140, x141, x142, x143, x144, x145, x146, x147, x148, x149, x150, x151, x152, x153, x154, x155, x156, x157, x158, x159, x160, x161, x162, x163, x164, x165, x166, x167, x168, x169, x170, x171, x172, x173, x174, x175, x176, x177, x178, x179, x180, x181, x182, x183, x184, x185, x186, x187, x188, x189, x190, x191, x192, x193, x194, x195, x196, x197, x198, x199, x200, x201, x202, x203, x204, x205, x206, x207, x208, x209, x210, x211, x212, x213, x214, x215, x216, x217, x218, x219, x220, x221, x222, x223, x224, x225, x226, x227, x228, x229, x230, x231, x232, x233, x234, x235, x236, x237, x238, x239, x240, x241, x242, x243, x244, x245, x246, x247, x248, x249, x250, x251, x252, x253, x254, x255, x256, x257, x258, x259, x260, x261, x262, x263, x264, x265, x266, x267, x268, x269, x270, x271, x272, x273, x274, x275, x276, x277, x278, x279, x280, x281, x282, x283, x284, x285, x286, x287, x288, x289, x290, x291, x292, x293, x294, x295, x296, x297, x298, x299, x300, x301, x302, x303, x304, x305, x306, x307, x308, x309, x310, x311, x312, x313, x314, x315, x316, x317, x318, x319, x320, x321, x322, x323, x324, x325, x326, x327, x328, x329, x330, x331, x332, x333, x334, x335, x336, x337], defers := [] } w := by
  intro c hc
  conv at hc =>
    lhs
    whnf
  injection hc with hc
  subst hc
  have HQ := Lib.hid hQ
  have TR := Lib.hid TR
  have R7 := Lib.hid R7
  obtain ⟨p0, p1, p2, p3, _, _, _, _⟩ := HB.cells4
  have pl := HB.lt
  have hS0 := (show _ ∧ _ ∧ _ ∧ _ ∧ Ext w w.drew from ⟨p0, p1, p2, p3, Below.drew (Below.refl _ w)⟩)
  clear hQ HB
  go_region_held3 (fun w' => w'.cell? ⟨b, 0, none⟩ = some (.int .u8 exF.kind) ∧ w'.cell? ⟨b, 1, none⟩ = some (.string exF.text) ∧ w'.cell? ⟨b, 2, none⟩ = some (.slice A7 exF.names.length c7) ∧ w'.cell? ⟨b, 3, none⟩ = some (.slice A7' exF.kids.length c7') ∧ Ext w w')
    (first | exact hS0 | exact keep4 (by assumption) pl (Ext.alloc' _ _) | exact keep4 (by assumption) pl (by assumption))
    (first
      | (go_at_call 43; refine (TIs.rootE hB (TR.out.ext (ext4 (by assumption)))).mono ?_; rintro e w5 ⟨dr, A5, c5, A5', c5', rfl, x5, r5⟩; have R5 := Lib.hid r5; clear r5)
      | (go_at_call 20; refine (same7_any _ _ _ _ _ _ _ _ _ _ _ R5.out (R7.out.ext (ext4 (by assumption)))).mono ?_; rw [N.same_refl]; rintro e w6 ⟨rfl, x6⟩)
      | (go_at_call 48; (with_reducible refine (TIs.kind hB (TR.out.ext (ext4 (by assumption))) exF_dir (Strs.nil0 (B := 16) (S := Any))).mono ?_); rw [ft_kd0]; rintro e w6 ⟨rfl, x6⟩)
      | (go_at_call 48; (with_reducible refine (TIs.kind hB (TR.out.ext (ext4 (by assumption))) exF_dir (strs3 _ bD bL bX (by decide) (by decide) (by decide))).mono ?_); rw [ft_kd1]; rintro e w6 ⟨rfl, x6⟩)
      | (go_at_call 49; (with_reducible refine (TIs.text hB (TR.out.ext (ext4 (by assumption))) exF_dir (strs2 _ bD bL (by decide) (by decide))).mono ?_); rw [ft_tx0]; rintro e w6 ⟨rfl, x6⟩)
      | (go_at_call 49; (with_reducible refine (TIs.text hB (TR.out.ext (ext4 (by assumption))) exF_dir (strs1 _ bD (by decide))).mono ?_); rw [ft_tx1]; rintro e w6 ⟨rfl, x6⟩)
      | (go_at_call 50; (with_reducible refine (TIs.empty hB (TR.out.ext (ext4 (by assumption))) exF_dir (strs1 _ bD (by decide))).mono ?_); rw [ft_em0]; rintro e w6 ⟨rfl, x6⟩)
      | (go_at_call 50; (with_reducible refine (TIs.empty hB (TR.out.ext (ext4 (by assumption))) exF_dir (strs1 _ bA (by decide))).mono ?_); rw [ft_em1]; rintro e w6 ⟨rfl, x6⟩)
      | (go_at_call 50; (with_reducible refine (TIs.empty hB (TR.out.ext (ext4 (by assumption))) exF_dir (strs1 _ bQ (by decide))).mono ?_); rw [ft_em2]; rintro e w6 ⟨rfl, x6⟩))
  all_goals
    go_wp2_with fail
    exact HQ.out _ _ _ _ _ _ _ _ _ _ _ _ _ _ _ _ _ _ _ _ _ _ _ _ _ _ _ _ _ _ _ _ _ _ _ _ _ _ _ _ _ _ _ (ext4 (by assumption))
end Go.Proofs.Ytocndkhgopjhhaa
