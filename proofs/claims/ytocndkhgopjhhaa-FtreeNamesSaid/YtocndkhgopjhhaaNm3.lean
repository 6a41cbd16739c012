/- FtreeNames: the cases, and what is told of them. -/
import Derived.Test.YtocndkhgopjhhaaNm2
namespace Go.Proofs.Ytocndkhgopjhhaa
open Go.RowKit

abbrev b0 : ByteArray := { data := #[0] }
abbrev bDot : ByteArray := { data := #[46] }
abbrev bDD : ByteArray := { data := #[46, 46] }
abbrev bSl : ByteArray := { data := #[97, 47, 98] }
abbrev bL : ByteArray := { data := #[108] }
abbrev bK : ByteArray := { data := #[107] }
abbrev bY : ByteArray := { data := #[121] }
abbrev bZ : ByteArray := { data := #[122] }
abbrev bTo : ByteArray := { data := #[116, 111] }
def nmCases : List (N × Bool × Bool) := [(N.zero, false, false), (nFile (aStr 256), true, false), (nFile (aStr 257), false, false), (nFile b0, false, false), (.mk 3 bN [] [], false, false), (.mk 3 bA [] [], true, false), (.mk 1 bN [bA] [], false, false), (.mk 1 bN [] [N.zero], false, false), (nDir [] [], true, true), (.mk 2 bA [] [], false, false), (nDir [bA] [], false, false), (nDir [bB, bA] [nFile bN, nFile bN], false, false), (nDir [bA, bA] [nFile bN, nFile bN], false, false), (nDir [bDot] [nFile bN], false, false), (nDir [bSl] [nFile bN], false, false), (nDir [aStr 64] [nFile bN], true, true), (nDir [aStr 65] [nFile bN], false, false), (nDir [bA] [N.zero], false, false), (.mk 4 bN [] [], false, false), (towerN 24, true, true), (towerN 25, true, false), (wideN 1023, true, true), (wideN 1024, true, false)]
theorem nmCases_ok1 : (nmCases.take 21).all (fun x => (x.1.well == x.2.1) && (x.1.may == x.2.2)) = true := by decide +kernel

theorem wName_list (i : Nat) : (wName i).data.toList = [UInt8.ofNat (97 + (i : Int) / 676).toNat, UInt8.ofNat (97 + (i : Int) / 26 % 26).toNat, UInt8.ofNat (97 + (i : Int) % 26).toNat] := by unfold wName strOfNums; rfl
theorem u8lt {a b : Nat} (hb : b < 256) (h : a < b) : UInt8.ofNat a < UInt8.ofNat b := by
  rw [UInt8.lt_iff_toNat_lt, UInt8.toNat_ofNat', UInt8.toNat_ofNat', Nat.mod_eq_of_lt (by omega), Nat.mod_eq_of_lt (by omega)]
  exact h
theorem wName_lt {i j : Nat} (h : i < j) (hj : j < 17576) : ltS (wName i) (wName j) = true := by
  unfold ltS
  rw [Lib.toList_data, Lib.toList_data, wName_list, wName_list]
  simp only [Op.bytesLess, Bool.or_eq_true, decide_eq_true_eq, Bool.and_eq_true, beq_iff_eq, Bool.false_eq_true, and_false, or_false]
  by_cases h1 : i / 676 < j / 676
  · exact .inl (u8lt (by omega) (by omega))
  · have e1 : (97 + (i : Int) / 676).toNat = (97 + (j : Int) / 676).toNat := by omega
    refine .inr ⟨by rw [e1], ?_⟩
    by_cases h2 : i / 26 % 26 < j / 26 % 26
    · exact .inl (u8lt (by omega) (by omega))
    · have e2 : (97 + (i : Int) / 26 % 26).toNat = (97 + (j : Int) / 26 % 26).toNat := by omega
      refine .inr ⟨by rw [e2], ?_⟩
      exact u8lt (by omega) (by omega)
theorem u8ne {a : Nat} (h1 : 97 ≤ a) (h2 : a < 256) : badB (UInt8.ofNat a) = false := by
  unfold badB
  have e : (UInt8.ofNat a).toNat = a := by rw [UInt8.toNat_ofNat', Nat.mod_eq_of_lt (by omega)]
  have n : ∀ k : Nat, k < 97 → (UInt8.ofNat a == UInt8.ofNat k) = false := fun k hk => by
    rw [beq_eq_false_iff_ne]
    intro h
    have := congrArg UInt8.toNat h
    rw [e, UInt8.toNat_ofNat', Nat.mod_eq_of_lt (by omega)] at this
    omega
  have n0 := n 0 (by omega)
  have n1 := n 47 (by omega)
  have n2 := n 10 (by omega)
  simp only [Bool.or_eq_false_iff]
  exact ⟨⟨n0, n1⟩, n2⟩
theorem wName_ok {i : Nat} (h : i < 17576) : nameB (wName i) = true := by
  unfold nameB hasBad
  have hs : (wName i).size = 3 := by unfold wName strOfNums; rfl
  rw [Lib.toList_data, wName_list, hs]
  simp only [List.any_cons, List.any_nil, u8ne (a := (97 + (i : Int) / 676).toNat) (by omega) (by omega), u8ne (a := (97 + (i : Int) / 26 % 26).toNat) (by omega) (by omega), u8ne (a := (97 + (i : Int) % 26).toNat) (by omega) (by omega)]
  simp
theorem wideN_well {n : Nat} (hn : n < 17576) : (wideN n).well = true := by
  have hl : (wNames' n).length = n := by simp [wNames']
  refine DirW.wf ⟨rfl, by rw [show (wideN n).text = bN from rfl, Lib.toList_data], ?_, by show (wNames' n).length = (List.replicate n (nFile bN)).length; simp [hl], fun x hx => ?_, fun k hk => ?_⟩
  · show Sorted (wNames' n)
    unfold wNames' Sorted
    rw [List.pairwise_map]
    exact List.pairwise_lt_range.imp_of_mem fun ha hb hab => wName_lt hab (by have := List.mem_range.1 hb; omega)
  · have hx' : x ∈ wNames' n := hx
    unfold wNames' at hx'
    obtain ⟨i, hi, rfl⟩ := List.mem_map.1 hx'
    exact wName_ok (by have := List.mem_range.1 hi; omega)
  · have hk' : k ∈ List.replicate n (nFile bN) := hk
    rw [(List.mem_replicate.1 hk').2]
    decide +kernel
theorem w64 {a : Int} (h1 : 0 ≤ a) (h2 : a ≤ 1000000) : wrap64 a = a := by unfold wrap64; omega
theorem wide_nodes : ∀ (n : Nat) (a : Int), 0 ≤ a → a + n ≤ 1000000 → nodesL a (List.replicate n (nFile bN)) = a + n
  | 0, a, _, _ => by simp [nodesL]
  | n + 1, a, h0, h => by
    have hf : (nFile bN).nodes = 1 := by decide +kernel
    rw [List.replicate_succ, nodesL, hf, w64 (by omega) (by omega), wide_nodes n _ (by omega) (by omega)]
    omega
theorem wide_deep : ∀ (n : Nat) (a : Int), a ≤ 1 → deepL a (List.replicate n (nFile bN)) ≤ 1
  | 0, a, h => by simpa [deepL] using h
  | n + 1, a, h => by
    have hf : (nFile bN).deep = 0 := by decide +kernel
    rw [List.replicate_succ, deepL, hf]
    refine wide_deep n _ ?_
    rw [w64 (by omega) (by omega)]
    split <;> omega
theorem wideN_may {n : Nat} (hn : n < 17576) : (wideN n).may = decide (n ≤ 1023) := by
  unfold N.may
  have h1 : (wideN n).nodes = 1 + n := by
    show nodesL 1 (List.replicate n (nFile bN)) = 1 + n
    exact wide_nodes n 1 (by omega) (by omega)
  have h2 : (wideN n).deep ≤ 24 := by
    have : (wideN n).deep ≤ 1 := wide_deep n 0 (by omega)
    omega
  rw [wideN_well hn, h1, decide_eq_true h2]
  have h3 : (wideN n).kind = 2 := rfl
  rw [decide_eq_true h3, Bool.true_and, Bool.and_true, Bool.true_and]
  exact decide_eq_decide.2 (by omega)

/-- six cells that read as a case -/
def CaseV (w : World) (x : N × Bool × Bool) (cs : List Value) : Prop :=
  ∃ A c A' c' d, cs = [.int .u8 x.1.kind, .string x.1.text, .slice A x.1.names.length c, .slice A' x.1.kids.length c', .bool x.2.1, .bool x.2.2] ∧ Rep 2000 Any w d x.1 (.agg #[.int .u8 x.1.kind, .string x.1.text, .slice A x.1.names.length c, .slice A' x.1.kids.length c'])
inductive Fl6 (R : N × Bool × Bool → List Value → Prop) : List Value → List (N × Bool × Bool) → Prop where
  | nil : Fl6 R [] []
  | cons {x l a b c d e f xs} : R x [a, b, c, d, e, f] → Fl6 R xs l → Fl6 R (a :: b :: c :: d :: e :: f :: xs) (x :: l)
theorem Fl6.get {R : N × Bool × Bool → List Value → Prop} {xs : List Value} {l : List (N × Bool × Bool)} (h : Fl6 R xs l) : ∀ {i : Nat} {x : N × Bool × Bool}, l[i]? = some x → ∃ a b c d e f, R x [a, b, c, d, e, f] ∧ xs[i * 6]? = some a ∧ xs[i * 6 + 1]? = some b ∧ xs[i * 6 + 2]? = some c ∧ xs[i * 6 + 3]? = some d ∧ xs[i * 6 + 4]? = some e ∧ xs[i * 6 + 5]? = some f := by
  induction h with
  | nil => intro i x h; simp at h
  | @cons x l a b c d e f xs hr hl ih =>
    intro i y hi
    cases i with
    | zero => simp at hi; subst hi; exact ⟨a, b, c, d, e, f, hr, rfl, rfl, rfl, rfl, rfl, rfl⟩
    | succ i =>
      obtain ⟨a', b', c', d', e', f', hr', h1, h2, h3, h4, h5, h6⟩ := ih (by simpa using hi)
      refine ⟨a', b', c', d', e', f', hr', ?_, ?_, ?_, ?_, ?_, ?_⟩
      · rw [show (i + 1) * 6 = i * 6 + 6 by omega]; simpa using h1
      · rw [show (i + 1) * 6 + 1 = i * 6 + 1 + 6 by omega]; simpa using h2
      · rw [show (i + 1) * 6 + 2 = i * 6 + 2 + 6 by omega]; simpa using h3
      · rw [show (i + 1) * 6 + 3 = i * 6 + 3 + 6 by omega]; simpa using h4
      · rw [show (i + 1) * 6 + 4 = i * 6 + 4 + 6 by omega]; simpa using h5
      · rw [show (i + 1) * 6 + 5 = i * 6 + 5 + 6 by omega]; simpa using h6
theorem Fl6.mono {R R' : N × Bool × Bool → List Value → Prop} {xs : List Value} {l : List (N × Bool × Bool)} (h : Fl6 R xs l) (hR : ∀ x cs, R x cs → R' x cs) : Fl6 R' xs l := by
  induction h with
  | nil => exact .nil
  | cons hr _ ih => exact .cons (hR _ _ hr) ih
/-- the cases in block b -/
def CasesAt (w : World) (b : Nat) (l : List (N × Bool × Bool)) : Prop := ∃ cs, Blk w b 59 cs.toArray ∧ Fl6 (CaseV w) cs l
theorem CasesAt.ext {w w' : World} {b : Nat} {l : List (N × Bool × Bool)} (h : CasesAt w b l) (hx : Ext w w') : CasesAt w' b l := by
  obtain ⟨cs, hb, hf⟩ := h
  exact ⟨cs, hb.ext hx, hf.mono fun x cs ⟨A, c, A', c', d, e, hr⟩ => ⟨A, c, A', c', d, e, hr.ext hx⟩⟩
theorem nmCases_at {j : Nat} {x : N × Bool × Bool} (h : nmCases[j]? = some x) : x.1.well = x.2.1 ∧ x.1.may = x.2.2 := by
  have hj := (List.getElem?_eq_some_iff.1 h).1
  have hl : nmCases.length = 23 := rfl
  by_cases h1 : j < 21
  · have hm : x ∈ nmCases.take 21 := List.mem_of_getElem? (i := j) (by rw [List.getElem?_take_of_lt h1]; exact h)
    have := List.all_eq_true.1 nmCases_ok1 x hm
    simpa using this
  · have h2 : j = 21 ∨ j = 22 := by omega
    rcases h2 with rfl | rfl
    · have e : x = (wideN 1023, true, true) := by
        have : nmCases[21]? = some (wideN 1023, true, true) := rfl
        rw [this] at h; injection h with h; exact h.symm
      subst e
      exact ⟨wideN_well (by omega), by rw [wideN_may (by omega)]; rfl⟩
    · have e : x = (wideN 1024, true, false) := by
        have : nmCases[22]? = some (wideN 1024, true, false) := rfl
        rw [this] at h; injection h with h; exact h.symm
      subst e
      exact ⟨wideN_well (by omega), by rw [wideN_may (by omega)]; rfl⟩

def exF : N := nDir [bA, bD] [nFile bX, nDir [bL] [.mk 3 bTo [] []]]
theorem exF_may : exF.may = true := by decide +kernel
theorem may_dir' {t : N} (hm : t.may = true) : DirW t := by
  unfold N.may at hm
  simp only [Bool.and_eq_true, decide_eq_true_eq] at hm
  exact DirW.of hm.1.1.2 hm.1.1.1
theorem exF_dir : DirW exF := may_dir' exF_may
theorem tput_no {t x : N} {p : List ByteArray} (h : (x.well && openB t p) = false) : t.tput p x = t := by unfold N.tput; rw [h]; rfl
theorem tdel_no {t : N} {p : List ByteArray} (h : (decide (p = []) || decide (t.kindAt p = 0)) = true) : t.tdel p = t := by
  unfold N.tdel
  rw [if_pos (by simpa using h)]
theorem tmove_no {t : N} {a b : List ByteArray} (h : apartB t a b = false) : t.tmove a b = t := by unfold N.tmove; rw [h]; rfl
theorem tcopy_no {t : N} {a b : List ByteArray} (h : apartB t a b = false) : t.tcopy a b = t := by unfold N.tcopy; rw [h]; rfl
end Go.Proofs.Ytocndkhgopjhhaa
