/- strings.IndexRune, IndexAny, ContainsAny with the chars of path.Name: any text is asked. -/
import Derived.Test.YtocndkhgopjhhaaProg
import Derived.Test.YtocndkhgopjhhaaShelf
import Derived.Test.YtocndkhgopjhhaaBase
import Derived.Laws.RangeAny
import Derived.Laws.Runes
import Derived.WalkMore
import Derived.Lib.DecodeN
import Derived.Deep.LoopGhost
import Derived.Lib.IndexAny
namespace Go.Proofs.Ytocndkhgopjhhaa
open Go.RowKit

def chars3 : ByteArray := { data := #[47, 0, 10] }

theorem indexByte_out {l : List UInt8} {c : UInt8} (h : ∀ b ∈ l, b ≠ c) : Lib.indexByte l c = -1 := by
  induction l with
  | nil => rfl
  | cons a l ih =>
    rw [Lib.indexByte, ih (fun b hb => h b (List.mem_cons_of_mem _ hb))]
    have : (a == c) = false := by simpa using h a (List.mem_cons_self)
    simp [this]

theorem Ext.drewN' (w : World) (n : Nat) : Ext w (w.drewN n) := ⟨rfl, rfl, rfl, Nat.le_refl _, fun _ _ => rfl⟩

theorem Ext.iter (w : World) (s : ByteArray) (i : Nat) : Ext w (w.iter s i) := ⟨rfl, rfl, rfl, by simp [World.iter], fun b hb => Below.heap_alloc w _ b hb⟩

set_option maxRecDepth 100000 in
set_option maxHeartbeats 2000000 in
theorem indexRune_bad (w : World) : Calls Try.prog 173 #[.string { data := #[47, 0, 10] }, .int .i32 65533] w fun e w' => e = .returned (.int .i64 (-1)) ∧ Ext w w' := by
  have n0 := fun ty => run_next_ascii (P := Try.prog) w { data := #[47, 0, 10] } 0 ty (by decide) (by decide)
  have n1 := fun ty => run_next_ascii (P := Try.prog) w { data := #[47, 0, 10] } 1 ty (by decide) (by decide)
  have n2 := fun ty => run_next_ascii (P := Try.prog) w { data := #[47, 0, 10] } 2 ty (by decide) (by decide)
  have n3 := fun ty => run_next_end (P := Try.prog) w { data := #[47, 0, 10] } 3 ty (by decide)
  go_enter Try.func173, Try.ntmps173
  go_wp2
  go_loopg [5, 6] 3 (fun g _ _ wx => ∃ i : Nat, i + g = 3 ∧ wx = w.iter { data := #[47, 0, 10] } i)
  case atStart => exact ⟨0, by omega, rfl⟩
  case round =>
    obtain ⟨i, hig, rfl⟩ := hrel
    cases gk with
    | zero =>
      obtain rfl : i = 3 := by omega
      go_wp2
      go_ret
      exact ⟨rfl, Ext.iter _ _ _⟩
    | succ g =>
      match i, hig with
      | 0, h => 
        obtain rfl : g = 2 := by omega
        go_wp2
        go_roundg 2
        case measure => omega
        case rel => exact ⟨1, by omega, rfl⟩
      | 1, h => 
        obtain rfl : g = 1 := by omega
        go_wp2
        go_roundg 1
        case measure => omega
        case rel => exact ⟨2, by omega, rfl⟩
      | 2, h => 
        obtain rfl : g = 0 := by omega
        go_wp2
        go_roundg 0
        case measure => omega
        case rel => exact ⟨3, by omega, rfl⟩
      | i + 3, h => omega

/-- two bytes or more, the last of 128 or more: -/
theorem bytes_cases {s : ByteArray} (e2 : 2 ≤ s.size) (e4 : s.size ≤ 4) (el : ∀ h : s.size - 1 < s.size, 128 ≤ (s[s.size - 1]'h).toNat) :
    (∃ a b, s = { data := #[a, b] } ∧ 128 ≤ b.toNat) ∨ (∃ a b c, s = { data := #[a, b, c] } ∧ 128 ≤ c.toNat) ∨ (∃ a b c d, s = { data := #[a, b, c, d] } ∧ 128 ≤ d.toNat) := by
  obtain ⟨⟨l⟩⟩ := s
  match l with
  | [] => exact absurd e2 (by decide)
  | [a] => exact absurd e2 (by show ¬ (2 ≤ 1); omega)
  | [a, b] => exact .inl ⟨a, b, rfl, el (by show 1 < 2; omega)⟩
  | [a, b, c] => exact .inr (.inl ⟨a, b, c, rfl, el (by show 2 < 3; omega)⟩)
  | [a, b, c, d] => exact .inr (.inr ⟨a, b, c, d, rfl, el (by show 3 < 4; omega)⟩)
  | a :: b :: c :: d :: e :: l =>
    have : 5 ≤ (ByteArray.mk ⟨a :: b :: c :: d :: e :: l⟩).size := by show 5 ≤ (a :: b :: c :: d :: e :: l).length; simp
    omega

set_option maxRecDepth 100000 in
set_option maxHeartbeats 2000000 in
theorem indexRune_high (r : Int) (h0 : 128 ≤ r) (h1 : r ≤ 2147483647) (w : World) : Calls Try.prog 173 #[.string { data := #[47, 0, 10] }, .int .i32 r] w fun e w' => e = .returned (.int .i64 (-1)) ∧ Ext w w' := by
  by_cases hr : r = 65533
  · subst hr; exact indexRune_bad w
  have hr' : (r == 65533) = false := beq_eq_false_iff_ne.2 hr
  have h128 : ¬ r < 128 := by omega
  have hp : 0 ≤ r := by omega
  by_cases hv : Lib.validRune r = false
  · go_enter Try.func173, Try.ntmps173
    go_wp2_with (go_at_call 185; refine (Try.utf8_ValidRune r _).mono ?_; rintro e w1 ⟨rfl, rfl⟩; rw [hv])
    go_ret
    exact ⟨rfl, Below.refl _ _⟩
  · have hv' : Lib.validRune r = true := by simpa using hv
    have hvv : Utf8.valid r = true := by rw [validRune_eq]; exact hv'
    obtain ⟨e2, e4, el⟩ := encode_facts r hvv h0
    have hcv0 : ∀ w, (convert 21 9 (.int .i32 r)).run Try.prog w = .ok (.string (Utf8.encode r)) w := fun w => run_convert_int_string w _ _ _ _ (by rw [Try.underlying21]; rfl) Try.underlying9
    rcases bytes_cases e2 e4 el with ⟨a, b, hs, hb⟩ | ⟨a, b, c, hs, hb⟩ | ⟨a, b, c, d, hs, hb⟩
    · have hcv := hcv0
      rw [hs] at hcv
      clear hcv0 hs e2 e4 el
      have t1 : ((((({ data := #[47, 0, 10] } : ByteArray)[1]).toNat : Int)) != ((((({ data := #[a, b] } : ByteArray)[1]'(by show 1 < 2; omega)).toNat : Int)))) = true := by
        show ((0 : Int) != (b.toNat : Int)) = true
        simp; omega
      have t2 : Lib.indexByte [10] (({ data := #[a, b] } : ByteArray)[1]'(by show 1 < 2; omega)) < 0 := by
        rw [indexByte_out (fun x hx => ?_)]
        · decide
        · show x ≠ b
          rintro rfl
          simp at hx
          try (subst hx; revert hb; decide)
      go_enter Try.func173, Try.ntmps173
      go_wp2_with (go_at_call 185; refine (Try.utf8_ValidRune r _).mono ?_; rintro e w1 ⟨rfl, rfl⟩; rw [hv'])
      go_step3
      go_wp2
      go_loopw [9, 10, 11] (fun i _ _ wr => i = .int .i64 1 ∧ wr = w1) (fun _ _ _ _ => 0)
      case atStart => exact ⟨rfl, rfl⟩
      case round =>
        obtain ⟨rfl, rfl⟩ := hrel
        go_wp2
        go_step3
        go_wp2
        go_quiet (fail)
        go_wp2
        refine wp_region_up0 (by kernel_rfl) (by kernel_rfl) ?_
        repeat (go_big_quiet_step ((go_at_call 79; exact Calls.up ((Try.strings_IndexByte _ _ _).mono (fun e w' h => ⟨h.1, by rw [h.2]; exact Below.refl _ _⟩)))))
        refine wpQuiet_nil ?_
        rintro _ ⟨u1, rfl⟩
        go_wp2
        rw [Exit.noGoto_ret]
        simp +zetaDelta only [Exit.inBlock, Exit.then, Exit.noGoto_ret]
        go_ret
        exact ⟨rfl, (Ext.drewN' _ _).trans' u1.ext⟩
    · have hcv := hcv0
      rw [hs] at hcv
      clear hcv0 hs e2 e4 el
      have t1 : ((((({ data := #[47, 0, 10] } : ByteArray)[2]).toNat : Int)) != ((((({ data := #[a, b, c] } : ByteArray)[2]'(by show 2 < 3; omega)).toNat : Int)))) = true := by
        show ((10 : Int) != (c.toNat : Int)) = true
        simp; omega
      have t2 : Lib.indexByte [] (({ data := #[a, b, c] } : ByteArray)[2]'(by show 2 < 3; omega)) < 0 := by
        rw [indexByte_out (fun x hx => ?_)]
        · decide
        · show x ≠ c
          rintro rfl
          simp at hx
          try (subst hx; revert hb; decide)
      go_enter Try.func173, Try.ntmps173
      go_wp2_with (go_at_call 185; refine (Try.utf8_ValidRune r _).mono ?_; rintro e w1 ⟨rfl, rfl⟩; rw [hv'])
      go_step3
      go_wp2
      go_loopw [9, 10, 11] (fun i _ _ wr => i = .int .i64 2 ∧ wr = w1) (fun _ _ _ _ => 0)
      case atStart => exact ⟨rfl, rfl⟩
      case round =>
        obtain ⟨rfl, rfl⟩ := hrel
        go_wp2
        go_step3
        go_wp2
        go_quiet (fail)
        go_wp2
        refine wp_region_up0 (by kernel_rfl) (by kernel_rfl) ?_
        repeat (go_big_quiet_step ((go_at_call 79; exact Calls.up ((Try.strings_IndexByte _ _ _).mono (fun e w' h => ⟨h.1, by rw [h.2]; exact Below.refl _ _⟩)))))
        refine wpQuiet_nil ?_
        rintro _ ⟨u1, rfl⟩
        go_wp2
        rw [Exit.noGoto_ret]
        simp +zetaDelta only [Exit.inBlock, Exit.then, Exit.noGoto_ret]
        go_ret
        exact ⟨rfl, (Ext.drewN' _ _).trans' u1.ext⟩
    · have hcv := hcv0
      rw [hs] at hcv
      clear hcv0 hs e2 e4 el
      go_enter Try.func173, Try.ntmps173
      go_wp2_with (go_at_call 185; refine (Try.utf8_ValidRune r _).mono ?_; rintro e w1 ⟨rfl, rfl⟩; rw [hv'])
      go_step3
      go_wp2
      go_loopw [9, 10, 11] (fun i _ _ wr => i = .int .i64 3 ∧ wr = w1) (fun _ _ _ _ => 0)
      case atStart => exact ⟨rfl, rfl⟩
      case round =>
        obtain ⟨rfl, rfl⟩ := hrel
        go_wp2
        rw [Exit.noGoto_ret]
        go_ret
        exact ⟨rfl, Below.refl _ _⟩

/-- one step of a walk over a text's runes, wherever its place is kept. -/
theorem run_next_at {P : Program} (u : World) (b : Nat) (s : ByteArray) (pos : Nat) (ty : TypeId) (hb : u.heap[b]? = some (.stringIter s pos)) (h : pos < s.size) :
    (Instr.next (.pointer (some ⟨b, 0, none⟩)) true ty).run P u = .ok (.tuple #[.bool true, .int .i64 pos, .int .i32 (Utf8.decode s pos).1]) { u with heap := u.heap.setIfInBounds b (.stringIter s (pos + (Utf8.decode s pos).2)) } := by
  simp only [Instr.next, getObj, setObj, Sem.run_bind, Sem.run, hb, Result.andThen, h, if_true]
  simp [goInt]
theorem run_next_done {P : Program} (u : World) (b : Nat) (s : ByteArray) (pos : Nat) (ty : TypeId) (hb : u.heap[b]? = some (.stringIter s pos)) (h : ¬ pos < s.size) :
    (Instr.next (.pointer (some ⟨b, 0, none⟩)) true ty).run P u = .ok (.tuple #[.bool false]) u := by
  simp [Instr.next, getObj, Sem.run, hb, h]

theorem high_width (s : ByteArray) (pos : Nat) (h : pos < s.size) (ha : 128 ≤ (s.get! pos).toNat) :
    1 ≤ (Utf8.decode s pos).2 ∧ pos + (Utf8.decode s pos).2 ≤ s.size ∧ ∀ k, k < (Utf8.decode s pos).2 → 128 ≤ (s.get! (pos + k)).toNat := by
  rw [Lib.decode_at]
  have h4 : ∀ n k : Nat, k < n → n ≤ 4 → k = 0 ∨ k = 1 ∨ k = 2 ∨ k = 3 := by omega
  unfold Lib.decodeN
  repeat' split
  all_goals refine ⟨by simp, by simp; omega, fun k hk => ?_⟩
  all_goals simp only at hk
  all_goals
    rcases h4 _ _ hk (by omega) with rfl | rfl | rfl | rfl
    all_goals first | exact ha | omega | (exfalso; omega)

theorem drop_bad (s : ByteArray) (i : Nat) (hi : i < s.size) : (s.data.toList.drop i).any badB = (badB (s.get! i) || (s.data.toList.drop (i + 1)).any badB) := by
  have hl : i < s.data.toList.length := by simpa using hi
  rw [List.drop_eq_getElem_cons hl, List.any_cons]
  have e : s.data.toList[i] = s.get! i := by
    show _ = s.data[i]!
    rw [getElem!_pos s.data i hi]
    simp
  rw [e]

theorem skip_bad (s : ByteArray) (n : Nat) : ∀ (i : Nat), i + n ≤ s.size → (∀ k, k < n → 128 ≤ (s.get! (i + k)).toNat) → (s.data.toList.drop i).any badB = (s.data.toList.drop (i + n)).any badB := by
  induction n with
  | zero => intro i _ _; rfl
  | succ n ih =>
    intro i hi hk
    rw [drop_bad s i (by omega)]
    have h0 : badB (s.get! i) = false := by
      have h1 := hk 0 (by omega)
      simp only [Nat.add_zero] at h1
      unfold badB
      have c0 : (s.get! i == 0) = false := by
        refine beq_eq_false_iff_ne.2 (fun h => ?_); rw [h] at h1; exact absurd h1 (by decide)
      have c1 : (s.get! i == 47) = false := by
        refine beq_eq_false_iff_ne.2 (fun h => ?_); rw [h] at h1; exact absurd h1 (by decide)
      have c2 : (s.get! i == 10) = false := by
        refine beq_eq_false_iff_ne.2 (fun h => ?_); rw [h] at h1; exact absurd h1 (by decide)
      rw [c0, c1, c2]; rfl
    rw [h0, Bool.false_or, ih (i + 1) (by omega) (fun k hk' => by have := hk (k + 1) (by omega); rwa [show i + 1 + k = i + (k + 1) by omega])]
    rw [show i + 1 + n = i + (n + 1) by omega]

theorem chars_bad (x : UInt8) : decide (0 ≤ Lib.indexByte [47, 0, 10] x) = badB x := by
  rw [← Lib.contains_iff_indexByte]
  unfold badB
  simp only [List.contains_cons, List.contains_nil, Bool.or_false]
  cases (x == 47) <;> cases (x == 0) <;> rfl

end Go.Proofs.Ytocndkhgopjhhaa
/- path.Name, whatever the text. -/
namespace Go.Proofs.Ytocndkhgopjhhaa
open Go.RowKit

theorem iter_set_ext {w u : World} {s : ByteArray} {p : Nat} (h : Ext w u) : Ext w { u with heap := u.heap.setIfInBounds w.heap.size (.stringIter s p) } :=
  ⟨h.os, h.tape, h.output, by simpa using h.size, fun b hb => by
    show (u.heap.setIfInBounds w.heap.size (.stringIter s p))[b]? = _
    rw [Array.getElem?_setIfInBounds]
    split
    · rename_i e; omega
    · exact h.block b hb⟩

set_option maxRecDepth 100000 in
set_option maxHeartbeats 4000000 in
theorem indexAny_short (s : ByteArray) (w : World) (h8 : s.size ≤ 8) :
    Calls Try.prog 151 #[.string s, .string { data := #[47, 0, 10] }] w fun e w' => ∃ p : Int, e = .returned (.int .i64 p) ∧ decide (0 ≤ p) = hasBad s ∧ Ext w w' := by
  have h8z : decide ((8 : Int) < (s.size : Int)) = false := decide_eq_false (by omega)
  go_enter Try.func151, Try.ntmps151
  go_wp2_with (go_at_call 174; refine (Try.strings_shouldUseASCIISet _ _).mono ?_; rintro e w' ⟨rfl, hw⟩; rw [hw, h8z])
  go_loopg [9, 10] s.size (fun g _ _ wx => ∃ i : Nat, i ≤ s.size ∧ s.size - i = g ∧ wx.heap[w.heap.size]? = some (.stringIter s i) ∧ Ext w wx ∧ (s.data.toList.drop i).any badB = hasBad s)
  case atStart => exact ⟨0, Nat.zero_le _, rfl, World.iter_heap _ _ _, Ext.iter _ _ _, rfl⟩
  case round =>
    obtain ⟨i, hi, hig, hit, hx, hy⟩ := hrel
    have Hx := Lib.hid hx
    have Hy := Lib.hid hy
    have hzz := hx.size
    clear hx hy
    rcases Nat.lt_or_ge i s.size with hlt | hge
    · have hnx := fun ty => run_next_at (P := Try.prog) wr w.heap.size s i ty hit hlt
      have Hit := Lib.hid hit
      clear hit
      have hbb : w.heap.size < wr.heap.size := by
        rcases Nat.lt_or_ge w.heap.size wr.heap.size with h | h
        · exact h
        · have := Hit.out; rw [Array.getElem?_eq_none h] at this; cases this
      by_cases ha : (s.get! i).toNat < 128
      · have hge : s.get! i = s[i]'hlt := by
          show s.data[i]! = _
          rw [getElem!_pos s.data i hlt]; rfl
        have hd := decode_ascii s i hlt (by rw [← hge]; exact ha)
        rw [← hge] at hd
        rw [hd] at hnx
        simp only at hnx
        have hst := drop_bad s i hlt
        have Hst := Lib.hid hst
        have hcon := chars_bad (s.get! i)
        have hback : (((s.get! i).toNat : Int)).toNat.toUInt8 = s.get! i := by simp
        clear hst hd hge
        cases hb : badB (s.get! i)
        · rw [hb] at hcon
          have Hb := Lib.hid hb
          have hlt0 : ¬ ((0 : Int) ≤ Lib.indexByte [47, 0, 10] (s.get! i)) := of_decide_eq_false hcon
          clear hcon hb
          go_wp2_with (go_at_call 173; refine (Try.strings_IndexRune_ascii _ _ _ (by omega) (by omega)).mono ?_; rintro e w' ⟨rfl, hw⟩; rw [hw, hback])
          go_roundg (s.size - (i + 1))
          case measure => omega
          case rel =>
            refine ⟨i + 1, by omega, rfl, ?_, iter_set_ext Hx.out, ?_⟩
            · show (wr.heap.setIfInBounds w.heap.size _)[w.heap.size]? = _
              rw [Array.getElem?_setIfInBounds_self_of_lt hbb]
            · rw [← Hy.out, Hst.out, Hb.out, Bool.false_or]
        · rw [hb] at hcon
          have Hb := Lib.hid hb
          have hge0 : (0 : Int) ≤ Lib.indexByte [47, 0, 10] (s.get! i) := of_decide_eq_true hcon
          clear hcon hb
          go_wp2_with (go_at_call 173; refine (Try.strings_IndexRune_ascii _ _ _ (by omega) (by omega)).mono ?_; rintro e w' ⟨rfl, hw⟩; rw [hw, hback])
          go_ret
          refine ⟨_, rfl, ?_, iter_set_ext Hx.out⟩
          rw [← Hy.out, Hst.out, Hb.out]
          exact decide_eq_true (by omega)
      · obtain ⟨hw1, hw2, hw3⟩ := high_width s i hlt (by omega)
        have hr0 := decode_high s i hlt (by
          have hge : s.get! i = s[i]'hlt := by
            show s.data[i]! = _
            rw [getElem!_pos s.data i hlt]; rfl
          rw [← hge]; omega)
        have hr1 := decode_le s i
        obtain ⟨⟨r, n⟩, hrn⟩ : ∃ x, Utf8.decode s i = x := ⟨_, rfl⟩
        rw [hrn] at hnx hw1 hw2 hw3 hr0 hr1
        simp only at hnx hw1 hw2 hw3 hr0 hr1
        have hsk := skip_bad s n i hw2 hw3
        have Hsk := Lib.hid hsk
        clear hsk hw3 hrn
        go_wp2_with (go_at_call 173; refine (indexRune_high (r : Int) (by omega) (by omega) _).mono ?_; rintro e w' ⟨rfl, hxr⟩; have Hxr := Lib.hid hxr; clear hxr)
        go_roundg (s.size - (i + n))
        case measure => omega
        case rel =>
          refine ⟨i + n, hw2, rfl, ?_, (iter_set_ext Hx.out).trans' Hxr.out, ?_⟩
          · refine (Hxr.out.block _ (by simpa using hbb)).trans ?_
            show (wr.heap.setIfInBounds w.heap.size _)[w.heap.size]? = _
            rw [Array.getElem?_setIfInBounds_self_of_lt hbb]
          · rw [← Hy.out, Hsk.out]
    · have hnx := fun ty => run_next_done (P := Try.prog) wr w.heap.size s i ty hit (by omega)
      have hii : i = s.size := by omega
      clear hit
      go_wp2
      go_ret
      refine ⟨_, rfl, ?_, Hx.out⟩
      rw [← Hy.out, List.drop_eq_nil_of_le (by simp; omega)]
      rfl

theorem chars_has (x : UInt8) : [47, 0, 10].contains x = badB x := by rw [Lib.contains_iff_indexByte]; exact chars_bad x
theorem anyCharsL : ∀ l : List UInt8, decide (0 ≤ Lib.indexAny l [47, 0, 10]) = l.any badB
  | [] => rfl
  | a :: l => by
    rw [List.any_cons, ← anyCharsL l, ← chars_has, Lib.indexAny]
    have hg := Lib.indexAny_ge [47, 0, 10] l
    cases [47, 0, 10].contains a
    · by_cases h : Lib.indexAny l [47, 0, 10] = -1
      · simp [h]
      · have h1 : (Lib.indexAny l [47, 0, 10] == -1) = false := by simpa using h
        simp only [h1, Bool.false_eq_true, if_false, Bool.false_or]
        rw [decide_eq_true (by omega), decide_eq_true (by omega)]
    · simp
theorem anyChars (s : ByteArray) : decide (0 ≤ Lib.indexAny s.data.toList [47, 0, 10]) = hasBad s := anyCharsL _

theorem containsAny_any (s : ByteArray) (w : World) (hs : s.size ≤ 64) :
    Calls Try.prog 128 #[.string s, .string { data := #[47, 0, 10] }] w fun e w' => e = .returned (.bool (hasBad s)) ∧ Ext w w' := by
  go_enter Try.func128, Try.ntmps128
  go_wp2_with fail
  by_cases h8 : s.size ≤ 8
  · refine (indexAny_short s _ h8).mono ?_
    rintro e w1 ⟨p, rfl, hp, hx⟩
    have Hx := Lib.hid hx
    have Hp := Lib.hid hp
    clear hx hp
    go_wp2
    go_ret
    exact ⟨ret_bool Hp.out, Hx.out⟩
  · refine (Try.strings_IndexAny_long (fun w => by kernel_rfl) s { data := #[47, 0, 10] } _ (by decide) (by omega) (by omega) (by decide) (by
      intro j b hb
      match j, hb with
      | 0, h => simp at h; subst h; decide
      | 1, h => simp at h; subst h; decide
      | 2, h => simp at h; subst h; decide)).mono ?_
    rintro e w1 ⟨rfl, rfl⟩
    go_wp2
    go_ret
    exact ⟨ret_bool (anyChars s), (Ext.alloc' _ _).trans' (Ext.alloc' _ _)⟩

set_option maxRecDepth 100000 in
set_option maxHeartbeats 2000000 in
/-- path.Name -/
theorem pathName_any (s : ByteArray) (w : World) (hs : s.size ≤ maxLen) :
    Calls Try.prog 80 #[.string s] w fun e w' => e = .returned (.bool (nameB s)) ∧ Ext w w' := by
  unfold maxLen at hs
  cases e1 : s.toList.isEmpty
  · cases e2 : decide (64 < (s.size : Int))
    · cases e3 : s.toList == [46]
      · cases e4 : s.toList == [46, 46]
        · have hN : nameB s = !hasBad s := by simp [nameB, e1, e2, e3, e4]
          rw [hN]
          have h64 : ¬ 64 < (s.size : Int) := of_decide_eq_false e2
          go_enter Try.func80, Try.ntmps80
          go_wp2_with (go_at_call 128; refine (containsAny_any s _ (by omega)).mono ?_; rintro e w1 ⟨rfl, hx⟩; have Hx := Lib.hid hx; clear hx)
          go_ret
          exact ⟨rfl, Hx.out⟩
        · have hN : nameB s = false := by simp [nameB, e4]
          rw [hN]
          have h64 : ¬ 64 < (s.size : Int) := of_decide_eq_false e2
          go_enter Try.func80, Try.ntmps80
          go_wp2_with fail
          go_ret
          exact ⟨rfl, Below.refl _ _⟩
      · have hN : nameB s = false := by simp [nameB, e3]
        rw [hN]
        have h64 : ¬ 64 < (s.size : Int) := of_decide_eq_false e2
        go_enter Try.func80, Try.ntmps80
        go_wp2_with fail
        go_ret
        exact ⟨rfl, Below.refl _ _⟩
    · have hN : nameB s = false := by simp [nameB, e2]
      rw [hN]
      have h64 : 64 < (s.size : Int) := of_decide_eq_true e2
      go_enter Try.func80, Try.ntmps80
      go_wp2_with fail
      go_ret
      exact ⟨rfl, Below.refl _ _⟩
  · have hN : nameB s = false := by simp [nameB, e1]
    rw [hN]
    go_enter Try.func80, Try.ntmps80
    go_wp2_with fail
    go_ret
    exact ⟨rfl, Below.refl _ _⟩
end Go.Proofs.Ytocndkhgopjhhaa
/- The library's contracts at this program, in the words of XBase. -/
namespace Go.Proofs.Ytocndkhgopjhhaa
open Go.RowKit

theorem indexByte_any (s : ByteArray) (w : World) :
    Calls Try.prog 79 #[.string s, .int .u8 0] w fun e w' => e = .returned (.int .i64 (Lib.indexByte s.data.toList 0)) ∧ w' = w := by
  have h := Try.strings_IndexByte s 0 w
  simpa using h

theorem indexByte_neg : ∀ l : List UInt8, decide (Lib.indexByte l 0 < 0) = !(l.any (· == 0)) := by
  intro l
  induction l with
  | nil => decide
  | cons c l ih =>
    have hg := Lib.indexByte_ge l 0
    rw [List.any_cons, Lib.indexByte]
    cases hc : (c == 0)
    · simp only [Bool.false_eq_true, if_false, Bool.false_or]
      rw [← ih]
      by_cases h : Lib.indexByte l 0 = -1
      · simp [h]
      · have h1 : (Lib.indexByte l 0 == -1) = false := by simpa using h
        rw [h1]
        simp only [Bool.false_eq_true, if_false]
        rw [decide_eq_false (by omega), decide_eq_false (by omega)]
    · simp

theorem take_all {α : Type} (l : List α) : l.take l.length = l := List.take_length

theorem equalS_any {B1 B2 : Nat} {S1 S2 : Nat → Prop} {w : World} {v1 v2 : Value} {xs ys : List ByteArray} (h1 : Strs B1 S1 w v1 xs) (h2 : Strs B2 S2 w v2 ys) :
    Calls Try.prog 85 #[v1, v2] w fun e w' => e = .returned (.bool (decide (xs = ys))) ∧ Ext w w' := by
  obtain ⟨A1, c1, rfl, hc1, hm1, _, _, g1⟩ := h1
  obtain ⟨A2, c2, rfl, hc2, hm2, _, _, g2⟩ := h2
  have hm1' : xs.length ≤ 9223372036854775807 := by unfold maxLen at hm1; omega
  have hm2' : ys.length ≤ 9223372036854775807 := by unfold maxLen at hm2; omega
  by_cases hl : xs.length = ys.length
  · by_cases hz : xs.length = 0
    · have e1 : xs = [] := List.eq_nil_of_length_eq_zero hz
      have e2 : ys = [] := List.eq_nil_of_length_eq_zero (by omega)
      subst e1 e2
      refine (Try.slices_Equal_string_empty A1 A2 c1 0 c2 w (by omega)).mono ?_
      rintro e w' ⟨rfl, rfl⟩
      exact ⟨ret_bool rfl, Below.refl _ _⟩
    · obtain ⟨b1, o1, rfl, _, _, k1⟩ := g1 (by omega)
      obtain ⟨b2, o2, rfl, _, _, k2⟩ := g2 (by omega)
      refine (Try.slices_Equal_string b1 o1 xs.length c1 b2 o2 ys.length c2 xs ys w (Nat.le_refl _) (Nat.le_refl _) hm1' hm2'
        (fun j hj => k1 j _ (by simp [List.getD, List.getElem?_eq_getElem hj])) (fun j hj => k2 j _ (by simp [List.getD, List.getElem?_eq_getElem hj]))).mono ?_
      rintro e w' ⟨rfl, q, rfl⟩
      exact ⟨ret_bool (by rw [List.take_length, List.take_length]), Ext.drewN' _ _⟩
  · refine (Try.slices_Equal_string_lens A1 A2 xs.length c1 ys.length c2 w hl).mono ?_
    rintro e w' ⟨rfl, rfl⟩
    exact ⟨ret_bool (by symm; simp only [decide_eq_false_iff_not]; exact fun h => hl (by rw [h])), Below.refl _ _⟩

end Go.Proofs.Ytocndkhgopjhhaa
