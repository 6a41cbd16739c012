/- strings.IndexRune, IndexAny, ContainsAny with the chars of path.Name: any text is asked. -/
import Derived.Test.YtocndkhgopjhhaaProg
import Derived.Test.YtocndkhgopjhhaaShelf
import Derived.Test.YtocndkhgopjhhaaBase2
import Derived.Laws.RangeAny
import Derived.Laws.Runes
import Derived.WalkMore
import Derived.Lib.DecodeN
import Derived.Deep.LoopGhost
import Derived.Lib.IndexAny
namespace Go.Proofs.Ytocndkhgopjhhaa
open Go.RowKit

def chars3 : ByteArray := { data := #[47, 0, 10] }

theorem indexByte_out {l : List UInt8} {c : UInt8} (h : ∀ b ∈ l, b ≠ c) : Lib.indexByte l c = -1 := by
  induction l with
  | nil => rfl
  | cons a l ih =>
    rw [Lib.indexByte, ih (fun b hb => h b (List.mem_cons_of_mem _ hb))]
    have : (a == c) = false := by simpa using h a (List.mem_cons_self)
    simp [this]

theorem Ext.drewN' (w : World) (n : Nat) : Ext w (w.drewN n) := ⟨rfl, rfl, rfl, Nat.le_refl _, fun _ _ => rfl⟩

theorem Ext.iter (w : World) (s : ByteArray) (i : Nat) : Ext w (w.iter s i) := ⟨rfl, rfl, rfl, by simp [World.iter], fun b hb => Below.heap_alloc w _ b hb⟩

set_option maxRecDepth 100000 in
set_option maxHeartbeats 2000000 in
theorem indexRune_bad (w : World) : Calls Try.prog 173 #[.string { data := #[47, 0, 10] }, .int .i32 65533] w fun e w' => e = .returned (.int .i64 (-1)) ∧ Ext w w' := by
  have n0 := fun ty => run_next_ascii (P := Try.prog) w { data := #[47, 0, 10] } 0 ty (by decide) (by decide)
  have n1 := fun ty => run_next_ascii (P := Try.prog) w { data := #[47, 0, 10] } 1 ty (by decide) (by decide)
  have n2 := fun ty => run_next_ascii (P := Try.prog) w { data := #[47, 0, 10] } 2 ty (by decide) (by decide)
  have n3 := fun ty => run_next_end (P := Try.prog) w { data := #[47, 0, 10] } 3 ty (by decide)
  go_enter Try.func173, Try.ntmps173
  go_wp2
  go_loopg [5, 6] 3 (fun g _ _ wx => ∃ i : Nat, i + g = 3 ∧ wx = w.iter { data := #[47, 0, 10] } i)
  case atStart => exact ⟨0, by omega, rfl⟩
  case round =>
    obtain ⟨i, hig, rfl⟩ := hrel
    cases gk with
    | zero =>
      obtain rfl : i = 3 := by omega
      go_wp2
      go_ret
      exact ⟨rfl, Ext.iter _ _ _⟩
    | succ g =>
      match i, hig with
      | 0, h => 
        obtain rfl : g = 2 := by omega
        go_wp2
        go_roundg 2
        case measure => omega
        case rel => exact ⟨1, by omega, rfl⟩
      | 1, h => 
        obtain rfl : g = 1 := by omega
        go_wp2
        go_roundg 1
        case measure => omega
        case rel => exact ⟨2, by omega, rfl⟩
      | 2, h => 
        obtain rfl : g = 0 := by omega
        go_wp2
        go_roundg 0
        case measure => omega
        case rel => exact ⟨3, by omega, rfl⟩
      | i + 3, h => omega

/-- two bytes or more, the last of 128 or more: -/
theorem bytes_cases {s : ByteArray} (e2 : 2 ≤ s.size) (e4 : s.size ≤ 4) (el : ∀ h : s.size - 1 < s.size, 128 ≤ (s[s.size - 1]'h).toNat) :
    (∃ a b, s = { data := #[a, b] } ∧ 128 ≤ b.toNat) ∨ (∃ a b c, s = { data := #[a, b, c] } ∧ 128 ≤ c.toNat) ∨ (∃ a b c d, s = { data := #[a, b, c, d] } ∧ 128 ≤ d.toNat) := by
  obtain ⟨⟨l⟩⟩ := s
  match l with
  | [] => exact absurd e2 (by decide)
  | [a] => exact absurd e2 (by show ¬ (2 ≤ 1); omega)
  | [a, b] => exact .inl ⟨a, b, rfl, el (by show 1 < 2; omega)⟩
  | [a, b, c] => exact .inr (.inl ⟨a, b, c, rfl, el (by show 2 < 3; omega)⟩)
  | [a, b, c, d] => exact .inr (.inr ⟨a, b, c, d, rfl, el (by show 3 < 4; omega)⟩)
  | a :: b :: c :: d :: e :: l =>
    have : 5 ≤ (ByteArray.mk ⟨a :: b :: c :: d :: e :: l⟩).size := by show 5 ≤ (a :: b :: c :: d :: e :: l).length; simp
    omega

set_option maxRecDepth 100000 in
set_option maxHeartbeats 2000000 in
theorem indexRune_high (r : Int) (h0 : 128 ≤ r) (h1 : r ≤ 2147483647) (w : World) : Calls Try.prog 173 #[.string { data := #[47, 0, 10] }, .int .i32 r] w fun e w' => e = .returned (.int .i64 (-1)) ∧ Ext w w' := by
  by_cases hr : r = 65533
  · subst hr; exact indexRune_bad w
  have hr' : (r == 65533) = false := beq_eq_false_iff_ne.2 hr
  have h128 : ¬ r < 128 := by omega
  have hp : 0 ≤ r := by omega
  by_cases hv : Lib.validRune r = false
  · go_enter Try.func173, Try.ntmps173
    go_wp2_with (go_at_call 185; refine (Try.utf8_ValidRune r _).mono ?_; rintro e w1 ⟨rfl, rfl⟩; rw [hv])
    go_ret
    exact ⟨rfl, Below.refl _ _⟩
  · have hv' : Lib.validRune r = true := by simpa using hv
    have hvv : Utf8.valid r = true := by rw [validRune_eq]; exact hv'
    obtain ⟨e2, e4, el⟩ := encode_facts r hvv h0
    have hcv0 : ∀ w, (convert 21 9 (.int .i32 r)).run Try.prog w = .ok (.string (Utf8.encode r)) w := fun w => run_convert_int_string w _ _ _ _ (by rw [Try.underlying21]; rfl) Try.underlying9
    rcases bytes_cases e2 e4 el with ⟨a, b, hs, hb⟩ | ⟨a, b, c, hs, hb⟩ | ⟨a, b, c, d, hs, hb⟩
    · have hcv := hcv0
      rw [hs] at hcv
      clear hcv0 hs e2 e4 el
      have t1 : ((((({ data := #[47, 0, 10] } : ByteArray)[1]).toNat : Int)) != ((((({ data := #[a, b] } : ByteArray)[1]'(by show 1 < 2; omega)).toNat : Int)))) = true := by
        show ((0 : Int) != (b.toNat : Int)) = true
        simp; omega
      have t2 : Lib.indexByte [10] (({ data := #[a, b] } : ByteArray)[1]'(by show 1 < 2; omega)) < 0 := by
        rw [indexByte_out (fun x hx => ?_)]
        · decide
        · show x ≠ b
          rintro rfl
          simp at hx
          try (subst hx; revert hb; decide)
      go_enter Try.func173, Try.ntmps173
      go_wp2_with (go_at_call 185; refine (Try.utf8_ValidRune r _).mono ?_; rintro e w1 ⟨rfl, rfl⟩; rw [hv'])
      go_step3
      go_wp2
      go_loopw [9, 10, 11] (fun i _ _ wr => i = .int .i64 1 ∧ wr = w1) (fun _ _ _ _ => 0)
      case atStart => exact ⟨rfl, rfl⟩
      case round =>
        obtain ⟨rfl, rfl⟩ := hrel
        go_wp2
        go_step3
        go_wp2
        go_quiet (fail)
        go_wp2
        refine wp_region_up0 (by kernel_rfl) (by kernel_rfl) ?_
        repeat (go_big_quiet_step ((go_at_call 79; exact Calls.up ((Try.strings_IndexByte _ _ _).mono (fun e w' h => ⟨h.1, by rw [h.2]; exact Below.refl _ _⟩)))))
        refine wpQuiet_nil ?_
        rintro _ ⟨u1, rfl⟩
        go_wp2
        rw [Exit.noGoto_ret]
        simp +zetaDelta only [Exit.inBlock, Exit.then, Exit.noGoto_ret]
        go_ret
        exact ⟨rfl, (Ext.drewN' _ _).trans' u1.ext⟩
    · have hcv := hcv0
      rw [hs] at hcv
      clear hcv0 hs e2 e4 el
      have t1 : ((((({ data := #[47, 0, 10] } : ByteArray)[2]).toNat : Int)) != ((((({ data := #[a, b, c] } : ByteArray)[2]'(by show 2 < 3; omega)).toNat : Int)))) = true := by
        show ((10 : Int) != (c.toNat : Int)) = true
        simp; omega
      have t2 : Lib.indexByte [] (({ data := #[a, b, c] } : ByteArray)[2]'(by show 2 < 3; omega)) < 0 := by
        rw [indexByte_out (fun x hx => ?_)]
        · decide
        · show x ≠ c
          rintro rfl
          simp at hx
          try (subst hx; revert hb; decide)
      go_enter Try.func173, Try.ntmps173
      go_wp2_with (go_at_call 185; refine (Try.utf8_ValidRune r _).mono ?_; rintro e w1 ⟨rfl, rfl⟩; rw [hv'])
      go_step3
      go_wp2
      go_loopw [9, 10, 11] (fun i _ _ wr => i = .int .i64 2 ∧ wr = w1) (fun _ _ _ _ => 0)
      case atStart => exact ⟨rfl, rfl⟩
      case round =>
        obtain ⟨rfl, rfl⟩ := hrel
        go_wp2
        go_step3
        go_wp2
        go_quiet (fail)
        go_wp2
        refine wp_region_up0 (by kernel_rfl) (by kernel_rfl) ?_
        repeat (go_big_quiet_step ((go_at_call 79; exact Calls.up ((Try.strings_IndexByte _ _ _).mono (fun e w' h => ⟨h.1, by rw [h.2]; exact Below.refl _ _⟩)))))
        refine wpQuiet_nil ?_
        rintro _ ⟨u1, rfl⟩
        go_wp2
        rw [Exit.noGoto_ret]
        simp +zetaDelta only [Exit.inBlock, Exit.then, Exit.noGoto_ret]
        go_ret
        exact ⟨rfl, (Ext.drewN' _ _).trans' u1.ext⟩
    · have hcv := hcv0
      rw [hs] at hcv
      clear hcv0 hs e2 e4 el
      go_enter Try.func173, Try.ntmps173
      go_wp2_with (go_at_call 185; refine (Try.utf8_ValidRune r _).mono ?_; rintro e w1 ⟨rfl, rfl⟩; rw [hv'])
      go_step3
      go_wp2
      go_loopw [9, 10, 11] (fun i _ _ wr => i = .int .i64 3 ∧ wr = w1) (fun _ _ _ _ => 0)
      case atStart => exact ⟨rfl, rfl⟩
      case round =>
        obtain ⟨rfl, rfl⟩ := hrel
        go_wp2
        rw [Exit.noGoto_ret]
        go_ret
        exact ⟨rfl, Below.refl _ _⟩

/-- one step of a walk over a text's runes, wherever its place is kept. -/
theorem run_next_at {P : Program} (u : World) (b : Nat) (s : ByteArray) (pos : Nat) (ty : TypeId) (hb : u.heap[b]? = some (.stringIter s pos)) (h : pos < s.size) :
    (Instr.next (.pointer (some ⟨b, 0, none⟩)) true ty).run P u = .ok (.tuple #[.bool true, .int .i64 pos, .int .i32 (Utf8.decode s pos).1]) { u with heap := u.heap.setIfInBounds b (.stringIter s (pos + (Utf8.decode s pos).2)) } := by
  simp only [Instr.next, getObj, setObj, Sem.run_bind, Sem.run, hb, Result.andThen, h, if_true]
  simp [goInt]
theorem run_next_done {P : Program} (u : World) (b : Nat) (s : ByteArray) (pos : Nat) (ty : TypeId) (hb : u.heap[b]? = some (.stringIter s pos)) (h : ¬ pos < s.size) :
    (Instr.next (.pointer (some ⟨b, 0, none⟩)) true ty).run P u = .ok (.tuple #[.bool false]) u := by
  simp [Instr.next, getObj, Sem.run, hb, h]

theorem high_width (s : ByteArray) (pos : Nat) (h : pos < s.size) (ha : 128 ≤ (s.get! pos).toNat) :
    1 ≤ (Utf8.decode s pos).2 ∧ pos + (Utf8.decode s pos).2 ≤ s.size ∧ ∀ k, k < (Utf8.decode s pos).2 → 128 ≤ (s.get! (pos + k)).toNat := by
  rw [Lib.decode_at]
  have h4 : ∀ n k : Nat, k < n → n ≤ 4 → k = 0 ∨ k = 1 ∨ k = 2 ∨ k = 3 := by omega
  unfold Lib.decodeN
  repeat' split
  all_goals refine ⟨by simp, by simp; omega, fun k hk => ?_⟩
  all_goals simp only at hk
  all_goals
    rcases h4 _ _ hk (by omega) with rfl | rfl | rfl | rfl
    all_goals first | exact ha | omega | (exfalso; omega)

theorem drop_bad (s : ByteArray) (i : Nat) (hi : i < s.size) : (s.data.toList.drop i).any badB = (badB (s.get! i) || (s.data.toList.drop (i + 1)).any badB) := by
  have hl : i < s.data.toList.length := by simpa using hi
  rw [List.drop_eq_getElem_cons hl, List.any_cons]
  have e : s.data.toList[i] = s.get! i := by
    show _ = s.data[i]!
    rw [getElem!_pos s.data i hi]
    simp
  rw [e]

theorem skip_bad (s : ByteArray) (n : Nat) : ∀ (i : Nat), i + n ≤ s.size → (∀ k, k < n → 128 ≤ (s.get! (i + k)).toNat) → (s.data.toList.drop i).any badB = (s.data.toList.drop (i + n)).any badB := by
  induction n with
  | zero => intro i _ _; rfl
  | succ n ih =>
    intro i hi hk
    rw [drop_bad s i (by omega)]
    have h0 : badB (s.get! i) = false := by
      have h1 := hk 0 (by omega)
      simp only [Nat.add_zero] at h1
      unfold badB
      have c0 : (s.get! i == 0) = false := by
        refine beq_eq_false_iff_ne.2 (fun h => ?_); rw [h] at h1; exact absurd h1 (by decide)
      have c1 : (s.get! i == 47) = false := by
        refine beq_eq_false_iff_ne.2 (fun h => ?_); rw [h] at h1; exact absurd h1 (by decide)
      have c2 : (s.get! i == 10) = false := by
        refine beq_eq_false_iff_ne.2 (fun h => ?_); rw [h] at h1; exact absurd h1 (by decide)
      rw [c0, c1, c2]; rfl
    rw [h0, Bool.false_or, ih (i + 1) (by omega) (fun k hk' => by have := hk (k + 1) (by omega); rwa [show i + 1 + k = i + (k + 1) by omega])]
    rw [show i + 1 + n = i + (n + 1) by omega]

theorem chars_bad (x : UInt8) : decide (0 ≤ Lib.indexByte [47, 0, 10] x) = badB x := by
  rw [← Lib.contains_iff_indexByte]
  unfold badB
  simp only [List.contains_cons, List.contains_nil, Bool.or_false]
  cases (x == 47) <;> cases (x == 0) <;> rfl

end Go.Proofs.Ytocndkhgopjhhaa
