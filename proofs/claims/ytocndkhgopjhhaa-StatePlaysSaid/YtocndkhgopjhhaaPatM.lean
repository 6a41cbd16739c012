/- pat.May: may facts be? -/
import Derived.Test.YtocndkhgopjhhaaPat1
import Derived.Test.YtocndkhgopjhhaaPat
import Derived.Test.YtocndkhgopjhhaaBase
namespace Go.Proofs.Ytocndkhgopjhhaa
open Go.RowKit

/-- The number of the first one that p says yes to, from i on; -1: none. -/
def firstI {α : Type} (p : α → Bool) : Nat → List α → Int
  | _, [] => -1
  | i, x :: l => if p x then (i : Int) else firstI p (i + 1) l
theorem firstI_any {α : Type} (p : α → Bool) : ∀ (i : Nat) (l : List α), decide (0 ≤ firstI p i l) = l.any p
  | i, [] => by simp [firstI]
  | i, x :: l => by
    rw [firstI, List.any_cons]
    cases h : p x
    · rw [if_neg (by simp), Bool.false_or]; exact firstI_any p (i + 1) l
    · rw [if_pos rfl, Bool.true_or]; exact decide_eq_true (by omega)
theorem firstI_at {α : Type} {p : α → Bool} {l : List α} {j : Nat} (h : j < l.length) : firstI p j (l.drop j) = if p l[j] then (j : Int) else firstI p (j + 1) (l.drop (j + 1)) := by
  rw [List.drop_eq_getElem_cons h, firstI]
theorem firstI_end {α : Type} {p : α → Bool} {l : List α} {j : Nat} (h : ¬ j < l.length) : firstI p j (l.drop j) = -1 := by
  rw [List.drop_eq_nil_of_le (by omega), firstI]

def not1 (z : Int) : Bool := z != 1

theorem may1_any (z : Int) (w : World) : Calls Try.prog 133 #[.int .i64 z] w fun e w' => e = .returned (.bool (z != 1)) ∧ w' = w := by
  go_enter Try.func133, Try.ntmps133
  go_wp2_with fail
  go_ret
  exact ⟨rfl, rfl⟩

set_option maxHeartbeats 1000000 in
theorem indexI_any {B : Nat} {S : Nat → Prop} {w : World} {v : Value} {zs : List Int} (h : Ints B S w v zs) :
    Calls Try.prog 154 #[v, .func (.func 133) #[] #[]] w fun e w' => e = .returned (.int .i64 (firstI not1 0 zs)) ∧ w' = w := by
  obtain ⟨A, c, rfl, hc, hm, hB, hw, g⟩ := h
  have G := Lib.hid g
  have HW := Lib.hid hw
  unfold maxLen at hm
  clear g hw
  go_enter Try.func154, Try.ntmps154
  go_wp2_with fail
  go_loopw [8] (fun i wr => ∃ (j : Nat), j ≤ zs.length ∧ i = .int .i64 j ∧ wr = w ∧ firstI not1 j (zs.drop j) = firstI not1 0 zs) (fun i _ => zs.length - (intOf i).toNat)
  case atStart => exact ⟨0, Nat.zero_le _, rfl, rfl, rfl⟩
  case round =>
    obtain ⟨j, hj, rfl, rfl, hy⟩ := hrel
    by_cases hlt : j < zs.length
    · rw [firstI_at hlt] at hy
      obtain ⟨b, o, rfl, hS, hb, k⟩ := G.out (by omega)
      have cj := k j _ (List.getElem?_eq_getElem hlt)
      clear k
      obtain ⟨z, hz⟩ : ∃ z, zs[j] = z := ⟨_, rfl⟩
      rw [hz] at cj hy
      clear hz
      cases ht : (z != 1)
      · have Hy : Hid (firstI not1 (j + 1) (zs.drop (j + 1)) = firstI not1 0 zs) := by unfold Hid; rw [← hy, not1, ht]; rfl
        have Ht := Lib.hid ht
        clear hy ht
        go_wp2_with (go_at_call 133; refine (may1_any z _).mono ?_; rw [Ht.out]; rintro e w1 ⟨rfl, rfl⟩)
        go_roundw
        case rel => exact ⟨j + 1, by omega, by go_num, (by first | rfl | trivial), Hy.out⟩
        case measure => simp [intOf]; omega
      · have Hy : Hid (firstI not1 0 zs = (j : Int)) := by unfold Hid; rw [← hy, not1, ht]; rfl
        have Ht := Lib.hid ht
        clear hy ht
        go_wp2_with (go_at_call 133; refine (may1_any z _).mono ?_; rw [Ht.out]; rintro e w1 ⟨rfl, rfl⟩)
        go_ret
        exact ⟨ret_int Hy.out.symm, rfl⟩
    · rw [firstI_end hlt] at hy
      have Hy := Lib.hid hy
      clear hy
      go_wp2_with fail
      go_ret
      exact ⟨ret_int Hy.out, rfl⟩

theorem containsI_any {B : Nat} {S : Nat → Prop} {w : World} {v : Value} {zs : List Int} (h : Ints B S w v zs) :
    Calls Try.prog 132 #[v, .func (.func 133) #[] #[]] w fun e w' => e = .returned (.bool (zs.any not1)) ∧ w' = w := by
  have H := Lib.hid h
  obtain ⟨A, c, rfl, _⟩ := h
  have Hf := Lib.hid (firstI_any not1 0 zs)
  go_enter Try.func132, Try.ntmps132
  go_wp2_with (go_at_call 154; refine (indexI_any H.out).mono ?_; rintro e w1 ⟨rfl, rfl⟩)
  go_ret
  exact ⟨ret_bool Hf.out, rfl⟩

/-- all that stand in facts. -/
def kidsAll (fs : List Fc) : List Int := fs.flatMap (·.kids)
def kidsOk (i n : Int) (ks : List Int) : Bool := ks.all fun k => decide (i < k) && decide (k < n)
def mayL (n : Int) : Int → List Fc → Bool
  | _, [] => true
  | i, f :: l => oneF f && kidsOk i n f.kids && mayL n (i + 1) l
def standsL (fs : List Fc) : List Int := (List.range fs.length).map fun (z : Nat) => ((kidsAll fs).count (z : Int) : Int)
/-- May facts be? -/
def mayF (fs : List Fc) : Bool := decide (0 < fs.length) && fs.head?.any dirF && mayL fs.length 0 fs && !((standsL fs).drop 1).any not1
def stA (n : Nat) (l : List Int) : Array Value := ((List.range n).map fun (z : Nat) => Value.int .i64 (l.count (z : Int))).toArray
theorem stA_size (n : Nat) (l : List Int) : (stA n l).size = n := by simp [stA]
theorem stA_get {n : Nat} (l : List Int) {z : Nat} (h : z < n) : (stA n l)[z]? = some (.int .i64 (l.count (z : Int))) := by simp [stA, h]
theorem stA_push {n : Nat} (l : List Int) (k : Nat) : (stA n l).setIfInBounds k (.int .i64 ((l.count (k : Int) : Int) + 1)) = stA n (l ++ [(k : Int)]) := by
  apply Array.ext
  · simp [stA]
  · intro i h1 h2
    simp only [stA, Array.size_setIfInBounds, List.size_toArray, List.length_map, List.length_range] at h1
    by_cases e : k = i
    · subst e
      rw [Array.getElem_setIfInBounds_self]
      simp [stA]
    · rw [Array.getElem_setIfInBounds_ne (by simpa [stA] using h1) e]
      simp [stA, List.count_append, show ((k : Int) = (i : Int)) = False by simp; omega]
theorem mayL_at {n : Int} {fs : List Fc} {j : Nat} (h : j < fs.length) : mayL n j (fs.drop j) = (oneF fs[j] && kidsOk j n fs[j].kids && mayL n ((j + 1 : Nat) : Int) (fs.drop (j + 1))) := by
  rw [List.drop_eq_getElem_cons h, mayL]; rfl
theorem mayL_end {n : Int} {fs : List Fc} {j : Nat} (h : ¬ j < fs.length) : mayL n j (fs.drop j) = true := by
  rw [List.drop_eq_nil_of_le (by omega), mayL]
theorem kidsOk_at {i n : Int} {ks : List Int} {j : Nat} (h : j < ks.length) : kidsOk i n (ks.drop j) = (decide (i < ks[j]) && decide (ks[j] < n) && kidsOk i n (ks.drop (j + 1))) := by
  rw [List.drop_eq_getElem_cons h, kidsOk, List.all_cons]; rfl
theorem kidsOk_end {i n : Int} {ks : List Int} {j : Nat} (h : ¬ j < ks.length) : kidsOk i n (ks.drop j) = true := by
  rw [List.drop_eq_nil_of_le (by omega)]; rfl

theorem Facts.get {B : Nat} {S : Nat → Prop} {w : World} {A : Option Addr} {n c : Nat} {fs : List Fc} (h : Facts B S w (.slice A n c) fs) {i : Nat} {f : Fc} (hi : fs[i]? = some f) :
    ∃ b o nv kv, A = some ⟨b, o, none⟩ ∧ S b ∧ b < w.heap.size ∧ w.cell? ⟨b, o + i * 6, none⟩ = some (.bool f.known) ∧ w.cell? ⟨b, o + i * 6 + 1, none⟩ = some (.int .u8 f.kind) ∧ w.cell? ⟨b, o + i * 6 + 2, none⟩ = some nv ∧ w.cell? ⟨b, o + i * 6 + 3, none⟩ = some kv ∧
        w.cell? ⟨b, o + i * 6 + 4, none⟩ = some (.int .i64 f.rest) ∧ w.cell? ⟨b, o + i * 6 + 5, none⟩ = some (.int .i64 f.beside) ∧ Strs B S w nv f.names ∧ Ints B S w kv f.kids ∧ Fv B S w f (.agg #[.bool f.known, .int .u8 f.kind, nv, kv, .int .i64 f.rest, .int .i64 f.beside]) := by
  obtain ⟨A', c', e, h1, h2, hB, h3⟩ := h
  injection e with e1 e2 e3
  subst e1 e2 e3
  obtain ⟨b, o, e2, hb, hl, hx⟩ := h3 (by have := (List.getElem?_eq_some_iff.1 hi).1; omega)
  obtain ⟨nv, kv, c0, c1, c2, c3, c4, c5, w1, w2, w3, hs, hk⟩ := hx i f hi
  exact ⟨b, o, nv, kv, e2, hb, hl, c0, c1, c2, c3, c4, c5, hs, hk, nv, kv, rfl, w1, w2, w3, hs, hk⟩
theorem Facts.form {B : Nat} {S : Nat → Prop} {w : World} {v : Value} {fs : List Fc} (h : Facts B S w v fs) : ∃ A c, v = .slice A fs.length c ∧ fs.length ≤ c ∧ c ≤ maxLen ∧ fs.length ≤ B := by
  obtain ⟨A', c', e, h1, h2, hB, h3⟩ := h
  exact ⟨A', c', e, h1, h2, hB⟩
end Go.Proofs.Ytocndkhgopjhhaa
