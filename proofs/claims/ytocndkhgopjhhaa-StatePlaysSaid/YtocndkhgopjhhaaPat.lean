/- pat.dir, pat.one: may a fact be? -/
import Derived.Test.YtocndkhgopjhhaaProg
import Derived.Test.YtocndkhgopjhhaaSt
import Derived.Test.YtocndkhgopjhhaaLibs
namespace Go.Proofs.Ytocndkhgopjhhaa
open Go.RowKit

def dirF (f : Fc) : Bool := f.known && f.kind == 2
def namesUp : Option ByteArray → List ByteArray → Bool
  | _, [] => true
  | p, s :: l => nameB s && !(p.any (leS s)) && namesUp (some s) l
def tailF (f : Fc) : Bool := if f.rest = 2 then decide (0 ≤ f.beside) && decide (f.beside ≤ (f.names.length : Int)) else (f.rest == 0 || f.rest == 1) && f.beside == 0
def oneF (f : Fc) : Bool :=
  if (decide (3 < f.kind) || (!f.known && f.kind != 0) || (f.names.length : Int) != (f.kids.length : Int)) = true then false
  else if dirF f = true then namesUp none f.names && tailF f else (f.names.length : Int) == 0 && f.rest == 0 && f.beside == 0
theorem namesUp_at {p : Option ByteArray} {ns : List ByteArray} {j : Nat} (h1 : j < ns.length) :
    namesUp p (ns.drop j) = (nameB ns[j] && !(p.any (leS ns[j])) && namesUp (prevOf ns (j + 1)) (ns.drop (j + 1))) := by
  rw [List.drop_eq_getElem_cons h1, namesUp]
  simp [prevOf, List.getElem?_eq_getElem h1]
theorem namesUp_end {p : Option ByteArray} {ns : List ByteArray} {j : Nat} (h1 : ¬ j < ns.length) : namesUp p (ns.drop j) = true := by
  rw [List.drop_eq_nil_of_le (by omega), namesUp]

set_option maxRecDepth 100000 in
set_option maxHeartbeats 1000000 in
theorem dir_any {B : Nat} {S : Nat → Prop} {w : World} {f : Fc} {v : Value} (h : Fv B S w f v) :
    Calls Try.prog 130 #[v] w fun e w' => e = .returned (.bool (dirF f)) ∧ Ext w w' := by
  obtain ⟨nv, kv, rfl, w1, w2, w3, ⟨A, c, rfl, _⟩, ⟨A', c', rfl, _⟩⟩ := h
  cases hk : f.known
  · go_enter Try.func130, Try.ntmps130
    go_wp2_with fail
    go_ret
    exact ⟨ret_bool (by simp [dirF, hk]), Ext.alloc' _ _⟩
  · go_enter Try.func130, Try.ntmps130
    go_wp2_with fail
    go_ret
    exact ⟨ret_bool (by simp [dirF, hk]), Ext.alloc' _ _⟩

set_option maxRecDepth 100000 in
set_option maxHeartbeats 4000000 in
theorem one_a {B : Nat} {S : Nat → Prop} {w : World} {f : Fc} {v : Value} (h : Fv B S w f v) (h1 : (decide (3 < f.kind) || (!f.known && f.kind != 0) || (f.names.length : Int) != (f.kids.length : Int)) = true) :
    Calls Try.prog 131 #[v] w fun e w' => e = .returned (.bool (oneF f)) ∧ Ext w w' := by
  have HF := Lib.hid h
  obtain ⟨nv, kv, rfl, w1, w2, w3, hn, hk⟩ := h
  obtain ⟨A, c, rfl, hc, hm, _, hs, hcl⟩ := hn
  obtain ⟨A', c', rfl, hc', hm', _, _, _⟩ := hk
  obtain ⟨known, kind, names, kids, rest, beside⟩ := f
  simp only at *
  unfold maxLen at hm hm'
  have Hs := Lib.hid hs
  have Hcl := Lib.hid hcl
  clear hs hcl
  have hO : oneF ⟨known, kind, names, kids, rest, beside⟩ = false := by rw [oneF, if_pos h1]
  rw [hO]
  clear hO
  cases k1 : decide (3 < kind)
  · cases known
    · cases k2 : (kind != 0)
      · rw [k1, k2] at h1
        simp only [Bool.false_or, Bool.not_false, Bool.and_false] at h1
        have k1' : ¬ 3 < kind := of_decide_eq_false k1
        go_enter Try.func131, Try.ntmps131
        go_wp2_with fail
        go_ret
        exact ⟨rfl, Ext.alloc' _ _⟩
      · have k1' : ¬ 3 < kind := of_decide_eq_false k1
        clear h1
        go_enter Try.func131, Try.ntmps131
        go_wp2_with fail
        go_ret
        exact ⟨rfl, Ext.alloc' _ _⟩
    · rw [k1] at h1
      simp only [Bool.false_or, Bool.not_true, Bool.false_and] at h1
      have k1' : ¬ 3 < kind := of_decide_eq_false k1
      go_enter Try.func131, Try.ntmps131
      go_wp2_with fail
      go_ret
      exact ⟨rfl, Ext.alloc' _ _⟩
  · have k1' : 3 < kind := of_decide_eq_true k1
    clear h1
    go_enter Try.func131, Try.ntmps131
    go_wp2_with fail
    go_ret
    exact ⟨rfl, Ext.alloc' _ _⟩
set_option maxRecDepth 100000 in
set_option maxHeartbeats 4000000 in
theorem one_b {B : Nat} {S : Nat → Prop} {w : World} {f : Fc} {v : Value} (h : Fv B S w f v) (h1 : (decide (3 < f.kind) || (!f.known && f.kind != 0) || (f.names.length : Int) != (f.kids.length : Int)) = false) (hd : dirF f = false) :
    Calls Try.prog 131 #[v] w fun e w' => e = .returned (.bool (oneF f)) ∧ Ext w w' := by
  have HF := Lib.hid h
  obtain ⟨nv, kv, rfl, w1, w2, w3, hn, hk⟩ := h
  obtain ⟨A, c, rfl, hc, hm, _, hs, hcl⟩ := hn
  obtain ⟨A', c', rfl, hc', hm', _, _, _⟩ := hk
  obtain ⟨known, kind, names, kids, rest, beside⟩ := f
  simp only at *
  unfold maxLen at hm hm'
  have Hs := Lib.hid hs
  have Hcl := Lib.hid hcl
  clear hs hcl
  have h1' := h1
  simp only [Bool.or_eq_false_iff] at h1'
  obtain ⟨⟨g1, g2⟩, g3⟩ := h1'
  have k1' : ¬ 3 < kind := of_decide_eq_false g1
  have hlen : names.length = kids.length := by
    have : (names.length : Int) = (kids.length : Int) := by simpa using g3
    omega
  have hu := (up_rules (w.alloc (.cells #[.bool known, .int .u8 kind, .slice A names.length c, .slice A' kids.length c', .int .i64 rest, .int .i64 beside] 106))).1
  simp only [World.size_alloc] at hu
  have Hd := Lib.hid hd
  have hO : oneF ⟨known, kind, names, kids, rest, beside⟩ = ((names.length : Int) == 0 && rest == 0 && beside == 0) := by
    rw [oneF, if_neg (by simp only; rw [h1]; simp), if_neg (by rw [hd]; simp)]
  rw [hO]
  clear hO hd h1 g1 hlen
  cases known
  · have k2 : (kind != 0) = false := by simpa using g2
    clear g2
    cases m1 : ((names.length : Int) == 0)
    · go_enter Try.func131, Try.ntmps131
      go_wp2_with (first | (go_at_call 130; refine (dir_any ((HF.out).alloc _)).mono ?_; rw [Hd.out]; rintro e w5 ⟨rfl, hx5⟩; obtain ⟨u5, rfl⟩ := Up.of hx5; clear hx5))
      go_ret
      exact ⟨rfl, (Ext.alloc' _ _).trans' u5.ext⟩
    · cases m2 : (rest == 0)
      · go_enter Try.func131, Try.ntmps131
        go_wp2_with (first | (go_at_call 130; refine (dir_any ((HF.out).alloc _)).mono ?_; rw [Hd.out]; rintro e w5 ⟨rfl, hx5⟩; obtain ⟨u5, rfl⟩ := Up.of hx5; clear hx5))
        go_ret
        exact ⟨rfl, (Ext.alloc' _ _).trans' u5.ext⟩
      · cases m3 : (beside == 0)
        · go_enter Try.func131, Try.ntmps131
          go_wp2_with (first | (go_at_call 130; refine (dir_any ((HF.out).alloc _)).mono ?_; rw [Hd.out]; rintro e w5 ⟨rfl, hx5⟩; obtain ⟨u5, rfl⟩ := Up.of hx5; clear hx5))
          go_ret
          exact ⟨rfl, (Ext.alloc' _ _).trans' u5.ext⟩
        · go_enter Try.func131, Try.ntmps131
          go_wp2_with (first | (go_at_call 130; refine (dir_any ((HF.out).alloc _)).mono ?_; rw [Hd.out]; rintro e w5 ⟨rfl, hx5⟩; obtain ⟨u5, rfl⟩ := Up.of hx5; clear hx5))
          go_ret
          exact ⟨rfl, (Ext.alloc' _ _).trans' u5.ext⟩
  · clear g2
    cases m1 : ((names.length : Int) == 0)
    · go_enter Try.func131, Try.ntmps131
      go_wp2_with (first | (go_at_call 130; refine (dir_any ((HF.out).alloc _)).mono ?_; rw [Hd.out]; rintro e w5 ⟨rfl, hx5⟩; obtain ⟨u5, rfl⟩ := Up.of hx5; clear hx5))
      go_ret
      exact ⟨rfl, (Ext.alloc' _ _).trans' u5.ext⟩
    · cases m2 : (rest == 0)
      · go_enter Try.func131, Try.ntmps131
        go_wp2_with (first | (go_at_call 130; refine (dir_any ((HF.out).alloc _)).mono ?_; rw [Hd.out]; rintro e w5 ⟨rfl, hx5⟩; obtain ⟨u5, rfl⟩ := Up.of hx5; clear hx5))
        go_ret
        exact ⟨rfl, (Ext.alloc' _ _).trans' u5.ext⟩
      · cases m3 : (beside == 0)
        · go_enter Try.func131, Try.ntmps131
          go_wp2_with (first | (go_at_call 130; refine (dir_any ((HF.out).alloc _)).mono ?_; rw [Hd.out]; rintro e w5 ⟨rfl, hx5⟩; obtain ⟨u5, rfl⟩ := Up.of hx5; clear hx5))
          go_ret
          exact ⟨rfl, (Ext.alloc' _ _).trans' u5.ext⟩
        · go_enter Try.func131, Try.ntmps131
          go_wp2_with (first | (go_at_call 130; refine (dir_any ((HF.out).alloc _)).mono ?_; rw [Hd.out]; rintro e w5 ⟨rfl, hx5⟩; obtain ⟨u5, rfl⟩ := Up.of hx5; clear hx5))
          go_ret
          exact ⟨rfl, (Ext.alloc' _ _).trans' u5.ext⟩
end Go.Proofs.Ytocndkhgopjhhaa
