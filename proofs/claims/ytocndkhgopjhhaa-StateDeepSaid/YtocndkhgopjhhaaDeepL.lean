/- StateDeep: what holds between its statements. -/
import Derived.Test.YtocndkhgopjhhaaProg
import Derived.Test.YtocndkhgopjhhaaDeepI
import Derived.Test.YtocndkhgopjhhaaAwakeW
namespace Go.Proofs.Ytocndkhgopjhhaa
open Go.RowKit

/-- 'The slice value v reads as the bytes l'. -/
def U8s (w : World) (v : Value) (l : List Int) : Prop :=
  ∃ A c, v = .slice A l.length c ∧ l.length ≤ c ∧ c ≤ maxLen ∧ (∀ z ∈ l, 0 ≤ z ∧ z ≤ 255) ∧
    (0 < l.length → ∃ b o, A = some ⟨b, o, none⟩ ∧ b < w.heap.size ∧ ∀ i z, l[i]? = some z → w.cell? ⟨b, o + i, none⟩ = some (.int .u8 z))

/-- What holds at the head of the outer loop. -/
def DeepAt (w w2 : World) (n len : Nat) (lv : Value) (last : List Int) (ts : List Td) (wx : World) : Prop :=
  ∃ (T M : Nat → Prop), QSt T M w2 wx w2.heap.size 256 ts ∧ DeepQ n len last ts ∧ Ext w wx ∧ Ints 128 (fun b => ¬ M b) wx lv last

theorem less_val {B1 B2 : Nat} {S1 S2 : Nat → Prop} {w : World} {v1 v2 : Value} {a b : List Int} {c : Bool} (hc : lessR a b = c) (h1 : Ints B1 S1 w v1 a) (h2 : Ints B2 S2 w v2 b) :
    Calls Try.prog 33 #[v1, v2] w fun e w' => e = .returned (.bool c) ∧ Ext w w' := by
  subst hc; exact less_any h1 h2
theorem deep_start {w w2 : World} (len : Nat) (hw2 : Ext w w2) :
    Calls Try.prog 29 #[.pointer (some ⟨w2.heap.size, 0, none⟩), .agg #[.slice none 0 0, .slice (some ⟨w2.heap.size + 1, 0, none⟩) 1 1]] ((w2.alloc (.cells #[.slice none 0 0, .int .i64 256] 116)).alloc (.cells rootC 106)) fun e w' => e = .returned (.int .i64 0) ∧ DeepAt w w2 0 len (.slice none 0 0) [] [⟨[], [rootF]⟩] w' := by
  obtain ⟨W, hW⟩ : ∃ W, W = w2.alloc (.cells #[.slice none 0 0, .int .i64 256] 116) := ⟨_, rfl⟩
  have hq := QSt.new w2 256
  have hz : w2.heap.size + 1 = W.heap.size := by rw [hW]; simp
  rw [← hW] at hq
  rw [← hW, hz]
  have hx := Ext.alloc' W (.cells rootC 106)
  have hfa := Facts.root (Blk.new W 106 rootC)
  have htd : Tdv 128 (fun _ => True) (W.alloc (.cells rootC 106)) ⟨[], [rootF]⟩ (.agg #[.slice none 0 0, .slice (some ⟨W.heap.size, 0, none⟩) 1 1]) :=
    ⟨_, _, rfl, Ints.nil, hfa.keep (Nat.le_refl _) (fun _ _ _ => rfl) (fun _ _ _ => trivial)⟩
  have hq1 := hq.ext hx
  have hsz : w2.heap.size ≤ (W.alloc (.cells rootC 106)).heap.size := by simp; omega
  have hc : pushC ⟨[], [rootF]⟩ 256 [] = 0 := by decide
  refine (hq1.push (by simp) hsz htd).mono ?_
  rintro e w' ⟨rfl, hp⟩
  rw [hc, if_pos rfl] at hp
  rw [hc]
  obtain ⟨T', M', hq', _, _, _, ht⟩ := hp
  have h2 : Ext w2 W := by rw [hW]; exact Ext.alloc' _ _
  refine ⟨rfl, T', M', hq', DeepQ.start len, ?_, Ints.nil⟩
  exact Ext.turn ((hw2.trans' h2).trans' hx) ht (fun b hb => by have := hw2.size; omega)

/-- What holds when one is popped, the last one's row still there. -/
def DeepPopd (w w2 : World) (n len : Nat) (row : List Int) (rv fv lv : Value) (last : List Int) (w6 : World) : Prop :=
  ∃ (T M : Nat → Prop) (ts : List Td), QSt T M w2 w6 w2.heap.size 256 ts ∧ DeepK n len row 0 ts ∧ Ext w w6 ∧ Ints 128 (fun b => ¬ M b) w6 rv row ∧ Facts 128 (fun b => ¬ M b) w6 fv [rootF] ∧ Ints 128 (fun b => ¬ M b) w6 lv last ∧ row.length ≤ n ∧ (0 < n → lessR last row = true)
def DeepPost (w w2 : World) (n len : Nat) (lv : Value) (last : List Int) (e : Ending) (w6 : World) : Prop :=
  ∃ (A : Option Addr) (c : Nat) (A' : Option Addr) (c' : Nat) (row : List Int), e = .returned (.tuple #[.agg #[.slice A row.length c, .slice A' 1 c'], .int .i64 0]) ∧ DeepPopd w w2 n len row (.slice A row.length c) (.slice A' 1 c') lv last w6

theorem deep_pop {w w2 wx : World} {n len : Nat} {lv : Value} {last : List Int} {ts : List Td} (hl : len ≤ 60) (hw2 : Ext w w2) (h : DeepAt w w2 n len lv last ts wx) (h0 : 0 < ts.length) :
    Calls Try.prog 31 #[.pointer (some ⟨w2.heap.size, 0, none⟩)] wx (DeepPost w w2 n len lv last) := by
  obtain ⟨T, M, hq, hd, hx, hlv⟩ := h
  have hf2 := hd.few2
  have hap := hq.apart
  refine (hq.pop (by omega) h0).mono ?_
  rintro e w6 ⟨A, c, A', c', ⟨row, fs⟩, rest, rfl, hp, hmin, hq6, ht6, htd6⟩
  obtain ⟨hk, hfs, hrn, _, hless⟩ := hd.pop hp hmin
  have hfs : fs = [rootF] := hfs
  subst hfs
  obtain ⟨_, _, e, hr, hf⟩ := htd6
  injection e with e
  simp only [Array.mk.injEq, List.cons.injEq, and_true] at e
  obtain ⟨rfl, rfl⟩ := e
  refine ⟨A, c, A', c', row, rfl, T, M, rest, hq6, hk, ?_, ?_, ?_, ?_, hrn, hless⟩
  · exact Ext.turn hx ht6 (fun b hb => by have := (hap.2 b hb).2; have := hw2.size; omega)
  · exact hr.keep (Nat.le_refl _) (fun _ _ _ => rfl) (fun b hb _ => (hq6.apart.1 b hb).2.2)
  · exact hf.keep (Nat.le_refl _) (fun _ _ _ => rfl) (fun b hb _ => (hq6.apart.1 b hb).2.2)
  · exact hlv.keep ht6.size (fun b hb hl => ht6.block b hl hb) (fun b hb _ => hb)

theorem deep_in {w w2 w6 w8 : World} {n len : Nat} {row last : List Int} {rv fv lv lv' : Value} {g : Nat} (h : DeepPopd w w2 n len row rv fv lv last w6) (hx : Ext w6 w8) (hb : Blk w8 g 48 #[rv, fv]) (hg : w6.heap.size ≤ g)
    (hv : w8.ownsRow w6.heap.size 3 1 lv' row.length (row.map (Value.int .i64))) : DeepIn w w2 n len row rv fv lv' g 0 w8 := by
  obtain ⟨T, M, ts, hq, hk, hw, hr, hf, _, _, _⟩ := h
  have hap := hq.apart
  have hwf : ∀ z ∈ row, (Lit.int .i64 z).wf = true := by
    obtain ⟨_, _, _, _, _, _, hwf, _⟩ := hr
    exact hwf
  have hB : row.length ≤ 128 := by
    obtain ⟨_, _, _, _, _, hB, _⟩ := hr
    exact hB
  refine ⟨T, M, ts, hq.ext hx, hk, hw.trans' hx, hb, fun hm => ?_, hr.ext hx, hf.ext hx, ?_⟩
  · have := (hap.2 g hm).1; omega
  · refine (own_ints hv rfl hB hwf).keep (Nat.le_refl _) (fun _ _ _ => rfl) (fun b hb _ hm => ?_)
    have h1 := (ownsRow_lt hv hb).1
    have h2 := (hap.2 b hm).1
    omega

theorem deep_next {w w2 wx : World} {n len : Nat} {r : List Int} {rv fv lv : Value} {g k : Nat} (h : DeepIn w w2 n len r rv fv lv g k wx) (hk : k ≤ 3) (hn : k = 0 ∨ n < len) : ∃ ts, DeepAt w w2 (n + 1) len lv r ts wx := by
  obtain ⟨T, M, ts, hq, hd, hw, hb, hg, hr, hf, hlv⟩ := h
  exact ⟨ts, T, M, hq, hd.next hk hn, hw, hlv⟩
theorem DeepAt.ext {w w2 wx : World} {n len : Nat} {lv : Value} {last : List Int} {ts : List Td} (h : DeepAt w w2 n len lv last ts wx) : Ext w wx := by
  obtain ⟨T, M, hq, hd, hx, hlv⟩ := h
  exact hx
theorem DeepAt.len {w w2 wx : World} {n len : Nat} {lv : Value} {last : List Int} {ts : List Td} (h : DeepAt w w2 n len lv last ts wx) :
    Calls Try.prog 34 #[.pointer (some ⟨w2.heap.size, 0, none⟩)] wx fun e w' => e = .returned (.int .i64 ts.length) ∧ w' = wx := by
  obtain ⟨T, M, hq, hd, hx, hlv⟩ := h
  exact hq.len
theorem DeepAt.small {w w2 wx : World} {n len : Nat} {lv : Value} {last : List Int} {ts : List Td} (h : DeepAt w w2 n len lv last ts wx) : ts.length + n ≤ 1 + 3 * len := by
  obtain ⟨T, M, hq, hd, hx, hlv⟩ := h
  exact hd.few2
theorem DeepAt.lv {w w2 wx : World} {n len : Nat} {lv : Value} {last : List Int} {ts : List Td} (h : DeepAt w w2 n len lv last ts wx) : ∃ A c, lv = .slice A last.length c := by
  obtain ⟨T, M, hq, hd, hx, A, c, e, _⟩ := h
  exact ⟨A, c, e⟩
end Go.Proofs.Ytocndkhgopjhhaa
