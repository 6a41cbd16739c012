/- The queue's own Push and Pop, and container/heap's. -/
import Derived.Test.YtocndkhgopjhhaaProg
import Derived.Test.YtocndkhgopjhhaaUpDown
import Derived.Test.YtocndkhgopjhhaaBase
import Derived.Deep.RegionHeld3
import Derived.Deep.AppendLies
import Derived.Deep.DrawnRows
import Derived.Laws.ByValue
namespace Go.Proofs.Ytocndkhgopjhhaa
open Go.RowKit

theorem heap_alloc_new' (w : World) (o : Obj) {n : Nat} (h : n = w.heap.size) : (w.alloc o).heap[n]? = some o := h ▸ heap_alloc_new w o

theorem assert_todo (W : World) (v : Value) : (Instr.typeAssert (.iface 48 v) 20 48 true).run Try.prog W = .ok (.tuple #[v, .bool true]) W := by kernel_rfl

attribute [local go_sem ↓] Go.wp_at_zero Go.wp_at_succ

set_option maxRecDepth 100000 in
set_option maxHeartbeats 4000000 in
theorem tpush_walk {w : World} {q base : Nat} {most : Value} {v : Value} {n : Nat} {xs : List Value} (hb : Blk w q 116 #[v, most]) (hr : Row w base v n xs) (hq : q < base) (hbw : base ≤ w.heap.size) (hn : n ≤ 1000000)
    {A A' : Option Addr} {l c l' c' : Nat} :
    Calls Try.prog 213 #[.pointer (some ⟨q, 0, none⟩), .iface 48 (.agg #[.slice A l c, .slice A' l' c'])] w fun e w' => e = .returned (.tuple #[]) ∧ ∃ v', Blk w' q 116 #[v', most] ∧ Row w' base v' (n + 1) (xs ++ [.slice A l c, .slice A' l' c']) ∧
      Turns (fun b => b = q ∨ v.ownBlock = some b) w w' ∧ (v'.ownBlock = v.ownBlock ∨ ∃ g, v'.ownBlock = some g ∧ w.heap.size ≤ g) := by
  obtain ⟨An, cn, rfl⟩ := hr.form
  have hql := hb.lt
  have hc : w.cell? ⟨q, 0, none⟩ = some (.slice An n cn) := hb.cell 0
  have hf : w.frozen? ⟨q, 0, none⟩ = false := hb.frozen 0
  have hfar : (Value.slice An n cn).ownBlock ≠ some q := fun e => by have := hr.lt e; omega
  have HB := Lib.hid hb
  have HR := Lib.hid hr
  have HF := Lib.hid hfar
  have HF2 : Hid (some w.heap.size ≠ (Value.slice An n cn).ownBlock) := Lib.hid fun e => by have := HR.out.lt e.symm; omega
  clear hb hr hfar
  have hd : Row ((w.alloc (.cells #[.slice A l c, .slice A' l' c'] 48)).alloc (.cells #[.slice A l c, .slice A' l' c'] 48)).drew base (.slice An n cn) n xs := HR.out.ext (fun g hg => ((Ext.alloc' w _).trans' (Ext.alloc' _ _)).block g (HR.out.lt hg).2)
  have HD := Lib.hid hd
  clear hd
  have ha := assert_todo
  have hf1 : ∀ o, (w.alloc o).frozen? ⟨q, 0, none⟩ = false := fun o => (HB.out.alloc o).frozen 0
  have hf2 : ∀ o o', ((w.alloc o).alloc o').frozen? ⟨q, 0, none⟩ = false := fun o o' => ((HB.out.alloc o).alloc o').frozen 0
  go_enter Try.func213, Try.ntmps213
  go_wp2_with fail
  go_region_law
    ((refine step_row (by rfl) _ _ (by rfl) (by rfl) (xs := xs) (n := n) (base := base) (v := .slice An n cn) (HD.out) hn (by simp <;> omega) ⟨w.heap.size + 1, 0, none⟩ 1 [.slice A l c, .slice A' l' c'] (by rfl) (by rfl) (World.news_of_block (cs := #[.slice A l c, .slice A' l' c']) (t := 48) (fr := (0, 0)) (heap_alloc_new' _ _ (by simp))) (by simp [Value.oneCell']) ?_; intro gg cap w1 hown1 hgrow hat; have hb1 : Blk w1 q 116 #[.slice An n cn, most] := (hgrow.block q (by simp <;> omega) (Ne.symm HF.out)).trans ((HB.out.alloc _).alloc _); have HB1 := Lib.hid hb1; have hc1 : w1.cell? ⟨q, 0, none⟩ = some (.slice An n cn) := hb1.cell 0; have hf3 : w1.frozen? ⟨q, 0, none⟩ = false := hb1.frozen 0; have HO1 := Lib.hid hown1; have HG1 := Lib.hid hgrow; have HA1 := Lib.hid hat; clear hb1 hown1 hgrow hat))
  all_goals
    go_wp2
    go_end0
    have hgb : base ≤ gg := (HO1.out.lt (g := gg) rfl).1
    refine ⟨rfl, .slice (some ⟨gg, 0, none⟩) (n + 1) cap, ?_, ?_, ?_, ?_⟩
    · have := HB1.out.set_ 0 (.slice (some ⟨gg, 0, none⟩) (n + 1) cap)
      simpa using this
    · refine HO1.out.ext fun g hg => Below.heap_setCell _ _ _ _ ?_
      simp [Value.ownBlock] at hg
      subst hg
      exact fun e => by simp at e; omega
    · have t1 := Turns.mono (G := fun b => b = q ∨ (Value.slice An n cn).ownBlock = some b) (Turns.ofGrown HG1.out) (fun _ h => .inr h)
      have E : Ext w ((w.alloc (.cells #[.slice A l c, .slice A' l' c'] 48)).alloc (.cells #[.slice A l c, .slice A' l' c'] 48)) := (Ext.alloc' w _).trans' (Ext.alloc' _ _)
      have t0 : Turns (fun b => b = q ∨ (Value.slice An n cn).ownBlock = some b) w ((w.alloc (.cells #[.slice A l c, .slice A' l' c'] 48)).alloc (.cells #[.slice A l c, .slice A' l' c'] 48)).drew := ⟨E.os, E.tape, E.output, E.size, fun b hb _ => E.block b hb⟩
      exact Turns.trans (Turns.trans t0 t1 (fun _ h _ => h)) (Turns.ofSet w1 ⟨q, 0, none⟩ (.slice (some ⟨gg, 0, none⟩) (n + 1) cap)) (fun _ h _ => .inl h)
    · rcases HA1.out with h | h
      · exact .inl (by rw [h]; rfl)
      · exact .inr ⟨gg, rfl, by rw [h]; exact ((Ext.alloc' w _).trans' (Ext.alloc' _ _)).size⟩
end Go.Proofs.Ytocndkhgopjhhaa
