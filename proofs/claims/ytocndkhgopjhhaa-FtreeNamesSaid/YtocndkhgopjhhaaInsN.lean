/- slices.Insert at nodes: one of them, onto a row of the call's own. -/
import Derived.Test.YtocndkhgopjhhaaProg
import Derived.Test.YtocndkhgopjhhaaRowS
import Derived.Test.YtocndkhgopjhhaaOwn
import Derived.Deep.RegionLaw
import Derived.Outline
namespace Go.Proofs.Ytocndkhgopjhhaa
open Go.RowKit

/-- What an insertion onto a row comes to: n elements more one, the cells res. -/
def InsPost (base : Nat) (t : TypeId) (size n : Nat) (v : Value) (res : List Value) (w : World) (e : Ending) (w' : World) : Prop :=
  ∃ A c, e = .returned (.slice A (n + 1) c) ∧ w'.ownsRow base t size (.slice A (n + 1) c) (n + 1) res ∧ w.grownBy w' v.ownBlock ∧ At w v (.slice A (n + 1) c)

theorem blk_src {w : World} {b : Nat} {t : TypeId} {ys : List Value} (h : Blk w b t ys.toArray) : 0 < 1 → ∃ ad : Addr, some (⟨b, 0, none⟩ : Addr) = some ad ∧ ∀ j u, ys[j]? = some u → w.cell? (ad.add j) = some u := fun _ => by
  refine ⟨_, rfl, fun j u hj => ?_⟩
  have := h.cell j
  have e : (⟨b, 0, none⟩ : Addr).add j = ⟨b, j, none⟩ := by unfold Addr.add; split <;> simp_all
  rw [e, this]
  simpa using hj

set_option maxRecDepth 100000 in
set_option maxHeartbeats 2000000 in
theorem insertN_end {w : World} {base : Nat} {v : Value} {n : Nat} {xs ys : List Value} {bx : Nat} (hown : w.ownsRow base 25 4 v n xs) (hb : base ≤ w.heap.size) (hn : n ≤ 2199023255552)
    (hx : Blk w bx 25 ys.toArray) (hy : ys.length = 4) (h2 : ∀ u ∈ ys, u.oneCell' = true) :
    Calls Try.prog 141 #[v, .int .i64 n, .slice (some ⟨bx, 0, none⟩) 1 1] w (InsPost base 25 4 n v (xs ++ ys) w) := by
  obtain ⟨i0, hi0, hz0, hz1, hz2⟩ := info_parts node_info
  have HI := Lib.hid hi0
  have HZ0 := Lib.hid hz0
  have HZ1 := Lib.hid hz1
  have HZ2 := Lib.hid hz2
  have HO := Lib.hid hown
  have HX := Lib.hid (blk_src hx)
  have HY := Lib.hid hy
  have H2 := Lib.hid h2
  obtain ⟨A, c, rfl⟩ := ownsRow_form hown
  have hc : n ≤ c ∧ c ≤ 9223372036854775807 := by
    rcases hown.2 with ⟨e, h0⟩ | ⟨g, cap, cur, e, _, _, h5, h6, _⟩
    · injection e with _ _ e3; omega
    · injection e with _ _ e3; subst e3; unfold maxLen at h6; omega
  obtain ⟨hc1, hc2⟩ := hc
  clear hi0 hz0 hz1 hz2 hown hx hy h2
  have hn0 : (0 : Int) ≤ (n : Int) := by omega
  cases A with
  | none =>
    go_enter Try.func141, Try.ntmps141
    go_wp2_with (at_builtin; refine wpList_app _ rfl (.tmp 23) (.tmp 24) _ rfl base 25 i0 _ 4 72 Try.underlying23 HI.out HZ0.out HZ1.out HZ2.out rfl (by omega) (.slice none n c) n xs rfl HO.out (some ⟨bx, 0, none⟩) 1 1 ys rfl (by rw [HY.out]) HX.out H2.out (by simp only [maxLen]; omega) (by omega) hb ?_; intro v8 w8 ho8 hg8 hat8)
    obtain ⟨A8, c8, rfl⟩ := ownsRow_form ho8
    go_ret
    exact ⟨A8, c8, rfl, ho8, hg8, hat8⟩
  | some a =>
    go_enter Try.func141, Try.ntmps141
    go_wp2_with (at_builtin; refine wpList_app _ rfl (.tmp 23) (.tmp 24) _ rfl base 25 i0 _ 4 72 Try.underlying23 HI.out HZ0.out HZ1.out HZ2.out rfl (by omega) (.slice (some a) n c) n xs rfl HO.out (some ⟨bx, 0, none⟩) 1 1 ys rfl (by rw [HY.out]) HX.out H2.out (by simp only [maxLen]; omega) (by omega) hb ?_; intro v8 w8 ho8 hg8 hat8)
    all_goals
      obtain ⟨A8, c8, rfl⟩ := ownsRow_form ho8
      go_ret
      exact ⟨A8, c8, rfl, ho8, hg8, hat8⟩

/-- The row of a slice of the call's own, taken apart. -/
theorem own_parts {w : World} {base : Nat} {e : TypeId} {size n : Nat} {v : Value} {xs : List Value} (h : w.ownsRow base e size v n xs) (hn : 0 < n) : ∃ (g cap : Nat) (cur : Array Value), v = .slice (some ⟨g, 0, none⟩) n cap ∧ base ≤ g ∧ g < w.heap.size ∧ w.heap[g]? = some (.cells cur e (0, 0)) ∧ n ≤ cap ∧ cap ≤ 9223372036854775807 ∧ cur.size = cap * size ∧ cur.toList.take (n * size) = xs ∧ xs.length = n * size := by
  have hl := h.1
  rcases h.2 with ⟨_, h0⟩ | ⟨g, cap, cur, rfl, h3, h4, h5, h6, h7, h8⟩
  · omega
  · exact ⟨g, cap, cur, rfl, h3, (ownsRow_lt h (g := g) rfl).2, h4, h5, by unfold maxLen at h6; omega, h7, h8, hl⟩
theorem sizeN_any (w : World) : (Go.sizeOf 25).run Try.prog w = .ok 4 w := by kernel_rfl
theorem ovl_find : Extern.find Try.f157 = some (Extern.SlicesOverlaps.overlaps #[23, 23] #[4]) := by kernel_rfl

set_option maxRecDepth 100000 in
set_option maxHeartbeats 2000000 in
theorem insertN_room {w : World} {base g cap : Nat} {n i : Nat} {cur : Array Value} {xs ys : List Value} {bx : Nat} (hg : w.heap[g]? = some (.cells cur 25 (0, 0))) (hbg : base ≤ g) (hroom : n + 1 ≤ cap) (hcap : cap ≤ 9223372036854775807) (hcs : cur.size = cap * 4) (hcx : cur.toList.take (n * 4) = xs) (hxl : xs.length = n * 4) (hi : i < n)
    (hx : Blk w bx 25 ys.toArray) (hy : ys.length = 4) (hne : bx ≠ g) (h1 : ∀ u ∈ xs, u.oneCell' = true) (h2 : ∀ u ∈ ys, u.oneCell' = true) :
    Calls Try.prog 141 #[.slice (some ⟨g, 0, none⟩) n cap, .int .i64 i, .slice (some ⟨bx, 0, none⟩) 1 1] w (InsPost base 25 4 n (.slice (some ⟨g, 0, none⟩) n cap) (xs.take (i * 4) ++ ys ++ xs.drop (i * 4)) w) := by
  have hsz : (Try.prog.info? 25).map (·.size) = some 4 := by kernel_rfl
  have hov : ∀ lb cb, (callFunc 157 #[.slice (some ⟨bx, 0, none⟩) 1 1, .slice (some ⟨g, (i + 1) * 4, none⟩) lb cb]).run Try.prog w = .ok (.value (.bool false)) w := fun lb cb => by
    rw [run_callFunc_extern Try.func157 (by kernel_rfl) (by kernel_rfl) (by kernel_rfl) ovl_find,
      Lib.run_overlaps_apart w 23 4 25 Try.underlying23 4 sizeN_any ⟨bx, 0, none⟩ ⟨g, (i + 1) * 4, none⟩ 1 1 lb cb hne 25 25 4 (cap * 4) (by unfold Blk at hx; simp [World.shape?, hx, hy]) (by simp [World.shape?, hg, hcs]) (by omega) (hx.frozen 0) (hx.frozen 4)]
    rfl
  have hwd : w.drew.heap[g]? = some (.cells cur 25 (0, 0)) := hg
  have hct : cur.toList.length = cap * 4 := by rw [Array.length_toList, hcs]
  have hdl : (xs.drop (i * 4)).length = (n - i) * 4 := by rw [List.length_drop, hxl, Nat.sub_mul]
  obtain ⟨a1, ha1⟩ : ∃ a1, a1 = (cur.toList.take ((i + 1) * 4) ++ xs.drop (i * 4) ++ cur.toList.drop ((i + 1) * 4 + (xs.drop (i * 4)).length)).toArray := ⟨_, rfl⟩
  have hcell : ∀ j v, (xs.drop (i * 4))[j]? = some v → w.cell? ⟨g, i * 4 + j, none⟩ = some v := fun j v hj => by
    rw [List.getElem?_drop, ← hcx, List.getElem?_take] at hj
    split at hj
    · simp only [World.cell?, hg]; simpa using hj
    · cases hj
  have hm1 : Nat.min (n + 1 - i) (n - i) = n - i := by simp only [Nat.min_def]; split <;> omega
  have hm2 : Nat.min 1 (n + 1 - i) = 1 := by simp only [Nat.min_def]; split <;> omega
  have hcp1 : ∀ ty dc sc, (Builtin.copy_ #[23, 23] ty #[.slice (some ⟨g, (i + 1) * 4, none⟩) (n - i) dc, .slice (some ⟨g, i * 4, none⟩) (n + 1 - i) sc]).run Try.prog w.drew = .ok (goInt (Nat.min (n + 1 - i) (n - i))) (w.drew.setRow g a1) := fun ty dc sc => by
    rw [ha1]
    exact run_copy_rows w.drew _ _ ty 25 4 g ((i + 1) * 4) (n - i) dc ⟨g, i * 4, none⟩ (n + 1 - i) sc cur 25 (xs.drop (i * 4)) Try.underlying23 hsz hwd
      (by rw [hdl, hm1]) (fun j v hj => by
        have h := hcell j v hj
        have e : (⟨g, i * 4, none⟩ : Addr).add j = ⟨g, i * 4 + j, none⟩ := by unfold Addr.add; split <;> simp_all
        rw [e]; exact h) (by rw [hdl, hcs]; omega) (fun v hv => h1 v (List.mem_of_mem_drop hv))
  have ha1z : a1.size = cap * 4 := by
    rw [ha1]; simp only [List.size_toArray, List.length_append, List.length_take, List.length_drop, hct, hxl]; omega
  obtain ⟨a2, ha2⟩ : ∃ a2, a2 = (a1.toList.take (i * 4) ++ ys ++ a1.toList.drop (i * 4 + ys.length)).toArray := ⟨_, rfl⟩
  have hcp2 : ∀ (W : World), W.heap = (w.drew.setRow g a1).heap → ∀ ty dc, (Builtin.copy_ #[23, 23] ty #[.slice (some ⟨g, i * 4, none⟩) (n + 1 - i) dc, .slice (some ⟨bx, 0, none⟩) 1 1]).run Try.prog W = .ok (goInt (Nat.min 1 (n + 1 - i))) (W.setRow g a2) := fun W hW ty dc => by
    rw [ha2]
    exact run_copy_rows W _ _ ty 25 4 g (i * 4) (n + 1 - i) dc ⟨bx, 0, none⟩ 1 1 a1 25 ys Try.underlying23 hsz (by rw [hW]; exact setRow_heap _ _ _ _ _ _ hwd)
      (by rw [hy, hm2]) (fun j v hj => by
        have e : (⟨bx, 0, none⟩ : Addr).add j = ⟨bx, j, none⟩ := by unfold Addr.add; split <;> simp_all
        have h3 : W.heap[bx]? = some (.cells ys.toArray 25 (0, 0)) := by rw [hW, setRow_other _ _ _ _ hne]; exact hx
        rw [e, cell_of_row W bx j _ _ _ h3]; simpa using hj) (by rw [hy, ha1z]; omega) h2
  have HO2 : Hid (∀ (W : World), W.heap = ((w.drew.setRow g a1).setRow g a2).heap → W.os = w.os → W.tape = w.tape → W.output = w.output →
      W.ownsRow base 25 4 (.slice (some ⟨g, 0, none⟩) (n + 1) cap) (n + 1) (xs.take (i * 4) ++ ys ++ xs.drop (i * 4)) ∧ w.grownBy W (some g)) := by
    refine Lib.hid fun W hW ho ht hp => ⟨⟨?_, .inr ⟨g, cap, a2, rfl, hbg, ?_, hroom, by unfold maxLen; omega, ?_, ?_⟩⟩, ⟨ho, ht, hp, ?_, fun k hk hne2 => ?_⟩⟩
    · simp only [List.length_append, List.length_take, List.length_drop, hxl, hy]; omega
    · rw [hW]; exact setRow_heap _ _ _ _ _ _ (setRow_heap _ _ _ _ _ _ hwd)
    · rw [ha2]; simp only [List.size_toArray, List.length_append, List.length_take, List.length_drop, Array.length_toList, ha1z, hy]; omega
    · have := ins_list (cur := cur.toList) (xs := xs) (zs := ys) (o := i * 4) (k := 4) (n := n * 4) hy.symm hcx hxl (by omega) (by rw [hct]; omega)
      rw [ha2, ha1]
      simp only [hy]
      have e1 : (i + 1) * 4 = i * 4 + 4 := by omega
      have e2 : (n + 1) * 4 = n * 4 + 4 := by omega
      rw [e1, e2]
      exact this
    · rw [hW]; simp
    · have : k ≠ g := fun e => hne2 (by rw [e])
      rw [hW, setRow_other _ _ _ _ this, setRow_other _ _ _ _ this]; rfl
  have HC1 := Lib.hid hcp1
  have HC2 := Lib.hid hcp2
  have hov' := hov
  have g1 : (0 : Int) ≤ (i : Int) := by omega
  have hw1 : IntKind.i64.wrap ((i : Int) + 1) = (i : Int) + 1 := by rw [IntKind.wrap_i64]; omega
  have g2 : (0 : Int) ≤ (i : Int) + 1 := by omega
  have g3 : ((i : Int) + 1).toNat = i + 1 := by omega
  have g4 : ¬ (cap = i + 1) := by omega
  have g5 : ¬ (cap = i) := by omega
  have g6 : (i : Int) ≤ (n : Int) + 1 := by omega
  have g7 : (i : Int) + 1 ≤ (n : Int) + 1 := by omega
  clear hm1 hm2 hct hdl hcell hcp1 hcp2 ha1 ha2 ha1z hwd hx hg hcx hxl hcs hy
  go_enter Try.func141, Try.ntmps141
  go_wp2_with (simp only [hov'])
  go_region_law (refine step_copy_runI rfl _ _ 23 23 rfl (.slice (some ⟨g, (i + 1) * 4, none⟩) (n - i) (cap - (i + 1))) (.slice (some ⟨g, i * 4, none⟩) (n + 1 - i) (cap - i)) (by simp [Act.eval, Act.put]) (by simp [Act.eval, Act.put]) (HC1.out 3 (cap - (i + 1)) (cap - i)) ?_)
  go_wp2_with (refine wpList_copy_runI _ rfl (.tmp 80) (.tmp 81) 23 23 rfl (.slice (some ⟨g, i * 4, none⟩) (n + 1 - i) (cap - i)) (.slice (some ⟨bx, 0, none⟩) 1 1) rfl rfl (HC2.out _ rfl 3 (cap - i)) ?_)
  go_ret
  obtain ⟨q1, q2⟩ := HO2.out _ rfl rfl rfl rfl
  exact ⟨_, _, rfl, q1, q2, .inl rfl⟩

set_option maxRecDepth 100000 in
set_option maxHeartbeats 2000000 in
theorem insertN_grow {w : World} {base g cap : Nat} {n i : Nat} {cur : Array Value} {xs ys : List Value} {bx : Nat} (hg : w.heap[g]? = some (.cells cur 25 (0, 0))) (hbw : base ≤ w.heap.size) (hgl : g < w.heap.size) (hnc : n ≤ cap) (hroom : cap < n + 1) (hn : n ≤ 2199023255552) (hcx : cur.toList.take (n * 4) = xs) (hxl : xs.length = n * 4) (hi : i < n)
    (hx : Blk w bx 25 ys.toArray) (hy : ys.length = 4) (h1 : ∀ u ∈ xs, u.oneCell' = true) (h2 : ∀ u ∈ ys, u.oneCell' = true) :
    Calls Try.prog 141 #[.slice (some ⟨g, 0, none⟩) n cap, .int .i64 i, .slice (some ⟨bx, 0, none⟩) 1 1] w (InsPost base 25 4 n (.slice (some ⟨g, 0, none⟩) n cap) (xs.take (i * 4) ++ ys ++ xs.drop (i * 4)) w) := by
  obtain ⟨i0, hi0, hz0, hz1, hz2⟩ := info_parts node_info
  have hsz : (Try.prog.info? 25).map (·.size) = some 4 := by kernel_rfl
  have hbl := hx.lt
  have hcell : ∀ j v, xs[j]? = some v → w.cell? ⟨g, j, none⟩ = some v := fun j v hj => by
    rw [← hcx, List.getElem?_take] at hj
    split at hj
    · simp only [World.cell?, hg]; simpa using hj
    · cases hj
  have hold : (Builtin.firstCells i0.size i (.slice (some ⟨g, 0, none⟩) i cap)).run Try.prog w.drew = .ok (xs.take (i * 4)).toArray w.drew := by
    rw [hz1]
    exact run_firstCells_some w.drew 4 i ⟨g, 0, none⟩ i cap (xs.take (i * 4)) (by rw [List.length_take, hxl]; omega) (fun j v hj => by
      have e : (⟨g, 0, none⟩ : Addr).add j = ⟨g, j, none⟩ := by unfold Addr.add; split <;> simp_all
      rw [e]
      rw [List.getElem?_take] at hj
      split at hj
      · exact hcell j v hj
      · cases hj)
  obtain ⟨G, hG⟩ : ∃ G, G = grownCap w (n + 1) cap 25 := ⟨_, rfl⟩
  obtain ⟨ROW, hROW⟩ : ∃ ROW : Array Value, ROW = (xs.take (i * 4)).toArray ++ Builtin.zeroCells (Value.agg #[.int .u8 0, .string { data := #[] }, .slice none 0 0, .slice none 0 0]).cells (n + 1 - i) ++ Builtin.zeroCells (Value.agg #[.int .u8 0, .string { data := #[] }, .slice none 0 0, .slice none 0 0]).cells (G - (n + 1)) := ⟨_, rfl⟩
  have hGn : n + 1 ≤ G := by rw [hG]; exact grownCap_ge w _ _ _
  have hG63 : G ≤ 9223372036854775807 := by
    have := grownCap_le_maxLen w (n + 1) cap 25 (by unfold maxLen; omega)
    rw [← hG] at this
    unfold maxLen at this
    omega
  have hrz : ∀ ty, (Builtin.append_ #[23, 3] ty #[.slice (some ⟨g, 0, none⟩) i cap, .int .i64 ((n : Int) + 1 - (i : Int))]).run Try.prog w = .ok (.slice (some ⟨w.heap.size, 0, none⟩) (n + 1) G) (w.drew.alloc (.cells ROW 25)) := fun ty => by
    have hik : i + (n + 1 - i) = n + 1 := by omega
    have hkk : (n : Int) + 1 - (i : Int) = ((n + 1 - i : Nat) : Int) := by omega
    have h := Lib.run_append_grow_zeros w 23 3 ty 25 i0 _ .i64 .i64 Try.underlying23 Try.underlying3 hi0 hz0 (some ⟨g, 0, none⟩) i cap (xs.take (i * 4)) hold (n + 1 - i) (by omega) (by omega) (by omega) (by omega) (by rw [hz2]; omega) (by rw [hz2, hik]; exact growslice_fits_wide hroom (by omega))
    rw [hik] at h
    rw [hkk, h, ← hG, ← hROW]
  have hRz : ROW.size = G * 4 := by
    have e : ∀ m, (Builtin.zeroCells (Value.agg #[.int .u8 0, .string { data := #[] }, .slice none 0 0, .slice none 0 0]).cells m).size = m * 4 := fun m => by rw [zeroCells_size]; rfl
    rw [hROW, Array.size_append, Array.size_append, e, e, List.size_toArray, List.length_take, hxl]; omega
  have hRt : ROW.toList.take (i * 4) = xs.take (i * 4) := by
    rw [hROW]
    simp only [Array.toList_append, List.append_assoc]
    rw [List.take_append_of_le_length (by rw [List.length_take, hxl]; omega), List.take_of_length_le (by rw [List.length_take, hxl]; omega)]
  obtain ⟨a1, ha1⟩ : ∃ a1, a1 = (ROW.toList.take (i * 4) ++ ys ++ ROW.toList.drop (i * 4 + ys.length)).toArray := ⟨_, rfl⟩
  have hm2 : Nat.min 1 (n + 1 - i) = 1 := by simp only [Nat.min_def]; split <;> omega
  have hm1 : Nat.min (n - i) (n - i) = n - i := by simp only [Nat.min_def]; split <;> omega
  have hbn : bx ≠ w.heap.size := by omega
  have hgn : g ≠ w.heap.size := by omega
  have hdl : (xs.drop (i * 4)).length = (n - i) * 4 := by rw [List.length_drop, hxl, Nat.sub_mul]
  have hcp1 : ∀ (W : World), W.heap = (w.drew.alloc (.cells ROW 25)).heap → ∀ ty dc, (Builtin.copy_ #[23, 23] ty #[.slice (some ⟨w.heap.size, i * 4, none⟩) (n + 1 - i) dc, .slice (some ⟨bx, 0, none⟩) 1 1]).run Try.prog W = .ok (goInt (Nat.min 1 (n + 1 - i))) (W.setRow w.heap.size a1) := fun W hW ty dc => by
    rw [ha1]
    exact run_copy_rows W _ _ ty 25 4 w.heap.size (i * 4) (n + 1 - i) dc ⟨bx, 0, none⟩ 1 1 ROW 25 ys Try.underlying23 hsz (by rw [hW]; exact heap_alloc_new w.drew _)
      (by rw [hy, hm2]) (fun j v hj => by
        have e : (⟨bx, 0, none⟩ : Addr).add j = ⟨bx, j, none⟩ := by unfold Addr.add; split <;> simp_all
        have h3 : W.heap[bx]? = some (.cells ys.toArray 25 (0, 0)) := by rw [hW]; exact (Below.heap_alloc w.drew _ bx hbl).trans hx
        rw [e, cell_of_row W bx j _ _ _ h3]; simpa using hj) (by rw [hy, hRz]; omega) h2
  have ha1z : a1.size = G * 4 := by
    rw [ha1]; simp only [List.size_toArray, List.length_append, List.length_take, List.length_drop, Array.length_toList, hRz, hy]; omega
  obtain ⟨a2, ha2⟩ : ∃ a2, a2 = (a1.toList.take ((i + 1) * 4) ++ xs.drop (i * 4) ++ a1.toList.drop ((i + 1) * 4 + (xs.drop (i * 4)).length)).toArray := ⟨_, rfl⟩
  have hcp2 : ∀ (W : World), W.heap = ((w.drew.alloc (.cells ROW 25)).setRow w.heap.size a1).heap → ∀ ty dc sc, (Builtin.copy_ #[23, 23] ty #[.slice (some ⟨w.heap.size, (i + 1) * 4, none⟩) (n - i) dc, .slice (some ⟨g, i * 4, none⟩) (n - i) sc]).run Try.prog W = .ok (goInt (Nat.min (n - i) (n - i))) (W.setRow w.heap.size a2) := fun W hW ty dc sc => by
    rw [ha2]
    exact run_copy_rows W _ _ ty 25 4 w.heap.size ((i + 1) * 4) (n - i) dc ⟨g, i * 4, none⟩ (n - i) sc a1 25 (xs.drop (i * 4)) Try.underlying23 hsz (by rw [hW]; exact setRow_heap _ _ _ _ _ _ (heap_alloc_new w.drew _))
      (by rw [hdl, hm1]) (fun j v hj => by
        have e : (⟨g, i * 4, none⟩ : Addr).add j = ⟨g, i * 4 + j, none⟩ := by unfold Addr.add; split <;> simp_all
        rw [List.getElem?_drop] at hj
        have h3 : W.heap[g]? = w.heap[g]? := by rw [hW, setRow_other _ _ _ _ hgn]; exact Below.heap_alloc w.drew _ g hgl
        rw [e, World.cell?_of_block (a := ⟨g, i * 4 + j, none⟩) h3]
        exact hcell _ v hj) (by rw [hdl, ha1z]; omega) (fun v hv => h1 v (List.mem_of_mem_drop hv))
  have HO2 : Hid (∀ (W : World), W.heap = (((w.drew.alloc (.cells ROW 25)).setRow w.heap.size a1).setRow w.heap.size a2).heap → W.os = w.os → W.tape = w.tape → W.output = w.output →
      W.ownsRow base 25 4 (.slice (some ⟨w.heap.size, 0, none⟩) (n + 1) G) (n + 1) (xs.take (i * 4) ++ ys ++ xs.drop (i * 4)) ∧ w.grownBy W (some g)) := by
    refine Lib.hid fun W hW ho ht hp => ⟨⟨?_, .inr ⟨w.heap.size, G, a2, rfl, hbw, ?_, hGn, by unfold maxLen; omega, ?_, ?_⟩⟩, ⟨ho, ht, hp, ?_, fun k hk hne2 => ?_⟩⟩
    · simp only [List.length_append, List.length_take, List.length_drop, hxl, hy]; omega
    · rw [hW]; exact setRow_heap _ _ _ _ _ _ (setRow_heap _ _ _ _ _ _ (heap_alloc_new w.drew _))
    · rw [ha2]; simp only [List.size_toArray, List.length_append, List.length_take, List.length_drop, Array.length_toList, ha1z, hxl]; omega
    · have := ins_list2 (row := ROW.toList) (xs := xs) (zs := ys) (o := i * 4) (k := 4) (n := n * 4) hy.symm hRt hxl (by omega) (by rw [Array.length_toList, hRz]; omega)
      rw [ha2, ha1]
      simp only [hy]
      have e1 : (i + 1) * 4 = i * 4 + 4 := by omega
      have e2 : (n + 1) * 4 = n * 4 + 4 := by omega
      rw [e1, e2]
      exact this
    · rw [hW]; simp
    · have : k ≠ w.heap.size := by omega
      rw [hW, setRow_other _ _ _ _ this, setRow_other _ _ _ _ this]; exact Below.heap_alloc w.drew _ k hk
  have HRZ := Lib.hid hrz
  have HC1 := Lib.hid hcp1
  have HC2 := Lib.hid hcp2
  have hw1 : IntKind.i64.wrap ((i : Int) + 1) = (i : Int) + 1 := by rw [IntKind.wrap_i64]; omega
  have g1 : (0 : Int) ≤ (i : Int) := by omega
  have g2 : (0 : Int) ≤ (i : Int) + 1 := by omega
  have g3 : ((i : Int) + 1).toNat = i + 1 := by omega
  have g4 : ¬ (G = i + 1) := by omega
  have g5 : ¬ (G = i) := by omega
  have g6 : (i : Int) ≤ (n : Int) := by omega
  have g7 : (i : Int) + 1 ≤ (n : Int) + 1 := by omega
  have g8 : ¬ (cap = i) := by omega
  have g9 : (cap : Int) < (n : Int) + 1 := by omega
  clear hm1 hm2 hdl hcell hold hcp1 hcp2 ha1 ha2 ha1z hx hg hcx hxl hy hrz hG hROW hRz hRt hi0 hz0 hz1 hz2
  go_enter Try.func141, Try.ntmps141
  go_wp2_with (first
    | (at_builtin; refine Lib.wpList_append_run _ rfl (.tmp 34) (.tmp 39) _ _ rfl _ _ rfl rfl _ _ (HRZ.out _) ?_)
    | (refine wpList_copy_runI _ rfl (.tmp 43) (.tmp 44) 23 23 rfl (.slice (some ⟨w.heap.size, i * 4, none⟩) (n + 1 - i) (G - i)) (.slice (some ⟨bx, 0, none⟩) 1 1) rfl rfl (HC1.out _ rfl 3 (G - i)) ?_))
  go_region_law (refine step_copy_runI rfl (.tmp 50) (.tmp 53) 23 23 rfl (.slice (some ⟨w.heap.size, (i + 1) * 4, none⟩) (n - i) (G - (i + 1))) (.slice (some ⟨g, i * 4, none⟩) (n - i) (cap - i)) (by simp [Act.eval, Act.put]) (by simp [Act.eval, Act.put]) (HC2.out _ (by exact rfl) 3 (G - (i + 1)) (cap - i)) ?_)
  go_wp2_with fail
  go_ret
  obtain ⟨q1, q2⟩ := HO2.out (((w.alloc (.cells ROW 25)).drew.setRow w.heap.size a1).drew.setRow w.heap.size a2) rfl rfl rfl rfl
  exact ⟨_, _, rfl, q1, q2, .inr fun k hk => by simp [Value.ownBlock] at hk; omega⟩

/-- slices.Insert at nodes, on every road. -/
theorem insertN_any {w : World} {base : Nat} {v : Value} {n i : Nat} {xs ys : List Value} {bx : Nat} (hown : w.ownsRow base 25 4 v n xs) (hb : base ≤ w.heap.size) (hi : i ≤ n) (hn : n ≤ 2199023255552)
    (hx : Blk w bx 25 ys.toArray) (hy : ys.length = 4) (hne : v.ownBlock ≠ some bx) (h1 : ∀ u ∈ xs, u.oneCell' = true) (h2 : ∀ u ∈ ys, u.oneCell' = true) :
    Calls Try.prog 141 #[v, .int .i64 i, .slice (some ⟨bx, 0, none⟩) 1 1] w (InsPost base 25 4 n v (xs.take (i * 4) ++ ys ++ xs.drop (i * 4)) w) := by
  by_cases hin : i = n
  · subst hin
    have hl := hown.1
    rw [List.take_of_length_le (by omega), List.drop_eq_nil_of_le (by omega), List.append_nil]
    exact insertN_end hown hb hn hx hy h2
  · obtain ⟨g, cap, cur, rfl, hbg, hgl, hg, hnc, hc63, hcs, hcx, hxl⟩ := own_parts hown (by omega)
    have hne' : bx ≠ g := fun e => hne (by rw [e]; rfl)
    by_cases hr : n + 1 ≤ cap
    · exact insertN_room hg hbg hr hc63 hcs hcx hxl (by omega) hx hy hne' h1 h2
    · exact insertN_grow hg hb hgl hnc (by omega) hn hcx hxl (by omega) hx hy h1 h2
end Go.Proofs.Ytocndkhgopjhhaa
/- slices.Insert at texts: one of them, onto a row of the call's own. -/
namespace Go.Proofs.Ytocndkhgopjhhaa
open Go.RowKit

set_option maxRecDepth 100000 in
set_option maxHeartbeats 2000000 in
theorem insertS_end {w : World} {base : Nat} {v : Value} {n : Nat} {xs ys : List Value} {bx : Nat} (hown : w.ownsRow base 9 1 v n xs) (hb : base ≤ w.heap.size) (hn : n ≤ 8796093022208)
    (hx : Blk w bx 9 ys.toArray) (hy : ys.length = 1) (h2 : ∀ u ∈ ys, u.oneCell' = true) :
    Calls Try.prog 140 #[v, .int .i64 n, .slice (some ⟨bx, 0, none⟩) 1 1] w (InsPost base 9 1 n v (xs ++ ys) w) := by
  obtain ⟨i0, hi0, hz0, hz1, hz2⟩ := info_parts string_info
  have HI := Lib.hid hi0
  have HZ0 := Lib.hid hz0
  have HZ1 := Lib.hid hz1
  have HZ2 := Lib.hid hz2
  have HO := Lib.hid hown
  have HX := Lib.hid (blk_src hx)
  have HY := Lib.hid hy
  have H2 := Lib.hid h2
  obtain ⟨A, c, rfl⟩ := ownsRow_form hown
  have hc : n ≤ c ∧ c ≤ 9223372036854775807 := by
    rcases hown.2 with ⟨e, h0⟩ | ⟨g, cap, cur, e, _, _, h5, h6, _⟩
    · injection e with _ _ e3; omega
    · injection e with _ _ e3; subst e3; unfold maxLen at h6; omega
  obtain ⟨hc1, hc2⟩ := hc
  clear hi0 hz0 hz1 hz2 hown hx hy h2
  have hn0 : (0 : Int) ≤ (n : Int) := by omega
  cases A with
  | none =>
    go_enter Try.func140, Try.ntmps140
    go_wp2_with (at_builtin; refine wpList_app _ rfl (.tmp 23) (.tmp 24) _ rfl base 9 i0 _ 1 16 Try.underlying22 HI.out HZ0.out HZ1.out HZ2.out rfl (by omega) (.slice none n c) n xs rfl HO.out (some ⟨bx, 0, none⟩) 1 1 ys rfl (by rw [HY.out]) HX.out H2.out (by simp only [maxLen]; omega) (by omega) hb ?_; intro v8 w8 ho8 hg8 hat8)
    obtain ⟨A8, c8, rfl⟩ := ownsRow_form ho8
    go_ret
    exact ⟨A8, c8, rfl, ho8, hg8, hat8⟩
  | some a =>
    go_enter Try.func140, Try.ntmps140
    go_wp2_with (at_builtin; refine wpList_app _ rfl (.tmp 23) (.tmp 24) _ rfl base 9 i0 _ 1 16 Try.underlying22 HI.out HZ0.out HZ1.out HZ2.out rfl (by omega) (.slice (some a) n c) n xs rfl HO.out (some ⟨bx, 0, none⟩) 1 1 ys rfl (by rw [HY.out]) HX.out H2.out (by simp only [maxLen]; omega) (by omega) hb ?_; intro v8 w8 ho8 hg8 hat8)
    all_goals
      obtain ⟨A8, c8, rfl⟩ := ownsRow_form ho8
      go_ret
      exact ⟨A8, c8, rfl, ho8, hg8, hat8⟩

theorem sizeS_any (w : World) : (Go.sizeOf 9).run Try.prog w = .ok 1 w := by kernel_rfl
theorem ovs_find : Extern.find Try.f155 = some (Extern.SlicesOverlaps.overlaps #[22, 22] #[4]) := by kernel_rfl

set_option maxRecDepth 100000 in
set_option maxHeartbeats 2000000 in
theorem insertS_room {w : World} {base g cap : Nat} {n i : Nat} {cur : Array Value} {xs ys : List Value} {bx : Nat} (hg : w.heap[g]? = some (.cells cur 9 (0, 0))) (hbg : base ≤ g) (hroom : n + 1 ≤ cap) (hcap : cap ≤ 9223372036854775807) (hcs : cur.size = cap) (hcx : cur.toList.take (n) = xs) (hxl : xs.length = n) (hi : i < n)
    (hx : Blk w bx 9 ys.toArray) (hy : ys.length = 1) (hne : bx ≠ g) (h1 : ∀ u ∈ xs, u.oneCell' = true) (h2 : ∀ u ∈ ys, u.oneCell' = true) :
    Calls Try.prog 140 #[.slice (some ⟨g, 0, none⟩) n cap, .int .i64 i, .slice (some ⟨bx, 0, none⟩) 1 1] w (InsPost base 9 1 n (.slice (some ⟨g, 0, none⟩) n cap) (xs.take (i) ++ ys ++ xs.drop (i)) w) := by
  have hsz : (Try.prog.info? 9).map (·.size) = some 1 := by kernel_rfl
  have hov : ∀ lb cb, (callFunc 155 #[.slice (some ⟨bx, 0, none⟩) 1 1, .slice (some ⟨g, (i + 1), none⟩) lb cb]).run Try.prog w = .ok (.value (.bool false)) w := fun lb cb => by
    rw [run_callFunc_extern Try.func155 (by kernel_rfl) (by kernel_rfl) (by kernel_rfl) ovs_find,
      Lib.run_overlaps_apart w 22 4 9 Try.underlying22 1 sizeS_any ⟨bx, 0, none⟩ ⟨g, (i + 1), none⟩ 1 1 lb cb hne 9 9 1 (cap) (by unfold Blk at hx; simp [World.shape?, hx, hy]) (by simp [World.shape?, hg, hcs]) (by omega) (hx.frozen 0) (hx.frozen 1)]
    rfl
  have hwd : w.drew.heap[g]? = some (.cells cur 9 (0, 0)) := hg
  have hct : cur.toList.length = cap := by rw [Array.length_toList, hcs]
  have hdl : (xs.drop (i)).length = (n - i) := by rw [List.length_drop, hxl]
  obtain ⟨a1, ha1⟩ : ∃ a1, a1 = (cur.toList.take ((i + 1)) ++ xs.drop (i) ++ cur.toList.drop ((i + 1) + (xs.drop (i)).length)).toArray := ⟨_, rfl⟩
  have hcell : ∀ j v, (xs.drop (i))[j]? = some v → w.cell? ⟨g, i + j, none⟩ = some v := fun j v hj => by
    rw [List.getElem?_drop, ← hcx, List.getElem?_take] at hj
    split at hj
    · simp only [World.cell?, hg]; simpa using hj
    · cases hj
  have hm1 : Nat.min (n + 1 - i) (n - i) = n - i := by simp only [Nat.min_def]; split <;> omega
  have hm2 : Nat.min 1 (n + 1 - i) = 1 := by simp only [Nat.min_def]; split <;> omega
  have hcp1 : ∀ ty dc sc, (Builtin.copy_ #[22, 22] ty #[.slice (some ⟨g, (i + 1), none⟩) (n - i) dc, .slice (some ⟨g, i, none⟩) (n + 1 - i) sc]).run Try.prog w.drew = .ok (goInt (Nat.min (n + 1 - i) (n - i))) (w.drew.setRow g a1) := fun ty dc sc => by
    rw [ha1]
    exact run_copy_rows w.drew _ _ ty 9 1 g ((i + 1)) (n - i) dc ⟨g, i, none⟩ (n + 1 - i) sc cur 9 (xs.drop (i)) Try.underlying22 hsz hwd
      (by rw [hdl, hm1, Nat.mul_one]) (fun j v hj => by
        have h := hcell j v hj
        have e : (⟨g, i, none⟩ : Addr).add j = ⟨g, i + j, none⟩ := by unfold Addr.add; split <;> simp_all
        rw [e]; exact h) (by rw [hdl, hcs]; omega) (fun v hv => h1 v (List.mem_of_mem_drop hv))
  have ha1z : a1.size = cap := by
    rw [ha1]; simp only [List.size_toArray, List.length_append, List.length_take, List.length_drop, hct, hxl]; omega
  obtain ⟨a2, ha2⟩ : ∃ a2, a2 = (a1.toList.take (i) ++ ys ++ a1.toList.drop (i + ys.length)).toArray := ⟨_, rfl⟩
  have hcp2 : ∀ (W : World), W.heap = (w.drew.setRow g a1).heap → ∀ ty dc, (Builtin.copy_ #[22, 22] ty #[.slice (some ⟨g, i, none⟩) (n + 1 - i) dc, .slice (some ⟨bx, 0, none⟩) 1 1]).run Try.prog W = .ok (goInt (Nat.min 1 (n + 1 - i))) (W.setRow g a2) := fun W hW ty dc => by
    rw [ha2]
    exact run_copy_rows W _ _ ty 9 1 g (i) (n + 1 - i) dc ⟨bx, 0, none⟩ 1 1 a1 9 ys Try.underlying22 hsz (by rw [hW]; exact setRow_heap _ _ _ _ _ _ hwd)
      (by rw [hy, hm2]) (fun j v hj => by
        have e : (⟨bx, 0, none⟩ : Addr).add j = ⟨bx, j, none⟩ := by unfold Addr.add; split <;> simp_all
        have h3 : W.heap[bx]? = some (.cells ys.toArray 9 (0, 0)) := by rw [hW, setRow_other _ _ _ _ hne]; exact hx
        rw [e, cell_of_row W bx j _ _ _ h3]; simpa using hj) (by rw [hy, ha1z]; omega) h2
  have HO2 : Hid (∀ (W : World), W.heap = ((w.drew.setRow g a1).setRow g a2).heap → W.os = w.os → W.tape = w.tape → W.output = w.output →
      W.ownsRow base 9 1 (.slice (some ⟨g, 0, none⟩) (n + 1) cap) (n + 1) (xs.take (i) ++ ys ++ xs.drop (i)) ∧ w.grownBy W (some g)) := by
    refine Lib.hid fun W hW ho ht hp => ⟨⟨?_, .inr ⟨g, cap, a2, rfl, hbg, ?_, hroom, by unfold maxLen; omega, ?_, ?_⟩⟩, ⟨ho, ht, hp, ?_, fun k hk hne2 => ?_⟩⟩
    · simp only [List.length_append, List.length_take, List.length_drop, hxl, hy]; omega
    · rw [hW]; exact setRow_heap _ _ _ _ _ _ (setRow_heap _ _ _ _ _ _ hwd)
    · rw [ha2]; simp only [List.size_toArray, List.length_append, List.length_take, List.length_drop, Array.length_toList, ha1z, hy]; omega
    · have := ins_list (cur := cur.toList) (xs := xs) (zs := ys) (o := i) (k := 1) (n := n) hy.symm hcx hxl (by omega) (by rw [hct]; omega)
      rw [ha2, ha1]
      simp only [hy]
      have e1 : (i + 1) = i + 1 := by omega
      have e2 : (n + 1) = n + 1 := by omega
      rw [Nat.mul_one, e1, e2]
      exact this
    · rw [hW]; simp
    · have : k ≠ g := fun e => hne2 (by rw [e])
      rw [hW, setRow_other _ _ _ _ this, setRow_other _ _ _ _ this]; rfl
  have HC1 := Lib.hid hcp1
  have HC2 := Lib.hid hcp2
  have hov' := hov
  have g1 : (0 : Int) ≤ (i : Int) := by omega
  have hw1 : IntKind.i64.wrap ((i : Int) + 1) = (i : Int) + 1 := by rw [IntKind.wrap_i64]; omega
  have g2 : (0 : Int) ≤ (i : Int) + 1 := by omega
  have g3 : ((i : Int) + 1).toNat = i + 1 := by omega
  have g4 : ¬ (cap = i + 1) := by omega
  have g5 : ¬ (cap = i) := by omega
  have g6 : (i : Int) ≤ (n : Int) + 1 := by omega
  have g7 : (i : Int) + 1 ≤ (n : Int) + 1 := by omega
  clear hm1 hm2 hct hdl hcell hcp1 hcp2 ha1 ha2 ha1z hwd hx hg hcx hxl hcs hy
  go_enter Try.func140, Try.ntmps140
  go_wp2_with (simp only [hov'])
  go_region_law (refine step_copy_runI rfl _ _ 22 22 rfl (.slice (some ⟨g, (i + 1), none⟩) (n - i) (cap - (i + 1))) (.slice (some ⟨g, i, none⟩) (n + 1 - i) (cap - i)) (by simp [Act.eval, Act.put]) (by simp [Act.eval, Act.put]) (HC1.out 3 (cap - (i + 1)) (cap - i)) ?_)
  go_wp2_with (refine wpList_copy_runI _ rfl (.tmp 80) (.tmp 81) 22 22 rfl (.slice (some ⟨g, i, none⟩) (n + 1 - i) (cap - i)) (.slice (some ⟨bx, 0, none⟩) 1 1) rfl rfl (HC2.out _ rfl 3 (cap - i)) ?_)
  go_ret
  obtain ⟨q1, q2⟩ := HO2.out _ rfl rfl rfl rfl
  exact ⟨_, _, rfl, q1, q2, .inl rfl⟩

set_option maxRecDepth 100000 in
set_option maxHeartbeats 2000000 in
theorem insertS_grow {w : World} {base g cap : Nat} {n i : Nat} {cur : Array Value} {xs ys : List Value} {bx : Nat} (hg : w.heap[g]? = some (.cells cur 9 (0, 0))) (hbw : base ≤ w.heap.size) (hgl : g < w.heap.size) (hnc : n ≤ cap) (hroom : cap < n + 1) (hn : n ≤ 8796093022208) (hcx : cur.toList.take (n) = xs) (hxl : xs.length = n) (hi : i < n)
    (hx : Blk w bx 9 ys.toArray) (hy : ys.length = 1) (h1 : ∀ u ∈ xs, u.oneCell' = true) (h2 : ∀ u ∈ ys, u.oneCell' = true) :
    Calls Try.prog 140 #[.slice (some ⟨g, 0, none⟩) n cap, .int .i64 i, .slice (some ⟨bx, 0, none⟩) 1 1] w (InsPost base 9 1 n (.slice (some ⟨g, 0, none⟩) n cap) (xs.take (i) ++ ys ++ xs.drop (i)) w) := by
  obtain ⟨i0, hi0, hz0, hz1, hz2⟩ := info_parts string_info
  have hsz : (Try.prog.info? 9).map (·.size) = some 1 := by kernel_rfl
  have hbl := hx.lt
  have hcell : ∀ j v, xs[j]? = some v → w.cell? ⟨g, j, none⟩ = some v := fun j v hj => by
    rw [← hcx, List.getElem?_take] at hj
    split at hj
    · simp only [World.cell?, hg]; simpa using hj
    · cases hj
  have hold : (Builtin.firstCells i0.size i (.slice (some ⟨g, 0, none⟩) i cap)).run Try.prog w.drew = .ok (xs.take (i)).toArray w.drew := by
    rw [hz1]
    exact run_firstCells_some w.drew 1 i ⟨g, 0, none⟩ i cap (xs.take (i)) (by rw [List.length_take, hxl]; omega) (fun j v hj => by
      have e : (⟨g, 0, none⟩ : Addr).add j = ⟨g, j, none⟩ := by unfold Addr.add; split <;> simp_all
      rw [e]
      rw [List.getElem?_take] at hj
      split at hj
      · exact hcell j v hj
      · cases hj)
  obtain ⟨G, hG⟩ : ∃ G, G = grownCap w (n + 1) cap 9 := ⟨_, rfl⟩
  obtain ⟨ROW, hROW⟩ : ∃ ROW : Array Value, ROW = (xs.take (i)).toArray ++ Builtin.zeroCells (Value.string { data := #[] }).cells (n + 1 - i) ++ Builtin.zeroCells (Value.string { data := #[] }).cells (G - (n + 1)) := ⟨_, rfl⟩
  have hGn : n + 1 ≤ G := by rw [hG]; exact grownCap_ge w _ _ _
  have hG63 : G ≤ 9223372036854775807 := by
    have := grownCap_le_maxLen w (n + 1) cap 9 (by unfold maxLen; omega)
    rw [← hG] at this
    unfold maxLen at this
    omega
  have hrz : ∀ ty, (Builtin.append_ #[22, 3] ty #[.slice (some ⟨g, 0, none⟩) i cap, .int .i64 ((n : Int) + 1 - (i : Int))]).run Try.prog w = .ok (.slice (some ⟨w.heap.size, 0, none⟩) (n + 1) G) (w.drew.alloc (.cells ROW 9)) := fun ty => by
    have hik : i + (n + 1 - i) = n + 1 := by omega
    have hkk : (n : Int) + 1 - (i : Int) = ((n + 1 - i : Nat) : Int) := by omega
    have h := Lib.run_append_grow_zeros w 22 3 ty 9 i0 _ .i64 .i64 Try.underlying22 Try.underlying3 hi0 hz0 (some ⟨g, 0, none⟩) i cap (xs.take (i)) hold (n + 1 - i) (by omega) (by omega) (by omega) (by omega) (by rw [hz2]; omega) (by rw [hz2, hik]; exact growslice_fits_wide hroom (by omega))
    rw [hik] at h
    rw [hkk, h, ← hG, ← hROW]
  have hRz : ROW.size = G := by
    have e : ∀ m, (Builtin.zeroCells (Value.string { data := #[] }).cells m).size = m := fun m => by rw [zeroCells_size]; exact Nat.mul_one m
    rw [hROW, Array.size_append, Array.size_append, e, e, List.size_toArray, List.length_take, hxl]; omega
  have hRt : ROW.toList.take (i) = xs.take (i) := by
    rw [hROW]
    simp only [Array.toList_append, List.append_assoc]
    rw [List.take_append_of_le_length (by rw [List.length_take, hxl]; omega), List.take_of_length_le (by rw [List.length_take, hxl]; omega)]
  obtain ⟨a1, ha1⟩ : ∃ a1, a1 = (ROW.toList.take (i) ++ ys ++ ROW.toList.drop (i + ys.length)).toArray := ⟨_, rfl⟩
  have hm2 : Nat.min 1 (n + 1 - i) = 1 := by simp only [Nat.min_def]; split <;> omega
  have hm1 : Nat.min (n - i) (n - i) = n - i := by simp only [Nat.min_def]; split <;> omega
  have hbn : bx ≠ w.heap.size := by omega
  have hgn : g ≠ w.heap.size := by omega
  have hdl : (xs.drop (i)).length = (n - i) := by rw [List.length_drop, hxl]
  have hcp1 : ∀ (W : World), W.heap = (w.drew.alloc (.cells ROW 9)).heap → ∀ ty dc, (Builtin.copy_ #[22, 22] ty #[.slice (some ⟨w.heap.size, i, none⟩) (n + 1 - i) dc, .slice (some ⟨bx, 0, none⟩) 1 1]).run Try.prog W = .ok (goInt (Nat.min 1 (n + 1 - i))) (W.setRow w.heap.size a1) := fun W hW ty dc => by
    rw [ha1]
    exact run_copy_rows W _ _ ty 9 1 w.heap.size (i) (n + 1 - i) dc ⟨bx, 0, none⟩ 1 1 ROW 9 ys Try.underlying22 hsz (by rw [hW]; exact heap_alloc_new w.drew _)
      (by rw [hy, hm2]) (fun j v hj => by
        have e : (⟨bx, 0, none⟩ : Addr).add j = ⟨bx, j, none⟩ := by unfold Addr.add; split <;> simp_all
        have h3 : W.heap[bx]? = some (.cells ys.toArray 9 (0, 0)) := by rw [hW]; exact (Below.heap_alloc w.drew _ bx hbl).trans hx
        rw [e, cell_of_row W bx j _ _ _ h3]; simpa using hj) (by rw [hy, hRz]; omega) h2
  have ha1z : a1.size = G := by
    rw [ha1]; simp only [List.size_toArray, List.length_append, List.length_take, List.length_drop, Array.length_toList, hRz, hy]; omega
  obtain ⟨a2, ha2⟩ : ∃ a2, a2 = (a1.toList.take ((i + 1)) ++ xs.drop (i) ++ a1.toList.drop ((i + 1) + (xs.drop (i)).length)).toArray := ⟨_, rfl⟩
  have hcp2 : ∀ (W : World), W.heap = ((w.drew.alloc (.cells ROW 9)).setRow w.heap.size a1).heap → ∀ ty dc sc, (Builtin.copy_ #[22, 22] ty #[.slice (some ⟨w.heap.size, (i + 1), none⟩) (n - i) dc, .slice (some ⟨g, i, none⟩) (n - i) sc]).run Try.prog W = .ok (goInt (Nat.min (n - i) (n - i))) (W.setRow w.heap.size a2) := fun W hW ty dc sc => by
    rw [ha2]
    exact run_copy_rows W _ _ ty 9 1 w.heap.size ((i + 1)) (n - i) dc ⟨g, i, none⟩ (n - i) sc a1 9 (xs.drop (i)) Try.underlying22 hsz (by rw [hW]; exact setRow_heap _ _ _ _ _ _ (heap_alloc_new w.drew _))
      (by rw [hdl, hm1, Nat.mul_one]) (fun j v hj => by
        have e : (⟨g, i, none⟩ : Addr).add j = ⟨g, i + j, none⟩ := by unfold Addr.add; split <;> simp_all
        rw [List.getElem?_drop] at hj
        have h3 : W.heap[g]? = w.heap[g]? := by rw [hW, setRow_other _ _ _ _ hgn]; exact Below.heap_alloc w.drew _ g hgl
        rw [e, World.cell?_of_block (a := ⟨g, i + j, none⟩) h3]
        exact hcell _ v hj) (by rw [hdl, ha1z]; omega) (fun v hv => h1 v (List.mem_of_mem_drop hv))
  have HO2 : Hid (∀ (W : World), W.heap = (((w.drew.alloc (.cells ROW 9)).setRow w.heap.size a1).setRow w.heap.size a2).heap → W.os = w.os → W.tape = w.tape → W.output = w.output →
      W.ownsRow base 9 1 (.slice (some ⟨w.heap.size, 0, none⟩) (n + 1) G) (n + 1) (xs.take (i) ++ ys ++ xs.drop (i)) ∧ w.grownBy W (some g)) := by
    refine Lib.hid fun W hW ho ht hp => ⟨⟨?_, .inr ⟨w.heap.size, G, a2, rfl, hbw, ?_, hGn, by unfold maxLen; omega, ?_, ?_⟩⟩, ⟨ho, ht, hp, ?_, fun k hk hne2 => ?_⟩⟩
    · simp only [List.length_append, List.length_take, List.length_drop, hxl, hy]; omega
    · rw [hW]; exact setRow_heap _ _ _ _ _ _ (setRow_heap _ _ _ _ _ _ (heap_alloc_new w.drew _))
    · rw [ha2]; simp only [List.size_toArray, List.length_append, List.length_take, List.length_drop, Array.length_toList, ha1z, hxl]; omega
    · have := ins_list2 (row := ROW.toList) (xs := xs) (zs := ys) (o := i) (k := 1) (n := n) hy.symm hRt hxl (by omega) (by rw [Array.length_toList, hRz]; omega)
      rw [ha2, ha1]
      simp only [hy]
      have e1 : (i + 1) = i + 1 := by omega
      have e2 : (n + 1) = n + 1 := by omega
      rw [Nat.mul_one, e1, e2]
      exact this
    · rw [hW]; simp
    · have : k ≠ w.heap.size := by omega
      rw [hW, setRow_other _ _ _ _ this, setRow_other _ _ _ _ this]; exact Below.heap_alloc w.drew _ k hk
  have HRZ := Lib.hid hrz
  have HC1 := Lib.hid hcp1
  have HC2 := Lib.hid hcp2
  have hw1 : IntKind.i64.wrap ((i : Int) + 1) = (i : Int) + 1 := by rw [IntKind.wrap_i64]; omega
  have g1 : (0 : Int) ≤ (i : Int) := by omega
  have g2 : (0 : Int) ≤ (i : Int) + 1 := by omega
  have g3 : ((i : Int) + 1).toNat = i + 1 := by omega
  have g4 : ¬ (G = i + 1) := by omega
  have g5 : ¬ (G = i) := by omega
  have g6 : (i : Int) ≤ (n : Int) := by omega
  have g7 : (i : Int) + 1 ≤ (n : Int) + 1 := by omega
  have g8 : ¬ (cap = i) := by omega
  have g9 : (cap : Int) < (n : Int) + 1 := by omega
  clear hm1 hm2 hdl hcell hold hcp1 hcp2 ha1 ha2 ha1z hx hg hcx hxl hy hrz hG hROW hRz hRt hi0 hz0 hz1 hz2
  go_enter Try.func140, Try.ntmps140
  go_wp2_with (first
    | (at_builtin; refine Lib.wpList_append_run _ rfl (.tmp 34) (.tmp 39) _ _ rfl _ _ rfl rfl _ _ (HRZ.out _) ?_)
    | (refine wpList_copy_runI _ rfl (.tmp 43) (.tmp 44) 22 22 rfl (.slice (some ⟨w.heap.size, i, none⟩) (n + 1 - i) (G - i)) (.slice (some ⟨bx, 0, none⟩) 1 1) rfl rfl (HC1.out _ rfl 3 (G - i)) ?_))
  go_region_law (refine step_copy_runI rfl (.tmp 50) (.tmp 53) 22 22 rfl (.slice (some ⟨w.heap.size, (i + 1), none⟩) (n - i) (G - (i + 1))) (.slice (some ⟨g, i, none⟩) (n - i) (cap - i)) (by simp [Act.eval, Act.put]) (by simp [Act.eval, Act.put]) (HC2.out _ (by exact rfl) 3 (G - (i + 1)) (cap - i)) ?_)
  go_wp2_with fail
  go_ret
  obtain ⟨q1, q2⟩ := HO2.out (((w.alloc (.cells ROW 9)).drew.setRow w.heap.size a1).drew.setRow w.heap.size a2) rfl rfl rfl rfl
  exact ⟨_, _, rfl, q1, q2, .inr fun k hk => by simp [Value.ownBlock] at hk; omega⟩

/-- slices.Insert at nodes, on every road. -/
theorem insertS_any {w : World} {base : Nat} {v : Value} {n i : Nat} {xs ys : List Value} {bx : Nat} (hown : w.ownsRow base 9 1 v n xs) (hb : base ≤ w.heap.size) (hi : i ≤ n) (hn : n ≤ 8796093022208)
    (hx : Blk w bx 9 ys.toArray) (hy : ys.length = 1) (hne : v.ownBlock ≠ some bx) (h1 : ∀ u ∈ xs, u.oneCell' = true) (h2 : ∀ u ∈ ys, u.oneCell' = true) :
    Calls Try.prog 140 #[v, .int .i64 i, .slice (some ⟨bx, 0, none⟩) 1 1] w (InsPost base 9 1 n v (xs.take (i) ++ ys ++ xs.drop (i)) w) := by
  by_cases hin : i = n
  · subst hin
    have hl := hown.1
    rw [List.take_of_length_le (by omega), List.drop_eq_nil_of_le (by omega), List.append_nil]
    exact insertS_end hown hb hn hx hy h2
  · obtain ⟨g, cap, cur, rfl, hbg, hgl, hg, hnc, hc63, hcs, hcx, hxl⟩ := own_parts hown (by omega)
    rw [Nat.mul_one] at hcs hcx hxl
    have hne' : bx ≠ g := fun e => hne (by rw [e]; rfl)
    by_cases hr : n + 1 ≤ cap
    · exact insertS_room hg hbg hr hc63 hcs hcx hxl (by omega) hx hy hne' h1 h2
    · exact insertS_grow hg hb hgl hnc (by omega) hn hcx hxl (by omega) hx hy h1 h2
end Go.Proofs.Ytocndkhgopjhhaa
