import Derived.Test.YtocndkhgopjhhaaProg
import Derived.Test.YtocndkhgopjhhaaBase2
namespace Go.Proofs.Ytocndkhgopjhhaa
open Go.RowKit

theorem results_cell_tmp {fn : Func} {t u : Nat} (h : fn.results = #[.cell t 25, .tmp u]) (tmps : Array Value) (w : World) (g : Nat) (v0 v1 v2 v3 : Value)
    (ht : tmps.getD t undef = .pointer (some ⟨g, 0, none⟩)) (hB : Blk w g 25 #[v0, v1, v2, v3]) :
    (results fn tmps).run Try.prog w = .ok (.tuple #[.agg #[v0, v1, v2, v3], tmps.getD u undef]) w := by
  obtain ⟨c0, c1, c2, c3, _⟩ := hB.cells4
  have ht' : tmps[t]?.getD undef = .pointer (some ⟨g, 0, none⟩) := by simpa using ht
  simp [results, h, ht', go_sem, c0, c1, c2, c3]
theorem results_cell {fn : Func} {t : Nat} (h : fn.results = #[.cell t 25]) (tmps : Array Value) (w : World) (g : Nat) (v0 v1 v2 v3 : Value)
    (ht : tmps.getD t undef = .pointer (some ⟨g, 0, none⟩)) (hB : Blk w g 25 #[v0, v1, v2, v3]) :
    (results fn tmps).run Try.prog w = .ok (.agg #[v0, v1, v2, v3]) w := by
  obtain ⟨c0, c1, c2, c3, _⟩ := hB.cells4
  have ht' : tmps[t]?.getD undef = .pointer (some ⟨g, 0, none⟩) := by simpa using ht
  simp [results, h, ht', go_sem, c0, c1, c2, c3]
end Go.Proofs.Ytocndkhgopjhhaa
