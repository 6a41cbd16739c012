/- Each node is the same as itself. -/
import Derived.Test.YtocndkhgopjhhaaBase
namespace Go.Proofs.Ytocndkhgopjhhaa

mutual
theorem N.same_refl : ∀ t : N, t.same t = true
  | .mk k t ns ks => by rw [N.same, sameL_refl ks]; simp
theorem sameL_refl : ∀ l : List N, sameL l l = true
  | [] => by rw [sameL]
  | a :: l => by rw [sameL, N.same_refl a, sameL_refl l]; rfl
end
end Go.Proofs.Ytocndkhgopjhhaa
