/-
  NARROWER THAN 'FOR EVERY INPUT', by the rows' own cells (each row's printed sentence says how): FtreeNodes: loops · FtreePlays: loops · FtreeThere: loops · PrimBack: loops · PrimRefused: loops.
  DERIVED. THE GIVEN ROWS OF THIS SEAT. 11 by the template 'for every input the law returns true; each argument reads behind the call as it read before'; 0 by the template 'total and deterministic' (their statements: YtocndkhgopjhhaaTotals.lean).
  GIVEN WITH THE SEED: the statements are not yours to turn. If you find one false, say at which input.
  Laid BY PROGRAM, IN A SANDBOX (cutbox-rows.mjs): the forced cells as the released guide's own fill.sh prints them over the translation 30c390965b36595e… (all of the seat's roots in one cut). By AI agents, Wed Nov 11 2026. No macro, syntax, notation, axiom, sorry.
-/
import Derived.Test.YtocndkhgopjhhaaChecked
import GoSem.Claim
import GoSem.ClaimJoined
import GoSem.ClaimMapViews
import Derived.JoinedTies
import Derived.KernelRfl
namespace Go.Proofs.Ytocndkhgopjhhaa
/- THE CELL 'sum', in the pinned program and in every row, IS THE sha256 OF THE DUMP (.gsa) THAT YtocndkhgopjhhaaProg.lean LOADS. Nothing in Lean hashes anything: it is a label: what it is worth is what the hold of that sum in a sandbox is worth. -/
noncomputable def Try.pinned : Pinned := { name := "ytocndkhgopjhhaa", sum := "30c390965b36595ea7aa7a4f5bef6fbdc60dfae4040660c507fe4eb0424463b4", checked := Try.checked }
namespace Rows
def none {H : Type} : Left H := { results := [], args := [] }

/-- 'touchstonelaw07.FtreeNodes': WHATEVER THE INPUT: true; the input reads as it did. -/
def ftreeNodesSpec : ChangeSpec := { name := "ftreeNodes", fn := fun _ => fun
  | [d1, d2, d3] => { results := [.lit (.bool true)], args := [d1, d2, d3] }
  | _ => none }
def ftreeNodesRow : OpenClaim := { program := "ytocndkhgopjhhaa", sum := "30c390965b36595ea7aa7a4f5bef6fbdc60dfae4040660c507fe4eb0424463b4", func := "touchstone/touchstonelaw07.FtreeNodes", spec := "ftreeNodes", inPlace := ["internal/bytealg.IndexByteString", "internal/bytealg.IndexString"], unfollowed := true, recurses := true, named := ["internal/bytealg.MaxLen"], loops := true, apart := false }
def FtreeNodesSaid : Prop := ftreeNodesRow.holds Try.pinned (OpenSpec.ofChange ftreeNodesSpec)

/-- ITS FALSE NEIGHBOUR: 'it returns false'. Refute it at one input. -/
def ftreeNodesWrong : ChangeSpec := { name := "ftreeNodes", fn := fun _ => fun
  | [d1, d2, d3] => { results := [.lit (.bool false)], args := [d1, d2, d3] }
  | _ => none }
def FtreeNodesWrongFalsely : Prop := ftreeNodesRow.holds Try.pinned (OpenSpec.ofChange ftreeNodesWrong)

/-- 'touchstonelaw28.StateOrder': WHATEVER THE INPUT: true; the input reads as it did. -/
def stateOrderSpec : ChangeSpec := { name := "stateOrder", fn := fun _ => fun
  | [d] => { results := [.lit (.bool true)], args := [d] }
  | _ => none }
def stateOrderRow : OpenClaim := { program := "ytocndkhgopjhhaa", sum := "30c390965b36595ea7aa7a4f5bef6fbdc60dfae4040660c507fe4eb0424463b4", func := "touchstone/touchstonelaw28.StateOrder", spec := "stateOrder", inPlace := ["internal/bytealg.IndexByteString", "internal/bytealg.IndexString"], unfollowed := true, recurses := true, named := ["internal/bytealg.MaxLen"], apart := false }
def StateOrderSaid : Prop := stateOrderRow.holds Try.pinned (OpenSpec.ofChange stateOrderSpec)

/-- ITS FALSE NEIGHBOUR: 'it returns false'. Refute it at one input. -/
def stateOrderWrong : ChangeSpec := { name := "stateOrder", fn := fun _ => fun
  | [d] => { results := [.lit (.bool false)], args := [d] }
  | _ => none }
def StateOrderWrongFalsely : Prop := stateOrderRow.holds Try.pinned (OpenSpec.ofChange stateOrderWrong)

/-- 'touchstonelaw28.StateDeep': WHATEVER THE INPUT: true; the input reads as it did. -/
def stateDeepSpec : ChangeSpec := { name := "stateDeep", fn := fun _ => fun
  | [d] => { results := [.lit (.bool true)], args := [d] }
  | _ => none }
def stateDeepRow : OpenClaim := { program := "ytocndkhgopjhhaa", sum := "30c390965b36595ea7aa7a4f5bef6fbdc60dfae4040660c507fe4eb0424463b4", func := "touchstone/touchstonelaw28.StateDeep", spec := "stateDeep", inPlace := ["internal/bytealg.IndexByteString", "internal/bytealg.IndexString"], unfollowed := true, recurses := true, named := ["internal/bytealg.MaxLen"], apart := false }
def StateDeepSaid : Prop := stateDeepRow.holds Try.pinned (OpenSpec.ofChange stateDeepSpec)

/-- ITS FALSE NEIGHBOUR: 'it returns false'. Refute it at one input. -/
def stateDeepWrong : ChangeSpec := { name := "stateDeep", fn := fun _ => fun
  | [d] => { results := [.lit (.bool false)], args := [d] }
  | _ => none }
def StateDeepWrongFalsely : Prop := stateDeepRow.holds Try.pinned (OpenSpec.ofChange stateDeepWrong)

/-- 'touchstonelaw07.FtreeNames': WHATEVER THE INPUT: true; the input reads as it did. -/
def ftreeNamesSpec : ChangeSpec := { name := "ftreeNames", fn := fun _ => fun
  | [] => { results := [.lit (.bool true)], args := [] }
  | _ => none }
def ftreeNamesRow : OpenClaim := { program := "ytocndkhgopjhhaa", sum := "30c390965b36595ea7aa7a4f5bef6fbdc60dfae4040660c507fe4eb0424463b4", func := "touchstone/touchstonelaw07.FtreeNames", spec := "ftreeNames", inPlace := ["internal/bytealg.IndexByteString", "internal/bytealg.IndexString", "slices.overlaps[string]", "slices.overlaps[touchstone/api.Node]"], unfollowed := true, recurses := true, named := ["internal/bytealg.MaxLen"], apart := false }
def FtreeNamesSaid : Prop := ftreeNamesRow.holds Try.pinned (OpenSpec.ofChange ftreeNamesSpec)

/-- ITS FALSE NEIGHBOUR: 'it returns false'. Refute it at one input. -/
def ftreeNamesWrong : ChangeSpec := { name := "ftreeNames", fn := fun _ => fun
  | [] => { results := [.lit (.bool false)], args := [] }
  | _ => none }
def FtreeNamesWrongFalsely : Prop := ftreeNamesRow.holds Try.pinned (OpenSpec.ofChange ftreeNamesWrong)

/-- 'touchstonelaw07.FtreePlays': WHATEVER THE INPUT: true; the input reads as it did. -/
def ftreePlaysSpec : ChangeSpec := { name := "ftreePlays", fn := fun _ => fun
  | [d1, d2] => { results := [.lit (.bool true)], args := [d1, d2] }
  | _ => none }
def ftreePlaysRow : OpenClaim := { program := "ytocndkhgopjhhaa", sum := "30c390965b36595ea7aa7a4f5bef6fbdc60dfae4040660c507fe4eb0424463b4", func := "touchstone/touchstonelaw07.FtreePlays", spec := "ftreePlays", inPlace := ["internal/bytealg.IndexByteString", "internal/bytealg.IndexString", "slices.overlaps[string]", "slices.overlaps[touchstone/api.Node]"], unfollowed := true, recurses := true, named := ["internal/bytealg.MaxLen"], loops := true, apart := false }
def FtreePlaysSaid : Prop := ftreePlaysRow.holds Try.pinned (OpenSpec.ofChange ftreePlaysSpec)

/-- ITS FALSE NEIGHBOUR: 'it returns false'. Refute it at one input. -/
def ftreePlaysWrong : ChangeSpec := { name := "ftreePlays", fn := fun _ => fun
  | [d1, d2] => { results := [.lit (.bool false)], args := [d1, d2] }
  | _ => none }
def FtreePlaysWrongFalsely : Prop := ftreePlaysRow.holds Try.pinned (OpenSpec.ofChange ftreePlaysWrong)

/-- 'touchstonelaw07.FtreeThere': WHATEVER THE INPUT: true; the input reads as it did. -/
def ftreeThereSpec : ChangeSpec := { name := "ftreeThere", fn := fun _ => fun
  | [d1, d2, d3] => { results := [.lit (.bool true)], args := [d1, d2, d3] }
  | _ => none }
def ftreeThereRow : OpenClaim := { program := "ytocndkhgopjhhaa", sum := "30c390965b36595ea7aa7a4f5bef6fbdc60dfae4040660c507fe4eb0424463b4", func := "touchstone/touchstonelaw07.FtreeThere", spec := "ftreeThere", inPlace := ["internal/bytealg.IndexByteString", "internal/bytealg.IndexString", "slices.overlaps[string]", "slices.overlaps[touchstone/api.Node]"], unfollowed := true, recurses := true, named := ["internal/bytealg.MaxLen"], loops := true, apart := false }
def FtreeThereSaid : Prop := ftreeThereRow.holds Try.pinned (OpenSpec.ofChange ftreeThereSpec)

/-- ITS FALSE NEIGHBOUR: 'it returns false'. Refute it at one input. -/
def ftreeThereWrong : ChangeSpec := { name := "ftreeThere", fn := fun _ => fun
  | [d1, d2, d3] => { results := [.lit (.bool false)], args := [d1, d2, d3] }
  | _ => none }
def FtreeThereWrongFalsely : Prop := ftreeThereRow.holds Try.pinned (OpenSpec.ofChange ftreeThereWrong)

/-- 'touchstonelaw10.PrimBack': WHATEVER THE INPUT: true; the input reads as it did. -/
def primBackSpec : ChangeSpec := { name := "primBack", fn := fun _ => fun
  | [d1, d2, d3] => { results := [.lit (.bool true)], args := [d1, d2, d3] }
  | _ => none }
def primBackRow : OpenClaim := { program := "ytocndkhgopjhhaa", sum := "30c390965b36595ea7aa7a4f5bef6fbdc60dfae4040660c507fe4eb0424463b4", func := "touchstone/touchstonelaw10.PrimBack", spec := "primBack", inPlace := ["internal/bytealg.IndexByteString", "internal/bytealg.IndexString"], unfollowed := true, recurses := true, named := ["internal/bytealg.MaxLen"], loops := true, apart := false }
def PrimBackSaid : Prop := primBackRow.holds Try.pinned (OpenSpec.ofChange primBackSpec)

/-- ITS FALSE NEIGHBOUR: 'it returns false'. Refute it at one input. -/
def primBackWrong : ChangeSpec := { name := "primBack", fn := fun _ => fun
  | [d1, d2, d3] => { results := [.lit (.bool false)], args := [d1, d2, d3] }
  | _ => none }
def PrimBackWrongFalsely : Prop := primBackRow.holds Try.pinned (OpenSpec.ofChange primBackWrong)

/-- 'touchstonelaw10.PrimNames': WHATEVER THE INPUT: true; the input reads as it did. -/
def primNamesSpec : ChangeSpec := { name := "primNames", fn := fun _ => fun
  | [] => { results := [.lit (.bool true)], args := [] }
  | _ => none }
def primNamesRow : OpenClaim := { program := "ytocndkhgopjhhaa", sum := "30c390965b36595ea7aa7a4f5bef6fbdc60dfae4040660c507fe4eb0424463b4", func := "touchstone/touchstonelaw10.PrimNames", spec := "primNames", inPlace := ["internal/bytealg.IndexByteString", "internal/bytealg.IndexString"], unfollowed := true, recurses := true, named := ["internal/bytealg.MaxLen"], apart := false }
def PrimNamesSaid : Prop := primNamesRow.holds Try.pinned (OpenSpec.ofChange primNamesSpec)

/-- ITS FALSE NEIGHBOUR: 'it returns false'. Refute it at one input. -/
def primNamesWrong : ChangeSpec := { name := "primNames", fn := fun _ => fun
  | [] => { results := [.lit (.bool false)], args := [] }
  | _ => none }
def PrimNamesWrongFalsely : Prop := primNamesRow.holds Try.pinned (OpenSpec.ofChange primNamesWrong)

/-- 'touchstonelaw10.PrimRefused': WHATEVER THE INPUT: true; the input reads as it did. -/
def primRefusedSpec : ChangeSpec := { name := "primRefused", fn := fun _ => fun
  | [d1, d2] => { results := [.lit (.bool true)], args := [d1, d2] }
  | _ => none }
def primRefusedRow : OpenClaim := { program := "ytocndkhgopjhhaa", sum := "30c390965b36595ea7aa7a4f5bef6fbdc60dfae4040660c507fe4eb0424463b4", func := "touchstone/touchstonelaw10.PrimRefused", spec := "primRefused", inPlace := ["internal/bytealg.IndexByteString", "internal/bytealg.IndexString"], unfollowed := true, recurses := true, named := ["internal/bytealg.MaxLen"], loops := true, apart := false }
def PrimRefusedSaid : Prop := primRefusedRow.holds Try.pinned (OpenSpec.ofChange primRefusedSpec)

/-- ITS FALSE NEIGHBOUR: 'it returns false'. Refute it at one input. -/
def primRefusedWrong : ChangeSpec := { name := "primRefused", fn := fun _ => fun
  | [d1, d2] => { results := [.lit (.bool false)], args := [d1, d2] }
  | _ => none }
def PrimRefusedWrongFalsely : Prop := primRefusedRow.holds Try.pinned (OpenSpec.ofChange primRefusedWrong)

/-- 'touchstonelaw28.StatePlays': WHATEVER THE INPUT: true; the input reads as it did. -/
def statePlaysSpec : ChangeSpec := { name := "statePlays", fn := fun _ => fun
  | [d1, d2] => { results := [.lit (.bool true)], args := [d1, d2] }
  | _ => none }
def statePlaysRow : OpenClaim := { program := "ytocndkhgopjhhaa", sum := "30c390965b36595ea7aa7a4f5bef6fbdc60dfae4040660c507fe4eb0424463b4", func := "touchstone/touchstonelaw28.StatePlays", spec := "statePlays", inPlace := ["internal/bytealg.IndexByteString", "internal/bytealg.IndexString"], unfollowed := true, recurses := true, named := ["internal/bytealg.MaxLen"], apart := false }
def StatePlaysSaid : Prop := statePlaysRow.holds Try.pinned (OpenSpec.ofChange statePlaysSpec)

/-- ITS FALSE NEIGHBOUR: 'it returns false'. Refute it at one input. -/
def statePlaysWrong : ChangeSpec := { name := "statePlays", fn := fun _ => fun
  | [d1, d2] => { results := [.lit (.bool false)], args := [d1, d2] }
  | _ => none }
def StatePlaysWrongFalsely : Prop := statePlaysRow.holds Try.pinned (OpenSpec.ofChange statePlaysWrong)

/-- 'touchstonelaw28.StateNames': WHATEVER THE INPUT: true; the input reads as it did. -/
def stateNamesSpec : ChangeSpec := { name := "stateNames", fn := fun _ => fun
  | [] => { results := [.lit (.bool true)], args := [] }
  | _ => none }
def stateNamesRow : OpenClaim := { program := "ytocndkhgopjhhaa", sum := "30c390965b36595ea7aa7a4f5bef6fbdc60dfae4040660c507fe4eb0424463b4", func := "touchstone/touchstonelaw28.StateNames", spec := "stateNames", inPlace := ["internal/bytealg.IndexByteString", "internal/bytealg.IndexString"], unfollowed := true, recurses := true, named := ["internal/bytealg.MaxLen"], apart := false }
def StateNamesSaid : Prop := stateNamesRow.holds Try.pinned (OpenSpec.ofChange stateNamesSpec)

/-- ITS FALSE NEIGHBOUR: 'it returns false'. Refute it at one input. -/
def stateNamesWrong : ChangeSpec := { name := "stateNames", fn := fun _ => fun
  | [] => { results := [.lit (.bool false)], args := [] }
  | _ => none }
def StateNamesWrongFalsely : Prop := stateNamesRow.holds Try.pinned (OpenSpec.ofChange stateNamesWrong)

/- THE SECOND FORM. 'bulk': how many values and letters a reading holds, each counted each time it is reached (what is shared counts as often as it is met; a slice's spare places count too). A statement '..UptoSaid' is the law's where the arguments, and the package variables that the reading takes, are together of bulk at most 1048576: NARROWER than '..Said'. Prove '..Said' where nothing that the law and all that it calls make is longer than what came in: it says more and counts as full. Else prove '..UptoSaid'. A law counts once. -/
mutual
def uptoBulk {H : Type} : DataW H → Nat
  | .lit (.string bytes) => bytes.length + 1
  | .lit _ => 1
  | .nil => 1
  | .ptr d => uptoBulk d + 1
  | .slice elems spare => uptoBulkAll elems + uptoBulkAll spare + 1
  | .agg parts => uptoBulkAll parts + 1
  | .iface _ d => uptoBulk d + 1
  | .map entries => uptoBulkEntries entries + 1
  | .held _ => 1
def uptoBulkAll {H : Type} : List (DataW H) → Nat
  | [] => 0
  | d :: r => uptoBulk d + uptoBulkAll r
def uptoBulkEntries {H : Type} : List (Lit × DataW H) → Nat
  | [] => 0
  | x :: r => uptoBulkEntry x + uptoBulkEntries r
def uptoBulkEntry {H : Type} : Lit × DataW H → Nat
  | (.string bytes, d) => bytes.length + uptoBulk d + 1
  | (_, d) => uptoBulk d + 1
 end
def uptoSmall : (H : Type) → List (DataW H) → Bool := fun _ ds => decide (uptoBulkAll ds ≤ 1048576)
def OpenSpec.upto (s : _root_.Go.ChangeSpec) : _root_.Go.OpenSpec := { _root_.Go.OpenSpec.ofChange s with cond := some uptoSmall }

/-- 'touchstonelaw07.FtreeNodes', WHERE WHAT IT READS IS OF BULK AT MOST 1048576: true; the input reads as it did. -/
def ftreeNodesUptoRow : OpenClaim := { program := "ytocndkhgopjhhaa", sum := "30c390965b36595ea7aa7a4f5bef6fbdc60dfae4040660c507fe4eb0424463b4", func := "touchstone/touchstonelaw07.FtreeNodes", spec := "ftreeNodes", inPlace := ["internal/bytealg.IndexByteString", "internal/bytealg.IndexString"], unfollowed := true, recurses := true, named := ["internal/bytealg.MaxLen"], loops := true, apart := false, narrowed := true }
def FtreeNodesUptoSaid : Prop := ftreeNodesUptoRow.holds Try.pinned (OpenSpec.upto ftreeNodesSpec)

/-- 'touchstonelaw28.StateOrder', WHERE WHAT IT READS IS OF BULK AT MOST 1048576: true; the input reads as it did. -/
def stateOrderUptoRow : OpenClaim := { program := "ytocndkhgopjhhaa", sum := "30c390965b36595ea7aa7a4f5bef6fbdc60dfae4040660c507fe4eb0424463b4", func := "touchstone/touchstonelaw28.StateOrder", spec := "stateOrder", inPlace := ["internal/bytealg.IndexByteString", "internal/bytealg.IndexString"], unfollowed := true, recurses := true, named := ["internal/bytealg.MaxLen"], apart := false, narrowed := true }
def StateOrderUptoSaid : Prop := stateOrderUptoRow.holds Try.pinned (OpenSpec.upto stateOrderSpec)

/-- 'touchstonelaw28.StateDeep', WHERE WHAT IT READS IS OF BULK AT MOST 1048576: true; the input reads as it did. -/
def stateDeepUptoRow : OpenClaim := { program := "ytocndkhgopjhhaa", sum := "30c390965b36595ea7aa7a4f5bef6fbdc60dfae4040660c507fe4eb0424463b4", func := "touchstone/touchstonelaw28.StateDeep", spec := "stateDeep", inPlace := ["internal/bytealg.IndexByteString", "internal/bytealg.IndexString"], unfollowed := true, recurses := true, named := ["internal/bytealg.MaxLen"], apart := false, narrowed := true }
def StateDeepUptoSaid : Prop := stateDeepUptoRow.holds Try.pinned (OpenSpec.upto stateDeepSpec)

/-- 'touchstonelaw07.FtreeNames', WHERE WHAT IT READS IS OF BULK AT MOST 1048576: true; the input reads as it did. -/
def ftreeNamesUptoRow : OpenClaim := { program := "ytocndkhgopjhhaa", sum := "30c390965b36595ea7aa7a4f5bef6fbdc60dfae4040660c507fe4eb0424463b4", func := "touchstone/touchstonelaw07.FtreeNames", spec := "ftreeNames", inPlace := ["internal/bytealg.IndexByteString", "internal/bytealg.IndexString", "slices.overlaps[string]", "slices.overlaps[touchstone/api.Node]"], unfollowed := true, recurses := true, named := ["internal/bytealg.MaxLen"], apart := false, narrowed := true }
def FtreeNamesUptoSaid : Prop := ftreeNamesUptoRow.holds Try.pinned (OpenSpec.upto ftreeNamesSpec)

/-- 'touchstonelaw07.FtreePlays', WHERE WHAT IT READS IS OF BULK AT MOST 1048576: true; the input reads as it did. -/
def ftreePlaysUptoRow : OpenClaim := { program := "ytocndkhgopjhhaa", sum := "30c390965b36595ea7aa7a4f5bef6fbdc60dfae4040660c507fe4eb0424463b4", func := "touchstone/touchstonelaw07.FtreePlays", spec := "ftreePlays", inPlace := ["internal/bytealg.IndexByteString", "internal/bytealg.IndexString", "slices.overlaps[string]", "slices.overlaps[touchstone/api.Node]"], unfollowed := true, recurses := true, named := ["internal/bytealg.MaxLen"], loops := true, apart := false, narrowed := true }
def FtreePlaysUptoSaid : Prop := ftreePlaysUptoRow.holds Try.pinned (OpenSpec.upto ftreePlaysSpec)

/-- 'touchstonelaw07.FtreeThere', WHERE WHAT IT READS IS OF BULK AT MOST 1048576: true; the input reads as it did. -/
def ftreeThereUptoRow : OpenClaim := { program := "ytocndkhgopjhhaa", sum := "30c390965b36595ea7aa7a4f5bef6fbdc60dfae4040660c507fe4eb0424463b4", func := "touchstone/touchstonelaw07.FtreeThere", spec := "ftreeThere", inPlace := ["internal/bytealg.IndexByteString", "internal/bytealg.IndexString", "slices.overlaps[string]", "slices.overlaps[touchstone/api.Node]"], unfollowed := true, recurses := true, named := ["internal/bytealg.MaxLen"], loops := true, apart := false, narrowed := true }
def FtreeThereUptoSaid : Prop := ftreeThereUptoRow.holds Try.pinned (OpenSpec.upto ftreeThereSpec)

/-- 'touchstonelaw10.PrimBack', WHERE WHAT IT READS IS OF BULK AT MOST 1048576: true; the input reads as it did. -/
def primBackUptoRow : OpenClaim := { program := "ytocndkhgopjhhaa", sum := "30c390965b36595ea7aa7a4f5bef6fbdc60dfae4040660c507fe4eb0424463b4", func := "touchstone/touchstonelaw10.PrimBack", spec := "primBack", inPlace := ["internal/bytealg.IndexByteString", "internal/bytealg.IndexString"], unfollowed := true, recurses := true, named := ["internal/bytealg.MaxLen"], loops := true, apart := false, narrowed := true }
def PrimBackUptoSaid : Prop := primBackUptoRow.holds Try.pinned (OpenSpec.upto primBackSpec)

/-- 'touchstonelaw10.PrimNames', WHERE WHAT IT READS IS OF BULK AT MOST 1048576: true; the input reads as it did. -/
def primNamesUptoRow : OpenClaim := { program := "ytocndkhgopjhhaa", sum := "30c390965b36595ea7aa7a4f5bef6fbdc60dfae4040660c507fe4eb0424463b4", func := "touchstone/touchstonelaw10.PrimNames", spec := "primNames", inPlace := ["internal/bytealg.IndexByteString", "internal/bytealg.IndexString"], unfollowed := true, recurses := true, named := ["internal/bytealg.MaxLen"], apart := false, narrowed := true }
def PrimNamesUptoSaid : Prop := primNamesUptoRow.holds Try.pinned (OpenSpec.upto primNamesSpec)

/-- 'touchstonelaw10.PrimRefused', WHERE WHAT IT READS IS OF BULK AT MOST 1048576: true; the input reads as it did. -/
def primRefusedUptoRow : OpenClaim := { program := "ytocndkhgopjhhaa", sum := "30c390965b36595ea7aa7a4f5bef6fbdc60dfae4040660c507fe4eb0424463b4", func := "touchstone/touchstonelaw10.PrimRefused", spec := "primRefused", inPlace := ["internal/bytealg.IndexByteString", "internal/bytealg.IndexString"], unfollowed := true, recurses := true, named := ["internal/bytealg.MaxLen"], loops := true, apart := false, narrowed := true }
def PrimRefusedUptoSaid : Prop := primRefusedUptoRow.holds Try.pinned (OpenSpec.upto primRefusedSpec)

/-- 'touchstonelaw28.StatePlays', WHERE WHAT IT READS IS OF BULK AT MOST 1048576: true; the input reads as it did. -/
def statePlaysUptoRow : OpenClaim := { program := "ytocndkhgopjhhaa", sum := "30c390965b36595ea7aa7a4f5bef6fbdc60dfae4040660c507fe4eb0424463b4", func := "touchstone/touchstonelaw28.StatePlays", spec := "statePlays", inPlace := ["internal/bytealg.IndexByteString", "internal/bytealg.IndexString"], unfollowed := true, recurses := true, named := ["internal/bytealg.MaxLen"], apart := false, narrowed := true }
def StatePlaysUptoSaid : Prop := statePlaysUptoRow.holds Try.pinned (OpenSpec.upto statePlaysSpec)

/-- 'touchstonelaw28.StateNames', WHERE WHAT IT READS IS OF BULK AT MOST 1048576: true; the input reads as it did. -/
def stateNamesUptoRow : OpenClaim := { program := "ytocndkhgopjhhaa", sum := "30c390965b36595ea7aa7a4f5bef6fbdc60dfae4040660c507fe4eb0424463b4", func := "touchstone/touchstonelaw28.StateNames", spec := "stateNames", inPlace := ["internal/bytealg.IndexByteString", "internal/bytealg.IndexString"], unfollowed := true, recurses := true, named := ["internal/bytealg.MaxLen"], apart := false, narrowed := true }
def StateNamesUptoSaid : Prop := stateNamesUptoRow.holds Try.pinned (OpenSpec.upto stateNamesSpec)

end Rows
end Go.Proofs.Ytocndkhgopjhhaa
