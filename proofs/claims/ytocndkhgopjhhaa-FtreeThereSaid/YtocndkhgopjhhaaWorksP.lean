/- The example of touchstonelaw07's works: what is told of it, reckoned. -/
import Derived.Test.YtocndkhgopjhhaaTreeB
namespace Go.Proofs.Ytocndkhgopjhhaa
open Go.RowKit

abbrev bA : ByteArray := { data := #[97] }
abbrev bB : ByteArray := { data := #[98] }
abbrev bD : ByteArray := { data := #[100] }
abbrev bE : ByteArray := { data := #[101] }
abbrev bQ : ByteArray := { data := #[113] }
abbrev bR : ByteArray := { data := #[114] }
abbrev bX : ByteArray := { data := #[120] }
abbrev bN : ByteArray := { data := #[] }
def nFile (s : ByteArray) : N := .mk 1 s [] []
def nDir (ns : List ByteArray) (ks : List N) : N := .mk 2 bN ns ks
/-- Does a directory without names stand at a place? -/
def emptyB (t : N) : Bool := decide (t.kind = 2) && decide (t.names.length = 0)
/-- the example -/
def exT : N := nDir [bA, bD] [nFile bX, nDir [bE] [nFile bN]]

theorem exT_may : exT.may = true := by decide +kernel
theorem exT_well : exT.well = true := by decide +kernel
theorem exT_1 : exT.kindAt [bD, bE] = 1 := by decide +kernel
theorem exT_2 : exT.kindAt [bA, bB] = 0 := by decide +kernel
def exU : N := exT.tmove [bA] [bD]
def exT1 : N := exT.tmove [bD] [bD, bX]
def exT2 : N := exT1.tdel [bD, bE]
def exT3 : N := exT2.tput [bQ, bR] (nFile bN)
theorem exU_well : exU.well = true := by decide +kernel
theorem exT1_well : exT1.well = true := by decide +kernel
theorem exT2_well : exT2.well = true := by decide +kernel
theorem exT3_well : exT3.well = true := by decide +kernel
theorem exU_1 : exU.kindAt [bA] = 0 := by decide +kernel
theorem exU_2 : ((exU.get [bD]).getD N.zero).text = bX := by decide +kernel
theorem exT_3 : emptyB ((exT3.get [bD]).getD N.zero) = true := by decide +kernel
theorem exT_4 : exT3.same (nDir [bA, bD] [nFile bX, nDir [] []]) = true := by decide +kernel
end Go.Proofs.Ytocndkhgopjhhaa
