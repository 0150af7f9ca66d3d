/- Joined texts: Txt2. -/
import Derived.Test.YtdgfjpbjiccllaaGreatDoorTopAgain10
import Derived.Test.YtdgfjpbjiccllaaGreatDoorTopAgain11
namespace Go.Proofs.YtdgfjpbjiccllaaGreatDoor.D
open Go.RowKit
open YtdgfjpbjiccllaaGreatDoorW.PrintWords YtdgfjpbjiccllaaGreatDoorW.PrintLast YtdgfjpbjiccllaaGreatDoorW.PrintMore
open PTopLoads
set_option maxRecDepth 100000
def cTask : ByteArray := ⟨#[116, 97, 115, 107, 32]⟩
def cPeriod : ByteArray := ⟨#[32, 112, 101, 114, 105, 111, 100, 32]⟩
def cDeadline : ByteArray := ⟨#[32, 100, 101, 97, 100, 108, 105, 110, 101, 32]⟩
def cFixed : ByteArray := ⟨#[32, 102, 105, 120, 101, 100]⟩
def cFloat : ByteArray := ⟨#[32, 102, 108, 111, 97, 116, 32]⟩
def cThresh : ByteArray := ⟨#[32, 116, 104, 114, 101, 115, 104, 32]⟩
def cRegions : ByteArray := ⟨#[32, 114, 101, 103, 105, 111, 110, 115]⟩
def cEcb : ByteArray := ⟨#[101, 99, 98]⟩
def cUcb : ByteArray := ⟨#[117, 99, 98]⟩
def cSemi : ByteArray := ⟨#[59]⟩
def tk1 (x : S46) : ByteArray := ((((cTask ++ x.f0) ++ cPeriod) ++ digS x.f1.toNat) ++ cDeadline) ++ digS x.f2.toNat
def tk2 (x : S46) : ByteArray := if x.f3 = 0 then tk1 x ++ cFixed else if x.f3 = 1 then (tk1 x ++ cFloat) ++ digS x.f4.toNat else (tk1 x ++ cThresh) ++ digS x.f5.toNat
def tk4 (x : S46) : ByteArray := numsB (tk2 x ++ cRegions) (x.f6.map Int.toNat)
def taskB (x : S46) : ByteArray := ((tk4 x ++ setsB cEcb x.f7.toNat) ++ setsB cUcb x.f8.toNat) ++ cSemi
def textB (rel : Int) (L : List S46) : ByteArray := L.foldl (fun s x => (s ++ taskB x) ++ ⟨#[10]⟩) ((⟨#[114, 101, 108, 111, 97, 100, 32]⟩ ++ digS rel.toNat) ++ ⟨#[59, 10]⟩)
end Go.Proofs.YtdgfjpbjiccllaaGreatDoor.D
