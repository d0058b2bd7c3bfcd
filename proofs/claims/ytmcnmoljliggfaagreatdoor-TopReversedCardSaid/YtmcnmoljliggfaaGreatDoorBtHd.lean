import Derived.Lib.Hide
namespace Go.Proofs.YtmcnmoljliggfaaGreatDoor
theorem Hd {p : Prop} (h : p) : RowKit.Hid p := Lib.hid h
end Go.Proofs.YtmcnmoljliggfaaGreatDoor
