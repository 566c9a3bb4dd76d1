/- What a value is, where its kind is known. -/
import Derived.Test.YtlinfpchnonbpaaGreatDoorEvSplit
namespace Go.Ev
def iv : Value → Int
  | .int _ n => n
  | _ => 0
def bv : Value → Bool
  | .bool b => b
  | _ => false
def fv : Value → Nat
  | .float _ b => b
  | _ => 0
def tv : Value → ByteArray
  | .string s => s
  | _ => ByteArray.empty
def cv : Value → Array Value
  | .agg c => c
  | _ => #[]
def ford (x y : Nat) : Option Ordering := Ieee.double.order x y
end Go.Ev
