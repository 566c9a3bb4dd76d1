/- ROMAN and ARABIC. -/
import Derived.Test.YtgfoocnnidhepaaGreatDoorBasA
namespace Go.Proofs.Bs
open Go.Ev Go.RowKit Ieee
set_option maxRecDepth 1000000
def rmnR_L0 : Prop := ∀ σ : Nat → Value,
 tI (σ 0) →
 0 ≤ iv (σ 0) →
 iv (σ 0) ≤ 3999 →
 tI (σ 1) →
 0 ≤ iv (σ 1) →
 iv (σ 1) ≤ 3 →
 iv (σ 1) = (iv (σ 0) : Int).tdiv (1000) →
 ¬ rptRPre [(vS #[77]),σ 1] →
    False
def rmnR_L1 : Prop := ∀ σ : Nat → Value,
 tI (σ 0) →
 0 ≤ iv (σ 0) →
 iv (σ 0) ≤ 3999 →
 tI (σ 1) →
 0 ≤ iv (σ 1) →
 iv (σ 1) ≤ 3 →
 tS (σ 2) →
 tB (σ 3) →
 iv (σ 1) = (iv (σ 0) : Int).tdiv (1000) →
 rptR [(vS #[77]),σ 1,σ 2] →
 IntKind.i64.max < (((((⟨#[]⟩ : ByteArray)).size + (tv (σ 2)).size : Nat)) : Int) →
    False
def rmnR_L2 : Prop := ∀ σ : Nat → Value,
 tI (σ 0) →
 0 ≤ iv (σ 0) →
 iv (σ 0) ≤ 3999 →
 tI (σ 1) →
 0 ≤ iv (σ 1) →
 iv (σ 1) ≤ 3 →
 tS (σ 2) →
 tS (σ 3) →
 tI (σ 4) →
 0 ≤ iv (σ 4) →
 iv (σ 4) ≤ 999 →
 tI (σ 5) →
 0 ≤ iv (σ 5) →
 iv (σ 5) ≤ 1 →
 iv (σ 1) = (iv (σ 0) : Int).tdiv (1000) →
 rptR [(vS #[77]),σ 1,σ 2] →
 tv (σ 3) = (⟨#[]⟩ : ByteArray) ++ tv (σ 2) →
 iv (σ 4) = (iv (σ 0) : Int).tmod (1000) →
 iv (σ 5) = (iv (σ 4) : Int).tdiv (900) →
 ¬ rptRPre [(vS #[67,77]),σ 5] →
    False
def rmnR_L3 : Prop := ∀ σ : Nat → Value,
 tI (σ 0) →
 0 ≤ iv (σ 0) →
 iv (σ 0) ≤ 3999 →
 tI (σ 1) →
 0 ≤ iv (σ 1) →
 iv (σ 1) ≤ 3 →
 tS (σ 2) →
 tS (σ 3) →
 tI (σ 4) →
 0 ≤ iv (σ 4) →
 iv (σ 4) ≤ 999 →
 tI (σ 5) →
 0 ≤ iv (σ 5) →
 iv (σ 5) ≤ 1 →
 tS (σ 6) →
 tB (σ 7) →
 iv (σ 1) = (iv (σ 0) : Int).tdiv (1000) →
 rptR [(vS #[77]),σ 1,σ 2] →
 tv (σ 3) = (⟨#[]⟩ : ByteArray) ++ tv (σ 2) →
 iv (σ 4) = (iv (σ 0) : Int).tmod (1000) →
 iv (σ 5) = (iv (σ 4) : Int).tdiv (900) →
 rptR [(vS #[67,77]),σ 5,σ 6] →
 IntKind.i64.max < ((((tv (σ 3)).size + (tv (σ 6)).size : Nat)) : Int) →
    False
def rmnR_L4 : Prop := ∀ σ : Nat → Value,
 tI (σ 0) →
 0 ≤ iv (σ 0) →
 iv (σ 0) ≤ 3999 →
 tI (σ 1) →
 0 ≤ iv (σ 1) →
 iv (σ 1) ≤ 3 →
 tS (σ 2) →
 tS (σ 3) →
 tI (σ 4) →
 0 ≤ iv (σ 4) →
 iv (σ 4) ≤ 999 →
 tI (σ 5) →
 0 ≤ iv (σ 5) →
 iv (σ 5) ≤ 1 →
 tS (σ 6) →
 tS (σ 7) →
 tI (σ 8) →
 0 ≤ iv (σ 8) →
 iv (σ 8) ≤ 899 →
 tI (σ 9) →
 0 ≤ iv (σ 9) →
 iv (σ 9) ≤ 1 →
 iv (σ 1) = (iv (σ 0) : Int).tdiv (1000) →
 rptR [(vS #[77]),σ 1,σ 2] →
 tv (σ 3) = (⟨#[]⟩ : ByteArray) ++ tv (σ 2) →
 iv (σ 4) = (iv (σ 0) : Int).tmod (1000) →
 iv (σ 5) = (iv (σ 4) : Int).tdiv (900) →
 rptR [(vS #[67,77]),σ 5,σ 6] →
 tv (σ 7) = tv (σ 3) ++ tv (σ 6) →
 iv (σ 8) = (iv (σ 4) : Int).tmod (900) →
 iv (σ 9) = (iv (σ 8) : Int).tdiv (500) →
 ¬ rptRPre [(vS #[68]),σ 9] →
    False
def rmnR_L5 : Prop := ∀ σ : Nat → Value,
 tI (σ 0) →
 0 ≤ iv (σ 0) →
 iv (σ 0) ≤ 3999 →
 tI (σ 1) →
 0 ≤ iv (σ 1) →
 iv (σ 1) ≤ 3 →
 tS (σ 2) →
 tS (σ 3) →
 tI (σ 4) →
 0 ≤ iv (σ 4) →
 iv (σ 4) ≤ 999 →
 tI (σ 5) →
 0 ≤ iv (σ 5) →
 iv (σ 5) ≤ 1 →
 tS (σ 6) →
 tS (σ 7) →
 tI (σ 8) →
 0 ≤ iv (σ 8) →
 iv (σ 8) ≤ 899 →
 tI (σ 9) →
 0 ≤ iv (σ 9) →
 iv (σ 9) ≤ 1 →
 tS (σ 10) →
 tB (σ 11) →
 iv (σ 1) = (iv (σ 0) : Int).tdiv (1000) →
 rptR [(vS #[77]),σ 1,σ 2] →
 tv (σ 3) = (⟨#[]⟩ : ByteArray) ++ tv (σ 2) →
 iv (σ 4) = (iv (σ 0) : Int).tmod (1000) →
 iv (σ 5) = (iv (σ 4) : Int).tdiv (900) →
 rptR [(vS #[67,77]),σ 5,σ 6] →
 tv (σ 7) = tv (σ 3) ++ tv (σ 6) →
 iv (σ 8) = (iv (σ 4) : Int).tmod (900) →
 iv (σ 9) = (iv (σ 8) : Int).tdiv (500) →
 rptR [(vS #[68]),σ 9,σ 10] →
 IntKind.i64.max < ((((tv (σ 7)).size + (tv (σ 10)).size : Nat)) : Int) →
    False
def rmnR_L6 : Prop := ∀ σ : Nat → Value,
 tI (σ 0) →
 0 ≤ iv (σ 0) →
 iv (σ 0) ≤ 3999 →
 tI (σ 1) →
 0 ≤ iv (σ 1) →
 iv (σ 1) ≤ 3 →
 tS (σ 2) →
 tS (σ 3) →
 tI (σ 4) →
 0 ≤ iv (σ 4) →
 iv (σ 4) ≤ 999 →
 tI (σ 5) →
 0 ≤ iv (σ 5) →
 iv (σ 5) ≤ 1 →
 tS (σ 6) →
 tS (σ 7) →
 tI (σ 8) →
 0 ≤ iv (σ 8) →
 iv (σ 8) ≤ 899 →
 tI (σ 9) →
 0 ≤ iv (σ 9) →
 iv (σ 9) ≤ 1 →
 tS (σ 10) →
 tS (σ 11) →
 tI (σ 12) →
 0 ≤ iv (σ 12) →
 iv (σ 12) ≤ 499 →
 tI (σ 13) →
 0 ≤ iv (σ 13) →
 iv (σ 13) ≤ 1 →
 iv (σ 1) = (iv (σ 0) : Int).tdiv (1000) →
 rptR [(vS #[77]),σ 1,σ 2] →
 tv (σ 3) = (⟨#[]⟩ : ByteArray) ++ tv (σ 2) →
 iv (σ 4) = (iv (σ 0) : Int).tmod (1000) →
 iv (σ 5) = (iv (σ 4) : Int).tdiv (900) →
 rptR [(vS #[67,77]),σ 5,σ 6] →
 tv (σ 7) = tv (σ 3) ++ tv (σ 6) →
 iv (σ 8) = (iv (σ 4) : Int).tmod (900) →
 iv (σ 9) = (iv (σ 8) : Int).tdiv (500) →
 rptR [(vS #[68]),σ 9,σ 10] →
 tv (σ 11) = tv (σ 7) ++ tv (σ 10) →
 iv (σ 12) = (iv (σ 8) : Int).tmod (500) →
 iv (σ 13) = (iv (σ 12) : Int).tdiv (400) →
 ¬ rptRPre [(vS #[67,68]),σ 13] →
    False
def rmnR_L7 : Prop := ∀ σ : Nat → Value,
 tI (σ 0) →
 0 ≤ iv (σ 0) →
 iv (σ 0) ≤ 3999 →
 tI (σ 1) →
 0 ≤ iv (σ 1) →
 iv (σ 1) ≤ 3 →
 tS (σ 2) →
 tS (σ 3) →
 tI (σ 4) →
 0 ≤ iv (σ 4) →
 iv (σ 4) ≤ 999 →
 tI (σ 5) →
 0 ≤ iv (σ 5) →
 iv (σ 5) ≤ 1 →
 tS (σ 6) →
 tS (σ 7) →
 tI (σ 8) →
 0 ≤ iv (σ 8) →
 iv (σ 8) ≤ 899 →
 tI (σ 9) →
 0 ≤ iv (σ 9) →
 iv (σ 9) ≤ 1 →
 tS (σ 10) →
 tS (σ 11) →
 tI (σ 12) →
 0 ≤ iv (σ 12) →
 iv (σ 12) ≤ 499 →
 tI (σ 13) →
 0 ≤ iv (σ 13) →
 iv (σ 13) ≤ 1 →
 tS (σ 14) →
 tB (σ 15) →
 iv (σ 1) = (iv (σ 0) : Int).tdiv (1000) →
 rptR [(vS #[77]),σ 1,σ 2] →
 tv (σ 3) = (⟨#[]⟩ : ByteArray) ++ tv (σ 2) →
 iv (σ 4) = (iv (σ 0) : Int).tmod (1000) →
 iv (σ 5) = (iv (σ 4) : Int).tdiv (900) →
 rptR [(vS #[67,77]),σ 5,σ 6] →
 tv (σ 7) = tv (σ 3) ++ tv (σ 6) →
 iv (σ 8) = (iv (σ 4) : Int).tmod (900) →
 iv (σ 9) = (iv (σ 8) : Int).tdiv (500) →
 rptR [(vS #[68]),σ 9,σ 10] →
 tv (σ 11) = tv (σ 7) ++ tv (σ 10) →
 iv (σ 12) = (iv (σ 8) : Int).tmod (500) →
 iv (σ 13) = (iv (σ 12) : Int).tdiv (400) →
 rptR [(vS #[67,68]),σ 13,σ 14] →
 IntKind.i64.max < ((((tv (σ 11)).size + (tv (σ 14)).size : Nat)) : Int) →
    False
def rmnR_L8 : Prop := ∀ σ : Nat → Value,
 tI (σ 0) →
 0 ≤ iv (σ 0) →
 iv (σ 0) ≤ 3999 →
 tI (σ 1) →
 0 ≤ iv (σ 1) →
 iv (σ 1) ≤ 3 →
 tS (σ 2) →
 tS (σ 3) →
 tI (σ 4) →
 0 ≤ iv (σ 4) →
 iv (σ 4) ≤ 999 →
 tI (σ 5) →
 0 ≤ iv (σ 5) →
 iv (σ 5) ≤ 1 →
 tS (σ 6) →
 tS (σ 7) →
 tI (σ 8) →
 0 ≤ iv (σ 8) →
 iv (σ 8) ≤ 899 →
 tI (σ 9) →
 0 ≤ iv (σ 9) →
 iv (σ 9) ≤ 1 →
 tS (σ 10) →
 tS (σ 11) →
 tI (σ 12) →
 0 ≤ iv (σ 12) →
 iv (σ 12) ≤ 499 →
 tI (σ 13) →
 0 ≤ iv (σ 13) →
 iv (σ 13) ≤ 1 →
 tS (σ 14) →
 tS (σ 15) →
 tI (σ 16) →
 0 ≤ iv (σ 16) →
 iv (σ 16) ≤ 399 →
 tI (σ 17) →
 0 ≤ iv (σ 17) →
 iv (σ 17) ≤ 3 →
 iv (σ 1) = (iv (σ 0) : Int).tdiv (1000) →
 rptR [(vS #[77]),σ 1,σ 2] →
 tv (σ 3) = (⟨#[]⟩ : ByteArray) ++ tv (σ 2) →
 iv (σ 4) = (iv (σ 0) : Int).tmod (1000) →
 iv (σ 5) = (iv (σ 4) : Int).tdiv (900) →
 rptR [(vS #[67,77]),σ 5,σ 6] →
 tv (σ 7) = tv (σ 3) ++ tv (σ 6) →
 iv (σ 8) = (iv (σ 4) : Int).tmod (900) →
 iv (σ 9) = (iv (σ 8) : Int).tdiv (500) →
 rptR [(vS #[68]),σ 9,σ 10] →
 tv (σ 11) = tv (σ 7) ++ tv (σ 10) →
 iv (σ 12) = (iv (σ 8) : Int).tmod (500) →
 iv (σ 13) = (iv (σ 12) : Int).tdiv (400) →
 rptR [(vS #[67,68]),σ 13,σ 14] →
 tv (σ 15) = tv (σ 11) ++ tv (σ 14) →
 iv (σ 16) = (iv (σ 12) : Int).tmod (400) →
 iv (σ 17) = (iv (σ 16) : Int).tdiv (100) →
 ¬ rptRPre [(vS #[67]),σ 17] →
    False
def rmnR_L9 : Prop := ∀ σ : Nat → Value,
 tI (σ 0) →
 0 ≤ iv (σ 0) →
 iv (σ 0) ≤ 3999 →
 tI (σ 1) →
 0 ≤ iv (σ 1) →
 iv (σ 1) ≤ 3 →
 tS (σ 2) →
 tS (σ 3) →
 tI (σ 4) →
 0 ≤ iv (σ 4) →
 iv (σ 4) ≤ 999 →
 tI (σ 5) →
 0 ≤ iv (σ 5) →
 iv (σ 5) ≤ 1 →
 tS (σ 6) →
 tS (σ 7) →
 tI (σ 8) →
 0 ≤ iv (σ 8) →
 iv (σ 8) ≤ 899 →
 tI (σ 9) →
 0 ≤ iv (σ 9) →
 iv (σ 9) ≤ 1 →
 tS (σ 10) →
 tS (σ 11) →
 tI (σ 12) →
 0 ≤ iv (σ 12) →
 iv (σ 12) ≤ 499 →
 tI (σ 13) →
 0 ≤ iv (σ 13) →
 iv (σ 13) ≤ 1 →
 tS (σ 14) →
 tS (σ 15) →
 tI (σ 16) →
 0 ≤ iv (σ 16) →
 iv (σ 16) ≤ 399 →
 tI (σ 17) →
 0 ≤ iv (σ 17) →
 iv (σ 17) ≤ 3 →
 tS (σ 18) →
 tB (σ 19) →
 iv (σ 1) = (iv (σ 0) : Int).tdiv (1000) →
 rptR [(vS #[77]),σ 1,σ 2] →
 tv (σ 3) = (⟨#[]⟩ : ByteArray) ++ tv (σ 2) →
 iv (σ 4) = (iv (σ 0) : Int).tmod (1000) →
 iv (σ 5) = (iv (σ 4) : Int).tdiv (900) →
 rptR [(vS #[67,77]),σ 5,σ 6] →
 tv (σ 7) = tv (σ 3) ++ tv (σ 6) →
 iv (σ 8) = (iv (σ 4) : Int).tmod (900) →
 iv (σ 9) = (iv (σ 8) : Int).tdiv (500) →
 rptR [(vS #[68]),σ 9,σ 10] →
 tv (σ 11) = tv (σ 7) ++ tv (σ 10) →
 iv (σ 12) = (iv (σ 8) : Int).tmod (500) →
 iv (σ 13) = (iv (σ 12) : Int).tdiv (400) →
 rptR [(vS #[67,68]),σ 13,σ 14] →
 tv (σ 15) = tv (σ 11) ++ tv (σ 14) →
 iv (σ 16) = (iv (σ 12) : Int).tmod (400) →
 iv (σ 17) = (iv (σ 16) : Int).tdiv (100) →
 rptR [(vS #[67]),σ 17,σ 18] →
 IntKind.i64.max < ((((tv (σ 15)).size + (tv (σ 18)).size : Nat)) : Int) →
    False
def rmnR_L10 : Prop := ∀ σ : Nat → Value,
 tI (σ 0) →
 0 ≤ iv (σ 0) →
 iv (σ 0) ≤ 3999 →
 tI (σ 1) →
 0 ≤ iv (σ 1) →
 iv (σ 1) ≤ 3 →
 tS (σ 2) →
 tS (σ 3) →
 tI (σ 4) →
 0 ≤ iv (σ 4) →
 iv (σ 4) ≤ 999 →
 tI (σ 5) →
 0 ≤ iv (σ 5) →
 iv (σ 5) ≤ 1 →
 tS (σ 6) →
 tS (σ 7) →
 tI (σ 8) →
 0 ≤ iv (σ 8) →
 iv (σ 8) ≤ 899 →
 tI (σ 9) →
 0 ≤ iv (σ 9) →
 iv (σ 9) ≤ 1 →
 tS (σ 10) →
 tS (σ 11) →
 tI (σ 12) →
 0 ≤ iv (σ 12) →
 iv (σ 12) ≤ 499 →
 tI (σ 13) →
 0 ≤ iv (σ 13) →
 iv (σ 13) ≤ 1 →
 tS (σ 14) →
 tS (σ 15) →
 tI (σ 16) →
 0 ≤ iv (σ 16) →
 iv (σ 16) ≤ 399 →
 tI (σ 17) →
 0 ≤ iv (σ 17) →
 iv (σ 17) ≤ 3 →
 tS (σ 18) →
 tS (σ 19) →
 tI (σ 20) →
 0 ≤ iv (σ 20) →
 iv (σ 20) ≤ 99 →
 tI (σ 21) →
 0 ≤ iv (σ 21) →
 iv (σ 21) ≤ 1 →
 iv (σ 1) = (iv (σ 0) : Int).tdiv (1000) →
 rptR [(vS #[77]),σ 1,σ 2] →
 tv (σ 3) = (⟨#[]⟩ : ByteArray) ++ tv (σ 2) →
 iv (σ 4) = (iv (σ 0) : Int).tmod (1000) →
 iv (σ 5) = (iv (σ 4) : Int).tdiv (900) →
 rptR [(vS #[67,77]),σ 5,σ 6] →
 tv (σ 7) = tv (σ 3) ++ tv (σ 6) →
 iv (σ 8) = (iv (σ 4) : Int).tmod (900) →
 iv (σ 9) = (iv (σ 8) : Int).tdiv (500) →
 rptR [(vS #[68]),σ 9,σ 10] →
 tv (σ 11) = tv (σ 7) ++ tv (σ 10) →
 iv (σ 12) = (iv (σ 8) : Int).tmod (500) →
 iv (σ 13) = (iv (σ 12) : Int).tdiv (400) →
 rptR [(vS #[67,68]),σ 13,σ 14] →
 tv (σ 15) = tv (σ 11) ++ tv (σ 14) →
 iv (σ 16) = (iv (σ 12) : Int).tmod (400) →
 iv (σ 17) = (iv (σ 16) : Int).tdiv (100) →
 rptR [(vS #[67]),σ 17,σ 18] →
 tv (σ 19) = tv (σ 15) ++ tv (σ 18) →
 iv (σ 20) = (iv (σ 16) : Int).tmod (100) →
 iv (σ 21) = (iv (σ 20) : Int).tdiv (90) →
 ¬ rptRPre [(vS #[88,67]),σ 21] →
    False
def rmnR_L11 : Prop := ∀ σ : Nat → Value,
 tI (σ 0) →
 0 ≤ iv (σ 0) →
 iv (σ 0) ≤ 3999 →
 tI (σ 1) →
 0 ≤ iv (σ 1) →
 iv (σ 1) ≤ 3 →
 tS (σ 2) →
 tS (σ 3) →
 tI (σ 4) →
 0 ≤ iv (σ 4) →
 iv (σ 4) ≤ 999 →
 tI (σ 5) →
 0 ≤ iv (σ 5) →
 iv (σ 5) ≤ 1 →
 tS (σ 6) →
 tS (σ 7) →
 tI (σ 8) →
 0 ≤ iv (σ 8) →
 iv (σ 8) ≤ 899 →
 tI (σ 9) →
 0 ≤ iv (σ 9) →
 iv (σ 9) ≤ 1 →
 tS (σ 10) →
 tS (σ 11) →
 tI (σ 12) →
 0 ≤ iv (σ 12) →
 iv (σ 12) ≤ 499 →
 tI (σ 13) →
 0 ≤ iv (σ 13) →
 iv (σ 13) ≤ 1 →
 tS (σ 14) →
 tS (σ 15) →
 tI (σ 16) →
 0 ≤ iv (σ 16) →
 iv (σ 16) ≤ 399 →
 tI (σ 17) →
 0 ≤ iv (σ 17) →
 iv (σ 17) ≤ 3 →
 tS (σ 18) →
 tS (σ 19) →
 tI (σ 20) →
 0 ≤ iv (σ 20) →
 iv (σ 20) ≤ 99 →
 tI (σ 21) →
 0 ≤ iv (σ 21) →
 iv (σ 21) ≤ 1 →
 tS (σ 22) →
 tB (σ 23) →
 iv (σ 1) = (iv (σ 0) : Int).tdiv (1000) →
 rptR [(vS #[77]),σ 1,σ 2] →
 tv (σ 3) = (⟨#[]⟩ : ByteArray) ++ tv (σ 2) →
 iv (σ 4) = (iv (σ 0) : Int).tmod (1000) →
 iv (σ 5) = (iv (σ 4) : Int).tdiv (900) →
 rptR [(vS #[67,77]),σ 5,σ 6] →
 tv (σ 7) = tv (σ 3) ++ tv (σ 6) →
 iv (σ 8) = (iv (σ 4) : Int).tmod (900) →
 iv (σ 9) = (iv (σ 8) : Int).tdiv (500) →
 rptR [(vS #[68]),σ 9,σ 10] →
 tv (σ 11) = tv (σ 7) ++ tv (σ 10) →
 iv (σ 12) = (iv (σ 8) : Int).tmod (500) →
 iv (σ 13) = (iv (σ 12) : Int).tdiv (400) →
 rptR [(vS #[67,68]),σ 13,σ 14] →
 tv (σ 15) = tv (σ 11) ++ tv (σ 14) →
 iv (σ 16) = (iv (σ 12) : Int).tmod (400) →
 iv (σ 17) = (iv (σ 16) : Int).tdiv (100) →
 rptR [(vS #[67]),σ 17,σ 18] →
 tv (σ 19) = tv (σ 15) ++ tv (σ 18) →
 iv (σ 20) = (iv (σ 16) : Int).tmod (100) →
 iv (σ 21) = (iv (σ 20) : Int).tdiv (90) →
 rptR [(vS #[88,67]),σ 21,σ 22] →
 IntKind.i64.max < ((((tv (σ 19)).size + (tv (σ 22)).size : Nat)) : Int) →
    False
def rmnR_L12 : Prop := ∀ σ : Nat → Value,
 tI (σ 0) →
 0 ≤ iv (σ 0) →
 iv (σ 0) ≤ 3999 →
 tI (σ 1) →
 0 ≤ iv (σ 1) →
 iv (σ 1) ≤ 3 →
 tS (σ 2) →
 tS (σ 3) →
 tI (σ 4) →
 0 ≤ iv (σ 4) →
 iv (σ 4) ≤ 999 →
 tI (σ 5) →
 0 ≤ iv (σ 5) →
 iv (σ 5) ≤ 1 →
 tS (σ 6) →
 tS (σ 7) →
 tI (σ 8) →
 0 ≤ iv (σ 8) →
 iv (σ 8) ≤ 899 →
 tI (σ 9) →
 0 ≤ iv (σ 9) →
 iv (σ 9) ≤ 1 →
 tS (σ 10) →
 tS (σ 11) →
 tI (σ 12) →
 0 ≤ iv (σ 12) →
 iv (σ 12) ≤ 499 →
 tI (σ 13) →
 0 ≤ iv (σ 13) →
 iv (σ 13) ≤ 1 →
 tS (σ 14) →
 tS (σ 15) →
 tI (σ 16) →
 0 ≤ iv (σ 16) →
 iv (σ 16) ≤ 399 →
 tI (σ 17) →
 0 ≤ iv (σ 17) →
 iv (σ 17) ≤ 3 →
 tS (σ 18) →
 tS (σ 19) →
 tI (σ 20) →
 0 ≤ iv (σ 20) →
 iv (σ 20) ≤ 99 →
 tI (σ 21) →
 0 ≤ iv (σ 21) →
 iv (σ 21) ≤ 1 →
 tS (σ 22) →
 tS (σ 23) →
 tI (σ 24) →
 0 ≤ iv (σ 24) →
 iv (σ 24) ≤ 89 →
 tI (σ 25) →
 0 ≤ iv (σ 25) →
 iv (σ 25) ≤ 1 →
 iv (σ 1) = (iv (σ 0) : Int).tdiv (1000) →
 rptR [(vS #[77]),σ 1,σ 2] →
 tv (σ 3) = (⟨#[]⟩ : ByteArray) ++ tv (σ 2) →
 iv (σ 4) = (iv (σ 0) : Int).tmod (1000) →
 iv (σ 5) = (iv (σ 4) : Int).tdiv (900) →
 rptR [(vS #[67,77]),σ 5,σ 6] →
 tv (σ 7) = tv (σ 3) ++ tv (σ 6) →
 iv (σ 8) = (iv (σ 4) : Int).tmod (900) →
 iv (σ 9) = (iv (σ 8) : Int).tdiv (500) →
 rptR [(vS #[68]),σ 9,σ 10] →
 tv (σ 11) = tv (σ 7) ++ tv (σ 10) →
 iv (σ 12) = (iv (σ 8) : Int).tmod (500) →
 iv (σ 13) = (iv (σ 12) : Int).tdiv (400) →
 rptR [(vS #[67,68]),σ 13,σ 14] →
 tv (σ 15) = tv (σ 11) ++ tv (σ 14) →
 iv (σ 16) = (iv (σ 12) : Int).tmod (400) →
 iv (σ 17) = (iv (σ 16) : Int).tdiv (100) →
 rptR [(vS #[67]),σ 17,σ 18] →
 tv (σ 19) = tv (σ 15) ++ tv (σ 18) →
 iv (σ 20) = (iv (σ 16) : Int).tmod (100) →
 iv (σ 21) = (iv (σ 20) : Int).tdiv (90) →
 rptR [(vS #[88,67]),σ 21,σ 22] →
 tv (σ 23) = tv (σ 19) ++ tv (σ 22) →
 iv (σ 24) = (iv (σ 20) : Int).tmod (90) →
 iv (σ 25) = (iv (σ 24) : Int).tdiv (50) →
 ¬ rptRPre [(vS #[76]),σ 25] →
    False
def rmnR_L13 : Prop := ∀ σ : Nat → Value,
 tI (σ 0) →
 0 ≤ iv (σ 0) →
 iv (σ 0) ≤ 3999 →
 tI (σ 1) →
 0 ≤ iv (σ 1) →
 iv (σ 1) ≤ 3 →
 tS (σ 2) →
 tS (σ 3) →
 tI (σ 4) →
 0 ≤ iv (σ 4) →
 iv (σ 4) ≤ 999 →
 tI (σ 5) →
 0 ≤ iv (σ 5) →
 iv (σ 5) ≤ 1 →
 tS (σ 6) →
 tS (σ 7) →
 tI (σ 8) →
 0 ≤ iv (σ 8) →
 iv (σ 8) ≤ 899 →
 tI (σ 9) →
 0 ≤ iv (σ 9) →
 iv (σ 9) ≤ 1 →
 tS (σ 10) →
 tS (σ 11) →
 tI (σ 12) →
 0 ≤ iv (σ 12) →
 iv (σ 12) ≤ 499 →
 tI (σ 13) →
 0 ≤ iv (σ 13) →
 iv (σ 13) ≤ 1 →
 tS (σ 14) →
 tS (σ 15) →
 tI (σ 16) →
 0 ≤ iv (σ 16) →
 iv (σ 16) ≤ 399 →
 tI (σ 17) →
 0 ≤ iv (σ 17) →
 iv (σ 17) ≤ 3 →
 tS (σ 18) →
 tS (σ 19) →
 tI (σ 20) →
 0 ≤ iv (σ 20) →
 iv (σ 20) ≤ 99 →
 tI (σ 21) →
 0 ≤ iv (σ 21) →
 iv (σ 21) ≤ 1 →
 tS (σ 22) →
 tS (σ 23) →
 tI (σ 24) →
 0 ≤ iv (σ 24) →
 iv (σ 24) ≤ 89 →
 tI (σ 25) →
 0 ≤ iv (σ 25) →
 iv (σ 25) ≤ 1 →
 tS (σ 26) →
 tB (σ 27) →
 iv (σ 1) = (iv (σ 0) : Int).tdiv (1000) →
 rptR [(vS #[77]),σ 1,σ 2] →
 tv (σ 3) = (⟨#[]⟩ : ByteArray) ++ tv (σ 2) →
 iv (σ 4) = (iv (σ 0) : Int).tmod (1000) →
 iv (σ 5) = (iv (σ 4) : Int).tdiv (900) →
 rptR [(vS #[67,77]),σ 5,σ 6] →
 tv (σ 7) = tv (σ 3) ++ tv (σ 6) →
 iv (σ 8) = (iv (σ 4) : Int).tmod (900) →
 iv (σ 9) = (iv (σ 8) : Int).tdiv (500) →
 rptR [(vS #[68]),σ 9,σ 10] →
 tv (σ 11) = tv (σ 7) ++ tv (σ 10) →
 iv (σ 12) = (iv (σ 8) : Int).tmod (500) →
 iv (σ 13) = (iv (σ 12) : Int).tdiv (400) →
 rptR [(vS #[67,68]),σ 13,σ 14] →
 tv (σ 15) = tv (σ 11) ++ tv (σ 14) →
 iv (σ 16) = (iv (σ 12) : Int).tmod (400) →
 iv (σ 17) = (iv (σ 16) : Int).tdiv (100) →
 rptR [(vS #[67]),σ 17,σ 18] →
 tv (σ 19) = tv (σ 15) ++ tv (σ 18) →
 iv (σ 20) = (iv (σ 16) : Int).tmod (100) →
 iv (σ 21) = (iv (σ 20) : Int).tdiv (90) →
 rptR [(vS #[88,67]),σ 21,σ 22] →
 tv (σ 23) = tv (σ 19) ++ tv (σ 22) →
 iv (σ 24) = (iv (σ 20) : Int).tmod (90) →
 iv (σ 25) = (iv (σ 24) : Int).tdiv (50) →
 rptR [(vS #[76]),σ 25,σ 26] →
 IntKind.i64.max < ((((tv (σ 23)).size + (tv (σ 26)).size : Nat)) : Int) →
    False
def rmnR_L14 : Prop := ∀ σ : Nat → Value,
 tI (σ 0) →
 0 ≤ iv (σ 0) →
 iv (σ 0) ≤ 3999 →
 tI (σ 1) →
 0 ≤ iv (σ 1) →
 iv (σ 1) ≤ 3 →
 tS (σ 2) →
 tS (σ 3) →
 tI (σ 4) →
 0 ≤ iv (σ 4) →
 iv (σ 4) ≤ 999 →
 tI (σ 5) →
 0 ≤ iv (σ 5) →
 iv (σ 5) ≤ 1 →
 tS (σ 6) →
 tS (σ 7) →
 tI (σ 8) →
 0 ≤ iv (σ 8) →
 iv (σ 8) ≤ 899 →
 tI (σ 9) →
 0 ≤ iv (σ 9) →
 iv (σ 9) ≤ 1 →
 tS (σ 10) →
 tS (σ 11) →
 tI (σ 12) →
 0 ≤ iv (σ 12) →
 iv (σ 12) ≤ 499 →
 tI (σ 13) →
 0 ≤ iv (σ 13) →
 iv (σ 13) ≤ 1 →
 tS (σ 14) →
 tS (σ 15) →
 tI (σ 16) →
 0 ≤ iv (σ 16) →
 iv (σ 16) ≤ 399 →
 tI (σ 17) →
 0 ≤ iv (σ 17) →
 iv (σ 17) ≤ 3 →
 tS (σ 18) →
 tS (σ 19) →
 tI (σ 20) →
 0 ≤ iv (σ 20) →
 iv (σ 20) ≤ 99 →
 tI (σ 21) →
 0 ≤ iv (σ 21) →
 iv (σ 21) ≤ 1 →
 tS (σ 22) →
 tS (σ 23) →
 tI (σ 24) →
 0 ≤ iv (σ 24) →
 iv (σ 24) ≤ 89 →
 tI (σ 25) →
 0 ≤ iv (σ 25) →
 iv (σ 25) ≤ 1 →
 tS (σ 26) →
 tS (σ 27) →
 tI (σ 28) →
 0 ≤ iv (σ 28) →
 iv (σ 28) ≤ 49 →
 tI (σ 29) →
 0 ≤ iv (σ 29) →
 iv (σ 29) ≤ 1 →
 iv (σ 1) = (iv (σ 0) : Int).tdiv (1000) →
 rptR [(vS #[77]),σ 1,σ 2] →
 tv (σ 3) = (⟨#[]⟩ : ByteArray) ++ tv (σ 2) →
 iv (σ 4) = (iv (σ 0) : Int).tmod (1000) →
 iv (σ 5) = (iv (σ 4) : Int).tdiv (900) →
 rptR [(vS #[67,77]),σ 5,σ 6] →
 tv (σ 7) = tv (σ 3) ++ tv (σ 6) →
 iv (σ 8) = (iv (σ 4) : Int).tmod (900) →
 iv (σ 9) = (iv (σ 8) : Int).tdiv (500) →
 rptR [(vS #[68]),σ 9,σ 10] →
 tv (σ 11) = tv (σ 7) ++ tv (σ 10) →
 iv (σ 12) = (iv (σ 8) : Int).tmod (500) →
 iv (σ 13) = (iv (σ 12) : Int).tdiv (400) →
 rptR [(vS #[67,68]),σ 13,σ 14] →
 tv (σ 15) = tv (σ 11) ++ tv (σ 14) →
 iv (σ 16) = (iv (σ 12) : Int).tmod (400) →
 iv (σ 17) = (iv (σ 16) : Int).tdiv (100) →
 rptR [(vS #[67]),σ 17,σ 18] →
 tv (σ 19) = tv (σ 15) ++ tv (σ 18) →
 iv (σ 20) = (iv (σ 16) : Int).tmod (100) →
 iv (σ 21) = (iv (σ 20) : Int).tdiv (90) →
 rptR [(vS #[88,67]),σ 21,σ 22] →
 tv (σ 23) = tv (σ 19) ++ tv (σ 22) →
 iv (σ 24) = (iv (σ 20) : Int).tmod (90) →
 iv (σ 25) = (iv (σ 24) : Int).tdiv (50) →
 rptR [(vS #[76]),σ 25,σ 26] →
 tv (σ 27) = tv (σ 23) ++ tv (σ 26) →
 iv (σ 28) = (iv (σ 24) : Int).tmod (50) →
 iv (σ 29) = (iv (σ 28) : Int).tdiv (40) →
 ¬ rptRPre [(vS #[88,76]),σ 29] →
    False
def rmnR_L15 : Prop := ∀ σ : Nat → Value,
 tI (σ 0) →
 0 ≤ iv (σ 0) →
 iv (σ 0) ≤ 3999 →
 tI (σ 1) →
 0 ≤ iv (σ 1) →
 iv (σ 1) ≤ 3 →
 tS (σ 2) →
 tS (σ 3) →
 tI (σ 4) →
 0 ≤ iv (σ 4) →
 iv (σ 4) ≤ 999 →
 tI (σ 5) →
 0 ≤ iv (σ 5) →
 iv (σ 5) ≤ 1 →
 tS (σ 6) →
 tS (σ 7) →
 tI (σ 8) →
 0 ≤ iv (σ 8) →
 iv (σ 8) ≤ 899 →
 tI (σ 9) →
 0 ≤ iv (σ 9) →
 iv (σ 9) ≤ 1 →
 tS (σ 10) →
 tS (σ 11) →
 tI (σ 12) →
 0 ≤ iv (σ 12) →
 iv (σ 12) ≤ 499 →
 tI (σ 13) →
 0 ≤ iv (σ 13) →
 iv (σ 13) ≤ 1 →
 tS (σ 14) →
 tS (σ 15) →
 tI (σ 16) →
 0 ≤ iv (σ 16) →
 iv (σ 16) ≤ 399 →
 tI (σ 17) →
 0 ≤ iv (σ 17) →
 iv (σ 17) ≤ 3 →
 tS (σ 18) →
 tS (σ 19) →
 tI (σ 20) →
 0 ≤ iv (σ 20) →
 iv (σ 20) ≤ 99 →
 tI (σ 21) →
 0 ≤ iv (σ 21) →
 iv (σ 21) ≤ 1 →
 tS (σ 22) →
 tS (σ 23) →
 tI (σ 24) →
 0 ≤ iv (σ 24) →
 iv (σ 24) ≤ 89 →
 tI (σ 25) →
 0 ≤ iv (σ 25) →
 iv (σ 25) ≤ 1 →
 tS (σ 26) →
 tS (σ 27) →
 tI (σ 28) →
 0 ≤ iv (σ 28) →
 iv (σ 28) ≤ 49 →
 tI (σ 29) →
 0 ≤ iv (σ 29) →
 iv (σ 29) ≤ 1 →
 tS (σ 30) →
 tB (σ 31) →
 iv (σ 1) = (iv (σ 0) : Int).tdiv (1000) →
 rptR [(vS #[77]),σ 1,σ 2] →
 tv (σ 3) = (⟨#[]⟩ : ByteArray) ++ tv (σ 2) →
 iv (σ 4) = (iv (σ 0) : Int).tmod (1000) →
 iv (σ 5) = (iv (σ 4) : Int).tdiv (900) →
 rptR [(vS #[67,77]),σ 5,σ 6] →
 tv (σ 7) = tv (σ 3) ++ tv (σ 6) →
 iv (σ 8) = (iv (σ 4) : Int).tmod (900) →
 iv (σ 9) = (iv (σ 8) : Int).tdiv (500) →
 rptR [(vS #[68]),σ 9,σ 10] →
 tv (σ 11) = tv (σ 7) ++ tv (σ 10) →
 iv (σ 12) = (iv (σ 8) : Int).tmod (500) →
 iv (σ 13) = (iv (σ 12) : Int).tdiv (400) →
 rptR [(vS #[67,68]),σ 13,σ 14] →
 tv (σ 15) = tv (σ 11) ++ tv (σ 14) →
 iv (σ 16) = (iv (σ 12) : Int).tmod (400) →
 iv (σ 17) = (iv (σ 16) : Int).tdiv (100) →
 rptR [(vS #[67]),σ 17,σ 18] →
 tv (σ 19) = tv (σ 15) ++ tv (σ 18) →
 iv (σ 20) = (iv (σ 16) : Int).tmod (100) →
 iv (σ 21) = (iv (σ 20) : Int).tdiv (90) →
 rptR [(vS #[88,67]),σ 21,σ 22] →
 tv (σ 23) = tv (σ 19) ++ tv (σ 22) →
 iv (σ 24) = (iv (σ 20) : Int).tmod (90) →
 iv (σ 25) = (iv (σ 24) : Int).tdiv (50) →
 rptR [(vS #[76]),σ 25,σ 26] →
 tv (σ 27) = tv (σ 23) ++ tv (σ 26) →
 iv (σ 28) = (iv (σ 24) : Int).tmod (50) →
 iv (σ 29) = (iv (σ 28) : Int).tdiv (40) →
 rptR [(vS #[88,76]),σ 29,σ 30] →
 IntKind.i64.max < ((((tv (σ 27)).size + (tv (σ 30)).size : Nat)) : Int) →
    False
def rmnR_L16 : Prop := ∀ σ : Nat → Value,
 tI (σ 0) →
 0 ≤ iv (σ 0) →
 iv (σ 0) ≤ 3999 →
 tI (σ 1) →
 0 ≤ iv (σ 1) →
 iv (σ 1) ≤ 3 →
 tS (σ 2) →
 tS (σ 3) →
 tI (σ 4) →
 0 ≤ iv (σ 4) →
 iv (σ 4) ≤ 999 →
 tI (σ 5) →
 0 ≤ iv (σ 5) →
 iv (σ 5) ≤ 1 →
 tS (σ 6) →
 tS (σ 7) →
 tI (σ 8) →
 0 ≤ iv (σ 8) →
 iv (σ 8) ≤ 899 →
 tI (σ 9) →
 0 ≤ iv (σ 9) →
 iv (σ 9) ≤ 1 →
 tS (σ 10) →
 tS (σ 11) →
 tI (σ 12) →
 0 ≤ iv (σ 12) →
 iv (σ 12) ≤ 499 →
 tI (σ 13) →
 0 ≤ iv (σ 13) →
 iv (σ 13) ≤ 1 →
 tS (σ 14) →
 tS (σ 15) →
 tI (σ 16) →
 0 ≤ iv (σ 16) →
 iv (σ 16) ≤ 399 →
 tI (σ 17) →
 0 ≤ iv (σ 17) →
 iv (σ 17) ≤ 3 →
 tS (σ 18) →
 tS (σ 19) →
 tI (σ 20) →
 0 ≤ iv (σ 20) →
 iv (σ 20) ≤ 99 →
 tI (σ 21) →
 0 ≤ iv (σ 21) →
 iv (σ 21) ≤ 1 →
 tS (σ 22) →
 tS (σ 23) →
 tI (σ 24) →
 0 ≤ iv (σ 24) →
 iv (σ 24) ≤ 89 →
 tI (σ 25) →
 0 ≤ iv (σ 25) →
 iv (σ 25) ≤ 1 →
 tS (σ 26) →
 tS (σ 27) →
 tI (σ 28) →
 0 ≤ iv (σ 28) →
 iv (σ 28) ≤ 49 →
 tI (σ 29) →
 0 ≤ iv (σ 29) →
 iv (σ 29) ≤ 1 →
 tS (σ 30) →
 tS (σ 31) →
 tI (σ 32) →
 0 ≤ iv (σ 32) →
 iv (σ 32) ≤ 39 →
 tI (σ 33) →
 0 ≤ iv (σ 33) →
 iv (σ 33) ≤ 3 →
 iv (σ 1) = (iv (σ 0) : Int).tdiv (1000) →
 rptR [(vS #[77]),σ 1,σ 2] →
 tv (σ 3) = (⟨#[]⟩ : ByteArray) ++ tv (σ 2) →
 iv (σ 4) = (iv (σ 0) : Int).tmod (1000) →
 iv (σ 5) = (iv (σ 4) : Int).tdiv (900) →
 rptR [(vS #[67,77]),σ 5,σ 6] →
 tv (σ 7) = tv (σ 3) ++ tv (σ 6) →
 iv (σ 8) = (iv (σ 4) : Int).tmod (900) →
 iv (σ 9) = (iv (σ 8) : Int).tdiv (500) →
 rptR [(vS #[68]),σ 9,σ 10] →
 tv (σ 11) = tv (σ 7) ++ tv (σ 10) →
 iv (σ 12) = (iv (σ 8) : Int).tmod (500) →
 iv (σ 13) = (iv (σ 12) : Int).tdiv (400) →
 rptR [(vS #[67,68]),σ 13,σ 14] →
 tv (σ 15) = tv (σ 11) ++ tv (σ 14) →
 iv (σ 16) = (iv (σ 12) : Int).tmod (400) →
 iv (σ 17) = (iv (σ 16) : Int).tdiv (100) →
 rptR [(vS #[67]),σ 17,σ 18] →
 tv (σ 19) = tv (σ 15) ++ tv (σ 18) →
 iv (σ 20) = (iv (σ 16) : Int).tmod (100) →
 iv (σ 21) = (iv (σ 20) : Int).tdiv (90) →
 rptR [(vS #[88,67]),σ 21,σ 22] →
 tv (σ 23) = tv (σ 19) ++ tv (σ 22) →
 iv (σ 24) = (iv (σ 20) : Int).tmod (90) →
 iv (σ 25) = (iv (σ 24) : Int).tdiv (50) →
 rptR [(vS #[76]),σ 25,σ 26] →
 tv (σ 27) = tv (σ 23) ++ tv (σ 26) →
 iv (σ 28) = (iv (σ 24) : Int).tmod (50) →
 iv (σ 29) = (iv (σ 28) : Int).tdiv (40) →
 rptR [(vS #[88,76]),σ 29,σ 30] →
 tv (σ 31) = tv (σ 27) ++ tv (σ 30) →
 iv (σ 32) = (iv (σ 28) : Int).tmod (40) →
 iv (σ 33) = (iv (σ 32) : Int).tdiv (10) →
 ¬ rptRPre [(vS #[88]),σ 33] →
    False
def rmnR_L17 : Prop := ∀ σ : Nat → Value,
 tI (σ 0) →
 0 ≤ iv (σ 0) →
 iv (σ 0) ≤ 3999 →
 tI (σ 1) →
 0 ≤ iv (σ 1) →
 iv (σ 1) ≤ 3 →
 tS (σ 2) →
 tS (σ 3) →
 tI (σ 4) →
 0 ≤ iv (σ 4) →
 iv (σ 4) ≤ 999 →
 tI (σ 5) →
 0 ≤ iv (σ 5) →
 iv (σ 5) ≤ 1 →
 tS (σ 6) →
 tS (σ 7) →
 tI (σ 8) →
 0 ≤ iv (σ 8) →
 iv (σ 8) ≤ 899 →
 tI (σ 9) →
 0 ≤ iv (σ 9) →
 iv (σ 9) ≤ 1 →
 tS (σ 10) →
 tS (σ 11) →
 tI (σ 12) →
 0 ≤ iv (σ 12) →
 iv (σ 12) ≤ 499 →
 tI (σ 13) →
 0 ≤ iv (σ 13) →
 iv (σ 13) ≤ 1 →
 tS (σ 14) →
 tS (σ 15) →
 tI (σ 16) →
 0 ≤ iv (σ 16) →
 iv (σ 16) ≤ 399 →
 tI (σ 17) →
 0 ≤ iv (σ 17) →
 iv (σ 17) ≤ 3 →
 tS (σ 18) →
 tS (σ 19) →
 tI (σ 20) →
 0 ≤ iv (σ 20) →
 iv (σ 20) ≤ 99 →
 tI (σ 21) →
 0 ≤ iv (σ 21) →
 iv (σ 21) ≤ 1 →
 tS (σ 22) →
 tS (σ 23) →
 tI (σ 24) →
 0 ≤ iv (σ 24) →
 iv (σ 24) ≤ 89 →
 tI (σ 25) →
 0 ≤ iv (σ 25) →
 iv (σ 25) ≤ 1 →
 tS (σ 26) →
 tS (σ 27) →
 tI (σ 28) →
 0 ≤ iv (σ 28) →
 iv (σ 28) ≤ 49 →
 tI (σ 29) →
 0 ≤ iv (σ 29) →
 iv (σ 29) ≤ 1 →
 tS (σ 30) →
 tS (σ 31) →
 tI (σ 32) →
 0 ≤ iv (σ 32) →
 iv (σ 32) ≤ 39 →
 tI (σ 33) →
 0 ≤ iv (σ 33) →
 iv (σ 33) ≤ 3 →
 tS (σ 34) →
 tB (σ 35) →
 iv (σ 1) = (iv (σ 0) : Int).tdiv (1000) →
 rptR [(vS #[77]),σ 1,σ 2] →
 tv (σ 3) = (⟨#[]⟩ : ByteArray) ++ tv (σ 2) →
 iv (σ 4) = (iv (σ 0) : Int).tmod (1000) →
 iv (σ 5) = (iv (σ 4) : Int).tdiv (900) →
 rptR [(vS #[67,77]),σ 5,σ 6] →
 tv (σ 7) = tv (σ 3) ++ tv (σ 6) →
 iv (σ 8) = (iv (σ 4) : Int).tmod (900) →
 iv (σ 9) = (iv (σ 8) : Int).tdiv (500) →
 rptR [(vS #[68]),σ 9,σ 10] →
 tv (σ 11) = tv (σ 7) ++ tv (σ 10) →
 iv (σ 12) = (iv (σ 8) : Int).tmod (500) →
 iv (σ 13) = (iv (σ 12) : Int).tdiv (400) →
 rptR [(vS #[67,68]),σ 13,σ 14] →
 tv (σ 15) = tv (σ 11) ++ tv (σ 14) →
 iv (σ 16) = (iv (σ 12) : Int).tmod (400) →
 iv (σ 17) = (iv (σ 16) : Int).tdiv (100) →
 rptR [(vS #[67]),σ 17,σ 18] →
 tv (σ 19) = tv (σ 15) ++ tv (σ 18) →
 iv (σ 20) = (iv (σ 16) : Int).tmod (100) →
 iv (σ 21) = (iv (σ 20) : Int).tdiv (90) →
 rptR [(vS #[88,67]),σ 21,σ 22] →
 tv (σ 23) = tv (σ 19) ++ tv (σ 22) →
 iv (σ 24) = (iv (σ 20) : Int).tmod (90) →
 iv (σ 25) = (iv (σ 24) : Int).tdiv (50) →
 rptR [(vS #[76]),σ 25,σ 26] →
 tv (σ 27) = tv (σ 23) ++ tv (σ 26) →
 iv (σ 28) = (iv (σ 24) : Int).tmod (50) →
 iv (σ 29) = (iv (σ 28) : Int).tdiv (40) →
 rptR [(vS #[88,76]),σ 29,σ 30] →
 tv (σ 31) = tv (σ 27) ++ tv (σ 30) →
 iv (σ 32) = (iv (σ 28) : Int).tmod (40) →
 iv (σ 33) = (iv (σ 32) : Int).tdiv (10) →
 rptR [(vS #[88]),σ 33,σ 34] →
 IntKind.i64.max < ((((tv (σ 31)).size + (tv (σ 34)).size : Nat)) : Int) →
    False
def rmnR_L18 : Prop := ∀ σ : Nat → Value,
 tI (σ 0) →
 0 ≤ iv (σ 0) →
 iv (σ 0) ≤ 3999 →
 tI (σ 1) →
 0 ≤ iv (σ 1) →
 iv (σ 1) ≤ 3 →
 tS (σ 2) →
 tS (σ 3) →
 tI (σ 4) →
 0 ≤ iv (σ 4) →
 iv (σ 4) ≤ 999 →
 tI (σ 5) →
 0 ≤ iv (σ 5) →
 iv (σ 5) ≤ 1 →
 tS (σ 6) →
 tS (σ 7) →
 tI (σ 8) →
 0 ≤ iv (σ 8) →
 iv (σ 8) ≤ 899 →
 tI (σ 9) →
 0 ≤ iv (σ 9) →
 iv (σ 9) ≤ 1 →
 tS (σ 10) →
 tS (σ 11) →
 tI (σ 12) →
 0 ≤ iv (σ 12) →
 iv (σ 12) ≤ 499 →
 tI (σ 13) →
 0 ≤ iv (σ 13) →
 iv (σ 13) ≤ 1 →
 tS (σ 14) →
 tS (σ 15) →
 tI (σ 16) →
 0 ≤ iv (σ 16) →
 iv (σ 16) ≤ 399 →
 tI (σ 17) →
 0 ≤ iv (σ 17) →
 iv (σ 17) ≤ 3 →
 tS (σ 18) →
 tS (σ 19) →
 tI (σ 20) →
 0 ≤ iv (σ 20) →
 iv (σ 20) ≤ 99 →
 tI (σ 21) →
 0 ≤ iv (σ 21) →
 iv (σ 21) ≤ 1 →
 tS (σ 22) →
 tS (σ 23) →
 tI (σ 24) →
 0 ≤ iv (σ 24) →
 iv (σ 24) ≤ 89 →
 tI (σ 25) →
 0 ≤ iv (σ 25) →
 iv (σ 25) ≤ 1 →
 tS (σ 26) →
 tS (σ 27) →
 tI (σ 28) →
 0 ≤ iv (σ 28) →
 iv (σ 28) ≤ 49 →
 tI (σ 29) →
 0 ≤ iv (σ 29) →
 iv (σ 29) ≤ 1 →
 tS (σ 30) →
 tS (σ 31) →
 tI (σ 32) →
 0 ≤ iv (σ 32) →
 iv (σ 32) ≤ 39 →
 tI (σ 33) →
 0 ≤ iv (σ 33) →
 iv (σ 33) ≤ 3 →
 tS (σ 34) →
 tS (σ 35) →
 tI (σ 36) →
 0 ≤ iv (σ 36) →
 iv (σ 36) ≤ 9 →
 tI (σ 37) →
 0 ≤ iv (σ 37) →
 iv (σ 37) ≤ 1 →
 iv (σ 1) = (iv (σ 0) : Int).tdiv (1000) →
 rptR [(vS #[77]),σ 1,σ 2] →
 tv (σ 3) = (⟨#[]⟩ : ByteArray) ++ tv (σ 2) →
 iv (σ 4) = (iv (σ 0) : Int).tmod (1000) →
 iv (σ 5) = (iv (σ 4) : Int).tdiv (900) →
 rptR [(vS #[67,77]),σ 5,σ 6] →
 tv (σ 7) = tv (σ 3) ++ tv (σ 6) →
 iv (σ 8) = (iv (σ 4) : Int).tmod (900) →
 iv (σ 9) = (iv (σ 8) : Int).tdiv (500) →
 rptR [(vS #[68]),σ 9,σ 10] →
 tv (σ 11) = tv (σ 7) ++ tv (σ 10) →
 iv (σ 12) = (iv (σ 8) : Int).tmod (500) →
 iv (σ 13) = (iv (σ 12) : Int).tdiv (400) →
 rptR [(vS #[67,68]),σ 13,σ 14] →
 tv (σ 15) = tv (σ 11) ++ tv (σ 14) →
 iv (σ 16) = (iv (σ 12) : Int).tmod (400) →
 iv (σ 17) = (iv (σ 16) : Int).tdiv (100) →
 rptR [(vS #[67]),σ 17,σ 18] →
 tv (σ 19) = tv (σ 15) ++ tv (σ 18) →
 iv (σ 20) = (iv (σ 16) : Int).tmod (100) →
 iv (σ 21) = (iv (σ 20) : Int).tdiv (90) →
 rptR [(vS #[88,67]),σ 21,σ 22] →
 tv (σ 23) = tv (σ 19) ++ tv (σ 22) →
 iv (σ 24) = (iv (σ 20) : Int).tmod (90) →
 iv (σ 25) = (iv (σ 24) : Int).tdiv (50) →
 rptR [(vS #[76]),σ 25,σ 26] →
 tv (σ 27) = tv (σ 23) ++ tv (σ 26) →
 iv (σ 28) = (iv (σ 24) : Int).tmod (50) →
 iv (σ 29) = (iv (σ 28) : Int).tdiv (40) →
 rptR [(vS #[88,76]),σ 29,σ 30] →
 tv (σ 31) = tv (σ 27) ++ tv (σ 30) →
 iv (σ 32) = (iv (σ 28) : Int).tmod (40) →
 iv (σ 33) = (iv (σ 32) : Int).tdiv (10) →
 rptR [(vS #[88]),σ 33,σ 34] →
 tv (σ 35) = tv (σ 31) ++ tv (σ 34) →
 iv (σ 36) = (iv (σ 32) : Int).tmod (10) →
 iv (σ 37) = (iv (σ 36) : Int).tdiv (9) →
 ¬ rptRPre [(vS #[73,88]),σ 37] →
    False
def rmnR_L19 : Prop := ∀ σ : Nat → Value,
 tI (σ 0) →
 0 ≤ iv (σ 0) →
 iv (σ 0) ≤ 3999 →
 tI (σ 1) →
 0 ≤ iv (σ 1) →
 iv (σ 1) ≤ 3 →
 tS (σ 2) →
 tS (σ 3) →
 tI (σ 4) →
 0 ≤ iv (σ 4) →
 iv (σ 4) ≤ 999 →
 tI (σ 5) →
 0 ≤ iv (σ 5) →
 iv (σ 5) ≤ 1 →
 tS (σ 6) →
 tS (σ 7) →
 tI (σ 8) →
 0 ≤ iv (σ 8) →
 iv (σ 8) ≤ 899 →
 tI (σ 9) →
 0 ≤ iv (σ 9) →
 iv (σ 9) ≤ 1 →
 tS (σ 10) →
 tS (σ 11) →
 tI (σ 12) →
 0 ≤ iv (σ 12) →
 iv (σ 12) ≤ 499 →
 tI (σ 13) →
 0 ≤ iv (σ 13) →
 iv (σ 13) ≤ 1 →
 tS (σ 14) →
 tS (σ 15) →
 tI (σ 16) →
 0 ≤ iv (σ 16) →
 iv (σ 16) ≤ 399 →
 tI (σ 17) →
 0 ≤ iv (σ 17) →
 iv (σ 17) ≤ 3 →
 tS (σ 18) →
 tS (σ 19) →
 tI (σ 20) →
 0 ≤ iv (σ 20) →
 iv (σ 20) ≤ 99 →
 tI (σ 21) →
 0 ≤ iv (σ 21) →
 iv (σ 21) ≤ 1 →
 tS (σ 22) →
 tS (σ 23) →
 tI (σ 24) →
 0 ≤ iv (σ 24) →
 iv (σ 24) ≤ 89 →
 tI (σ 25) →
 0 ≤ iv (σ 25) →
 iv (σ 25) ≤ 1 →
 tS (σ 26) →
 tS (σ 27) →
 tI (σ 28) →
 0 ≤ iv (σ 28) →
 iv (σ 28) ≤ 49 →
 tI (σ 29) →
 0 ≤ iv (σ 29) →
 iv (σ 29) ≤ 1 →
 tS (σ 30) →
 tS (σ 31) →
 tI (σ 32) →
 0 ≤ iv (σ 32) →
 iv (σ 32) ≤ 39 →
 tI (σ 33) →
 0 ≤ iv (σ 33) →
 iv (σ 33) ≤ 3 →
 tS (σ 34) →
 tS (σ 35) →
 tI (σ 36) →
 0 ≤ iv (σ 36) →
 iv (σ 36) ≤ 9 →
 tI (σ 37) →
 0 ≤ iv (σ 37) →
 iv (σ 37) ≤ 1 →
 tS (σ 38) →
 tB (σ 39) →
 iv (σ 1) = (iv (σ 0) : Int).tdiv (1000) →
 rptR [(vS #[77]),σ 1,σ 2] →
 tv (σ 3) = (⟨#[]⟩ : ByteArray) ++ tv (σ 2) →
 iv (σ 4) = (iv (σ 0) : Int).tmod (1000) →
 iv (σ 5) = (iv (σ 4) : Int).tdiv (900) →
 rptR [(vS #[67,77]),σ 5,σ 6] →
 tv (σ 7) = tv (σ 3) ++ tv (σ 6) →
 iv (σ 8) = (iv (σ 4) : Int).tmod (900) →
 iv (σ 9) = (iv (σ 8) : Int).tdiv (500) →
 rptR [(vS #[68]),σ 9,σ 10] →
 tv (σ 11) = tv (σ 7) ++ tv (σ 10) →
 iv (σ 12) = (iv (σ 8) : Int).tmod (500) →
 iv (σ 13) = (iv (σ 12) : Int).tdiv (400) →
 rptR [(vS #[67,68]),σ 13,σ 14] →
 tv (σ 15) = tv (σ 11) ++ tv (σ 14) →
 iv (σ 16) = (iv (σ 12) : Int).tmod (400) →
 iv (σ 17) = (iv (σ 16) : Int).tdiv (100) →
 rptR [(vS #[67]),σ 17,σ 18] →
 tv (σ 19) = tv (σ 15) ++ tv (σ 18) →
 iv (σ 20) = (iv (σ 16) : Int).tmod (100) →
 iv (σ 21) = (iv (σ 20) : Int).tdiv (90) →
 rptR [(vS #[88,67]),σ 21,σ 22] →
 tv (σ 23) = tv (σ 19) ++ tv (σ 22) →
 iv (σ 24) = (iv (σ 20) : Int).tmod (90) →
 iv (σ 25) = (iv (σ 24) : Int).tdiv (50) →
 rptR [(vS #[76]),σ 25,σ 26] →
 tv (σ 27) = tv (σ 23) ++ tv (σ 26) →
 iv (σ 28) = (iv (σ 24) : Int).tmod (50) →
 iv (σ 29) = (iv (σ 28) : Int).tdiv (40) →
 rptR [(vS #[88,76]),σ 29,σ 30] →
 tv (σ 31) = tv (σ 27) ++ tv (σ 30) →
 iv (σ 32) = (iv (σ 28) : Int).tmod (40) →
 iv (σ 33) = (iv (σ 32) : Int).tdiv (10) →
 rptR [(vS #[88]),σ 33,σ 34] →
 tv (σ 35) = tv (σ 31) ++ tv (σ 34) →
 iv (σ 36) = (iv (σ 32) : Int).tmod (10) →
 iv (σ 37) = (iv (σ 36) : Int).tdiv (9) →
 rptR [(vS #[73,88]),σ 37,σ 38] →
 IntKind.i64.max < ((((tv (σ 35)).size + (tv (σ 38)).size : Nat)) : Int) →
    False
def rmnR_L20 : Prop := ∀ σ : Nat → Value,
 tI (σ 0) →
 0 ≤ iv (σ 0) →
 iv (σ 0) ≤ 3999 →
 tI (σ 1) →
 0 ≤ iv (σ 1) →
 iv (σ 1) ≤ 3 →
 tS (σ 2) →
 tS (σ 3) →
 tI (σ 4) →
 0 ≤ iv (σ 4) →
 iv (σ 4) ≤ 999 →
 tI (σ 5) →
 0 ≤ iv (σ 5) →
 iv (σ 5) ≤ 1 →
 tS (σ 6) →
 tS (σ 7) →
 tI (σ 8) →
 0 ≤ iv (σ 8) →
 iv (σ 8) ≤ 899 →
 tI (σ 9) →
 0 ≤ iv (σ 9) →
 iv (σ 9) ≤ 1 →
 tS (σ 10) →
 tS (σ 11) →
 tI (σ 12) →
 0 ≤ iv (σ 12) →
 iv (σ 12) ≤ 499 →
 tI (σ 13) →
 0 ≤ iv (σ 13) →
 iv (σ 13) ≤ 1 →
 tS (σ 14) →
 tS (σ 15) →
 tI (σ 16) →
 0 ≤ iv (σ 16) →
 iv (σ 16) ≤ 399 →
 tI (σ 17) →
 0 ≤ iv (σ 17) →
 iv (σ 17) ≤ 3 →
 tS (σ 18) →
 tS (σ 19) →
 tI (σ 20) →
 0 ≤ iv (σ 20) →
 iv (σ 20) ≤ 99 →
 tI (σ 21) →
 0 ≤ iv (σ 21) →
 iv (σ 21) ≤ 1 →
 tS (σ 22) →
 tS (σ 23) →
 tI (σ 24) →
 0 ≤ iv (σ 24) →
 iv (σ 24) ≤ 89 →
 tI (σ 25) →
 0 ≤ iv (σ 25) →
 iv (σ 25) ≤ 1 →
 tS (σ 26) →
 tS (σ 27) →
 tI (σ 28) →
 0 ≤ iv (σ 28) →
 iv (σ 28) ≤ 49 →
 tI (σ 29) →
 0 ≤ iv (σ 29) →
 iv (σ 29) ≤ 1 →
 tS (σ 30) →
 tS (σ 31) →
 tI (σ 32) →
 0 ≤ iv (σ 32) →
 iv (σ 32) ≤ 39 →
 tI (σ 33) →
 0 ≤ iv (σ 33) →
 iv (σ 33) ≤ 3 →
 tS (σ 34) →
 tS (σ 35) →
 tI (σ 36) →
 0 ≤ iv (σ 36) →
 iv (σ 36) ≤ 9 →
 tI (σ 37) →
 0 ≤ iv (σ 37) →
 iv (σ 37) ≤ 1 →
 tS (σ 38) →
 tS (σ 39) →
 tI (σ 40) →
 0 ≤ iv (σ 40) →
 iv (σ 40) ≤ 8 →
 tI (σ 41) →
 0 ≤ iv (σ 41) →
 iv (σ 41) ≤ 1 →
 iv (σ 1) = (iv (σ 0) : Int).tdiv (1000) →
 rptR [(vS #[77]),σ 1,σ 2] →
 tv (σ 3) = (⟨#[]⟩ : ByteArray) ++ tv (σ 2) →
 iv (σ 4) = (iv (σ 0) : Int).tmod (1000) →
 iv (σ 5) = (iv (σ 4) : Int).tdiv (900) →
 rptR [(vS #[67,77]),σ 5,σ 6] →
 tv (σ 7) = tv (σ 3) ++ tv (σ 6) →
 iv (σ 8) = (iv (σ 4) : Int).tmod (900) →
 iv (σ 9) = (iv (σ 8) : Int).tdiv (500) →
 rptR [(vS #[68]),σ 9,σ 10] →
 tv (σ 11) = tv (σ 7) ++ tv (σ 10) →
 iv (σ 12) = (iv (σ 8) : Int).tmod (500) →
 iv (σ 13) = (iv (σ 12) : Int).tdiv (400) →
 rptR [(vS #[67,68]),σ 13,σ 14] →
 tv (σ 15) = tv (σ 11) ++ tv (σ 14) →
 iv (σ 16) = (iv (σ 12) : Int).tmod (400) →
 iv (σ 17) = (iv (σ 16) : Int).tdiv (100) →
 rptR [(vS #[67]),σ 17,σ 18] →
 tv (σ 19) = tv (σ 15) ++ tv (σ 18) →
 iv (σ 20) = (iv (σ 16) : Int).tmod (100) →
 iv (σ 21) = (iv (σ 20) : Int).tdiv (90) →
 rptR [(vS #[88,67]),σ 21,σ 22] →
 tv (σ 23) = tv (σ 19) ++ tv (σ 22) →
 iv (σ 24) = (iv (σ 20) : Int).tmod (90) →
 iv (σ 25) = (iv (σ 24) : Int).tdiv (50) →
 rptR [(vS #[76]),σ 25,σ 26] →
 tv (σ 27) = tv (σ 23) ++ tv (σ 26) →
 iv (σ 28) = (iv (σ 24) : Int).tmod (50) →
 iv (σ 29) = (iv (σ 28) : Int).tdiv (40) →
 rptR [(vS #[88,76]),σ 29,σ 30] →
 tv (σ 31) = tv (σ 27) ++ tv (σ 30) →
 iv (σ 32) = (iv (σ 28) : Int).tmod (40) →
 iv (σ 33) = (iv (σ 32) : Int).tdiv (10) →
 rptR [(vS #[88]),σ 33,σ 34] →
 tv (σ 35) = tv (σ 31) ++ tv (σ 34) →
 iv (σ 36) = (iv (σ 32) : Int).tmod (10) →
 iv (σ 37) = (iv (σ 36) : Int).tdiv (9) →
 rptR [(vS #[73,88]),σ 37,σ 38] →
 tv (σ 39) = tv (σ 35) ++ tv (σ 38) →
 iv (σ 40) = (iv (σ 36) : Int).tmod (9) →
 iv (σ 41) = (iv (σ 40) : Int).tdiv (5) →
 ¬ rptRPre [(vS #[86]),σ 41] →
    False
def rmnR_L21 : Prop := ∀ σ : Nat → Value,
 tI (σ 0) →
 0 ≤ iv (σ 0) →
 iv (σ 0) ≤ 3999 →
 tI (σ 1) →
 0 ≤ iv (σ 1) →
 iv (σ 1) ≤ 3 →
 tS (σ 2) →
 tS (σ 3) →
 tI (σ 4) →
 0 ≤ iv (σ 4) →
 iv (σ 4) ≤ 999 →
 tI (σ 5) →
 0 ≤ iv (σ 5) →
 iv (σ 5) ≤ 1 →
 tS (σ 6) →
 tS (σ 7) →
 tI (σ 8) →
 0 ≤ iv (σ 8) →
 iv (σ 8) ≤ 899 →
 tI (σ 9) →
 0 ≤ iv (σ 9) →
 iv (σ 9) ≤ 1 →
 tS (σ 10) →
 tS (σ 11) →
 tI (σ 12) →
 0 ≤ iv (σ 12) →
 iv (σ 12) ≤ 499 →
 tI (σ 13) →
 0 ≤ iv (σ 13) →
 iv (σ 13) ≤ 1 →
 tS (σ 14) →
 tS (σ 15) →
 tI (σ 16) →
 0 ≤ iv (σ 16) →
 iv (σ 16) ≤ 399 →
 tI (σ 17) →
 0 ≤ iv (σ 17) →
 iv (σ 17) ≤ 3 →
 tS (σ 18) →
 tS (σ 19) →
 tI (σ 20) →
 0 ≤ iv (σ 20) →
 iv (σ 20) ≤ 99 →
 tI (σ 21) →
 0 ≤ iv (σ 21) →
 iv (σ 21) ≤ 1 →
 tS (σ 22) →
 tS (σ 23) →
 tI (σ 24) →
 0 ≤ iv (σ 24) →
 iv (σ 24) ≤ 89 →
 tI (σ 25) →
 0 ≤ iv (σ 25) →
 iv (σ 25) ≤ 1 →
 tS (σ 26) →
 tS (σ 27) →
 tI (σ 28) →
 0 ≤ iv (σ 28) →
 iv (σ 28) ≤ 49 →
 tI (σ 29) →
 0 ≤ iv (σ 29) →
 iv (σ 29) ≤ 1 →
 tS (σ 30) →
 tS (σ 31) →
 tI (σ 32) →
 0 ≤ iv (σ 32) →
 iv (σ 32) ≤ 39 →
 tI (σ 33) →
 0 ≤ iv (σ 33) →
 iv (σ 33) ≤ 3 →
 tS (σ 34) →
 tS (σ 35) →
 tI (σ 36) →
 0 ≤ iv (σ 36) →
 iv (σ 36) ≤ 9 →
 tI (σ 37) →
 0 ≤ iv (σ 37) →
 iv (σ 37) ≤ 1 →
 tS (σ 38) →
 tS (σ 39) →
 tI (σ 40) →
 0 ≤ iv (σ 40) →
 iv (σ 40) ≤ 8 →
 tI (σ 41) →
 0 ≤ iv (σ 41) →
 iv (σ 41) ≤ 1 →
 tS (σ 42) →
 tB (σ 43) →
 iv (σ 1) = (iv (σ 0) : Int).tdiv (1000) →
 rptR [(vS #[77]),σ 1,σ 2] →
 tv (σ 3) = (⟨#[]⟩ : ByteArray) ++ tv (σ 2) →
 iv (σ 4) = (iv (σ 0) : Int).tmod (1000) →
 iv (σ 5) = (iv (σ 4) : Int).tdiv (900) →
 rptR [(vS #[67,77]),σ 5,σ 6] →
 tv (σ 7) = tv (σ 3) ++ tv (σ 6) →
 iv (σ 8) = (iv (σ 4) : Int).tmod (900) →
 iv (σ 9) = (iv (σ 8) : Int).tdiv (500) →
 rptR [(vS #[68]),σ 9,σ 10] →
 tv (σ 11) = tv (σ 7) ++ tv (σ 10) →
 iv (σ 12) = (iv (σ 8) : Int).tmod (500) →
 iv (σ 13) = (iv (σ 12) : Int).tdiv (400) →
 rptR [(vS #[67,68]),σ 13,σ 14] →
 tv (σ 15) = tv (σ 11) ++ tv (σ 14) →
 iv (σ 16) = (iv (σ 12) : Int).tmod (400) →
 iv (σ 17) = (iv (σ 16) : Int).tdiv (100) →
 rptR [(vS #[67]),σ 17,σ 18] →
 tv (σ 19) = tv (σ 15) ++ tv (σ 18) →
 iv (σ 20) = (iv (σ 16) : Int).tmod (100) →
 iv (σ 21) = (iv (σ 20) : Int).tdiv (90) →
 rptR [(vS #[88,67]),σ 21,σ 22] →
 tv (σ 23) = tv (σ 19) ++ tv (σ 22) →
 iv (σ 24) = (iv (σ 20) : Int).tmod (90) →
 iv (σ 25) = (iv (σ 24) : Int).tdiv (50) →
 rptR [(vS #[76]),σ 25,σ 26] →
 tv (σ 27) = tv (σ 23) ++ tv (σ 26) →
 iv (σ 28) = (iv (σ 24) : Int).tmod (50) →
 iv (σ 29) = (iv (σ 28) : Int).tdiv (40) →
 rptR [(vS #[88,76]),σ 29,σ 30] →
 tv (σ 31) = tv (σ 27) ++ tv (σ 30) →
 iv (σ 32) = (iv (σ 28) : Int).tmod (40) →
 iv (σ 33) = (iv (σ 32) : Int).tdiv (10) →
 rptR [(vS #[88]),σ 33,σ 34] →
 tv (σ 35) = tv (σ 31) ++ tv (σ 34) →
 iv (σ 36) = (iv (σ 32) : Int).tmod (10) →
 iv (σ 37) = (iv (σ 36) : Int).tdiv (9) →
 rptR [(vS #[73,88]),σ 37,σ 38] →
 tv (σ 39) = tv (σ 35) ++ tv (σ 38) →
 iv (σ 40) = (iv (σ 36) : Int).tmod (9) →
 iv (σ 41) = (iv (σ 40) : Int).tdiv (5) →
 rptR [(vS #[86]),σ 41,σ 42] →
 IntKind.i64.max < ((((tv (σ 39)).size + (tv (σ 42)).size : Nat)) : Int) →
    False
def rmnR_L22 : Prop := ∀ σ : Nat → Value,
 tI (σ 0) →
 0 ≤ iv (σ 0) →
 iv (σ 0) ≤ 3999 →
 tI (σ 1) →
 0 ≤ iv (σ 1) →
 iv (σ 1) ≤ 3 →
 tS (σ 2) →
 tS (σ 3) →
 tI (σ 4) →
 0 ≤ iv (σ 4) →
 iv (σ 4) ≤ 999 →
 tI (σ 5) →
 0 ≤ iv (σ 5) →
 iv (σ 5) ≤ 1 →
 tS (σ 6) →
 tS (σ 7) →
 tI (σ 8) →
 0 ≤ iv (σ 8) →
 iv (σ 8) ≤ 899 →
 tI (σ 9) →
 0 ≤ iv (σ 9) →
 iv (σ 9) ≤ 1 →
 tS (σ 10) →
 tS (σ 11) →
 tI (σ 12) →
 0 ≤ iv (σ 12) →
 iv (σ 12) ≤ 499 →
 tI (σ 13) →
 0 ≤ iv (σ 13) →
 iv (σ 13) ≤ 1 →
 tS (σ 14) →
 tS (σ 15) →
 tI (σ 16) →
 0 ≤ iv (σ 16) →
 iv (σ 16) ≤ 399 →
 tI (σ 17) →
 0 ≤ iv (σ 17) →
 iv (σ 17) ≤ 3 →
 tS (σ 18) →
 tS (σ 19) →
 tI (σ 20) →
 0 ≤ iv (σ 20) →
 iv (σ 20) ≤ 99 →
 tI (σ 21) →
 0 ≤ iv (σ 21) →
 iv (σ 21) ≤ 1 →
 tS (σ 22) →
 tS (σ 23) →
 tI (σ 24) →
 0 ≤ iv (σ 24) →
 iv (σ 24) ≤ 89 →
 tI (σ 25) →
 0 ≤ iv (σ 25) →
 iv (σ 25) ≤ 1 →
 tS (σ 26) →
 tS (σ 27) →
 tI (σ 28) →
 0 ≤ iv (σ 28) →
 iv (σ 28) ≤ 49 →
 tI (σ 29) →
 0 ≤ iv (σ 29) →
 iv (σ 29) ≤ 1 →
 tS (σ 30) →
 tS (σ 31) →
 tI (σ 32) →
 0 ≤ iv (σ 32) →
 iv (σ 32) ≤ 39 →
 tI (σ 33) →
 0 ≤ iv (σ 33) →
 iv (σ 33) ≤ 3 →
 tS (σ 34) →
 tS (σ 35) →
 tI (σ 36) →
 0 ≤ iv (σ 36) →
 iv (σ 36) ≤ 9 →
 tI (σ 37) →
 0 ≤ iv (σ 37) →
 iv (σ 37) ≤ 1 →
 tS (σ 38) →
 tS (σ 39) →
 tI (σ 40) →
 0 ≤ iv (σ 40) →
 iv (σ 40) ≤ 8 →
 tI (σ 41) →
 0 ≤ iv (σ 41) →
 iv (σ 41) ≤ 1 →
 tS (σ 42) →
 tS (σ 43) →
 tI (σ 44) →
 0 ≤ iv (σ 44) →
 iv (σ 44) ≤ 4 →
 tI (σ 45) →
 0 ≤ iv (σ 45) →
 iv (σ 45) ≤ 1 →
 iv (σ 1) = (iv (σ 0) : Int).tdiv (1000) →
 rptR [(vS #[77]),σ 1,σ 2] →
 tv (σ 3) = (⟨#[]⟩ : ByteArray) ++ tv (σ 2) →
 iv (σ 4) = (iv (σ 0) : Int).tmod (1000) →
 iv (σ 5) = (iv (σ 4) : Int).tdiv (900) →
 rptR [(vS #[67,77]),σ 5,σ 6] →
 tv (σ 7) = tv (σ 3) ++ tv (σ 6) →
 iv (σ 8) = (iv (σ 4) : Int).tmod (900) →
 iv (σ 9) = (iv (σ 8) : Int).tdiv (500) →
 rptR [(vS #[68]),σ 9,σ 10] →
 tv (σ 11) = tv (σ 7) ++ tv (σ 10) →
 iv (σ 12) = (iv (σ 8) : Int).tmod (500) →
 iv (σ 13) = (iv (σ 12) : Int).tdiv (400) →
 rptR [(vS #[67,68]),σ 13,σ 14] →
 tv (σ 15) = tv (σ 11) ++ tv (σ 14) →
 iv (σ 16) = (iv (σ 12) : Int).tmod (400) →
 iv (σ 17) = (iv (σ 16) : Int).tdiv (100) →
 rptR [(vS #[67]),σ 17,σ 18] →
 tv (σ 19) = tv (σ 15) ++ tv (σ 18) →
 iv (σ 20) = (iv (σ 16) : Int).tmod (100) →
 iv (σ 21) = (iv (σ 20) : Int).tdiv (90) →
 rptR [(vS #[88,67]),σ 21,σ 22] →
 tv (σ 23) = tv (σ 19) ++ tv (σ 22) →
 iv (σ 24) = (iv (σ 20) : Int).tmod (90) →
 iv (σ 25) = (iv (σ 24) : Int).tdiv (50) →
 rptR [(vS #[76]),σ 25,σ 26] →
 tv (σ 27) = tv (σ 23) ++ tv (σ 26) →
 iv (σ 28) = (iv (σ 24) : Int).tmod (50) →
 iv (σ 29) = (iv (σ 28) : Int).tdiv (40) →
 rptR [(vS #[88,76]),σ 29,σ 30] →
 tv (σ 31) = tv (σ 27) ++ tv (σ 30) →
 iv (σ 32) = (iv (σ 28) : Int).tmod (40) →
 iv (σ 33) = (iv (σ 32) : Int).tdiv (10) →
 rptR [(vS #[88]),σ 33,σ 34] →
 tv (σ 35) = tv (σ 31) ++ tv (σ 34) →
 iv (σ 36) = (iv (σ 32) : Int).tmod (10) →
 iv (σ 37) = (iv (σ 36) : Int).tdiv (9) →
 rptR [(vS #[73,88]),σ 37,σ 38] →
 tv (σ 39) = tv (σ 35) ++ tv (σ 38) →
 iv (σ 40) = (iv (σ 36) : Int).tmod (9) →
 iv (σ 41) = (iv (σ 40) : Int).tdiv (5) →
 rptR [(vS #[86]),σ 41,σ 42] →
 tv (σ 43) = tv (σ 39) ++ tv (σ 42) →
 iv (σ 44) = (iv (σ 40) : Int).tmod (5) →
 iv (σ 45) = (iv (σ 44) : Int).tdiv (4) →
 ¬ rptRPre [(vS #[73,86]),σ 45] →
    False
def rmnR_L23 : Prop := ∀ σ : Nat → Value,
 tI (σ 0) →
 0 ≤ iv (σ 0) →
 iv (σ 0) ≤ 3999 →
 tI (σ 1) →
 0 ≤ iv (σ 1) →
 iv (σ 1) ≤ 3 →
 tS (σ 2) →
 tS (σ 3) →
 tI (σ 4) →
 0 ≤ iv (σ 4) →
 iv (σ 4) ≤ 999 →
 tI (σ 5) →
 0 ≤ iv (σ 5) →
 iv (σ 5) ≤ 1 →
 tS (σ 6) →
 tS (σ 7) →
 tI (σ 8) →
 0 ≤ iv (σ 8) →
 iv (σ 8) ≤ 899 →
 tI (σ 9) →
 0 ≤ iv (σ 9) →
 iv (σ 9) ≤ 1 →
 tS (σ 10) →
 tS (σ 11) →
 tI (σ 12) →
 0 ≤ iv (σ 12) →
 iv (σ 12) ≤ 499 →
 tI (σ 13) →
 0 ≤ iv (σ 13) →
 iv (σ 13) ≤ 1 →
 tS (σ 14) →
 tS (σ 15) →
 tI (σ 16) →
 0 ≤ iv (σ 16) →
 iv (σ 16) ≤ 399 →
 tI (σ 17) →
 0 ≤ iv (σ 17) →
 iv (σ 17) ≤ 3 →
 tS (σ 18) →
 tS (σ 19) →
 tI (σ 20) →
 0 ≤ iv (σ 20) →
 iv (σ 20) ≤ 99 →
 tI (σ 21) →
 0 ≤ iv (σ 21) →
 iv (σ 21) ≤ 1 →
 tS (σ 22) →
 tS (σ 23) →
 tI (σ 24) →
 0 ≤ iv (σ 24) →
 iv (σ 24) ≤ 89 →
 tI (σ 25) →
 0 ≤ iv (σ 25) →
 iv (σ 25) ≤ 1 →
 tS (σ 26) →
 tS (σ 27) →
 tI (σ 28) →
 0 ≤ iv (σ 28) →
 iv (σ 28) ≤ 49 →
 tI (σ 29) →
 0 ≤ iv (σ 29) →
 iv (σ 29) ≤ 1 →
 tS (σ 30) →
 tS (σ 31) →
 tI (σ 32) →
 0 ≤ iv (σ 32) →
 iv (σ 32) ≤ 39 →
 tI (σ 33) →
 0 ≤ iv (σ 33) →
 iv (σ 33) ≤ 3 →
 tS (σ 34) →
 tS (σ 35) →
 tI (σ 36) →
 0 ≤ iv (σ 36) →
 iv (σ 36) ≤ 9 →
 tI (σ 37) →
 0 ≤ iv (σ 37) →
 iv (σ 37) ≤ 1 →
 tS (σ 38) →
 tS (σ 39) →
 tI (σ 40) →
 0 ≤ iv (σ 40) →
 iv (σ 40) ≤ 8 →
 tI (σ 41) →
 0 ≤ iv (σ 41) →
 iv (σ 41) ≤ 1 →
 tS (σ 42) →
 tS (σ 43) →
 tI (σ 44) →
 0 ≤ iv (σ 44) →
 iv (σ 44) ≤ 4 →
 tI (σ 45) →
 0 ≤ iv (σ 45) →
 iv (σ 45) ≤ 1 →
 tS (σ 46) →
 tB (σ 47) →
 iv (σ 1) = (iv (σ 0) : Int).tdiv (1000) →
 rptR [(vS #[77]),σ 1,σ 2] →
 tv (σ 3) = (⟨#[]⟩ : ByteArray) ++ tv (σ 2) →
 iv (σ 4) = (iv (σ 0) : Int).tmod (1000) →
 iv (σ 5) = (iv (σ 4) : Int).tdiv (900) →
 rptR [(vS #[67,77]),σ 5,σ 6] →
 tv (σ 7) = tv (σ 3) ++ tv (σ 6) →
 iv (σ 8) = (iv (σ 4) : Int).tmod (900) →
 iv (σ 9) = (iv (σ 8) : Int).tdiv (500) →
 rptR [(vS #[68]),σ 9,σ 10] →
 tv (σ 11) = tv (σ 7) ++ tv (σ 10) →
 iv (σ 12) = (iv (σ 8) : Int).tmod (500) →
 iv (σ 13) = (iv (σ 12) : Int).tdiv (400) →
 rptR [(vS #[67,68]),σ 13,σ 14] →
 tv (σ 15) = tv (σ 11) ++ tv (σ 14) →
 iv (σ 16) = (iv (σ 12) : Int).tmod (400) →
 iv (σ 17) = (iv (σ 16) : Int).tdiv (100) →
 rptR [(vS #[67]),σ 17,σ 18] →
 tv (σ 19) = tv (σ 15) ++ tv (σ 18) →
 iv (σ 20) = (iv (σ 16) : Int).tmod (100) →
 iv (σ 21) = (iv (σ 20) : Int).tdiv (90) →
 rptR [(vS #[88,67]),σ 21,σ 22] →
 tv (σ 23) = tv (σ 19) ++ tv (σ 22) →
 iv (σ 24) = (iv (σ 20) : Int).tmod (90) →
 iv (σ 25) = (iv (σ 24) : Int).tdiv (50) →
 rptR [(vS #[76]),σ 25,σ 26] →
 tv (σ 27) = tv (σ 23) ++ tv (σ 26) →
 iv (σ 28) = (iv (σ 24) : Int).tmod (50) →
 iv (σ 29) = (iv (σ 28) : Int).tdiv (40) →
 rptR [(vS #[88,76]),σ 29,σ 30] →
 tv (σ 31) = tv (σ 27) ++ tv (σ 30) →
 iv (σ 32) = (iv (σ 28) : Int).tmod (40) →
 iv (σ 33) = (iv (σ 32) : Int).tdiv (10) →
 rptR [(vS #[88]),σ 33,σ 34] →
 tv (σ 35) = tv (σ 31) ++ tv (σ 34) →
 iv (σ 36) = (iv (σ 32) : Int).tmod (10) →
 iv (σ 37) = (iv (σ 36) : Int).tdiv (9) →
 rptR [(vS #[73,88]),σ 37,σ 38] →
 tv (σ 39) = tv (σ 35) ++ tv (σ 38) →
 iv (σ 40) = (iv (σ 36) : Int).tmod (9) →
 iv (σ 41) = (iv (σ 40) : Int).tdiv (5) →
 rptR [(vS #[86]),σ 41,σ 42] →
 tv (σ 43) = tv (σ 39) ++ tv (σ 42) →
 iv (σ 44) = (iv (σ 40) : Int).tmod (5) →
 iv (σ 45) = (iv (σ 44) : Int).tdiv (4) →
 rptR [(vS #[73,86]),σ 45,σ 46] →
 IntKind.i64.max < ((((tv (σ 43)).size + (tv (σ 46)).size : Nat)) : Int) →
    False
def rmnR_L24 : Prop := ∀ σ : Nat → Value,
 tI (σ 0) →
 0 ≤ iv (σ 0) →
 iv (σ 0) ≤ 3999 →
 tI (σ 1) →
 0 ≤ iv (σ 1) →
 iv (σ 1) ≤ 3 →
 tS (σ 2) →
 tS (σ 3) →
 tI (σ 4) →
 0 ≤ iv (σ 4) →
 iv (σ 4) ≤ 999 →
 tI (σ 5) →
 0 ≤ iv (σ 5) →
 iv (σ 5) ≤ 1 →
 tS (σ 6) →
 tS (σ 7) →
 tI (σ 8) →
 0 ≤ iv (σ 8) →
 iv (σ 8) ≤ 899 →
 tI (σ 9) →
 0 ≤ iv (σ 9) →
 iv (σ 9) ≤ 1 →
 tS (σ 10) →
 tS (σ 11) →
 tI (σ 12) →
 0 ≤ iv (σ 12) →
 iv (σ 12) ≤ 499 →
 tI (σ 13) →
 0 ≤ iv (σ 13) →
 iv (σ 13) ≤ 1 →
 tS (σ 14) →
 tS (σ 15) →
 tI (σ 16) →
 0 ≤ iv (σ 16) →
 iv (σ 16) ≤ 399 →
 tI (σ 17) →
 0 ≤ iv (σ 17) →
 iv (σ 17) ≤ 3 →
 tS (σ 18) →
 tS (σ 19) →
 tI (σ 20) →
 0 ≤ iv (σ 20) →
 iv (σ 20) ≤ 99 →
 tI (σ 21) →
 0 ≤ iv (σ 21) →
 iv (σ 21) ≤ 1 →
 tS (σ 22) →
 tS (σ 23) →
 tI (σ 24) →
 0 ≤ iv (σ 24) →
 iv (σ 24) ≤ 89 →
 tI (σ 25) →
 0 ≤ iv (σ 25) →
 iv (σ 25) ≤ 1 →
 tS (σ 26) →
 tS (σ 27) →
 tI (σ 28) →
 0 ≤ iv (σ 28) →
 iv (σ 28) ≤ 49 →
 tI (σ 29) →
 0 ≤ iv (σ 29) →
 iv (σ 29) ≤ 1 →
 tS (σ 30) →
 tS (σ 31) →
 tI (σ 32) →
 0 ≤ iv (σ 32) →
 iv (σ 32) ≤ 39 →
 tI (σ 33) →
 0 ≤ iv (σ 33) →
 iv (σ 33) ≤ 3 →
 tS (σ 34) →
 tS (σ 35) →
 tI (σ 36) →
 0 ≤ iv (σ 36) →
 iv (σ 36) ≤ 9 →
 tI (σ 37) →
 0 ≤ iv (σ 37) →
 iv (σ 37) ≤ 1 →
 tS (σ 38) →
 tS (σ 39) →
 tI (σ 40) →
 0 ≤ iv (σ 40) →
 iv (σ 40) ≤ 8 →
 tI (σ 41) →
 0 ≤ iv (σ 41) →
 iv (σ 41) ≤ 1 →
 tS (σ 42) →
 tS (σ 43) →
 tI (σ 44) →
 0 ≤ iv (σ 44) →
 iv (σ 44) ≤ 4 →
 tI (σ 45) →
 0 ≤ iv (σ 45) →
 iv (σ 45) ≤ 1 →
 tS (σ 46) →
 tS (σ 47) →
 tI (σ 48) →
 0 ≤ iv (σ 48) →
 iv (σ 48) ≤ 3 →
 tI (σ 49) →
 0 ≤ iv (σ 49) →
 iv (σ 49) ≤ 3 →
 iv (σ 1) = (iv (σ 0) : Int).tdiv (1000) →
 rptR [(vS #[77]),σ 1,σ 2] →
 tv (σ 3) = (⟨#[]⟩ : ByteArray) ++ tv (σ 2) →
 iv (σ 4) = (iv (σ 0) : Int).tmod (1000) →
 iv (σ 5) = (iv (σ 4) : Int).tdiv (900) →
 rptR [(vS #[67,77]),σ 5,σ 6] →
 tv (σ 7) = tv (σ 3) ++ tv (σ 6) →
 iv (σ 8) = (iv (σ 4) : Int).tmod (900) →
 iv (σ 9) = (iv (σ 8) : Int).tdiv (500) →
 rptR [(vS #[68]),σ 9,σ 10] →
 tv (σ 11) = tv (σ 7) ++ tv (σ 10) →
 iv (σ 12) = (iv (σ 8) : Int).tmod (500) →
 iv (σ 13) = (iv (σ 12) : Int).tdiv (400) →
 rptR [(vS #[67,68]),σ 13,σ 14] →
 tv (σ 15) = tv (σ 11) ++ tv (σ 14) →
 iv (σ 16) = (iv (σ 12) : Int).tmod (400) →
 iv (σ 17) = (iv (σ 16) : Int).tdiv (100) →
 rptR [(vS #[67]),σ 17,σ 18] →
 tv (σ 19) = tv (σ 15) ++ tv (σ 18) →
 iv (σ 20) = (iv (σ 16) : Int).tmod (100) →
 iv (σ 21) = (iv (σ 20) : Int).tdiv (90) →
 rptR [(vS #[88,67]),σ 21,σ 22] →
 tv (σ 23) = tv (σ 19) ++ tv (σ 22) →
 iv (σ 24) = (iv (σ 20) : Int).tmod (90) →
 iv (σ 25) = (iv (σ 24) : Int).tdiv (50) →
 rptR [(vS #[76]),σ 25,σ 26] →
 tv (σ 27) = tv (σ 23) ++ tv (σ 26) →
 iv (σ 28) = (iv (σ 24) : Int).tmod (50) →
 iv (σ 29) = (iv (σ 28) : Int).tdiv (40) →
 rptR [(vS #[88,76]),σ 29,σ 30] →
 tv (σ 31) = tv (σ 27) ++ tv (σ 30) →
 iv (σ 32) = (iv (σ 28) : Int).tmod (40) →
 iv (σ 33) = (iv (σ 32) : Int).tdiv (10) →
 rptR [(vS #[88]),σ 33,σ 34] →
 tv (σ 35) = tv (σ 31) ++ tv (σ 34) →
 iv (σ 36) = (iv (σ 32) : Int).tmod (10) →
 iv (σ 37) = (iv (σ 36) : Int).tdiv (9) →
 rptR [(vS #[73,88]),σ 37,σ 38] →
 tv (σ 39) = tv (σ 35) ++ tv (σ 38) →
 iv (σ 40) = (iv (σ 36) : Int).tmod (9) →
 iv (σ 41) = (iv (σ 40) : Int).tdiv (5) →
 rptR [(vS #[86]),σ 41,σ 42] →
 tv (σ 43) = tv (σ 39) ++ tv (σ 42) →
 iv (σ 44) = (iv (σ 40) : Int).tmod (5) →
 iv (σ 45) = (iv (σ 44) : Int).tdiv (4) →
 rptR [(vS #[73,86]),σ 45,σ 46] →
 tv (σ 47) = tv (σ 43) ++ tv (σ 46) →
 iv (σ 48) = (iv (σ 44) : Int).tmod (4) →
 iv (σ 49) = (iv (σ 48) : Int).tdiv (1) →
 ¬ rptRPre [(vS #[73]),σ 49] →
    False
def rmnR_L25 : Prop := ∀ σ : Nat → Value,
 tI (σ 0) →
 0 ≤ iv (σ 0) →
 iv (σ 0) ≤ 3999 →
 tI (σ 1) →
 0 ≤ iv (σ 1) →
 iv (σ 1) ≤ 3 →
 tS (σ 2) →
 tS (σ 3) →
 tI (σ 4) →
 0 ≤ iv (σ 4) →
 iv (σ 4) ≤ 999 →
 tI (σ 5) →
 0 ≤ iv (σ 5) →
 iv (σ 5) ≤ 1 →
 tS (σ 6) →
 tS (σ 7) →
 tI (σ 8) →
 0 ≤ iv (σ 8) →
 iv (σ 8) ≤ 899 →
 tI (σ 9) →
 0 ≤ iv (σ 9) →
 iv (σ 9) ≤ 1 →
 tS (σ 10) →
 tS (σ 11) →
 tI (σ 12) →
 0 ≤ iv (σ 12) →
 iv (σ 12) ≤ 499 →
 tI (σ 13) →
 0 ≤ iv (σ 13) →
 iv (σ 13) ≤ 1 →
 tS (σ 14) →
 tS (σ 15) →
 tI (σ 16) →
 0 ≤ iv (σ 16) →
 iv (σ 16) ≤ 399 →
 tI (σ 17) →
 0 ≤ iv (σ 17) →
 iv (σ 17) ≤ 3 →
 tS (σ 18) →
 tS (σ 19) →
 tI (σ 20) →
 0 ≤ iv (σ 20) →
 iv (σ 20) ≤ 99 →
 tI (σ 21) →
 0 ≤ iv (σ 21) →
 iv (σ 21) ≤ 1 →
 tS (σ 22) →
 tS (σ 23) →
 tI (σ 24) →
 0 ≤ iv (σ 24) →
 iv (σ 24) ≤ 89 →
 tI (σ 25) →
 0 ≤ iv (σ 25) →
 iv (σ 25) ≤ 1 →
 tS (σ 26) →
 tS (σ 27) →
 tI (σ 28) →
 0 ≤ iv (σ 28) →
 iv (σ 28) ≤ 49 →
 tI (σ 29) →
 0 ≤ iv (σ 29) →
 iv (σ 29) ≤ 1 →
 tS (σ 30) →
 tS (σ 31) →
 tI (σ 32) →
 0 ≤ iv (σ 32) →
 iv (σ 32) ≤ 39 →
 tI (σ 33) →
 0 ≤ iv (σ 33) →
 iv (σ 33) ≤ 3 →
 tS (σ 34) →
 tS (σ 35) →
 tI (σ 36) →
 0 ≤ iv (σ 36) →
 iv (σ 36) ≤ 9 →
 tI (σ 37) →
 0 ≤ iv (σ 37) →
 iv (σ 37) ≤ 1 →
 tS (σ 38) →
 tS (σ 39) →
 tI (σ 40) →
 0 ≤ iv (σ 40) →
 iv (σ 40) ≤ 8 →
 tI (σ 41) →
 0 ≤ iv (σ 41) →
 iv (σ 41) ≤ 1 →
 tS (σ 42) →
 tS (σ 43) →
 tI (σ 44) →
 0 ≤ iv (σ 44) →
 iv (σ 44) ≤ 4 →
 tI (σ 45) →
 0 ≤ iv (σ 45) →
 iv (σ 45) ≤ 1 →
 tS (σ 46) →
 tS (σ 47) →
 tI (σ 48) →
 0 ≤ iv (σ 48) →
 iv (σ 48) ≤ 3 →
 tI (σ 49) →
 0 ≤ iv (σ 49) →
 iv (σ 49) ≤ 3 →
 tS (σ 50) →
 tB (σ 51) →
 iv (σ 1) = (iv (σ 0) : Int).tdiv (1000) →
 rptR [(vS #[77]),σ 1,σ 2] →
 tv (σ 3) = (⟨#[]⟩ : ByteArray) ++ tv (σ 2) →
 iv (σ 4) = (iv (σ 0) : Int).tmod (1000) →
 iv (σ 5) = (iv (σ 4) : Int).tdiv (900) →
 rptR [(vS #[67,77]),σ 5,σ 6] →
 tv (σ 7) = tv (σ 3) ++ tv (σ 6) →
 iv (σ 8) = (iv (σ 4) : Int).tmod (900) →
 iv (σ 9) = (iv (σ 8) : Int).tdiv (500) →
 rptR [(vS #[68]),σ 9,σ 10] →
 tv (σ 11) = tv (σ 7) ++ tv (σ 10) →
 iv (σ 12) = (iv (σ 8) : Int).tmod (500) →
 iv (σ 13) = (iv (σ 12) : Int).tdiv (400) →
 rptR [(vS #[67,68]),σ 13,σ 14] →
 tv (σ 15) = tv (σ 11) ++ tv (σ 14) →
 iv (σ 16) = (iv (σ 12) : Int).tmod (400) →
 iv (σ 17) = (iv (σ 16) : Int).tdiv (100) →
 rptR [(vS #[67]),σ 17,σ 18] →
 tv (σ 19) = tv (σ 15) ++ tv (σ 18) →
 iv (σ 20) = (iv (σ 16) : Int).tmod (100) →
 iv (σ 21) = (iv (σ 20) : Int).tdiv (90) →
 rptR [(vS #[88,67]),σ 21,σ 22] →
 tv (σ 23) = tv (σ 19) ++ tv (σ 22) →
 iv (σ 24) = (iv (σ 20) : Int).tmod (90) →
 iv (σ 25) = (iv (σ 24) : Int).tdiv (50) →
 rptR [(vS #[76]),σ 25,σ 26] →
 tv (σ 27) = tv (σ 23) ++ tv (σ 26) →
 iv (σ 28) = (iv (σ 24) : Int).tmod (50) →
 iv (σ 29) = (iv (σ 28) : Int).tdiv (40) →
 rptR [(vS #[88,76]),σ 29,σ 30] →
 tv (σ 31) = tv (σ 27) ++ tv (σ 30) →
 iv (σ 32) = (iv (σ 28) : Int).tmod (40) →
 iv (σ 33) = (iv (σ 32) : Int).tdiv (10) →
 rptR [(vS #[88]),σ 33,σ 34] →
 tv (σ 35) = tv (σ 31) ++ tv (σ 34) →
 iv (σ 36) = (iv (σ 32) : Int).tmod (10) →
 iv (σ 37) = (iv (σ 36) : Int).tdiv (9) →
 rptR [(vS #[73,88]),σ 37,σ 38] →
 tv (σ 39) = tv (σ 35) ++ tv (σ 38) →
 iv (σ 40) = (iv (σ 36) : Int).tmod (9) →
 iv (σ 41) = (iv (σ 40) : Int).tdiv (5) →
 rptR [(vS #[86]),σ 41,σ 42] →
 tv (σ 43) = tv (σ 39) ++ tv (σ 42) →
 iv (σ 44) = (iv (σ 40) : Int).tmod (5) →
 iv (σ 45) = (iv (σ 44) : Int).tdiv (4) →
 rptR [(vS #[73,86]),σ 45,σ 46] →
 tv (σ 47) = tv (σ 43) ++ tv (σ 46) →
 iv (σ 48) = (iv (σ 44) : Int).tmod (4) →
 iv (σ 49) = (iv (σ 48) : Int).tdiv (1) →
 rptR [(vS #[73]),σ 49,σ 50] →
 IntKind.i64.max < ((((tv (σ 47)).size + (tv (σ 50)).size : Nat)) : Int) →
    False
def rmnR_L26 : Prop := ∀ σ : Nat → Value,
 tI (σ 0) →
 0 ≤ iv (σ 0) →
 iv (σ 0) ≤ 3999 →
 tI (σ 1) →
 0 ≤ iv (σ 1) →
 iv (σ 1) ≤ 3 →
 tS (σ 2) →
 tS (σ 3) →
 tI (σ 4) →
 0 ≤ iv (σ 4) →
 iv (σ 4) ≤ 999 →
 tI (σ 5) →
 0 ≤ iv (σ 5) →
 iv (σ 5) ≤ 1 →
 tS (σ 6) →
 tS (σ 7) →
 tI (σ 8) →
 0 ≤ iv (σ 8) →
 iv (σ 8) ≤ 899 →
 tI (σ 9) →
 0 ≤ iv (σ 9) →
 iv (σ 9) ≤ 1 →
 tS (σ 10) →
 tS (σ 11) →
 tI (σ 12) →
 0 ≤ iv (σ 12) →
 iv (σ 12) ≤ 499 →
 tI (σ 13) →
 0 ≤ iv (σ 13) →
 iv (σ 13) ≤ 1 →
 tS (σ 14) →
 tS (σ 15) →
 tI (σ 16) →
 0 ≤ iv (σ 16) →
 iv (σ 16) ≤ 399 →
 tI (σ 17) →
 0 ≤ iv (σ 17) →
 iv (σ 17) ≤ 3 →
 tS (σ 18) →
 tS (σ 19) →
 tI (σ 20) →
 0 ≤ iv (σ 20) →
 iv (σ 20) ≤ 99 →
 tI (σ 21) →
 0 ≤ iv (σ 21) →
 iv (σ 21) ≤ 1 →
 tS (σ 22) →
 tS (σ 23) →
 tI (σ 24) →
 0 ≤ iv (σ 24) →
 iv (σ 24) ≤ 89 →
 tI (σ 25) →
 0 ≤ iv (σ 25) →
 iv (σ 25) ≤ 1 →
 tS (σ 26) →
 tS (σ 27) →
 tI (σ 28) →
 0 ≤ iv (σ 28) →
 iv (σ 28) ≤ 49 →
 tI (σ 29) →
 0 ≤ iv (σ 29) →
 iv (σ 29) ≤ 1 →
 tS (σ 30) →
 tS (σ 31) →
 tI (σ 32) →
 0 ≤ iv (σ 32) →
 iv (σ 32) ≤ 39 →
 tI (σ 33) →
 0 ≤ iv (σ 33) →
 iv (σ 33) ≤ 3 →
 tS (σ 34) →
 tS (σ 35) →
 tI (σ 36) →
 0 ≤ iv (σ 36) →
 iv (σ 36) ≤ 9 →
 tI (σ 37) →
 0 ≤ iv (σ 37) →
 iv (σ 37) ≤ 1 →
 tS (σ 38) →
 tS (σ 39) →
 tI (σ 40) →
 0 ≤ iv (σ 40) →
 iv (σ 40) ≤ 8 →
 tI (σ 41) →
 0 ≤ iv (σ 41) →
 iv (σ 41) ≤ 1 →
 tS (σ 42) →
 tS (σ 43) →
 tI (σ 44) →
 0 ≤ iv (σ 44) →
 iv (σ 44) ≤ 4 →
 tI (σ 45) →
 0 ≤ iv (σ 45) →
 iv (σ 45) ≤ 1 →
 tS (σ 46) →
 tS (σ 47) →
 tI (σ 48) →
 0 ≤ iv (σ 48) →
 iv (σ 48) ≤ 3 →
 tI (σ 49) →
 0 ≤ iv (σ 49) →
 iv (σ 49) ≤ 3 →
 tS (σ 50) →
 tS (σ 51) →
 iv (σ 1) = (iv (σ 0) : Int).tdiv (1000) →
 rptR [(vS #[77]),σ 1,σ 2] →
 tv (σ 3) = (⟨#[]⟩ : ByteArray) ++ tv (σ 2) →
 iv (σ 4) = (iv (σ 0) : Int).tmod (1000) →
 iv (σ 5) = (iv (σ 4) : Int).tdiv (900) →
 rptR [(vS #[67,77]),σ 5,σ 6] →
 tv (σ 7) = tv (σ 3) ++ tv (σ 6) →
 iv (σ 8) = (iv (σ 4) : Int).tmod (900) →
 iv (σ 9) = (iv (σ 8) : Int).tdiv (500) →
 rptR [(vS #[68]),σ 9,σ 10] →
 tv (σ 11) = tv (σ 7) ++ tv (σ 10) →
 iv (σ 12) = (iv (σ 8) : Int).tmod (500) →
 iv (σ 13) = (iv (σ 12) : Int).tdiv (400) →
 rptR [(vS #[67,68]),σ 13,σ 14] →
 tv (σ 15) = tv (σ 11) ++ tv (σ 14) →
 iv (σ 16) = (iv (σ 12) : Int).tmod (400) →
 iv (σ 17) = (iv (σ 16) : Int).tdiv (100) →
 rptR [(vS #[67]),σ 17,σ 18] →
 tv (σ 19) = tv (σ 15) ++ tv (σ 18) →
 iv (σ 20) = (iv (σ 16) : Int).tmod (100) →
 iv (σ 21) = (iv (σ 20) : Int).tdiv (90) →
 rptR [(vS #[88,67]),σ 21,σ 22] →
 tv (σ 23) = tv (σ 19) ++ tv (σ 22) →
 iv (σ 24) = (iv (σ 20) : Int).tmod (90) →
 iv (σ 25) = (iv (σ 24) : Int).tdiv (50) →
 rptR [(vS #[76]),σ 25,σ 26] →
 tv (σ 27) = tv (σ 23) ++ tv (σ 26) →
 iv (σ 28) = (iv (σ 24) : Int).tmod (50) →
 iv (σ 29) = (iv (σ 28) : Int).tdiv (40) →
 rptR [(vS #[88,76]),σ 29,σ 30] →
 tv (σ 31) = tv (σ 27) ++ tv (σ 30) →
 iv (σ 32) = (iv (σ 28) : Int).tmod (40) →
 iv (σ 33) = (iv (σ 32) : Int).tdiv (10) →
 rptR [(vS #[88]),σ 33,σ 34] →
 tv (σ 35) = tv (σ 31) ++ tv (σ 34) →
 iv (σ 36) = (iv (σ 32) : Int).tmod (10) →
 iv (σ 37) = (iv (σ 36) : Int).tdiv (9) →
 rptR [(vS #[73,88]),σ 37,σ 38] →
 tv (σ 39) = tv (σ 35) ++ tv (σ 38) →
 iv (σ 40) = (iv (σ 36) : Int).tmod (9) →
 iv (σ 41) = (iv (σ 40) : Int).tdiv (5) →
 rptR [(vS #[86]),σ 41,σ 42] →
 tv (σ 43) = tv (σ 39) ++ tv (σ 42) →
 iv (σ 44) = (iv (σ 40) : Int).tmod (5) →
 iv (σ 45) = (iv (σ 44) : Int).tdiv (4) →
 rptR [(vS #[73,86]),σ 45,σ 46] →
 tv (σ 47) = tv (σ 43) ++ tv (σ 46) →
 iv (σ 48) = (iv (σ 44) : Int).tmod (4) →
 iv (σ 49) = (iv (σ 48) : Int).tdiv (1) →
 rptR [(vS #[73]),σ 49,σ 50] →
 tv (σ 51) = tv (σ 47) ++ tv (σ 50) →
    rmnR [σ 0,σ 51]
theorem rmnR_tie : rmnC.goals (cfgB rmnC.base [vldC, ixbC, rptC, uppC]) [] 2000 = (rmnR_L0 ∧ rmnR_L1 ∧ rmnR_L2 ∧ rmnR_L3 ∧ rmnR_L4 ∧ rmnR_L5 ∧ rmnR_L6 ∧ rmnR_L7 ∧ rmnR_L8 ∧ rmnR_L9 ∧ rmnR_L10 ∧ rmnR_L11 ∧ rmnR_L12 ∧ rmnR_L13 ∧ rmnR_L14 ∧ rmnR_L15 ∧ rmnR_L16 ∧ rmnR_L17 ∧ rmnR_L18 ∧ rmnR_L19 ∧ rmnR_L20 ∧ rmnR_L21 ∧ rmnR_L22 ∧ rmnR_L23 ∧ rmnR_L24 ∧ rmnR_L25 ∧ rmnR_L26 ∧ True) := by kernel_rfl
theorem rmnR_L0_ok : rmnR_L0 := by
  intro σ; intros
  have n_ := ‹¬ rptRPre _›
  exact n_ (rep_pre (c := σ 1) (by omega) (by omega) (by decide))
theorem rmnR_L1_ok : rmnR_L1 := by
  intro σ; intros
  have z := rep_len (r := σ 2) ‹rptR [_,σ 1, _]› (by omega) (by decide)
  exact big_no (a := vE) (b := σ 2) rfl rfl (by show 0 + _ < _; omega) ‹IntKind.i64.max < _›
theorem rmnR_L2_ok : rmnR_L2 := by
  intro σ; intros
  have n_ := ‹¬ rptRPre _›
  exact n_ (rep_pre (c := σ 5) (by omega) (by omega) (by decide))
theorem rmnR_L3_ok : rmnR_L3 := by
  intro σ; intros
  have y0 := app_le (a := vE) ‹tv (σ 3) = _› (Nat.le_refl 0) (rep_len (r := σ 2) ‹rptR [_,σ 1, _]› (by omega) (by decide))
  have z := rep_len (r := σ 6) ‹rptR [_,σ 5, _]› (by omega) (by decide)
  exact big_no (a := σ 3) (b := σ 6) rfl rfl (by omega) ‹IntKind.i64.max < _›
theorem rmnR_L4_ok : rmnR_L4 := by
  intro σ; intros
  have n_ := ‹¬ rptRPre _›
  exact n_ (rep_pre (c := σ 9) (by omega) (by omega) (by decide))
theorem rmnR_L5_ok : rmnR_L5 := by
  intro σ; intros
  have y0 := app_le (a := vE) ‹tv (σ 3) = _› (Nat.le_refl 0) (rep_len (r := σ 2) ‹rptR [_,σ 1, _]› (by omega) (by decide))
  have y1 := app_le ‹tv (σ 7) = _› y0 (rep_len (r := σ 6) ‹rptR [_,σ 5, _]› (by omega) (by decide))
  have z := rep_len (r := σ 10) ‹rptR [_,σ 9, _]› (by omega) (by decide)
  exact big_no (a := σ 7) (b := σ 10) rfl rfl (by omega) ‹IntKind.i64.max < _›
theorem rmnR_L6_ok : rmnR_L6 := by
  intro σ; intros
  have n_ := ‹¬ rptRPre _›
  exact n_ (rep_pre (c := σ 13) (by omega) (by omega) (by decide))
theorem rmnR_L7_ok : rmnR_L7 := by
  intro σ; intros
  have y0 := app_le (a := vE) ‹tv (σ 3) = _› (Nat.le_refl 0) (rep_len (r := σ 2) ‹rptR [_,σ 1, _]› (by omega) (by decide))
  have y1 := app_le ‹tv (σ 7) = _› y0 (rep_len (r := σ 6) ‹rptR [_,σ 5, _]› (by omega) (by decide))
  have y2 := app_le ‹tv (σ 11) = _› y1 (rep_len (r := σ 10) ‹rptR [_,σ 9, _]› (by omega) (by decide))
  have z := rep_len (r := σ 14) ‹rptR [_,σ 13, _]› (by omega) (by decide)
  exact big_no (a := σ 11) (b := σ 14) rfl rfl (by omega) ‹IntKind.i64.max < _›
theorem rmnR_L8_ok : rmnR_L8 := by
  intro σ; intros
  have n_ := ‹¬ rptRPre _›
  exact n_ (rep_pre (c := σ 17) (by omega) (by omega) (by decide))
theorem rmnR_L9_ok : rmnR_L9 := by
  intro σ; intros
  have y0 := app_le (a := vE) ‹tv (σ 3) = _› (Nat.le_refl 0) (rep_len (r := σ 2) ‹rptR [_,σ 1, _]› (by omega) (by decide))
  have y1 := app_le ‹tv (σ 7) = _› y0 (rep_len (r := σ 6) ‹rptR [_,σ 5, _]› (by omega) (by decide))
  have y2 := app_le ‹tv (σ 11) = _› y1 (rep_len (r := σ 10) ‹rptR [_,σ 9, _]› (by omega) (by decide))
  have y3 := app_le ‹tv (σ 15) = _› y2 (rep_len (r := σ 14) ‹rptR [_,σ 13, _]› (by omega) (by decide))
  have z := rep_len (r := σ 18) ‹rptR [_,σ 17, _]› (by omega) (by decide)
  exact big_no (a := σ 15) (b := σ 18) rfl rfl (by omega) ‹IntKind.i64.max < _›
theorem rmnR_L10_ok : rmnR_L10 := by
  intro σ; intros
  have n_ := ‹¬ rptRPre _›
  exact n_ (rep_pre (c := σ 21) (by omega) (by omega) (by decide))
theorem rmnR_L11_ok : rmnR_L11 := by
  intro σ; intros
  have y0 := app_le (a := vE) ‹tv (σ 3) = _› (Nat.le_refl 0) (rep_len (r := σ 2) ‹rptR [_,σ 1, _]› (by omega) (by decide))
  have y1 := app_le ‹tv (σ 7) = _› y0 (rep_len (r := σ 6) ‹rptR [_,σ 5, _]› (by omega) (by decide))
  have y2 := app_le ‹tv (σ 11) = _› y1 (rep_len (r := σ 10) ‹rptR [_,σ 9, _]› (by omega) (by decide))
  have y3 := app_le ‹tv (σ 15) = _› y2 (rep_len (r := σ 14) ‹rptR [_,σ 13, _]› (by omega) (by decide))
  have y4 := app_le ‹tv (σ 19) = _› y3 (rep_len (r := σ 18) ‹rptR [_,σ 17, _]› (by omega) (by decide))
  have z := rep_len (r := σ 22) ‹rptR [_,σ 21, _]› (by omega) (by decide)
  exact big_no (a := σ 19) (b := σ 22) rfl rfl (by omega) ‹IntKind.i64.max < _›
theorem rmnR_L12_ok : rmnR_L12 := by
  intro σ; intros
  have n_ := ‹¬ rptRPre _›
  exact n_ (rep_pre (c := σ 25) (by omega) (by omega) (by decide))
theorem rmnR_L13_ok : rmnR_L13 := by
  intro σ; intros
  have y0 := app_le (a := vE) ‹tv (σ 3) = _› (Nat.le_refl 0) (rep_len (r := σ 2) ‹rptR [_,σ 1, _]› (by omega) (by decide))
  have y1 := app_le ‹tv (σ 7) = _› y0 (rep_len (r := σ 6) ‹rptR [_,σ 5, _]› (by omega) (by decide))
  have y2 := app_le ‹tv (σ 11) = _› y1 (rep_len (r := σ 10) ‹rptR [_,σ 9, _]› (by omega) (by decide))
  have y3 := app_le ‹tv (σ 15) = _› y2 (rep_len (r := σ 14) ‹rptR [_,σ 13, _]› (by omega) (by decide))
  have y4 := app_le ‹tv (σ 19) = _› y3 (rep_len (r := σ 18) ‹rptR [_,σ 17, _]› (by omega) (by decide))
  have y5 := app_le ‹tv (σ 23) = _› y4 (rep_len (r := σ 22) ‹rptR [_,σ 21, _]› (by omega) (by decide))
  have z := rep_len (r := σ 26) ‹rptR [_,σ 25, _]› (by omega) (by decide)
  exact big_no (a := σ 23) (b := σ 26) rfl rfl (by omega) ‹IntKind.i64.max < _›
theorem rmnR_L14_ok : rmnR_L14 := by
  intro σ; intros
  have n_ := ‹¬ rptRPre _›
  exact n_ (rep_pre (c := σ 29) (by omega) (by omega) (by decide))
theorem rmnR_L15_ok : rmnR_L15 := by
  intro σ; intros
  have y0 := app_le (a := vE) ‹tv (σ 3) = _› (Nat.le_refl 0) (rep_len (r := σ 2) ‹rptR [_,σ 1, _]› (by omega) (by decide))
  have y1 := app_le ‹tv (σ 7) = _› y0 (rep_len (r := σ 6) ‹rptR [_,σ 5, _]› (by omega) (by decide))
  have y2 := app_le ‹tv (σ 11) = _› y1 (rep_len (r := σ 10) ‹rptR [_,σ 9, _]› (by omega) (by decide))
  have y3 := app_le ‹tv (σ 15) = _› y2 (rep_len (r := σ 14) ‹rptR [_,σ 13, _]› (by omega) (by decide))
  have y4 := app_le ‹tv (σ 19) = _› y3 (rep_len (r := σ 18) ‹rptR [_,σ 17, _]› (by omega) (by decide))
  have y5 := app_le ‹tv (σ 23) = _› y4 (rep_len (r := σ 22) ‹rptR [_,σ 21, _]› (by omega) (by decide))
  have y6 := app_le ‹tv (σ 27) = _› y5 (rep_len (r := σ 26) ‹rptR [_,σ 25, _]› (by omega) (by decide))
  have z := rep_len (r := σ 30) ‹rptR [_,σ 29, _]› (by omega) (by decide)
  exact big_no (a := σ 27) (b := σ 30) rfl rfl (by omega) ‹IntKind.i64.max < _›
theorem rmnR_L16_ok : rmnR_L16 := by
  intro σ; intros
  have n_ := ‹¬ rptRPre _›
  exact n_ (rep_pre (c := σ 33) (by omega) (by omega) (by decide))
theorem rmnR_L17_ok : rmnR_L17 := by
  intro σ; intros
  have y0 := app_le (a := vE) ‹tv (σ 3) = _› (Nat.le_refl 0) (rep_len (r := σ 2) ‹rptR [_,σ 1, _]› (by omega) (by decide))
  have y1 := app_le ‹tv (σ 7) = _› y0 (rep_len (r := σ 6) ‹rptR [_,σ 5, _]› (by omega) (by decide))
  have y2 := app_le ‹tv (σ 11) = _› y1 (rep_len (r := σ 10) ‹rptR [_,σ 9, _]› (by omega) (by decide))
  have y3 := app_le ‹tv (σ 15) = _› y2 (rep_len (r := σ 14) ‹rptR [_,σ 13, _]› (by omega) (by decide))
  have y4 := app_le ‹tv (σ 19) = _› y3 (rep_len (r := σ 18) ‹rptR [_,σ 17, _]› (by omega) (by decide))
  have y5 := app_le ‹tv (σ 23) = _› y4 (rep_len (r := σ 22) ‹rptR [_,σ 21, _]› (by omega) (by decide))
  have y6 := app_le ‹tv (σ 27) = _› y5 (rep_len (r := σ 26) ‹rptR [_,σ 25, _]› (by omega) (by decide))
  have y7 := app_le ‹tv (σ 31) = _› y6 (rep_len (r := σ 30) ‹rptR [_,σ 29, _]› (by omega) (by decide))
  have z := rep_len (r := σ 34) ‹rptR [_,σ 33, _]› (by omega) (by decide)
  exact big_no (a := σ 31) (b := σ 34) rfl rfl (by omega) ‹IntKind.i64.max < _›
theorem rmnR_L18_ok : rmnR_L18 := by
  intro σ; intros
  have n_ := ‹¬ rptRPre _›
  exact n_ (rep_pre (c := σ 37) (by omega) (by omega) (by decide))
theorem rmnR_L19_ok : rmnR_L19 := by
  intro σ; intros
  have y0 := app_le (a := vE) ‹tv (σ 3) = _› (Nat.le_refl 0) (rep_len (r := σ 2) ‹rptR [_,σ 1, _]› (by omega) (by decide))
  have y1 := app_le ‹tv (σ 7) = _› y0 (rep_len (r := σ 6) ‹rptR [_,σ 5, _]› (by omega) (by decide))
  have y2 := app_le ‹tv (σ 11) = _› y1 (rep_len (r := σ 10) ‹rptR [_,σ 9, _]› (by omega) (by decide))
  have y3 := app_le ‹tv (σ 15) = _› y2 (rep_len (r := σ 14) ‹rptR [_,σ 13, _]› (by omega) (by decide))
  have y4 := app_le ‹tv (σ 19) = _› y3 (rep_len (r := σ 18) ‹rptR [_,σ 17, _]› (by omega) (by decide))
  have y5 := app_le ‹tv (σ 23) = _› y4 (rep_len (r := σ 22) ‹rptR [_,σ 21, _]› (by omega) (by decide))
  have y6 := app_le ‹tv (σ 27) = _› y5 (rep_len (r := σ 26) ‹rptR [_,σ 25, _]› (by omega) (by decide))
  have y7 := app_le ‹tv (σ 31) = _› y6 (rep_len (r := σ 30) ‹rptR [_,σ 29, _]› (by omega) (by decide))
  have y8 := app_le ‹tv (σ 35) = _› y7 (rep_len (r := σ 34) ‹rptR [_,σ 33, _]› (by omega) (by decide))
  have z := rep_len (r := σ 38) ‹rptR [_,σ 37, _]› (by omega) (by decide)
  exact big_no (a := σ 35) (b := σ 38) rfl rfl (by omega) ‹IntKind.i64.max < _›
theorem rmnR_L20_ok : rmnR_L20 := by
  intro σ; intros
  have n_ := ‹¬ rptRPre _›
  exact n_ (rep_pre (c := σ 41) (by omega) (by omega) (by decide))
theorem rmnR_L21_ok : rmnR_L21 := by
  intro σ; intros
  have y0 := app_le (a := vE) ‹tv (σ 3) = _› (Nat.le_refl 0) (rep_len (r := σ 2) ‹rptR [_,σ 1, _]› (by omega) (by decide))
  have y1 := app_le ‹tv (σ 7) = _› y0 (rep_len (r := σ 6) ‹rptR [_,σ 5, _]› (by omega) (by decide))
  have y2 := app_le ‹tv (σ 11) = _› y1 (rep_len (r := σ 10) ‹rptR [_,σ 9, _]› (by omega) (by decide))
  have y3 := app_le ‹tv (σ 15) = _› y2 (rep_len (r := σ 14) ‹rptR [_,σ 13, _]› (by omega) (by decide))
  have y4 := app_le ‹tv (σ 19) = _› y3 (rep_len (r := σ 18) ‹rptR [_,σ 17, _]› (by omega) (by decide))
  have y5 := app_le ‹tv (σ 23) = _› y4 (rep_len (r := σ 22) ‹rptR [_,σ 21, _]› (by omega) (by decide))
  have y6 := app_le ‹tv (σ 27) = _› y5 (rep_len (r := σ 26) ‹rptR [_,σ 25, _]› (by omega) (by decide))
  have y7 := app_le ‹tv (σ 31) = _› y6 (rep_len (r := σ 30) ‹rptR [_,σ 29, _]› (by omega) (by decide))
  have y8 := app_le ‹tv (σ 35) = _› y7 (rep_len (r := σ 34) ‹rptR [_,σ 33, _]› (by omega) (by decide))
  have y9 := app_le ‹tv (σ 39) = _› y8 (rep_len (r := σ 38) ‹rptR [_,σ 37, _]› (by omega) (by decide))
  have z := rep_len (r := σ 42) ‹rptR [_,σ 41, _]› (by omega) (by decide)
  exact big_no (a := σ 39) (b := σ 42) rfl rfl (by omega) ‹IntKind.i64.max < _›
theorem rmnR_L22_ok : rmnR_L22 := by
  intro σ; intros
  have n_ := ‹¬ rptRPre _›
  exact n_ (rep_pre (c := σ 45) (by omega) (by omega) (by decide))
theorem rmnR_L23_ok : rmnR_L23 := by
  intro σ; intros
  have y0 := app_le (a := vE) ‹tv (σ 3) = _› (Nat.le_refl 0) (rep_len (r := σ 2) ‹rptR [_,σ 1, _]› (by omega) (by decide))
  have y1 := app_le ‹tv (σ 7) = _› y0 (rep_len (r := σ 6) ‹rptR [_,σ 5, _]› (by omega) (by decide))
  have y2 := app_le ‹tv (σ 11) = _› y1 (rep_len (r := σ 10) ‹rptR [_,σ 9, _]› (by omega) (by decide))
  have y3 := app_le ‹tv (σ 15) = _› y2 (rep_len (r := σ 14) ‹rptR [_,σ 13, _]› (by omega) (by decide))
  have y4 := app_le ‹tv (σ 19) = _› y3 (rep_len (r := σ 18) ‹rptR [_,σ 17, _]› (by omega) (by decide))
  have y5 := app_le ‹tv (σ 23) = _› y4 (rep_len (r := σ 22) ‹rptR [_,σ 21, _]› (by omega) (by decide))
  have y6 := app_le ‹tv (σ 27) = _› y5 (rep_len (r := σ 26) ‹rptR [_,σ 25, _]› (by omega) (by decide))
  have y7 := app_le ‹tv (σ 31) = _› y6 (rep_len (r := σ 30) ‹rptR [_,σ 29, _]› (by omega) (by decide))
  have y8 := app_le ‹tv (σ 35) = _› y7 (rep_len (r := σ 34) ‹rptR [_,σ 33, _]› (by omega) (by decide))
  have y9 := app_le ‹tv (σ 39) = _› y8 (rep_len (r := σ 38) ‹rptR [_,σ 37, _]› (by omega) (by decide))
  have y10 := app_le ‹tv (σ 43) = _› y9 (rep_len (r := σ 42) ‹rptR [_,σ 41, _]› (by omega) (by decide))
  have z := rep_len (r := σ 46) ‹rptR [_,σ 45, _]› (by omega) (by decide)
  exact big_no (a := σ 43) (b := σ 46) rfl rfl (by omega) ‹IntKind.i64.max < _›
theorem rmnR_L24_ok : rmnR_L24 := by
  intro σ; intros
  have n_ := ‹¬ rptRPre _›
  exact n_ (rep_pre (c := σ 49) (by omega) (by omega) (by decide))
theorem rmnR_L25_ok : rmnR_L25 := by
  intro σ; intros
  have y0 := app_le (a := vE) ‹tv (σ 3) = _› (Nat.le_refl 0) (rep_len (r := σ 2) ‹rptR [_,σ 1, _]› (by omega) (by decide))
  have y1 := app_le ‹tv (σ 7) = _› y0 (rep_len (r := σ 6) ‹rptR [_,σ 5, _]› (by omega) (by decide))
  have y2 := app_le ‹tv (σ 11) = _› y1 (rep_len (r := σ 10) ‹rptR [_,σ 9, _]› (by omega) (by decide))
  have y3 := app_le ‹tv (σ 15) = _› y2 (rep_len (r := σ 14) ‹rptR [_,σ 13, _]› (by omega) (by decide))
  have y4 := app_le ‹tv (σ 19) = _› y3 (rep_len (r := σ 18) ‹rptR [_,σ 17, _]› (by omega) (by decide))
  have y5 := app_le ‹tv (σ 23) = _› y4 (rep_len (r := σ 22) ‹rptR [_,σ 21, _]› (by omega) (by decide))
  have y6 := app_le ‹tv (σ 27) = _› y5 (rep_len (r := σ 26) ‹rptR [_,σ 25, _]› (by omega) (by decide))
  have y7 := app_le ‹tv (σ 31) = _› y6 (rep_len (r := σ 30) ‹rptR [_,σ 29, _]› (by omega) (by decide))
  have y8 := app_le ‹tv (σ 35) = _› y7 (rep_len (r := σ 34) ‹rptR [_,σ 33, _]› (by omega) (by decide))
  have y9 := app_le ‹tv (σ 39) = _› y8 (rep_len (r := σ 38) ‹rptR [_,σ 37, _]› (by omega) (by decide))
  have y10 := app_le ‹tv (σ 43) = _› y9 (rep_len (r := σ 42) ‹rptR [_,σ 41, _]› (by omega) (by decide))
  have y11 := app_le ‹tv (σ 47) = _› y10 (rep_len (r := σ 46) ‹rptR [_,σ 45, _]› (by omega) (by decide))
  have z := rep_len (r := σ 50) ‹rptR [_,σ 49, _]› (by omega) (by decide)
  exact big_no (a := σ 47) (b := σ 50) rfl rfl (by omega) ‹IntKind.i64.max < _›
theorem rmnR_L26_ok : rmnR_L26 := by
  intro σ; intros
  obtain ⟨n, hn⟩ : ∃ n : Nat, iv (σ 0) = n := ⟨(iv (σ 0)).toNat, by omega⟩
  have r0 : rptR [.string ⟨#[77]⟩,σ 1,σ 2] := ‹_›
  have c0 := div_nat (o := 1000) hn ‹iv (σ 1) = _›
  have q0 := rep_no r0 c0
  have t0 : tl (σ 3) = tl vE ++ tl (σ 2) := tl_app ‹tv (σ 3) = _›
  have n0 := mod_nat (o := 1000) hn ‹iv (σ 4) = _›
  have r1 : rptR [.string ⟨#[67, 77]⟩,σ 5,σ 6] := ‹_›
  have c1 := div_nat (o := 900) n0 ‹iv (σ 5) = _›
  have q1 := rep_no r1 c1
  have t1 : tl (σ 7) = tl (σ 3) ++ tl (σ 6) := tl_app ‹tv (σ 7) = _›
  have n1 := mod_nat (o := 900) n0 ‹iv (σ 8) = _›
  have r2 : rptR [.string ⟨#[68]⟩,σ 9,σ 10] := ‹_›
  have c2 := div_nat (o := 500) n1 ‹iv (σ 9) = _›
  have q2 := rep_no r2 c2
  have t2 : tl (σ 11) = tl (σ 7) ++ tl (σ 10) := tl_app ‹tv (σ 11) = _›
  have n2 := mod_nat (o := 500) n1 ‹iv (σ 12) = _›
  have r3 : rptR [.string ⟨#[67, 68]⟩,σ 13,σ 14] := ‹_›
  have c3 := div_nat (o := 400) n2 ‹iv (σ 13) = _›
  have q3 := rep_no r3 c3
  have t3 : tl (σ 15) = tl (σ 11) ++ tl (σ 14) := tl_app ‹tv (σ 15) = _›
  have n3 := mod_nat (o := 400) n2 ‹iv (σ 16) = _›
  have r4 : rptR [.string ⟨#[67]⟩,σ 17,σ 18] := ‹_›
  have c4 := div_nat (o := 100) n3 ‹iv (σ 17) = _›
  have q4 := rep_no r4 c4
  have t4 : tl (σ 19) = tl (σ 15) ++ tl (σ 18) := tl_app ‹tv (σ 19) = _›
  have n4 := mod_nat (o := 100) n3 ‹iv (σ 20) = _›
  have r5 : rptR [.string ⟨#[88, 67]⟩,σ 21,σ 22] := ‹_›
  have c5 := div_nat (o := 90) n4 ‹iv (σ 21) = _›
  have q5 := rep_no r5 c5
  have t5 : tl (σ 23) = tl (σ 19) ++ tl (σ 22) := tl_app ‹tv (σ 23) = _›
  have n5 := mod_nat (o := 90) n4 ‹iv (σ 24) = _›
  have r6 : rptR [.string ⟨#[76]⟩,σ 25,σ 26] := ‹_›
  have c6 := div_nat (o := 50) n5 ‹iv (σ 25) = _›
  have q6 := rep_no r6 c6
  have t6 : tl (σ 27) = tl (σ 23) ++ tl (σ 26) := tl_app ‹tv (σ 27) = _›
  have n6 := mod_nat (o := 50) n5 ‹iv (σ 28) = _›
  have r7 : rptR [.string ⟨#[88, 76]⟩,σ 29,σ 30] := ‹_›
  have c7 := div_nat (o := 40) n6 ‹iv (σ 29) = _›
  have q7 := rep_no r7 c7
  have t7 : tl (σ 31) = tl (σ 27) ++ tl (σ 30) := tl_app ‹tv (σ 31) = _›
  have n7 := mod_nat (o := 40) n6 ‹iv (σ 32) = _›
  have r8 : rptR [.string ⟨#[88]⟩,σ 33,σ 34] := ‹_›
  have c8 := div_nat (o := 10) n7 ‹iv (σ 33) = _›
  have q8 := rep_no r8 c8
  have t8 : tl (σ 35) = tl (σ 31) ++ tl (σ 34) := tl_app ‹tv (σ 35) = _›
  have n8 := mod_nat (o := 10) n7 ‹iv (σ 36) = _›
  have r9 : rptR [.string ⟨#[73, 88]⟩,σ 37,σ 38] := ‹_›
  have c9 := div_nat (o := 9) n8 ‹iv (σ 37) = _›
  have q9 := rep_no r9 c9
  have t9 : tl (σ 39) = tl (σ 35) ++ tl (σ 38) := tl_app ‹tv (σ 39) = _›
  have n9 := mod_nat (o := 9) n8 ‹iv (σ 40) = _›
  have r10 : rptR [.string ⟨#[86]⟩,σ 41,σ 42] := ‹_›
  have c10 := div_nat (o := 5) n9 ‹iv (σ 41) = _›
  have q10 := rep_no r10 c10
  have t10 : tl (σ 43) = tl (σ 39) ++ tl (σ 42) := tl_app ‹tv (σ 43) = _›
  have n10 := mod_nat (o := 5) n9 ‹iv (σ 44) = _›
  have r11 : rptR [.string ⟨#[73, 86]⟩,σ 45,σ 46] := ‹_›
  have c11 := div_nat (o := 4) n10 ‹iv (σ 45) = _›
  have q11 := rep_no r11 c11
  have t11 : tl (σ 47) = tl (σ 43) ++ tl (σ 46) := tl_app ‹tv (σ 47) = _›
  have n11 := mod_nat (o := 4) n10 ‹iv (σ 48) = _›
  have r12 : rptR [.string ⟨#[73]⟩,σ 49,σ 50] := ‹_›
  have c12 := div_nat (o := 1) n11 ‹iv (σ 49) = _›
  have q12 := rep_no r12 c12
  have t12 : tl (σ 51) = tl (σ 47) ++ tl (σ 50) := tl_app ‹tv (σ 51) = _›
  show tl (σ 51) = roman (iv (σ 0)).toNat
  rw [hn, Int.toNat_natCast, t12, t11, t10, t9, t8, t7, t6, t5, t4, t3, t2, t1, t0, q0, q1, q2, q3, q4, q5, q6, q7, q8, q9, q10, q11, q12]
  show _ = rStep rOnes n
  have ev : tl vE = [] := rfl
  simp only [ev, rStep, rOnes, List.append_assoc, List.append_nil, List.nil_append]
theorem rmn_ok : rmnC.ok Tryz.prog Tabs :=
  by_tie rmnR_tie (by kernel_rfl) (all_cons vld_ok (all_cons ixb_ok (all_cons rpt_ok (all_cons upp_ok all_nil)))) ⟨rmnR_L0_ok, rmnR_L1_ok, rmnR_L2_ok, rmnR_L3_ok, rmnR_L4_ok, rmnR_L5_ok, rmnR_L6_ok, rmnR_L7_ok, rmnR_L8_ok, rmnR_L9_ok, rmnR_L10_ok, rmnR_L11_ok, rmnR_L12_ok, rmnR_L13_ok, rmnR_L14_ok, rmnR_L15_ok, rmnR_L16_ok, rmnR_L17_ok, rmnR_L18_ok, rmnR_L19_ok, rmnR_L20_ok, rmnR_L21_ok, rmnR_L22_ok, rmnR_L23_ok, rmnR_L24_ok, rmnR_L25_ok, rmnR_L26_ok, trivial⟩
def romR_L0 : Prop := ∀ σ : Nat → Value,
 σ 0 = (vS #[82,79,77,65,78]) →
 σ 2 = vF →
 σ 3 = vF →
 σ 4 = vO →
 σ 5 = vO →
 σ 7 = vZ →
 σ 8 = vZ →
 σ 9 = vO →
 tI (σ 10) →
 0 ≤ iv (σ 10) →
 iv (σ 10) ≤ 0 →
 tF (σ 11) →
 σ 12 = vE →
 σ 13 = vF →
 σ 14 = vZ →
 tU (σ 15) →
 tU (σ 16) →
 tS (σ 18) →
 tI (σ 19) →
 32769 ≤ iv (σ 19) →
 fv (σ 11) = nE (iv (σ 10)) →
 extRel .fbits [σ 11] (σ 15) →
 aN (σ 15) (σ 16) →
 rmnR [vZ,σ 18] →
 iv (σ 19) = ((tv (σ 18)).size : Nat) →
 32768 < iv (σ 19) →
 bv (σ 20) = !true →
 iv (σ 10) = 0 →
    False
def romR_L1 : Prop := ∀ σ : Nat → Value,
 σ 0 = (vS #[82,79,77,65,78]) →
 σ 2 = vF →
 σ 3 = vF →
 σ 4 = vO →
 σ 5 = vO →
 σ 7 = vZ →
 σ 8 = vZ →
 σ 9 = vO →
 tI (σ 10) →
 0 ≤ iv (σ 10) →
 iv (σ 10) ≤ 0 →
 tF (σ 11) →
 σ 12 = vE →
 σ 13 = vF →
 σ 14 = vZ →
 tU (σ 15) →
 tU (σ 16) →
 tS (σ 18) →
 tI (σ 19) →
 0 ≤ iv (σ 19) →
 iv (σ 19) ≤ 32768 →
 fv (σ 11) = nE (iv (σ 10)) →
 extRel .fbits [σ 11] (σ 15) →
 aN (σ 15) (σ 16) →
 rmnR [vZ,σ 18] →
 iv (σ 19) = ((tv (σ 18)).size : Nat) →
 iv (σ 19) ≤ 32768 →
 bv (σ 20) = !false →
 iv (σ 10) = 0 →
    romR [(vS #[82,79,77,65,78]),vU, vF, vF, vO, vO,vU,vZ,vZ, vO,σ 10,σ 11, vE, vF,vZ, (vI 2), (vG 0),σ 18, vF,vZ, vT]
def romR_L2 : Prop := ∀ σ : Nat → Value,
 σ 0 = (vS #[82,79,77,65,78]) →
 σ 2 = vF →
 σ 3 = vF →
 σ 4 = vO →
 σ 5 = vO →
 σ 7 = vZ →
 σ 8 = vZ →
 σ 9 = vO →
 tI (σ 10) →
 1 ≤ iv (σ 10) →
 iv (σ 10) ≤ 3999 →
 tF (σ 11) →
 σ 12 = vE →
 σ 13 = vF →
 σ 14 = vZ →
 tU (σ 15) →
 tU (σ 16) →
 tS (σ 18) →
 tI (σ 19) →
 32769 ≤ iv (σ 19) →
 fv (σ 11) = nE (iv (σ 10)) →
 extRel .fbits [σ 11] (σ 15) →
 aN (σ 15) (σ 16) →
 rmnR [σ 10,σ 18] →
 iv (σ 19) = ((tv (σ 18)).size : Nat) →
 32768 < iv (σ 19) →
 bv (σ 20) = !true →
 iv (σ 10) ≠ 0 →
    False
def romR_L3 : Prop := ∀ σ : Nat → Value,
 σ 0 = (vS #[82,79,77,65,78]) →
 σ 2 = vF →
 σ 3 = vF →
 σ 4 = vO →
 σ 5 = vO →
 σ 7 = vZ →
 σ 8 = vZ →
 σ 9 = vO →
 tI (σ 10) →
 1 ≤ iv (σ 10) →
 iv (σ 10) ≤ 3999 →
 tF (σ 11) →
 σ 12 = vE →
 σ 13 = vF →
 σ 14 = vZ →
 tU (σ 15) →
 tU (σ 16) →
 tS (σ 18) →
 tI (σ 19) →
 0 ≤ iv (σ 19) →
 iv (σ 19) ≤ 32768 →
 fv (σ 11) = nE (iv (σ 10)) →
 extRel .fbits [σ 11] (σ 15) →
 aN (σ 15) (σ 16) →
 rmnR [σ 10,σ 18] →
 iv (σ 19) = ((tv (σ 18)).size : Nat) →
 iv (σ 19) ≤ 32768 →
 bv (σ 20) = !false →
 iv (σ 10) ≠ 0 →
    romR [(vS #[82,79,77,65,78]),vU, vF, vF, vO, vO,vU,vZ,vZ, vO,σ 10,σ 11, vE, vF,vZ, (vI 2), (vG 0),σ 18, vF,vZ, vT]
theorem romR_tie : romC.goals (cfgB romC.base [rmnC, vldC, ixbC, rptC, uppC]) [] 2000 = (romR_L0 ∧ romR_L1 ∧ romR_L2 ∧ romR_L3 ∧ True) := by kernel_rfl
theorem romR_L0_ok : romR_L0 := by
  intro σ; intros
  obtain ⟨n, hn⟩ : ∃ n : Nat, iv (σ 10) = n := ⟨(iv (σ 10)).toNat, by omega⟩
  have hr0 := ‹rmnR _›
  have hr : tl (σ 18) = roman 0 := hr0
  have n0 : 0 = n := by omega
  rw [n0] at hr
  have rl := (roman_at (m := n) (by omega)).2.1
  have hq := ‹iv (σ 19) = ((tv (σ 18)).size : Nat)›
  rw [← tl_len, hr] at hq
  omega
theorem romR_L1_ok : romR_L1 := by
  intro σ; intros
  obtain ⟨n, hn⟩ : ∃ n : Nat, iv (σ 10) = n := ⟨(iv (σ 10)).toNat, by omega⟩
  have hr0 := ‹rmnR _›
  have hr : tl (σ 18) = roman 0 := hr0
  have n0 : 0 = n := by omega
  rw [n0] at hr
  have rl := (roman_at (m := n) (by omega)).2.1
  show tl (σ 18) = roman (iv (σ 10)).toNat
  rw [hn]
  exact hr
theorem romR_L2_ok : romR_L2 := by
  intro σ; intros
  obtain ⟨n, hn⟩ : ∃ n : Nat, iv (σ 10) = n := ⟨(iv (σ 10)).toNat, by omega⟩
  have hr0 := ‹rmnR _›
  have hr : tl (σ 18) = roman (iv (σ 10)).toNat := hr0
  rw [hn, Int.toNat_natCast] at hr
  have rl := (roman_at (m := n) (by omega)).2.1
  have hq := ‹iv (σ 19) = ((tv (σ 18)).size : Nat)›
  rw [← tl_len, hr] at hq
  omega
theorem romR_L3_ok : romR_L3 := by
  intro σ; intros
  obtain ⟨n, hn⟩ : ∃ n : Nat, iv (σ 10) = n := ⟨(iv (σ 10)).toNat, by omega⟩
  have hr0 := ‹rmnR _›
  have hr : tl (σ 18) = roman (iv (σ 10)).toNat := hr0
  rw [hn, Int.toNat_natCast] at hr
  have rl := (roman_at (m := n) (by omega)).2.1
  show tl (σ 18) = roman (iv (σ 10)).toNat
  rw [hn]
  exact hr
theorem rom_ok : romC.ok Tryz.prog Tabs :=
  by_tie romR_tie (by kernel_rfl) (all_cons rmn_ok (all_cons vld_ok (all_cons ixb_ok (all_cons rpt_ok (all_cons upp_ok all_nil))))) ⟨romR_L0_ok, romR_L1_ok, romR_L2_ok, romR_L3_ok, trivial⟩
def araR_L0 : Prop := ∀ σ : Nat → Value,
 σ 0 = (vS #[65,82,65,66,73,67]) →
 σ 2 = vF →
 σ 3 = vF →
 σ 4 = vO →
 σ 5 = vO →
 σ 7 = vZ →
 σ 8 = vZ →
 σ 9 = (vI 2) →
 σ 10 = (vG 0) →
 tS (σ 11) →
 σ 12 = vF →
 σ 13 = vZ →
 araRPre [(vS #[65,82,65,66,73,67]),vU, vF, vF, vO, vO,vU,vZ,vZ, (vI 2), (vG 0),σ 11, vF,vZ] →
 ¬ vldRPre [σ 11] →
    False
def araR_L1 : Prop := ∀ σ : Nat → Value,
 σ 0 = (vS #[65,82,65,66,73,67]) →
 σ 2 = vF →
 σ 3 = vF →
 σ 4 = vO →
 σ 5 = vO →
 σ 7 = vZ →
 σ 8 = vZ →
 σ 9 = (vI 2) →
 σ 10 = (vG 0) →
 tS (σ 11) →
 σ 12 = vF →
 σ 13 = vZ →
 tI (σ 15) →
 32769 ≤ iv (σ 15) →
 araRPre [(vS #[65,82,65,66,73,67]),vU, vF, vF, vO, vO,vU,vZ,vZ, (vI 2), (vG 0),σ 11, vF,vZ] →
 vldR [σ 11,σ 14] →
 iv (σ 15) = ((tv (σ 11)).size : Nat) →
 32768 < iv (σ 15) →
 bv (σ 14) = true →
    False
def araR_L2 : Prop := ∀ σ : Nat → Value,
 σ 0 = (vS #[65,82,65,66,73,67]) →
 σ 2 = vF →
 σ 3 = vF →
 σ 4 = vO →
 σ 5 = vO →
 σ 7 = vZ →
 σ 8 = vZ →
 σ 9 = (vI 2) →
 σ 10 = (vG 0) →
 tS (σ 11) →
 σ 12 = vF →
 σ 13 = vZ →
 tI (σ 15) →
 0 ≤ iv (σ 15) →
 iv (σ 15) ≤ 32768 →
 tS (σ 18) →
 araRPre [(vS #[65,82,65,66,73,67]),vU, vF, vF, vO, vO,vU,vZ,vZ, (vI 2), (vG 0),σ 11, vF,vZ] →
 vldR [σ 11,σ 14] →
 iv (σ 15) = ((tv (σ 11)).size : Nat) →
 vldR [σ 11,σ 17] →
 uppR [σ 11,σ 18] →
    ((fitsL [.any, .any, (.intIn .i64 (some 0) (some 4000)), .any, .any, .any, .any, .any, .any, .any] [σ 18,vU,vZ,vU,vU,vU,vU,vU,vU,vU] → ¬ araI [σ 18,vU,vZ,vU,vU,vU,vU,vU,vU,vU])) →
 bv (σ 17) = true →
 iv (σ 15) ≤ 32768 →
 bv (σ 14) = true →
    False
def araR_L3 : Prop := ∀ σ : Nat → Value,
 σ 0 = (vS #[65,82,65,66,73,67]) →
 σ 2 = vF →
 σ 3 = vF →
 σ 4 = vO →
 σ 5 = vO →
 σ 7 = vZ →
 σ 8 = vZ →
 σ 9 = (vI 2) →
 σ 10 = (vG 0) →
 tS (σ 11) →
 σ 12 = vF →
 σ 13 = vZ →
 tI (σ 15) →
 0 ≤ iv (σ 15) →
 iv (σ 15) ≤ 32768 →
 tS (σ 18) →
 tI (σ 20) →
 0 ≤ iv (σ 20) →
 iv (σ 20) ≤ 0 →
 tS (σ 29) →
 tF (σ 31) →
 tU (σ 32) →
 tU (σ 33) →
 araRPre [(vS #[65,82,65,66,73,67]),vU, vF, vF, vO, vO,vU,vZ,vZ, (vI 2), (vG 0),σ 11, vF,vZ] →
 vldR [σ 11,σ 14] →
 iv (σ 15) = ((tv (σ 11)).size : Nat) →
 vldR [σ 11,σ 17] →
 uppR [σ 11,σ 18] →
 araI [σ 18,σ 19,σ 20,σ 21,σ 22,σ 23,σ 24,σ 25,σ 26,σ 27] →
 rmnR [σ 20,σ 29] →
 fv (σ 31) = nE (iv (σ 20)) →
 extRel .fbits [σ 31] (σ 32) →
 aN (σ 32) (σ 33) →
 iv (σ 20) = 0 →
 ((tv (σ 29)).toList == (tv (σ 18)).toList) = true →
 iv (σ 20) < 4000 →
 bv (σ 17) = true →
 iv (σ 15) ≤ 32768 →
 bv (σ 14) = true →
    araR [(vS #[65,82,65,66,73,67]),vU, vF, vF, vO, vO,vU,vZ,vZ, (vI 2), (vG 0),σ 11, vF,vZ, vO, (vG 0), vE, vF,vZ, vT]
def araR_L4 : Prop := ∀ σ : Nat → Value,
 σ 0 = (vS #[65,82,65,66,73,67]) →
 σ 2 = vF →
 σ 3 = vF →
 σ 4 = vO →
 σ 5 = vO →
 σ 7 = vZ →
 σ 8 = vZ →
 σ 9 = (vI 2) →
 σ 10 = (vG 0) →
 tS (σ 11) →
 σ 12 = vF →
 σ 13 = vZ →
 tI (σ 15) →
 0 ≤ iv (σ 15) →
 iv (σ 15) ≤ 32768 →
 tS (σ 18) →
 tI (σ 20) →
 1 ≤ iv (σ 20) →
 iv (σ 20) ≤ 3999 →
 tS (σ 29) →
 tF (σ 31) →
 tU (σ 32) →
 tU (σ 33) →
 araRPre [(vS #[65,82,65,66,73,67]),vU, vF, vF, vO, vO,vU,vZ,vZ, (vI 2), (vG 0),σ 11, vF,vZ] →
 vldR [σ 11,σ 14] →
 iv (σ 15) = ((tv (σ 11)).size : Nat) →
 vldR [σ 11,σ 17] →
 uppR [σ 11,σ 18] →
 araI [σ 18,σ 19,σ 20,σ 21,σ 22,σ 23,σ 24,σ 25,σ 26,σ 27] →
 rmnR [σ 20,σ 29] →
 fv (σ 31) = nE (iv (σ 20)) →
 extRel .fbits [σ 31] (σ 32) →
 aN (σ 32) (σ 33) →
 iv (σ 20) ≠ 0 →
 ((tv (σ 29)).toList == (tv (σ 18)).toList) = true →
 iv (σ 20) < 4000 →
 bv (σ 17) = true →
 iv (σ 15) ≤ 32768 →
 bv (σ 14) = true →
    araR [(vS #[65,82,65,66,73,67]),vU, vF, vF, vO, vO,vU,vZ,vZ, (vI 2), (vG 0),σ 11, vF,vZ, vO,σ 31, vE, vF,vZ, vT]
def araR_L5 : Prop := ∀ σ : Nat → Value,
 σ 0 = (vS #[65,82,65,66,73,67]) →
 σ 2 = vF →
 σ 3 = vF →
 σ 4 = vO →
 σ 5 = vO →
 σ 7 = vZ →
 σ 8 = vZ →
 σ 9 = (vI 2) →
 σ 10 = (vG 0) →
 tS (σ 11) →
 σ 12 = vF →
 σ 13 = vZ →
 tI (σ 15) →
 0 ≤ iv (σ 15) →
 iv (σ 15) ≤ 32768 →
 tS (σ 18) →
 tI (σ 20) →
 0 ≤ iv (σ 20) →
 iv (σ 20) ≤ 3999 →
 tS (σ 29) →
 tI (σ 31) →
 1 ≤ iv (σ 31) →
 iv (σ 31) ≤ 4000 →
 araRPre [(vS #[65,82,65,66,73,67]),vU, vF, vF, vO, vO,vU,vZ,vZ, (vI 2), (vG 0),σ 11, vF,vZ] →
 vldR [σ 11,σ 14] →
 iv (σ 15) = ((tv (σ 11)).size : Nat) →
 vldR [σ 11,σ 17] →
 uppR [σ 11,σ 18] →
 araI [σ 18,σ 19,σ 20,σ 21,σ 22,σ 23,σ 24,σ 25,σ 26,σ 27] →
 rmnR [σ 20,σ 29] →
 iv (σ 31) = iv (σ 20) + 1 →
    ((fitsL [.any, .any, (.intIn .i64 (some 0) (some 4000)), .any, .any, .any, .any, .any, .any, .any] [σ 18,σ 20,σ 31,σ 28,σ 20,σ 20,σ 29,σ 18,σ 30,σ 31] → araI [σ 18,σ 20,σ 31,σ 28,σ 20,σ 20,σ 29,σ 18,σ 30,σ 31] → ¬ araIM [σ 18,σ 20,σ 31,σ 28,σ 20,σ 20,σ 29,σ 18,σ 30,σ 31] < araIM [σ 18,σ 19,σ 20,σ 21,σ 22,σ 23,σ 24,σ 25,σ 26,σ 27])) →
 ((tv (σ 29)).toList == (tv (σ 18)).toList) = false →
 iv (σ 20) < 4000 →
 bv (σ 17) = true →
 iv (σ 15) ≤ 32768 →
 bv (σ 14) = true →
    False
def araR_L6 : Prop := ∀ σ : Nat → Value,
 σ 0 = (vS #[65,82,65,66,73,67]) →
 σ 2 = vF →
 σ 3 = vF →
 σ 4 = vO →
 σ 5 = vO →
 σ 7 = vZ →
 σ 8 = vZ →
 σ 9 = (vI 2) →
 σ 10 = (vG 0) →
 tS (σ 11) →
 σ 12 = vF →
 σ 13 = vZ →
 tI (σ 15) →
 0 ≤ iv (σ 15) →
 iv (σ 15) ≤ 32768 →
 tS (σ 18) →
 tI (σ 20) →
 4000 ≤ iv (σ 20) →
 iv (σ 20) ≤ 4000 →
 araRPre [(vS #[65,82,65,66,73,67]),vU, vF, vF, vO, vO,vU,vZ,vZ, (vI 2), (vG 0),σ 11, vF,vZ] →
 vldR [σ 11,σ 14] →
 iv (σ 15) = ((tv (σ 11)).size : Nat) →
 vldR [σ 11,σ 17] →
 uppR [σ 11,σ 18] →
 araI [σ 18,σ 19,σ 20,σ 21,σ 22,σ 23,σ 24,σ 25,σ 26,σ 27] →
 4000 ≤ iv (σ 20) →
 bv (σ 17) = true →
 iv (σ 15) ≤ 32768 →
 bv (σ 14) = true →
    False
def araR_L7 : Prop := ∀ σ : Nat → Value,
 σ 0 = (vS #[65,82,65,66,73,67]) →
 σ 2 = vF →
 σ 3 = vF →
 σ 4 = vO →
 σ 5 = vO →
 σ 7 = vZ →
 σ 8 = vZ →
 σ 9 = (vI 2) →
 σ 10 = (vG 0) →
 tS (σ 11) →
 σ 12 = vF →
 σ 13 = vZ →
 tI (σ 15) →
 0 ≤ iv (σ 15) →
 iv (σ 15) ≤ 32768 →
 araRPre [(vS #[65,82,65,66,73,67]),vU, vF, vF, vO, vO,vU,vZ,vZ, (vI 2), (vG 0),σ 11, vF,vZ] →
 vldR [σ 11,σ 14] →
 iv (σ 15) = ((tv (σ 11)).size : Nat) →
 vldR [σ 11,σ 17] →
 ¬ uppRPre [σ 11] →
 bv (σ 17) = true →
 iv (σ 15) ≤ 32768 →
 bv (σ 14) = true →
    False
def araR_L8 : Prop := ∀ σ : Nat → Value,
 σ 0 = (vS #[65,82,65,66,73,67]) →
 σ 2 = vF →
 σ 3 = vF →
 σ 4 = vO →
 σ 5 = vO →
 σ 7 = vZ →
 σ 8 = vZ →
 σ 9 = (vI 2) →
 σ 10 = (vG 0) →
 tS (σ 11) →
 σ 12 = vF →
 σ 13 = vZ →
 tI (σ 15) →
 0 ≤ iv (σ 15) →
 iv (σ 15) ≤ 32768 →
 araRPre [(vS #[65,82,65,66,73,67]),vU, vF, vF, vO, vO,vU,vZ,vZ, (vI 2), (vG 0),σ 11, vF,vZ] →
 vldR [σ 11,σ 14] →
 iv (σ 15) = ((tv (σ 11)).size : Nat) →
 vldR [σ 11,σ 17] →
 bv (σ 17) = false →
 iv (σ 15) ≤ 32768 →
 bv (σ 14) = true →
    False
def araR_L9 : Prop := ∀ σ : Nat → Value,
 σ 0 = (vS #[65,82,65,66,73,67]) →
 σ 2 = vF →
 σ 3 = vF →
 σ 4 = vO →
 σ 5 = vO →
 σ 7 = vZ →
 σ 8 = vZ →
 σ 9 = (vI 2) →
 σ 10 = (vG 0) →
 tS (σ 11) →
 σ 12 = vF →
 σ 13 = vZ →
 tI (σ 15) →
 0 ≤ iv (σ 15) →
 iv (σ 15) ≤ 32768 →
 araRPre [(vS #[65,82,65,66,73,67]),vU, vF, vF, vO, vO,vU,vZ,vZ, (vI 2), (vG 0),σ 11, vF,vZ] →
 vldR [σ 11,σ 14] →
 iv (σ 15) = ((tv (σ 11)).size : Nat) →
 ¬ vldRPre [σ 11] →
 iv (σ 15) ≤ 32768 →
 bv (σ 14) = true →
    False
def araR_L10 : Prop := ∀ σ : Nat → Value,
 σ 0 = (vS #[65,82,65,66,73,67]) →
 σ 2 = vF →
 σ 3 = vF →
 σ 4 = vO →
 σ 5 = vO →
 σ 7 = vZ →
 σ 8 = vZ →
 σ 9 = (vI 2) →
 σ 10 = (vG 0) →
 tS (σ 11) →
 σ 12 = vF →
 σ 13 = vZ →
 araRPre [(vS #[65,82,65,66,73,67]),vU, vF, vF, vO, vO,vU,vZ,vZ, (vI 2), (vG 0),σ 11, vF,vZ] →
 vldR [σ 11,σ 14] →
 bv (σ 14) = false →
    False
theorem araR_tie : araC.goals (cfgB araC.base [rmnC, vldC, ixbC, rptC, uppC]) [(39, 3, araI_)] 2000 = (araR_L0 ∧ araR_L1 ∧ araR_L2 ∧ araR_L3 ∧ araR_L4 ∧ araR_L5 ∧ araR_L6 ∧ araR_L7 ∧ araR_L8 ∧ araR_L9 ∧ araR_L10 ∧ True) := by kernel_rfl
theorem araR_L0_ok : araR_L0 := by
  intro σ; intros
  obtain ⟨m, m4, ht⟩ : ∃ m : Nat, m < 4000 ∧ tl (σ 11) = roman m := (by have h := ‹araRPre _›; exact h)
  obtain ⟨_, rl, lw⟩ := roman_at m4
  have lw2 : ∀ c ∈ tl (σ 11), c.toNat < 128 := fun c hc => by rw [ht] at hc; have := lw c hc; omega
  have n_ := ‹¬ vldRPre _›
  exact n_ (vld_pre (by rw [ht]; omega))
theorem araR_L1_ok : araR_L1 := by
  intro σ; intros
  obtain ⟨m, m4, ht⟩ : ∃ m : Nat, m < 4000 ∧ tl (σ 11) = roman m := (by have h := ‹araRPre _›; exact h)
  obtain ⟨_, rl, lw⟩ := roman_at m4
  have lw2 : ∀ c ∈ tl (σ 11), c.toNat < 128 := fun c hc => by rw [ht] at hc; have := lw c hc; omega
  have hq := ‹iv (σ 15) = ((tv (σ 11)).size : Nat)›
  rw [← tl_len, ht] at hq
  omega
theorem araR_L2_ok : araR_L2 := by
  intro σ; intros
  obtain ⟨m, m4, ht⟩ : ∃ m : Nat, m < 4000 ∧ tl (σ 11) = roman m := (by have h := ‹araRPre _›; exact h)
  obtain ⟨_, rl, lw⟩ := roman_at m4
  have lw2 : ∀ c ∈ tl (σ 11), c.toNat < 128 := fun c hc => by rw [ht] at hc; have := lw c hc; omega
  have hu0 := ‹uppR [σ 11,σ 18]›
  have hu0 : tv (σ 18) = tv (σ 11) := hu0
  have hu := tl_tv hu0
  rw [ht] at hu
  specialize ‹fitsL _ _ → ¬ araI _› (by (simp only [fitsL, Sort_.fits]; repeat' (first | exact True.intro | (with_reducible refine And.intro ?_ ?_) | exact ⟨_, ‹_›⟩ | exact ⟨_, rfl⟩ | exact ⟨_, ‹_›, fun a h => by cases h; omega, fun b h => by cases h; omega⟩ | exact ⟨_, rfl, fun a h => by cases h; decide, fun b h => by cases h; decide⟩)))
  have c_ := ‹¬ araI _›
  have c : ¬ AraI 0 (tl (σ 18)) := c_
  exact c ⟨m, 0, m4, hu, rfl, Nat.zero_le _⟩
theorem araR_L3_ok : araR_L3 := by
  intro σ; intros
  obtain ⟨m, m4, ht⟩ : ∃ m : Nat, m < 4000 ∧ tl (σ 11) = roman m := (by have h := ‹araRPre _›; exact h)
  obtain ⟨_, rl, lw⟩ := roman_at m4
  have lw2 : ∀ c ∈ tl (σ 11), c.toNat < 128 := fun c hc => by rw [ht] at hc; have := lw c hc; omega
  have hu0 := ‹uppR [σ 11,σ 18]›
  have hu0 : tv (σ 18) = tv (σ 11) := hu0
  have hu := tl_tv hu0
  rw [ht] at hu
  have hI_ := ‹araI _›
  have hI : AraI (iv (σ 20)) (tl (σ 18)) := hI_
  obtain ⟨m2, j, h4, h5, hj, hle⟩ := hI
  have em := roman_inj h4 m4 (h5.symm.trans hu)
  subst em
  have hr0 := ‹rmnR _›
  have hr : tl (σ 29) = roman (iv (σ 20)).toNat := hr0
  rw [hj, Int.toNat_natCast] at hr
  have ee := tl_eq ‹((tv (σ 29)).toList == (tv (σ 18)).toList) = true›
  rw [hr, hu] at ee
  have ej := roman_inj (by omega) m4 ee
  intro m3 h3 t3
  have t3 : tl (σ 11) = roman m3 := t3
  have e3 := roman_inj m4 h3 (ht.symm.trans t3)
  rw [← e3]
  show (0 : Nat) = nr m2
  have m0 : m2 = 0 := by omega
  rw [m0]; exact nr_zero.symm
theorem araR_L4_ok : araR_L4 := by
  intro σ; intros
  obtain ⟨m, m4, ht⟩ : ∃ m : Nat, m < 4000 ∧ tl (σ 11) = roman m := (by have h := ‹araRPre _›; exact h)
  obtain ⟨_, rl, lw⟩ := roman_at m4
  have lw2 : ∀ c ∈ tl (σ 11), c.toNat < 128 := fun c hc => by rw [ht] at hc; have := lw c hc; omega
  have hu0 := ‹uppR [σ 11,σ 18]›
  have hu0 : tv (σ 18) = tv (σ 11) := hu0
  have hu := tl_tv hu0
  rw [ht] at hu
  have hI_ := ‹araI _›
  have hI : AraI (iv (σ 20)) (tl (σ 18)) := hI_
  obtain ⟨m2, j, h4, h5, hj, hle⟩ := hI
  have em := roman_inj h4 m4 (h5.symm.trans hu)
  subst em
  have hr0 := ‹rmnR _›
  have hr : tl (σ 29) = roman (iv (σ 20)).toNat := hr0
  rw [hj, Int.toNat_natCast] at hr
  have ee := tl_eq ‹((tv (σ 29)).toList == (tv (σ 18)).toList) = true›
  rw [hr, hu] at ee
  have ej := roman_inj (by omega) m4 ee
  intro m3 h3 t3
  have t3 : tl (σ 11) = roman m3 := t3
  have e3 := roman_inj m4 h3 (ht.symm.trans t3)
  rw [← e3]
  have hf := ‹fv (σ 31) = nE (iv (σ 20))›
  rw [hj, ej] at hf
  exact hf
theorem araR_L5_ok : araR_L5 := by
  intro σ; intros
  obtain ⟨m, m4, ht⟩ : ∃ m : Nat, m < 4000 ∧ tl (σ 11) = roman m := (by have h := ‹araRPre _›; exact h)
  obtain ⟨_, rl, lw⟩ := roman_at m4
  have lw2 : ∀ c ∈ tl (σ 11), c.toNat < 128 := fun c hc => by rw [ht] at hc; have := lw c hc; omega
  have hu0 := ‹uppR [σ 11,σ 18]›
  have hu0 : tv (σ 18) = tv (σ 11) := hu0
  have hu := tl_tv hu0
  rw [ht] at hu
  have hI_ := ‹araI _›
  have hI : AraI (iv (σ 20)) (tl (σ 18)) := hI_
  obtain ⟨m2, j, h4, h5, hj, hle⟩ := hI
  have em := roman_inj h4 m4 (h5.symm.trans hu)
  subst em
  have hr0 := ‹rmnR _›
  have hr : tl (σ 29) = roman (iv (σ 20)).toNat := hr0
  rw [hj, Int.toNat_natCast] at hr
  have ne := tl_ne ‹((tv (σ 29)).toList == (tv (σ 18)).toList) = false›
  have nj : j ≠ m2 := fun e => ne (by rw [hr, hu, e])
  have hy := ‹iv (σ 31) = iv (σ 20) + 1›
  specialize ‹fitsL _ _ → araI _ → ¬ (_ : Nat) < _› (by (simp only [fitsL, Sort_.fits]; repeat' (first | exact True.intro | (with_reducible refine And.intro ?_ ?_) | exact ⟨_, ‹_›⟩ | exact ⟨_, rfl⟩ | exact ⟨_, ‹_›, fun a h => by cases h; omega, fun b h => by cases h; omega⟩ | exact ⟨_, rfl, fun a h => by cases h; decide, fun b h => by cases h; decide⟩)))
  have c0 := ‹araI _ → ¬ (_ : Nat) < _›
  have c1 : AraI (iv (σ 31)) (tl (σ 18)) := ⟨m2, j + 1, m4, hu, by omega, by omega⟩
  have c := c0 c1
  have c : ¬ 4000 - (iv (σ 31)).toNat < 4000 - (iv (σ 20)).toNat := c
  omega
theorem araR_L6_ok : araR_L6 := by
  intro σ; intros
  obtain ⟨m, m4, ht⟩ : ∃ m : Nat, m < 4000 ∧ tl (σ 11) = roman m := (by have h := ‹araRPre _›; exact h)
  obtain ⟨_, rl, lw⟩ := roman_at m4
  have lw2 : ∀ c ∈ tl (σ 11), c.toNat < 128 := fun c hc => by rw [ht] at hc; have := lw c hc; omega
  have hu0 := ‹uppR [σ 11,σ 18]›
  have hu0 : tv (σ 18) = tv (σ 11) := hu0
  have hu := tl_tv hu0
  rw [ht] at hu
  have hI_ := ‹araI _›
  have hI : AraI (iv (σ 20)) (tl (σ 18)) := hI_
  obtain ⟨m2, j, h4, h5, hj, hle⟩ := hI
  have em := roman_inj h4 m4 (h5.symm.trans hu)
  subst em
  omega
theorem araR_L7_ok : araR_L7 := by
  intro σ; intros
  obtain ⟨m, m4, ht⟩ : ∃ m : Nat, m < 4000 ∧ tl (σ 11) = roman m := (by have h := ‹araRPre _›; exact h)
  obtain ⟨_, rl, lw⟩ := roman_at m4
  have lw2 : ∀ c ∈ tl (σ 11), c.toNat < 128 := fun c hc => by rw [ht] at hc; have := lw c hc; omega
  have n_ := ‹¬ uppRPre _›
  exact n_ ⟨by show (tl (σ 11)).length ≤ _; rw [ht]; omega, fun c hc h => by have hc : c ∈ tl (σ 11) := hc; rw [ht] at hc; have := lw c hc; omega⟩
theorem araR_L8_ok : araR_L8 := by
  intro σ; intros
  obtain ⟨m, m4, ht⟩ : ∃ m : Nat, m < 4000 ∧ tl (σ 11) = roman m := (by have h := ‹araRPre _›; exact h)
  obtain ⟨_, rl, lw⟩ := roman_at m4
  have lw2 : ∀ c ∈ tl (σ 11), c.toNat < 128 := fun c hc => by rw [ht] at hc; have := lw c hc; omega
  have v := ‹vldR [σ 11,σ 17]›
  exact vld_low v lw2 ‹bv (σ 17) = false›
theorem araR_L9_ok : araR_L9 := by
  intro σ; intros
  obtain ⟨m, m4, ht⟩ : ∃ m : Nat, m < 4000 ∧ tl (σ 11) = roman m := (by have h := ‹araRPre _›; exact h)
  obtain ⟨_, rl, lw⟩ := roman_at m4
  have lw2 : ∀ c ∈ tl (σ 11), c.toNat < 128 := fun c hc => by rw [ht] at hc; have := lw c hc; omega
  have n_ := ‹¬ vldRPre _›
  exact n_ (vld_pre (by rw [ht]; omega))
theorem araR_L10_ok : araR_L10 := by
  intro σ; intros
  obtain ⟨m, m4, ht⟩ : ∃ m : Nat, m < 4000 ∧ tl (σ 11) = roman m := (by have h := ‹araRPre _›; exact h)
  obtain ⟨_, rl, lw⟩ := roman_at m4
  have lw2 : ∀ c ∈ tl (σ 11), c.toNat < 128 := fun c hc => by rw [ht] at hc; have := lw c hc; omega
  have v := ‹vldR [σ 11,σ 14]›
  exact vld_low v lw2 ‹bv (σ 14) = false›
theorem ara_ok : araC.ok Tryz.prog Tabs :=
  by_tie araR_tie (by kernel_rfl) (all_cons rmn_ok (all_cons vld_ok (all_cons ixb_ok (all_cons rpt_ok (all_cons upp_ok all_nil))))) ⟨araR_L0_ok, araR_L1_ok, araR_L2_ok, araR_L3_ok, araR_L4_ok, araR_L5_ok, araR_L6_ok, araR_L7_ok, araR_L8_ok, araR_L9_ok, araR_L10_ok, trivial⟩
end Go.Proofs.Bs
