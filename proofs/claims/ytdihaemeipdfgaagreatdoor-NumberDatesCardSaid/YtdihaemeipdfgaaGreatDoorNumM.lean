/- The law ValueMakes, as a contract. -/
import Derived.Test.YtdihaemeipdfgaaGreatDoorNumB
namespace Go.Proofs.Num
open Go.Ev Go.Dates Go.RowKit Go.Proofs.YtdihaemeipdfgaaGreatDoor
set_option maxRecDepth 1000000
def isTrue : List Value → Prop := fun vs => vs = [.bool true]
def makesR : List Value → Prop | [_, _, _, _, r] => bv r = true | _ => False
def begunC : Con := Con.mk 17 [] (.sc .bool) "isTrue" (fun _ => True) false fun vs => vs = [.bool true]
def makesC : Con := { f := 5, ins := [.sc (.int .u64), .sc .str, .sc .bool, i64S], out := .sc .bool, id := "makesR", rel := makesR }
def vmNames : List (String × Nat) := [("math/bits.deBruijn64tab", 0), ("internal/strconv.float64info", 1), ("internal/strconv.optimize", 2), ("internal/strconv.float64pow10", 3), ("internal/strconv.uint64pow10", 4), ("internal/strconv.pow10Tab", 5), ("unicode/utf8.first", 6), ("unicode/utf8.acceptRanges", 7), ("math/bits.deBruijn32tab", 8)]
noncomputable def vm : List GItem := (gItems Tryz.prog Rows.valueMakesRow.laid vmNames).getD []
theorem vm_some : (gItems Tryz.prog Rows.valueMakesRow.laid vmNames).isSome = true := by kernel_rfl
theorem vm_eq : gItems Tryz.prog Rows.valueMakesRow.laid vmNames = some vm := by
  unfold vm
  cases h : gItems Tryz.prog Rows.valueMakesRow.laid vmNames with
  | none => have := vm_some; rw [h] at this; cases this
  | some x => rfl
theorem begun_true (w : World) (hI : Holds vm w) : Calls Tryz.prog 17 (#[] : Array Value) w fun e w' => e = .returned (.bool true) ∧ Below w.heap.size w w' :=
  calls_trueG (P := Tryz.prog) (n := 400) mixed (fun _ h => h) (m := 0) (nsym := 9) (ng := 18) pinned0 (by kernel_rfl) (l := []) (fun _ h => by cases h) hI (noFacts _ _) (args := []) (vs := []) rfl (by kernel_rfl)
theorem begun_ok : begunC.ok Tryz.prog (Holds vm) := con_true (by kernel_rfl) begun_true
theorem keepsM : Keeps (Holds vm) := fun _ _ h hb => h.below hb

/-- 'x - x == 0' tells whether x is finite. -/
theorem sub_self_test {x d : Nat} {b : Bool} (h : farV .sub .f64 x x = some (some d) ∨ (farV .sub .f64 x x = some none ∧ Nan64 d)) (k : fcmpV .eql .f64 d 0 = some (.bool b)) : b = true ↔ Fin64 x := by
  have k : (Ieee.double.order d 0 == some .eq) = b := by
    simp only [fcmpV, Option.some.injEq, Value.bool.injEq] at k
    exact k
  have z : Ieee.double.order 0 0 = some .eq := by decide
  rcases three x with c | c | c
  · have e : farV .sub .f64 x x = some (some 0) := by
      show some (Ieee.double.sub x x) = _
      rw [sub_self c]
    rcases h with h | ⟨h, _⟩
    · rw [e] at h
      simp only [Option.some.injEq] at h
      subst h
      rw [z] at k
      subst k
      exact ⟨fun _ => c, fun _ => rfl⟩
    · rw [e] at h; cases h
  · have e : farV .sub .f64 x x = some none := by
      show some (Ieee.double.sub x x) = _
      obtain ⟨s, r⟩ := inf_read c
      unfold Ieee.Format.sub
      rw [r]
      cases s <;> rfl
    rcases h with h | ⟨_, h⟩
    · rw [e] at h; cases h
    · rw [(order_nan h 0).1] at k
      subst k
      constructor
      · intro q; cases q
      · intro q; unfold Fin64 at q; omega
  · have e : farV .sub .f64 x x = some none := by
      show some (Ieee.double.sub x x) = _
      rw [(sub_nan c x).1]
    rcases h with h | ⟨_, h⟩
    · rw [e] at h; cases h
    · rw [(order_nan h 0).1] at k
      subst k
      constructor
      · intro q; cases q
      · intro q; unfold Nan64 at c; unfold Fin64 at q; omega

def makes_L0 : Prop := ∀ σ : Nat → Value,
    (σ 0 = .int .u64 (iv (σ 0))) →
    (σ 1 = .string (tv (σ 1))) →
    (σ 2 = .bool (bv (σ 2))) →
    (σ 3 = .int .i64 (iv (σ 3))) →
    (σ 4 = .float .f64 (fv (σ 4))) →
    (σ 6 = .int .u64 (iv (σ 6))) →
    (σ 7 = .int .u64 (iv (σ 7))) →
    (σ 9 = .int .u64 (iv (σ 9))) →
    (σ 10 = .int .u64 (iv (σ 10))) →
    (σ 12 = .bool (bv (σ 12))) →
    (σ 14 = .int .u64 (iv (σ 14))) →
    (σ 15 = .int .u64 (iv (σ 15))) →
    (σ 16 = .float .f64 (fv (σ 16))) →
    (σ 17 = .bool (bv (σ 17))) →
    (σ 18 = .bool (bv (σ 18))) →
    (σ 20 = .float .f64 (fv (σ 20))) →
    (σ 21 = .bool (bv (σ 21))) →
    (extRel .ffrom [σ 0] (σ 4)) →
    (isTrue [σ 5]) →
    (extRel .fbits [σ 4] (σ 6)) →
    (extRel .fbits [σ 4] (σ 7)) →
    (extRel .fbits [σ 4] (σ 9)) →
    (extRel .fbits [σ 4] (σ 10)) →
    (fcmpV .neq .f64 (fv (σ 4)) (fv (σ 4)) = some (.bool (bv (σ 12)))) →
    (extRel .fbits [σ 4] (σ 14)) →
    (ibin .andNot IntKind.u64 (iv (σ 14)) (9223372036854775808) = some (.int IntKind.u64 (iv (σ 15)))) →
    (extRel .ffrom [σ 15] (σ 16)) →
    (fcmpV .gtr .f64 (fv (σ 16)) (9218868437227405311) = some (.bool (bv (σ 17)))) →
    (bv (σ 18) = !(bv (σ 17))) →
    ((farV .sub .f64 (fv (σ 4)) (fv (σ 4)) = some (some (fv (σ 20))) ∨ (farV .sub .f64 (fv (σ 4)) (fv (σ 4)) = some none ∧ Nan64 (fv (σ 20))))) →
    (fcmpV .eql .f64 (fv (σ 20)) (0) = some (.bool (bv (σ 21)))) →
    (bv (σ 21) = !true) →
    (bv (σ 18) = !true) →
    (bv (σ 12) = !true) →
    (iv (σ 9) = iv (σ 10)) →
    (iv (σ 6) = iv (σ 7)) →
    (bv (σ 5) = true) →
    makesR [σ 0, σ 1, σ 2, σ 3, (Value.bool true)]

def makes_L1 : Prop := ∀ σ : Nat → Value,
    (σ 0 = .int .u64 (iv (σ 0))) →
    (σ 1 = .string (tv (σ 1))) →
    (σ 2 = .bool (bv (σ 2))) →
    (σ 3 = .int .i64 (iv (σ 3))) →
    (σ 4 = .float .f64 (fv (σ 4))) →
    (σ 6 = .int .u64 (iv (σ 6))) →
    (σ 7 = .int .u64 (iv (σ 7))) →
    (σ 9 = .int .u64 (iv (σ 9))) →
    (σ 10 = .int .u64 (iv (σ 10))) →
    (σ 12 = .bool (bv (σ 12))) →
    (σ 14 = .int .u64 (iv (σ 14))) →
    (σ 15 = .int .u64 (iv (σ 15))) →
    (σ 16 = .float .f64 (fv (σ 16))) →
    (σ 17 = .bool (bv (σ 17))) →
    (σ 18 = .bool (bv (σ 18))) →
    (σ 20 = .float .f64 (fv (σ 20))) →
    (σ 21 = .bool (bv (σ 21))) →
    (extRel .ffrom [σ 0] (σ 4)) →
    (isTrue [σ 5]) →
    (extRel .fbits [σ 4] (σ 6)) →
    (extRel .fbits [σ 4] (σ 7)) →
    (extRel .fbits [σ 4] (σ 9)) →
    (extRel .fbits [σ 4] (σ 10)) →
    (fcmpV .neq .f64 (fv (σ 4)) (fv (σ 4)) = some (.bool (bv (σ 12)))) →
    (extRel .fbits [σ 4] (σ 14)) →
    (ibin .andNot IntKind.u64 (iv (σ 14)) (9223372036854775808) = some (.int IntKind.u64 (iv (σ 15)))) →
    (extRel .ffrom [σ 15] (σ 16)) →
    (fcmpV .gtr .f64 (fv (σ 16)) (9218868437227405311) = some (.bool (bv (σ 17)))) →
    (bv (σ 18) = !(bv (σ 17))) →
    ((farV .sub .f64 (fv (σ 4)) (fv (σ 4)) = some (some (fv (σ 20))) ∨ (farV .sub .f64 (fv (σ 4)) (fv (σ 4)) = some none ∧ Nan64 (fv (σ 20))))) →
    (fcmpV .eql .f64 (fv (σ 20)) (0) = some (.bool (bv (σ 21)))) →
    (ford (fv (σ 4)) (0) = some .eq) →
    (bv (σ 21) = !false) →
    (bv (σ 18) = !true) →
    (bv (σ 12) = !true) →
    (iv (σ 9) = iv (σ 10)) →
    (iv (σ 6) = iv (σ 7)) →
    (bv (σ 5) = true) →
    makesR [σ 0, σ 1, σ 2, σ 3, (Value.bool false)]

def makes_L2 : Prop := ∀ σ : Nat → Value,
    (σ 0 = .int .u64 (iv (σ 0))) →
    (σ 1 = .string (tv (σ 1))) →
    (σ 2 = .bool (bv (σ 2))) →
    (σ 3 = .int .i64 (iv (σ 3))) →
    (σ 4 = .float .f64 (fv (σ 4))) →
    (σ 6 = .int .u64 (iv (σ 6))) →
    (σ 7 = .int .u64 (iv (σ 7))) →
    (σ 9 = .int .u64 (iv (σ 9))) →
    (σ 10 = .int .u64 (iv (σ 10))) →
    (σ 12 = .bool (bv (σ 12))) →
    (σ 14 = .int .u64 (iv (σ 14))) →
    (σ 15 = .int .u64 (iv (σ 15))) →
    (σ 16 = .float .f64 (fv (σ 16))) →
    (σ 17 = .bool (bv (σ 17))) →
    (σ 18 = .bool (bv (σ 18))) →
    (σ 20 = .float .f64 (fv (σ 20))) →
    (σ 21 = .bool (bv (σ 21))) →
    (extRel .ffrom [σ 0] (σ 4)) →
    (isTrue [σ 5]) →
    (extRel .fbits [σ 4] (σ 6)) →
    (extRel .fbits [σ 4] (σ 7)) →
    (extRel .fbits [σ 4] (σ 9)) →
    (extRel .fbits [σ 4] (σ 10)) →
    (fcmpV .neq .f64 (fv (σ 4)) (fv (σ 4)) = some (.bool (bv (σ 12)))) →
    (extRel .fbits [σ 4] (σ 14)) →
    (ibin .andNot IntKind.u64 (iv (σ 14)) (9223372036854775808) = some (.int IntKind.u64 (iv (σ 15)))) →
    (extRel .ffrom [σ 15] (σ 16)) →
    (fcmpV .gtr .f64 (fv (σ 16)) (9218868437227405311) = some (.bool (bv (σ 17)))) →
    (bv (σ 18) = !(bv (σ 17))) →
    ((farV .sub .f64 (fv (σ 4)) (fv (σ 4)) = some (some (fv (σ 20))) ∨ (farV .sub .f64 (fv (σ 4)) (fv (σ 4)) = some none ∧ Nan64 (fv (σ 20))))) →
    (fcmpV .eql .f64 (fv (σ 20)) (0) = some (.bool (bv (σ 21)))) →
    (ford (fv (σ 4)) (0) ≠ some .eq) →
    (bv (σ 21) = !false) →
    (bv (σ 18) = !true) →
    (bv (σ 12) = !true) →
    (iv (σ 9) = iv (σ 10)) →
    (iv (σ 6) = iv (σ 7)) →
    (bv (σ 5) = true) →
    makesR [σ 0, σ 1, σ 2, σ 3, (Value.bool false)]

def makes_L3 : Prop := ∀ σ : Nat → Value,
    (σ 0 = .int .u64 (iv (σ 0))) →
    (σ 1 = .string (tv (σ 1))) →
    (σ 2 = .bool (bv (σ 2))) →
    (σ 3 = .int .i64 (iv (σ 3))) →
    (σ 4 = .float .f64 (fv (σ 4))) →
    (σ 6 = .int .u64 (iv (σ 6))) →
    (σ 7 = .int .u64 (iv (σ 7))) →
    (σ 9 = .int .u64 (iv (σ 9))) →
    (σ 10 = .int .u64 (iv (σ 10))) →
    (σ 12 = .bool (bv (σ 12))) →
    (σ 14 = .int .u64 (iv (σ 14))) →
    (σ 15 = .int .u64 (iv (σ 15))) →
    (σ 16 = .float .f64 (fv (σ 16))) →
    (σ 17 = .bool (bv (σ 17))) →
    (σ 18 = .bool (bv (σ 18))) →
    (σ 21 = .float .f64 (fv (σ 21))) →
    (σ 22 = .bool (bv (σ 22))) →
    (extRel .ffrom [σ 0] (σ 4)) →
    (isTrue [σ 5]) →
    (extRel .fbits [σ 4] (σ 6)) →
    (extRel .fbits [σ 4] (σ 7)) →
    (extRel .fbits [σ 4] (σ 9)) →
    (extRel .fbits [σ 4] (σ 10)) →
    (fcmpV .neq .f64 (fv (σ 4)) (fv (σ 4)) = some (.bool (bv (σ 12)))) →
    (extRel .fbits [σ 4] (σ 14)) →
    (ibin .andNot IntKind.u64 (iv (σ 14)) (9223372036854775808) = some (.int IntKind.u64 (iv (σ 15)))) →
    (extRel .ffrom [σ 15] (σ 16)) →
    (fcmpV .gtr .f64 (fv (σ 16)) (9218868437227405311) = some (.bool (bv (σ 17)))) →
    (bv (σ 18) = !(bv (σ 17))) →
    ((farV .sub .f64 (fv (σ 4)) (fv (σ 4)) = some (some (fv (σ 21))) ∨ (farV .sub .f64 (fv (σ 4)) (fv (σ 4)) = some none ∧ Nan64 (fv (σ 21))))) →
    (fcmpV .eql .f64 (fv (σ 21)) (0) = some (.bool (bv (σ 22)))) →
    (bv (σ 22) = !true) →
    (ford (fv (σ 4)) (0) = some .eq) →
    (bv (σ 18) = !false) →
    (bv (σ 12) = !true) →
    (iv (σ 9) = iv (σ 10)) →
    (iv (σ 6) = iv (σ 7)) →
    (bv (σ 5) = true) →
    makesR [σ 0, σ 1, σ 2, σ 3, (Value.bool false)]

def makes_L4 : Prop := ∀ σ : Nat → Value,
    (σ 0 = .int .u64 (iv (σ 0))) →
    (σ 1 = .string (tv (σ 1))) →
    (σ 2 = .bool (bv (σ 2))) →
    (σ 3 = .int .i64 (iv (σ 3))) →
    (σ 4 = .float .f64 (fv (σ 4))) →
    (σ 6 = .int .u64 (iv (σ 6))) →
    (σ 7 = .int .u64 (iv (σ 7))) →
    (σ 9 = .int .u64 (iv (σ 9))) →
    (σ 10 = .int .u64 (iv (σ 10))) →
    (σ 12 = .bool (bv (σ 12))) →
    (σ 14 = .int .u64 (iv (σ 14))) →
    (σ 15 = .int .u64 (iv (σ 15))) →
    (σ 16 = .float .f64 (fv (σ 16))) →
    (σ 17 = .bool (bv (σ 17))) →
    (σ 18 = .bool (bv (σ 18))) →
    (σ 21 = .float .f64 (fv (σ 21))) →
    (σ 22 = .bool (bv (σ 22))) →
    (extRel .ffrom [σ 0] (σ 4)) →
    (isTrue [σ 5]) →
    (extRel .fbits [σ 4] (σ 6)) →
    (extRel .fbits [σ 4] (σ 7)) →
    (extRel .fbits [σ 4] (σ 9)) →
    (extRel .fbits [σ 4] (σ 10)) →
    (fcmpV .neq .f64 (fv (σ 4)) (fv (σ 4)) = some (.bool (bv (σ 12)))) →
    (extRel .fbits [σ 4] (σ 14)) →
    (ibin .andNot IntKind.u64 (iv (σ 14)) (9223372036854775808) = some (.int IntKind.u64 (iv (σ 15)))) →
    (extRel .ffrom [σ 15] (σ 16)) →
    (fcmpV .gtr .f64 (fv (σ 16)) (9218868437227405311) = some (.bool (bv (σ 17)))) →
    (bv (σ 18) = !(bv (σ 17))) →
    ((farV .sub .f64 (fv (σ 4)) (fv (σ 4)) = some (some (fv (σ 21))) ∨ (farV .sub .f64 (fv (σ 4)) (fv (σ 4)) = some none ∧ Nan64 (fv (σ 21))))) →
    (fcmpV .eql .f64 (fv (σ 21)) (0) = some (.bool (bv (σ 22)))) →
    (bv (σ 22) = !false) →
    (ford (fv (σ 4)) (0) = some .eq) →
    (bv (σ 18) = !false) →
    (bv (σ 12) = !true) →
    (iv (σ 9) = iv (σ 10)) →
    (iv (σ 6) = iv (σ 7)) →
    (bv (σ 5) = true) →
    makesR [σ 0, σ 1, σ 2, σ 3, (Value.bool true)]

def makes_L5 : Prop := ∀ σ : Nat → Value,
    (σ 0 = .int .u64 (iv (σ 0))) →
    (σ 1 = .string (tv (σ 1))) →
    (σ 2 = .bool (bv (σ 2))) →
    (σ 3 = .int .i64 (iv (σ 3))) →
    (σ 4 = .float .f64 (fv (σ 4))) →
    (σ 6 = .int .u64 (iv (σ 6))) →
    (σ 7 = .int .u64 (iv (σ 7))) →
    (σ 9 = .int .u64 (iv (σ 9))) →
    (σ 10 = .int .u64 (iv (σ 10))) →
    (σ 12 = .bool (bv (σ 12))) →
    (σ 14 = .int .u64 (iv (σ 14))) →
    (σ 15 = .int .u64 (iv (σ 15))) →
    (σ 16 = .float .f64 (fv (σ 16))) →
    (σ 17 = .bool (bv (σ 17))) →
    (σ 18 = .bool (bv (σ 18))) →
    (σ 21 = .float .f64 (fv (σ 21))) →
    (σ 22 = .bool (bv (σ 22))) →
    (extRel .ffrom [σ 0] (σ 4)) →
    (isTrue [σ 5]) →
    (extRel .fbits [σ 4] (σ 6)) →
    (extRel .fbits [σ 4] (σ 7)) →
    (extRel .fbits [σ 4] (σ 9)) →
    (extRel .fbits [σ 4] (σ 10)) →
    (fcmpV .neq .f64 (fv (σ 4)) (fv (σ 4)) = some (.bool (bv (σ 12)))) →
    (extRel .fbits [σ 4] (σ 14)) →
    (ibin .andNot IntKind.u64 (iv (σ 14)) (9223372036854775808) = some (.int IntKind.u64 (iv (σ 15)))) →
    (extRel .ffrom [σ 15] (σ 16)) →
    (fcmpV .gtr .f64 (fv (σ 16)) (9218868437227405311) = some (.bool (bv (σ 17)))) →
    (bv (σ 18) = !(bv (σ 17))) →
    ((farV .sub .f64 (fv (σ 4)) (fv (σ 4)) = some (some (fv (σ 21))) ∨ (farV .sub .f64 (fv (σ 4)) (fv (σ 4)) = some none ∧ Nan64 (fv (σ 21))))) →
    (fcmpV .eql .f64 (fv (σ 21)) (0) = some (.bool (bv (σ 22)))) →
    (bv (σ 22) = !true) →
    (ford (fv (σ 4)) (0) ≠ some .eq) →
    (bv (σ 18) = !false) →
    (bv (σ 12) = !true) →
    (iv (σ 9) = iv (σ 10)) →
    (iv (σ 6) = iv (σ 7)) →
    (bv (σ 5) = true) →
    makesR [σ 0, σ 1, σ 2, σ 3, (Value.bool false)]

def makes_L6 : Prop := ∀ σ : Nat → Value,
    (σ 0 = .int .u64 (iv (σ 0))) →
    (σ 1 = .string (tv (σ 1))) →
    (σ 2 = .bool (bv (σ 2))) →
    (σ 3 = .int .i64 (iv (σ 3))) →
    (σ 4 = .float .f64 (fv (σ 4))) →
    (σ 6 = .int .u64 (iv (σ 6))) →
    (σ 7 = .int .u64 (iv (σ 7))) →
    (σ 9 = .int .u64 (iv (σ 9))) →
    (σ 10 = .int .u64 (iv (σ 10))) →
    (σ 12 = .bool (bv (σ 12))) →
    (σ 14 = .int .u64 (iv (σ 14))) →
    (σ 15 = .int .u64 (iv (σ 15))) →
    (σ 16 = .float .f64 (fv (σ 16))) →
    (σ 17 = .bool (bv (σ 17))) →
    (σ 18 = .bool (bv (σ 18))) →
    (σ 21 = .float .f64 (fv (σ 21))) →
    (σ 22 = .bool (bv (σ 22))) →
    (σ 24 = .int .u64 (iv (σ 24))) →
    (σ 25 = .int .u64 (iv (σ 25))) →
    (σ 26 = .bool (bv (σ 26))) →
    (extRel .ffrom [σ 0] (σ 4)) →
    (isTrue [σ 5]) →
    (extRel .fbits [σ 4] (σ 6)) →
    (extRel .fbits [σ 4] (σ 7)) →
    (extRel .fbits [σ 4] (σ 9)) →
    (extRel .fbits [σ 4] (σ 10)) →
    (fcmpV .neq .f64 (fv (σ 4)) (fv (σ 4)) = some (.bool (bv (σ 12)))) →
    (extRel .fbits [σ 4] (σ 14)) →
    (ibin .andNot IntKind.u64 (iv (σ 14)) (9223372036854775808) = some (.int IntKind.u64 (iv (σ 15)))) →
    (extRel .ffrom [σ 15] (σ 16)) →
    (fcmpV .gtr .f64 (fv (σ 16)) (9218868437227405311) = some (.bool (bv (σ 17)))) →
    (bv (σ 18) = !(bv (σ 17))) →
    ((farV .sub .f64 (fv (σ 4)) (fv (σ 4)) = some (some (fv (σ 21))) ∨ (farV .sub .f64 (fv (σ 4)) (fv (σ 4)) = some none ∧ Nan64 (fv (σ 21))))) →
    (fcmpV .eql .f64 (fv (σ 21)) (0) = some (.bool (bv (σ 22)))) →
    (extRel .fbits [σ 4] (σ 24)) →
    (extRel .fbits [σ 4] (σ 25)) →
    (bv (σ 26) = decide (iv (σ 24) = iv (σ 25))) →
    (bv (σ 22) = !false) →
    (ford (fv (σ 4)) (0) ≠ some .eq) →
    (bv (σ 18) = !false) →
    (bv (σ 12) = !true) →
    (iv (σ 9) = iv (σ 10)) →
    (iv (σ 6) = iv (σ 7)) →
    (bv (σ 5) = true) →
    makesR [σ 0, σ 1, σ 2, σ 3, σ 26]

def makes_L7 : Prop := ∀ σ : Nat → Value,
    (σ 0 = .int .u64 (iv (σ 0))) →
    (σ 1 = .string (tv (σ 1))) →
    (σ 2 = .bool (bv (σ 2))) →
    (σ 3 = .int .i64 (iv (σ 3))) →
    (σ 4 = .float .f64 (fv (σ 4))) →
    (σ 6 = .int .u64 (iv (σ 6))) →
    (σ 7 = .int .u64 (iv (σ 7))) →
    (σ 9 = .int .u64 (iv (σ 9))) →
    (σ 10 = .int .u64 (iv (σ 10))) →
    (σ 12 = .bool (bv (σ 12))) →
    (σ 14 = .float .f64 (fv (σ 14))) →
    (σ 15 = .bool (bv (σ 15))) →
    (extRel .ffrom [σ 0] (σ 4)) →
    (isTrue [σ 5]) →
    (extRel .fbits [σ 4] (σ 6)) →
    (extRel .fbits [σ 4] (σ 7)) →
    (extRel .fbits [σ 4] (σ 9)) →
    (extRel .fbits [σ 4] (σ 10)) →
    (fcmpV .neq .f64 (fv (σ 4)) (fv (σ 4)) = some (.bool (bv (σ 12)))) →
    ((farV .sub .f64 (fv (σ 4)) (fv (σ 4)) = some (some (fv (σ 14))) ∨ (farV .sub .f64 (fv (σ 4)) (fv (σ 4)) = some none ∧ Nan64 (fv (σ 14))))) →
    (fcmpV .eql .f64 (fv (σ 14)) (0) = some (.bool (bv (σ 15)))) →
    (bv (σ 15) = !true) →
    (bv (σ 12) = !false) →
    (iv (σ 9) = iv (σ 10)) →
    (iv (σ 6) = iv (σ 7)) →
    (bv (σ 5) = true) →
    makesR [σ 0, σ 1, σ 2, σ 3, (Value.bool true)]

def makes_L8 : Prop := ∀ σ : Nat → Value,
    (σ 0 = .int .u64 (iv (σ 0))) →
    (σ 1 = .string (tv (σ 1))) →
    (σ 2 = .bool (bv (σ 2))) →
    (σ 3 = .int .i64 (iv (σ 3))) →
    (σ 4 = .float .f64 (fv (σ 4))) →
    (σ 6 = .int .u64 (iv (σ 6))) →
    (σ 7 = .int .u64 (iv (σ 7))) →
    (σ 9 = .int .u64 (iv (σ 9))) →
    (σ 10 = .int .u64 (iv (σ 10))) →
    (σ 12 = .bool (bv (σ 12))) →
    (σ 14 = .float .f64 (fv (σ 14))) →
    (σ 15 = .bool (bv (σ 15))) →
    (extRel .ffrom [σ 0] (σ 4)) →
    (isTrue [σ 5]) →
    (extRel .fbits [σ 4] (σ 6)) →
    (extRel .fbits [σ 4] (σ 7)) →
    (extRel .fbits [σ 4] (σ 9)) →
    (extRel .fbits [σ 4] (σ 10)) →
    (fcmpV .neq .f64 (fv (σ 4)) (fv (σ 4)) = some (.bool (bv (σ 12)))) →
    ((farV .sub .f64 (fv (σ 4)) (fv (σ 4)) = some (some (fv (σ 14))) ∨ (farV .sub .f64 (fv (σ 4)) (fv (σ 4)) = some none ∧ Nan64 (fv (σ 14))))) →
    (fcmpV .eql .f64 (fv (σ 14)) (0) = some (.bool (bv (σ 15)))) →
    (ford (fv (σ 4)) (0) = some .eq) →
    (bv (σ 15) = !false) →
    (bv (σ 12) = !false) →
    (iv (σ 9) = iv (σ 10)) →
    (iv (σ 6) = iv (σ 7)) →
    (bv (σ 5) = true) →
    makesR [σ 0, σ 1, σ 2, σ 3, (Value.bool false)]

def makes_L9 : Prop := ∀ σ : Nat → Value,
    (σ 0 = .int .u64 (iv (σ 0))) →
    (σ 1 = .string (tv (σ 1))) →
    (σ 2 = .bool (bv (σ 2))) →
    (σ 3 = .int .i64 (iv (σ 3))) →
    (σ 4 = .float .f64 (fv (σ 4))) →
    (σ 6 = .int .u64 (iv (σ 6))) →
    (σ 7 = .int .u64 (iv (σ 7))) →
    (σ 9 = .int .u64 (iv (σ 9))) →
    (σ 10 = .int .u64 (iv (σ 10))) →
    (σ 12 = .bool (bv (σ 12))) →
    (σ 14 = .float .f64 (fv (σ 14))) →
    (σ 15 = .bool (bv (σ 15))) →
    (extRel .ffrom [σ 0] (σ 4)) →
    (isTrue [σ 5]) →
    (extRel .fbits [σ 4] (σ 6)) →
    (extRel .fbits [σ 4] (σ 7)) →
    (extRel .fbits [σ 4] (σ 9)) →
    (extRel .fbits [σ 4] (σ 10)) →
    (fcmpV .neq .f64 (fv (σ 4)) (fv (σ 4)) = some (.bool (bv (σ 12)))) →
    ((farV .sub .f64 (fv (σ 4)) (fv (σ 4)) = some (some (fv (σ 14))) ∨ (farV .sub .f64 (fv (σ 4)) (fv (σ 4)) = some none ∧ Nan64 (fv (σ 14))))) →
    (fcmpV .eql .f64 (fv (σ 14)) (0) = some (.bool (bv (σ 15)))) →
    (ford (fv (σ 4)) (0) ≠ some .eq) →
    (bv (σ 15) = !false) →
    (bv (σ 12) = !false) →
    (iv (σ 9) = iv (σ 10)) →
    (iv (σ 6) = iv (σ 7)) →
    (bv (σ 5) = true) →
    makesR [σ 0, σ 1, σ 2, σ 3, (Value.bool false)]

def makes_L10 : Prop := ∀ σ : Nat → Value,
    (σ 0 = .int .u64 (iv (σ 0))) →
    (σ 1 = .string (tv (σ 1))) →
    (σ 2 = .bool (bv (σ 2))) →
    (σ 3 = .int .i64 (iv (σ 3))) →
    (σ 4 = .float .f64 (fv (σ 4))) →
    (σ 6 = .int .u64 (iv (σ 6))) →
    (σ 7 = .int .u64 (iv (σ 7))) →
    (σ 9 = .int .u64 (iv (σ 9))) →
    (σ 10 = .int .u64 (iv (σ 10))) →
    (extRel .ffrom [σ 0] (σ 4)) →
    (isTrue [σ 5]) →
    (extRel .fbits [σ 4] (σ 6)) →
    (extRel .fbits [σ 4] (σ 7)) →
    (extRel .fbits [σ 4] (σ 9)) →
    (extRel .fbits [σ 4] (σ 10)) →
    (iv (σ 9) ≠ iv (σ 10)) →
    (iv (σ 6) = iv (σ 7)) →
    (bv (σ 5) = true) →
    makesR [σ 0, σ 1, σ 2, σ 3, (Value.bool false)]

def makes_L11 : Prop := ∀ σ : Nat → Value,
    (σ 0 = .int .u64 (iv (σ 0))) →
    (σ 1 = .string (tv (σ 1))) →
    (σ 2 = .bool (bv (σ 2))) →
    (σ 3 = .int .i64 (iv (σ 3))) →
    (σ 4 = .float .f64 (fv (σ 4))) →
    (σ 6 = .int .u64 (iv (σ 6))) →
    (σ 7 = .int .u64 (iv (σ 7))) →
    (extRel .ffrom [σ 0] (σ 4)) →
    (isTrue [σ 5]) →
    (extRel .fbits [σ 4] (σ 6)) →
    (extRel .fbits [σ 4] (σ 7)) →
    (iv (σ 6) ≠ iv (σ 7)) →
    (bv (σ 5) = true) →
    makesR [σ 0, σ 1, σ 2, σ 3, (Value.bool false)]

def makes_L12 : Prop := ∀ σ : Nat → Value,
    (σ 0 = .int .u64 (iv (σ 0))) →
    (σ 1 = .string (tv (σ 1))) →
    (σ 2 = .bool (bv (σ 2))) →
    (σ 3 = .int .i64 (iv (σ 3))) →
    (σ 4 = .float .f64 (fv (σ 4))) →
    (extRel .ffrom [σ 0] (σ 4)) →
    (isTrue [σ 5]) →
    (bv (σ 5) = false) →
    makesR [σ 0, σ 1, σ 2, σ 3, (Value.bool false)]

theorem makes_tie : makesC.goals (cfgC Tryz.prog (entersOf Tryz.prog) X [begunC]) [] 2000 = (makes_L0 ∧ makes_L1 ∧ makes_L2 ∧ makes_L3 ∧ makes_L4 ∧ makes_L5 ∧ makes_L6 ∧ makes_L7 ∧ makes_L8 ∧ makes_L9 ∧ makes_L10 ∧ makes_L11 ∧ makes_L12 ∧ True) := by kernel_rfl

theorem makes_L0_ok : makes_L0 := by
  intro σ; intros
  have q := sub_self_test ‹farV .sub .f64 (fv (σ 4)) (fv (σ 4)) = some (some (fv (σ 20))) ∨ _› ‹fcmpV .eql .f64 (fv (σ 20)) 0 = _›
  have s4 := ‹σ 4 = .float .f64 (fv (σ 4))›
  have a := abs_of s4 ‹extRel .fbits [σ 4] (σ 14)› ‹_› ‹σ 15 = .int .u64 (iv (σ 15))› ‹extRel .ffrom [σ 15] (σ 16)›
  have f := fin_tests ‹fcmpV .neq .f64 (fv (σ 4)) (fv (σ 4)) = _› ‹bv (σ 12) = !true› a ‹_› ‹bv (σ 18) = !(bv (σ 17))›
  exact rfl
theorem makes_L1_ok : makes_L1 := by
  intro σ; intros
  have q := sub_self_test ‹farV .sub .f64 (fv (σ 4)) (fv (σ 4)) = some (some (fv (σ 20))) ∨ _› ‹fcmpV .eql .f64 (fv (σ 20)) 0 = _›
  have s4 := ‹σ 4 = .float .f64 (fv (σ 4))›
  have a := abs_of s4 ‹extRel .fbits [σ 4] (σ 14)› ‹_› ‹σ 15 = .int .u64 (iv (σ 15))› ‹extRel .ffrom [σ 15] (σ 16)›
  have f := fin_tests ‹fcmpV .neq .f64 (fv (σ 4)) (fv (σ 4)) = _› ‹bv (σ 12) = !true› a ‹_› ‹bv (σ 18) = !(bv (σ 17))›
  have c := f.2 (q.1 ‹bv (σ 21) = !false›)
  rw [‹bv (σ 18) = !true›] at c; cases c
theorem makes_L2_ok : makes_L2 := by
  intro σ; intros
  have q := sub_self_test ‹farV .sub .f64 (fv (σ 4)) (fv (σ 4)) = some (some (fv (σ 20))) ∨ _› ‹fcmpV .eql .f64 (fv (σ 20)) 0 = _›
  have s4 := ‹σ 4 = .float .f64 (fv (σ 4))›
  have a := abs_of s4 ‹extRel .fbits [σ 4] (σ 14)› ‹_› ‹σ 15 = .int .u64 (iv (σ 15))› ‹extRel .ffrom [σ 15] (σ 16)›
  have f := fin_tests ‹fcmpV .neq .f64 (fv (σ 4)) (fv (σ 4)) = _› ‹bv (σ 12) = !true› a ‹_› ‹bv (σ 18) = !(bv (σ 17))›
  have c := f.2 (q.1 ‹bv (σ 21) = !false›)
  rw [‹bv (σ 18) = !true›] at c; cases c
theorem makes_L3_ok : makes_L3 := by
  intro σ; intros
  have q := sub_self_test ‹farV .sub .f64 (fv (σ 4)) (fv (σ 4)) = some (some (fv (σ 21))) ∨ _› ‹fcmpV .eql .f64 (fv (σ 21)) 0 = _›
  have s4 := ‹σ 4 = .float .f64 (fv (σ 4))›
  have a := abs_of s4 ‹extRel .fbits [σ 4] (σ 14)› ‹_› ‹σ 15 = .int .u64 (iv (σ 15))› ‹extRel .ffrom [σ 15] (σ 16)›
  have f := fin_tests ‹fcmpV .neq .f64 (fv (σ 4)) (fv (σ 4)) = _› ‹bv (σ 12) = !true› a ‹_› ‹bv (σ 18) = !(bv (σ 17))›
  have c := q.2 (f.1 ‹bv (σ 18) = !false›)
  rw [‹bv (σ 22) = !true›] at c; cases c
theorem makes_L4_ok : makes_L4 := by
  intro σ; intros
  have q := sub_self_test ‹farV .sub .f64 (fv (σ 4)) (fv (σ 4)) = some (some (fv (σ 21))) ∨ _› ‹fcmpV .eql .f64 (fv (σ 21)) 0 = _›
  have s4 := ‹σ 4 = .float .f64 (fv (σ 4))›
  have a := abs_of s4 ‹extRel .fbits [σ 4] (σ 14)› ‹_› ‹σ 15 = .int .u64 (iv (σ 15))› ‹extRel .ffrom [σ 15] (σ 16)›
  have f := fin_tests ‹fcmpV .neq .f64 (fv (σ 4)) (fv (σ 4)) = _› ‹bv (σ 12) = !true› a ‹_› ‹bv (σ 18) = !(bv (σ 17))›
  exact rfl
theorem makes_L5_ok : makes_L5 := by
  intro σ; intros
  have q := sub_self_test ‹farV .sub .f64 (fv (σ 4)) (fv (σ 4)) = some (some (fv (σ 21))) ∨ _› ‹fcmpV .eql .f64 (fv (σ 21)) 0 = _›
  have s4 := ‹σ 4 = .float .f64 (fv (σ 4))›
  have a := abs_of s4 ‹extRel .fbits [σ 4] (σ 14)› ‹_› ‹σ 15 = .int .u64 (iv (σ 15))› ‹extRel .ffrom [σ 15] (σ 16)›
  have f := fin_tests ‹fcmpV .neq .f64 (fv (σ 4)) (fv (σ 4)) = _› ‹bv (σ 12) = !true› a ‹_› ‹bv (σ 18) = !(bv (σ 17))›
  have c := q.2 (f.1 ‹bv (σ 18) = !false›)
  rw [‹bv (σ 22) = !true›] at c; cases c
theorem makes_L6_ok : makes_L6 := by
  intro σ; intros
  have q := sub_self_test ‹farV .sub .f64 (fv (σ 4)) (fv (σ 4)) = some (some (fv (σ 21))) ∨ _› ‹fcmpV .eql .f64 (fv (σ 21)) 0 = _›
  have s4 := ‹σ 4 = .float .f64 (fv (σ 4))›
  have a := abs_of s4 ‹extRel .fbits [σ 4] (σ 14)› ‹_› ‹σ 15 = .int .u64 (iv (σ 15))› ‹extRel .ffrom [σ 15] (σ 16)›
  have f := fin_tests ‹fcmpV .neq .f64 (fv (σ 4)) (fv (σ 4)) = _› ‹bv (σ 12) = !true› a ‹_› ‹bv (σ 18) = !(bv (σ 17))›
  have e1 := fbits_iv s4 ‹extRel .fbits [σ 4] (σ 24)›
  have e2 := fbits_iv s4 ‹extRel .fbits [σ 4] (σ 25)›
  exact Eq.trans ‹bv (σ 26) = decide _› (decide_eq_true (e1.trans e2.symm))
theorem makes_L7_ok : makes_L7 := by
  intro σ; intros
  have q := sub_self_test ‹farV .sub .f64 (fv (σ 4)) (fv (σ 4)) = some (some (fv (σ 14))) ∨ _› ‹fcmpV .eql .f64 (fv (σ 14)) 0 = _›
  have n : ¬ Fin64 (fv (σ 4)) := fun h => by
    have n := (cmp_neq_self ‹fcmpV .neq .f64 (fv (σ 4)) (fv (σ 4)) = _›).1 ‹bv (σ 12) = !false›
    unfold Nan64 at n; unfold Fin64 at h; omega
  exact rfl
theorem makes_L8_ok : makes_L8 := by
  intro σ; intros
  have q := sub_self_test ‹farV .sub .f64 (fv (σ 4)) (fv (σ 4)) = some (some (fv (σ 14))) ∨ _› ‹fcmpV .eql .f64 (fv (σ 14)) 0 = _›
  have n : ¬ Fin64 (fv (σ 4)) := fun h => by
    have n := (cmp_neq_self ‹fcmpV .neq .f64 (fv (σ 4)) (fv (σ 4)) = _›).1 ‹bv (σ 12) = !false›
    unfold Nan64 at n; unfold Fin64 at h; omega
  exact (n (q.1 ‹bv (σ 15) = !false›)).elim
theorem makes_L9_ok : makes_L9 := by
  intro σ; intros
  have q := sub_self_test ‹farV .sub .f64 (fv (σ 4)) (fv (σ 4)) = some (some (fv (σ 14))) ∨ _› ‹fcmpV .eql .f64 (fv (σ 14)) 0 = _›
  have n : ¬ Fin64 (fv (σ 4)) := fun h => by
    have n := (cmp_neq_self ‹fcmpV .neq .f64 (fv (σ 4)) (fv (σ 4)) = _›).1 ‹bv (σ 12) = !false›
    unfold Nan64 at n; unfold Fin64 at h; omega
  exact (n (q.1 ‹bv (σ 15) = !false›)).elim
theorem makes_L10_ok : makes_L10 := by
  intro σ; intros
  have s4 := ‹σ 4 = .float .f64 (fv (σ 4))›
  exact absurd ((fbits_iv s4 ‹extRel .fbits [σ 4] (σ 9)›).trans (fbits_iv s4 ‹extRel .fbits [σ 4] (σ 10)›).symm) ‹_›
theorem makes_L11_ok : makes_L11 := by
  intro σ; intros
  have s4 := ‹σ 4 = .float .f64 (fv (σ 4))›
  exact absurd ((fbits_iv s4 ‹extRel .fbits [σ 4] (σ 6)›).trans (fbits_iv s4 ‹extRel .fbits [σ 4] (σ 7)›).symm) ‹_›
theorem makes_L12_ok : makes_L12 := by
  intro σ; intros
  have h := ‹isTrue [σ 5]›
  simp only [isTrue, List.cons.injEq, and_true] at h
  have c := ‹bv (σ 5) = false›
  rw [h] at c; cases c
theorem makes_ok : makesC.ok Tryz.prog (Holds vm) :=
  by_tie makes_tie (by kernel_rfl) keepsM (all_cons begun_ok all_nil) ⟨makes_L0_ok, makes_L1_ok, makes_L2_ok, makes_L3_ok, makes_L4_ok, makes_L5_ok, makes_L6_ok, makes_L7_ok, makes_L8_ok, makes_L9_ok, makes_L10_ok, makes_L11_ok, makes_L12_ok, trivial⟩
end Go.Proofs.Num
