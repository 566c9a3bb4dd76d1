/- What ValueErrors does, in every world in which the listed variables hold their data, for every code and every text: 'true'. Conditions: none. -/
import Derived.Test.YtfpkapfpcbgcgaaGreatDoorRows
import Derived.Test.YtfpkapfpcbgcgaaGreatDoorEvStart
namespace Go.Proofs.YtfpkapfpcbgcgaaGreatDoor
open Go.Ev Go.RowKit

set_option maxRecDepth 1000000
theorem ve_mixed : Tryz.prog.follows .mixedOrders = true := by kernel_rfl
/-- The variables that are read. -/
def veNames : List (String × Nat) := [("internal/strconv.float64info", 10), ("internal/strconv.optimize", 11), ("internal/strconv.float64pow10", 12), ("internal/strconv.uint64pow10", 13), ("internal/strconv.pow10Tab", 14), ("math/bits.deBruijn64tab", 15)]
noncomputable def ve : List GItem := (gItems Tryz.prog Rows.valueErrorsRow.laid veNames).getD []
theorem ve_some : (gItems Tryz.prog Rows.valueErrorsRow.laid veNames).isSome = true := by kernel_rfl
theorem ve_eq : gItems Tryz.prog Rows.valueErrorsRow.laid veNames = some ve := by
  unfold ve
  cases h : gItems Tryz.prog Rows.valueErrorsRow.laid veNames with
  | none => have := ve_some; rw [h] at this; cases this
  | some x => rfl

theorem ve_begun (w : World) (hI : Holds ve w) : Calls Tryz.prog 20 (#[] : Array Value) w fun e w' => e = .returned (.bool true) ∧ Below w.heap.size w w' :=
  calls_trueG (P := Tryz.prog) (n := 400) ve_mixed (fun _ h => h) (m := 0) (nsym := 30) (ng := 18) pinned0 (by kernel_rfl) (l := []) (fun _ h => by cases h) hI (noFacts _ _) (args := []) (vs := []) rfl (by kernel_rfl)

def veKnown : List Known := [⟨20, [], .val (.bool true)⟩]
theorem veKnown_ok {pins : List (Nat × Value)} : ∀ k ∈ veKnown, k.okIn Tryz.prog pins (Holds ve) := fun k hk => by
  simp only [veKnown, List.mem_singleton] at hk; subst hk
  exact known_trueG (by kernel_rfl) ve_begun

theorem vePin (s : ByteArray) : Pinned_ 1 [(0, .str)] [(0, .string s)] :=
  { few := fun i hi => by rw [find_cons_ne (by omega)]; rfl
    fits := fun i x hx => by
      by_cases e : i = 0
      · subst e; rw [find_cons_self] at hx; cases hx; exact ⟨_, find_cons_self _ _ _, s, rfl⟩
      · rw [find_cons_ne e] at hx; cases hx
    once := fun p hp => by simp only [List.mem_singleton] at hp; subst hp; rfl }
theorem vePin2 (s : ByteArray) (code : Int) (lo hi : Option Int) (h : Sort_.fits (.intIn .i64 lo hi) (.int .i64 code)) : Pinned_ 2 [(0, .str), (1, .intIn .i64 lo hi)] [(0, .string s), (1, .int .i64 code)] :=
  { few := fun i hi => by rw [find_cons_ne (by omega), find_cons_ne (by omega)]; rfl
    fits := fun i x hx => by
      match i, hx with
      | 0, hx => cases hx; exact ⟨_, rfl, s, rfl⟩
      | 1, hx => cases hx; exact ⟨_, rfl, h⟩
      | i + 2, hx => rw [find_cons_ne (by omega), find_cons_ne (by omega)] at hx; cases hx
    once := fun p hp => by
      simp only [List.mem_cons, List.not_mem_nil, or_false] at hp
      rcases hp with rfl | rfl <;> rfl }

theorem valueErrors_at1 (s : ByteArray) (w : World) (hI : Holds ve w) : Calls Tryz.prog 5 #[.int .i64 1, .string s] w fun e w' => e = .returned (.bool true) ∧ Below w.heap.size w w' :=
  calls_trueG (P := Tryz.prog) (n := 400) ve_mixed (fun _ h => h) (m := 1) (nsym := 30) (ng := 18) (vePin s) (by kernel_rfl) (l := veKnown) veKnown_ok hI (noFacts _ _) (args := [.val (.int .i64 1), .sym 0]) (vs := [.int .i64 1, .string s]) rfl (by kernel_rfl)
theorem valueErrors_at2 (s : ByteArray) (w : World) (hI : Holds ve w) : Calls Tryz.prog 5 #[.int .i64 2, .string s] w fun e w' => e = .returned (.bool true) ∧ Below w.heap.size w w' :=
  calls_trueG (P := Tryz.prog) (n := 400) ve_mixed (fun _ h => h) (m := 1) (nsym := 30) (ng := 18) (vePin s) (by kernel_rfl) (l := veKnown) veKnown_ok hI (noFacts _ _) (args := [.val (.int .i64 2), .sym 0]) (vs := [.int .i64 2, .string s]) rfl (by kernel_rfl)
theorem valueErrors_at3 (s : ByteArray) (w : World) (hI : Holds ve w) : Calls Tryz.prog 5 #[.int .i64 3, .string s] w fun e w' => e = .returned (.bool true) ∧ Below w.heap.size w w' :=
  calls_trueG (P := Tryz.prog) (n := 400) ve_mixed (fun _ h => h) (m := 1) (nsym := 30) (ng := 18) (vePin s) (by kernel_rfl) (l := veKnown) veKnown_ok hI (noFacts _ _) (args := [.val (.int .i64 3), .sym 0]) (vs := [.int .i64 3, .string s]) rfl (by kernel_rfl)
theorem valueErrors_at4 (s : ByteArray) (w : World) (hI : Holds ve w) : Calls Tryz.prog 5 #[.int .i64 4, .string s] w fun e w' => e = .returned (.bool true) ∧ Below w.heap.size w w' :=
  calls_trueG (P := Tryz.prog) (n := 400) ve_mixed (fun _ h => h) (m := 1) (nsym := 30) (ng := 18) (vePin s) (by kernel_rfl) (l := veKnown) veKnown_ok hI (noFacts _ _) (args := [.val (.int .i64 4), .sym 0]) (vs := [.int .i64 4, .string s]) rfl (by kernel_rfl)
theorem valueErrors_at5 (s : ByteArray) (w : World) (hI : Holds ve w) : Calls Tryz.prog 5 #[.int .i64 5, .string s] w fun e w' => e = .returned (.bool true) ∧ Below w.heap.size w w' :=
  calls_trueG (P := Tryz.prog) (n := 400) ve_mixed (fun _ h => h) (m := 1) (nsym := 30) (ng := 18) (vePin s) (by kernel_rfl) (l := veKnown) veKnown_ok hI (noFacts _ _) (args := [.val (.int .i64 5), .sym 0]) (vs := [.int .i64 5, .string s]) rfl (by kernel_rfl)
theorem valueErrors_at6 (s : ByteArray) (w : World) (hI : Holds ve w) : Calls Tryz.prog 5 #[.int .i64 6, .string s] w fun e w' => e = .returned (.bool true) ∧ Below w.heap.size w w' :=
  calls_trueG (P := Tryz.prog) (n := 400) ve_mixed (fun _ h => h) (m := 1) (nsym := 30) (ng := 18) (vePin s) (by kernel_rfl) (l := veKnown) veKnown_ok hI (noFacts _ _) (args := [.val (.int .i64 6), .sym 0]) (vs := [.int .i64 6, .string s]) rfl (by kernel_rfl)
theorem valueErrors_at7 (s : ByteArray) (w : World) (hI : Holds ve w) : Calls Tryz.prog 5 #[.int .i64 7, .string s] w fun e w' => e = .returned (.bool true) ∧ Below w.heap.size w w' :=
  calls_trueG (P := Tryz.prog) (n := 400) ve_mixed (fun _ h => h) (m := 1) (nsym := 30) (ng := 18) (vePin s) (by kernel_rfl) (l := veKnown) veKnown_ok hI (noFacts _ _) (args := [.val (.int .i64 7), .sym 0]) (vs := [.int .i64 7, .string s]) rfl (by kernel_rfl)
theorem valueErrors_at8 (s : ByteArray) (w : World) (hI : Holds ve w) : Calls Tryz.prog 5 #[.int .i64 8, .string s] w fun e w' => e = .returned (.bool true) ∧ Below w.heap.size w w' :=
  calls_trueG (P := Tryz.prog) (n := 400) ve_mixed (fun _ h => h) (m := 1) (nsym := 30) (ng := 18) (vePin s) (by kernel_rfl) (l := veKnown) veKnown_ok hI (noFacts _ _) (args := [.val (.int .i64 8), .sym 0]) (vs := [.int .i64 8, .string s]) rfl (by kernel_rfl)
theorem valueErrors_at9 (s : ByteArray) (w : World) (hI : Holds ve w) : Calls Tryz.prog 5 #[.int .i64 9, .string s] w fun e w' => e = .returned (.bool true) ∧ Below w.heap.size w w' :=
  calls_trueG (P := Tryz.prog) (n := 400) ve_mixed (fun _ h => h) (m := 1) (nsym := 30) (ng := 18) (vePin s) (by kernel_rfl) (l := veKnown) veKnown_ok hI (noFacts _ _) (args := [.val (.int .i64 9), .sym 0]) (vs := [.int .i64 9, .string s]) rfl (by kernel_rfl)
theorem valueErrors_low (code : Int) (hc : code ≤ 0) (s : ByteArray) (w : World) (hI : Holds ve w) : Calls Tryz.prog 5 #[.int .i64 code, .string s] w fun e w' => e = .returned (.bool true) ∧ Below w.heap.size w w' :=
  calls_trueG (P := Tryz.prog) (n := 400) ve_mixed (fun _ h => h) (m := 2) (nsym := 30) (ng := 18) (vePin2 s code none (some 0) ⟨code, rfl, (fun a e => by cases e), (fun b e => by cases e; exact hc)⟩) (by kernel_rfl) (l := veKnown) veKnown_ok hI (noFacts _ _) (args := [.sym 1, .sym 0]) (vs := [.int .i64 code, .string s]) rfl (by kernel_rfl)
theorem valueErrors_high (code : Int) (hc : 10 ≤ code) (s : ByteArray) (w : World) (hI : Holds ve w) : Calls Tryz.prog 5 #[.int .i64 code, .string s] w fun e w' => e = .returned (.bool true) ∧ Below w.heap.size w w' :=
  calls_trueG (P := Tryz.prog) (n := 400) ve_mixed (fun _ h => h) (m := 2) (nsym := 30) (ng := 18) (vePin2 s code (some 10) none ⟨code, rfl, (fun a e => by cases e; exact hc), (fun b e => by cases e)⟩) (by kernel_rfl) (l := veKnown) veKnown_ok hI (noFacts _ _) (args := [.sym 1, .sym 0]) (vs := [.int .i64 code, .string s]) rfl (by kernel_rfl)

theorem valueErrors_true (code : Int) (s : ByteArray) (w : World) (hI : Holds ve w) : Calls Tryz.prog 5 #[.int .i64 code, .string s] w fun e w' => e = .returned (.bool true) ∧ Below w.heap.size w w' := by
  by_cases h1 : code ≤ 0
  · exact valueErrors_low code h1 s w hI
  · by_cases h2 : 10 ≤ code
    · exact valueErrors_high code h2 s w hI
    · have : code = 1 ∨ code = 2 ∨ code = 3 ∨ code = 4 ∨ code = 5 ∨ code = 6 ∨ code = 7 ∨ code = 8 ∨ code = 9 := by omega
      rcases this with rfl | rfl | rfl | rfl | rfl | rfl | rfl | rfl | rfl
      · exact valueErrors_at1 s w hI
      · exact valueErrors_at2 s w hI
      · exact valueErrors_at3 s w hI
      · exact valueErrors_at4 s w hI
      · exact valueErrors_at5 s w hI
      · exact valueErrors_at6 s w hI
      · exact valueErrors_at7 s w hI
      · exact valueErrors_at8 s w hI
      · exact valueErrors_at9 s w hI
end Go.Proofs.YtfpkapfpcbgcgaaGreatDoor
