/- What NumberDays does, in every world in which the listed variables hold their data, for every day: 'true'. Conditions: none. -/
import Derived.Test.YtdihaemeipdfgaaGreatDoorNumC
import Derived.Test.YtdihaemeipdfgaaGreatDoorEvBool
namespace Go.Proofs.YtdihaemeipdfgaaGreatDoor
open Go.Ev Go.RowKit Go.Proofs.Num
theorem u32_wf {x : Int} (h : (Lit.int .u32 x).wf = true) : 0 ≤ x ∧ x ≤ 4294967295 := by
  simp only [Lit.wf, Bool.and_eq_true, decide_eq_true_eq] at h
  have h1 : IntKind.u32.min = 0 := rfl
  have h2 : IntKind.u32.max = 4294967295 := rfl
  omega
theorem numberDays_true (x : Int) (hx : (Lit.int .u32 x).wf = true) (w : World) (hI : Holds nl w) : Calls Tryz.prog 3 #[.int .u32 x] w fun e w' => e = .returned (.bool true) ∧ Below w.heap.size w w' := by
  have b := u32_wf hx
  refine con_bool (c := daysLC) (vs := [.int .u32 x]) (fl := [.int .u32 x]) daysL_ok hI rfl rfl ?_ (fun b h => h)
  simp only [daysLC, relL, Sh.rel]
  exact ⟨_, _, [_], [], rfl, rfl, ⟨⟨x, rfl, fun a ha => by cases ha; exact b.1, fun a ha => by cases ha; exact b.2⟩, rfl⟩, rfl, rfl⟩
end Go.Proofs.YtdihaemeipdfgaaGreatDoor
