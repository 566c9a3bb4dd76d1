/- What FnmathBases does, in every world in which utf8's tables lie, for every three numbers: 'true'. Conditions: none. -/
import Derived.Test.YtgfoocnnidhepaaGreatDoorBasE
import Derived.Test.YtgfoocnnidhepaaGreatDoorEvBool
namespace Go.Proofs.YtgfoocnnidhepaaGreatDoor
open Go.Ev Go.RowKit Go.Proofs.Bs
theorem u64_wf {x : Int} (h : (Lit.int .u64 x).wf = true) : 0 ≤ x ∧ x ≤ 18446744073709551615 := by
  simp only [Lit.wf, Bool.and_eq_true, decide_eq_true_eq] at h
  have h1 : IntKind.u64.min = 0 := rfl
  have h2 : IntKind.u64.max = 18446744073709551615 := rfl
  omega
theorem u8_wf {x : Int} (h : (Lit.int .u8 x).wf = true) : 0 ≤ x ∧ x ≤ 255 := by
  simp only [Lit.wf, Bool.and_eq_true, decide_eq_true_eq] at h
  have h1 : IntKind.u8.min = 0 := rfl
  have h2 : IntKind.u8.max = 255 := rfl
  omega
theorem u16_wf {x : Int} (h : (Lit.int .u16 x).wf = true) : 0 ≤ x ∧ x ≤ 65535 := by
  simp only [Lit.wf, Bool.and_eq_true, decide_eq_true_eq] at h
  have h1 : IntKind.u16.min = 0 := rfl
  have h2 : IntKind.u16.max = 65535 := rfl
  omega
theorem fnmathBases_true (n : Int) (hn : (Lit.int .u64 n).wf = true) (k : Int) (hk : (Lit.int .u8 k).wf = true) (m : Int) (hm : (Lit.int .u16 m).wf = true) (w : World) (hT : Tabs w) :
    Calls Tryz.prog 6 #[.int .u64 n, .int .u8 k, .int .u16 m] w fun e w' => e = .returned (.bool true) ∧ Below w.heap.size w w' := by
  have b := u64_wf hn
  have c := u8_wf hk
  have d := u16_wf hm
  refine con_bool (c := lawC) (cond := Tabs) (vs := [.int .u64 n, .int .u8 k, .int .u16 m]) (fl := [.int .u64 n, .int .u8 k, .int .u16 m]) law_ok hT rfl rfl rfl ?_ (fun b h => by have h : Value.bool b = .bool true := h; cases h; rfl)
  simp only [lawC, relL, Sh.rel]
  exact ⟨_, _, [_], [_, _], rfl, rfl, ⟨⟨n, rfl, fun a ha => by cases ha; exact b.1, fun a ha => by cases ha; exact b.2⟩, rfl⟩,
    _, _, [_], [_], rfl, rfl, ⟨⟨k, rfl, fun a ha => by cases ha; exact c.1, fun a ha => by cases ha; exact c.2⟩, rfl⟩,
    _, _, [_], [], rfl, rfl, ⟨⟨m, rfl, fun a ha => by cases ha; exact d.1, fun a ha => by cases ha; exact d.2⟩, rfl⟩, rfl, rfl⟩
end Go.Proofs.YtgfoocnnidhepaaGreatDoor
