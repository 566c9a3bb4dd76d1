/- What FntextParts does, in every world in which utf8's tables lie, for every text and number: 'true'. Conditions: none. -/
import Derived.Test.YtlinfpchnonbpaaGreatDoorPartE
namespace Go.Proofs.YtlinfpchnonbpaaGreatDoor
open Go.Ev Go.RowKit Go.Proofs.Bs
theorem u8_wf {x : Int} (h : (Lit.int .u8 x).wf = true) : 0 ≤ x ∧ x ≤ 255 := by
  simp only [Lit.wf, Bool.and_eq_true, decide_eq_true_eq] at h
  have h1 : IntKind.u8.min = 0 := rfl
  have h2 : IntKind.u8.max = 255 := rfl
  omega
theorem fntextParts_true (s : ByteArray) (hs : s.size ≤ maxLen) (n : Int) (hn : (Lit.int .u8 n).wf = true) (w : World) (hT : Tabs w) : Calls Tryz.prog 4 #[.string s, .int .u8 n] w fun e w' => e = .returned (.bool true) ∧ Below w.heap.size w w' := by
  have b := u8_wf hn
  have hl : s.data.toList.length ≤ 9223372036854775807 := by
    rw [Array.length_toList]
    have h : s.data.size ≤ maxLen := hs
    unfold maxLen at h
    omega
  refine con_boolP (c := lawC) (cond := Tabs) (vs := [.string s, .int .u8 n]) (fl := [.string s, .int .u8 n]) law_ok hT rfl hl rfl ?_ (fun b h => by have h : Value.bool b = .bool true := h; cases h; rfl)
  simp only [lawC, relL, Sh.rel]
  exact ⟨_, _, [_], [_], rfl, rfl, ⟨⟨s, rfl⟩, rfl⟩, _, _, [_], [], rfl, rfl, ⟨⟨n, rfl, fun a ha => by cases ha; exact b.1, fun a ha => by cases ha; exact b.2⟩, rfl⟩, rfl, rfl⟩
end Go.Proofs.YtlinfpchnonbpaaGreatDoor
