/- A contract whose answer is 'true', as what a law's frame wants. -/
import Derived.Test.YtdihaemeipdfgaaGreatDoorEvCon2
namespace Go.Ev
open Go.RowKit (Below)
theorem con_bool {P : Program} {cond : World → Prop} {c : Con} {w : World} {vs fl : List Value} (hc : c.ok P cond) (hw : cond w) (ho : c.out = .sc .bool) (ha : c.asks = false) (hin : relL (inR w) c.ins vs fl) (ht : ∀ b, c.rel (fl ++ [.bool b]) → b = true) :
    Calls P c.f vs.toArray w fun e w' => e = .returned (.bool true) ∧ Below w.heap.size w w' := by
  refine (hc.2 w vs fl hw hin (fun h => by rw [ha] at h; cases h)).mono fun e w' ⟨v, fo, he, hout, hrel, hb⟩ => ?_
  rw [ho] at hout
  simp only [Sh.rel] at hout
  obtain ⟨⟨b, rfl⟩, rfl⟩ := hout
  have := ht b hrel
  subst this
  exact ⟨he, hb⟩
end Go.Ev
