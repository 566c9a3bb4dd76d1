/- A contract whose answer is 'true', as what a law's frame wants. -/
import Derived.Test.YtlinfpchnonbpaaGreatDoorEvCon2
namespace Go.Ev
open Go.RowKit (Below)
theorem con_bool {P : Program} {cond : World → Prop} {c : Con} {w : World} {vs fl : List Value} (hc : c.ok P cond) (hw : cond w) (ho : c.out = .sc .bool) (ha : c.asks = false) (hnf : c.fails = none) (hin : relL (inR w) c.ins vs fl) (ht : ∀ b, c.rel (hide undef (maskL c.ins) fl ++ [.bool b]) → b = true) :
    Calls P c.f vs.toArray w fun e w' => e = .returned (.bool true) ∧ Below w.heap.size w w' := by
  refine (hc.2 w vs fl hw hin (fun h => by rw [ha] at h; cases h)).mono fun e w' hend => ?_
  rcases hend with ⟨v, fo, he, hout, hrel, hb⟩ | ⟨t, sh, _, _, hf, _⟩
  case inr => rw [hnf] at hf; cases hf
  rw [ho] at hout
  simp only [Sh.rel] at hout
  obtain ⟨⟨b, rfl⟩, rfl⟩ := hout
  have := ht b (by rw [ho] at hrel; exact hrel)
  subst this
  exact ⟨he, hb⟩
end Go.Ev
