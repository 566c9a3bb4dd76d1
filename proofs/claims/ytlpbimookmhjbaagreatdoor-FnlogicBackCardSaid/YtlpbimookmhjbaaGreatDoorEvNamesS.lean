/- A law over a name, where the names are a map's keys, sorted. -/
import Derived.Test.YtlpbimookmhjbaaGreatDoorEvSorted
namespace Go.Ev
open Go.RowKit (Below)
def orSumm (a b : Nat → List SV → St → Option (List (SV × St))) (f : Nat) (args : List SV) (S : St) : Option (List (SV × St)) :=
  match a f args S with
  | some r => some r
  | none => b f args S
section
variable {P : Program} {B G : Nat} {w0 : Start}
theorem orSumm_ok {a b : Nat → List SV → St → Option (List (SV × St))} (ha : SummOK B G w0 P a) (hb : SummOK B G w0 P b) : SummOK B G w0 P (orSumm a b) := by
  intro f args S rs hpan h
  unfold orSumm at h
  split at h
  · rename_i r hr
    simp only [Option.some.injEq] at h; subst h
    exact ha f args S _ hpan hr
  · exact hb f args S rs hpan h
def cfgS (P : Program) (enters : Nat → Bool) (l : List Known) (fS fI : Nat) (K : TypeId) : Cfg := { cfg P 0 enters with summ := orSumm (knownOf l) (summSorted fS fI K) }
theorem cfgS_ok (hP : w0.P = P) {enters : Nat → Bool} (he : ∀ f, enters f = true → entersOf P f = true) {l : List Known} (hl : ∀ k ∈ l, k.ok P w0.pins) {fS fI : Nat} {K : TypeId} (hC : SortedAt P fS fI K) :
    CfgOK B 0 w0 P (cfgS P enters l fS fI K) :=
  { (cfg_ok (B := B) (G := 0) (w0 := w0) hP he (fun _ h => by cases h)) with summ := orSumm_ok (knownOf_ok l hl) (summSorted_ok hC) }
end
theorem calls_trueS {P : Program} {enters : Nat → Bool} {l : List Known} {fS fI : Nat} {K : TypeId} (hC : SortedAt P fS fI K) {n f : Nat} (hm : P.follows .mixedOrders = true) (he : ∀ f, enters f = true → entersOf P f = true)
    {ns : Nat} {sorts : List (Nat × Sort_)} {pins : List (Nat × Value)} (hp : Pinned_ ns sorts pins) (hl : ∀ k ∈ l, k.ok P pins) {args : List SV} {vs : List Value} (hv : SV.denL (startEnv pins) args = some vs)
    (ho : allOuts (cfgS P enters l fS fI K) n f args (startSt ns sorts) outTrue = true) (w : World) :
    Calls P f vs.toArray w fun e w' => e = .returned (.bool true) ∧ Below w.heap.size w w' := by
  unfold allOuts at ho
  split at ho
  · rename_i outs houts
    refine evaluate_ok (cfgS_ok (w0 := ⟨w, pins, P⟩) rfl he hl hC) hm n _ _ houts (startEnv pins) vs w _ (relS P w hp) hv (fun o hmem F sv v w' _ h2 h3 h4 => ?_) (fun o hmem _ sv _ _ _ _ h3 _ => ((allOuts_nopan ho hmem).2 sv h3).elim) (fun o hmem hb => by rw [(allOuts_mem ho hmem).1] at hb; cases hb)
    have h := (allOuts_mem ho hmem).2
    unfold outTrue at h
    rw [h3] at h
    simp only [isTrueS] at h
    split at h
    · simp only [SV.den, Option.some.injEq] at h4; subst h4
      exact ⟨rfl, h2.below⟩
    · cases h
  · cases ho
theorem names_trueS {P : Program} {fS fI : Nat} {K : TypeId} (hC : SortedAt P fS fI K) {n f fa fb : Nat} {more : List Known} {tbl : List (ByteArray × Int × Int)} {s : ByteArray} (hm : P.follows .mixedOrders = true)
    (ha : entersOf P fa = true) (hb : entersOf P fb = true) (hca : LooksUp P fa tbl) (hcb : LooksUp P fb tbl) (hmore : ∀ pins, ∀ k ∈ more, k.ok P pins)
    (ho : allOuts (cfgS P (entersOf P) (⟨fa, [.sym 0], .tuple [.sym 1, .sym 2, .sym 3]⟩ :: ⟨fb, [.sym 0], .tuple [.sym 1, .sym 2, .sym 3]⟩ :: more) fS fI K) n f [.sym 0] (startSt 4 [(0, .str), (1, .int .i64), (2, .int .i64), (3, .bool)]) outTrue = true)
    (w : World) : Calls P f #[.string s] w fun e w' => e = .returned (.bool true) ∧ Below w.heap.size w w' := by
  have hp : Pinned_ 4 [(0, .str), (1, .int .i64), (2, .int .i64), (3, .bool)] [(0, .string s), (1, .int .i64 (look tbl s).1), (2, .int .i64 (look tbl s).2.1), (3, .bool (look tbl s).2.2)] :=
    { few := fun i hi => by rw [find_cons_ne (by omega), find_cons_ne (by omega), find_cons_ne (by omega), find_cons_ne (by omega)]; rfl
      fits := fun i x hx => by
        match i, hx with
        | 0, hx => cases hx; exact ⟨_, rfl, s, rfl⟩
        | 1, hx => cases hx; exact ⟨_, rfl, _, rfl⟩
        | 2, hx => cases hx; exact ⟨_, rfl, _, rfl⟩
        | 3, hx => cases hx; exact ⟨_, rfl, _, rfl⟩
        | i + 4, hx => rw [find_cons_ne (by omega), find_cons_ne (by omega), find_cons_ne (by omega), find_cons_ne (by omega)] at hx; cases hx
      once := fun p hp => by
        simp only [List.mem_cons, List.not_mem_nil, or_false] at hp
        rcases hp with rfl | rfl | rfl | rfl <;> rfl }
  refine calls_trueS hC hm (fun _ h => h) hp (l := ⟨fa, [.sym 0], .tuple [.sym 1, .sym 2, .sym 3]⟩ :: ⟨fb, [.sym 0], .tuple [.sym 1, .sym 2, .sym 3]⟩ :: more) (fun k hk => ?_) (args := [.sym 0]) (vs := [.string s]) rfl ho w
  simp only [List.mem_cons] at hk
  rcases hk with rfl | rfl | hk
  · exact known_look ha (fun w => hca s w)
  · exact known_look hb (fun w => hcb s w)
  · exact hmore _ k hk
end Go.Ev
