/- An index that is not known, into a row of which each place is known: one outcome a place, and a bad one. -/
import Derived.Test.YtlpbimookmhjbaaGreatDoorEvLApp
namespace Go.Ev
open Go.RowKit (Below)
section
variable {B G : Nat} {w0 : Start} {E : Env} {S : St} {w : World} {P : Program}

/-- One outcome a number from 'j' on, 'n' of them, and one for none of these. -/
def splitIdx (x : SV) : Nat → Nat → St → Option (List (Option Nat × St))
  | 0, _, S => some [(none, { S with bad := true })]
  | n + 1, j, S =>
    let c := known S .bool (.int .eql .i64) [x, .val (.int .i64 j)]
    match dec c.2 c.1 with
    | none => none
    | some l => splitAll l (splitIdx x n (j + 1)) j
where
  splitAll : List (Bool × St) → (St → Option (List (Option Nat × St))) → Nat → Option (List (Option Nat × St))
    | [], _, _ => some []
    | p :: r, f, j => match (bif p.1 then some [(some j, p.2)] else f p.2), splitAll r f j with
      | some a, some b => some (a ++ b)
      | _, _ => none

theorem splitAll_mem {f : St → Option (List (Option Nat × St))} {j : Nat} : ∀ {l : List (Bool × St)} {rs : List (Option Nat × St)}, splitIdx.splitAll l f j = some rs → ∀ p ∈ l, (p.1 = true → (some j, p.2) ∈ rs) ∧ (p.1 = false → ∃ q, f p.2 = some q ∧ ∀ y ∈ q, y ∈ rs)
  | [], rs, h, p, hp => by cases hp
  | a :: r, rs, h, p, hp => by
    simp only [splitIdx.splitAll] at h
    split at h
    · rename_i u v hu hv
      simp only [Option.some.injEq] at h; subst h
      rcases List.mem_cons.1 hp with rfl | hp
      · constructor
        · intro e
          rw [e] at hu
          simp only [cond_true, Option.some.injEq] at hu; subst hu
          exact List.mem_append_left _ List.mem_cons_self
        · intro e
          rw [e] at hu
          simp only [cond_false] at hu
          exact ⟨u, hu, fun y hy => List.mem_append_left _ hy⟩
      · have := splitAll_mem hv p hp
        refine ⟨fun e => List.mem_append_right _ (this.1 e), fun e => ?_⟩
        obtain ⟨q, h1, h2⟩ := this.2 e
        exact ⟨q, h1, fun y hy => List.mem_append_right _ (h2 y hy)⟩
    · cases h

theorem Rel.bad_set (hr : Rel B G w0 E S w) : Rel B G w0 E { S with bad := true } w := { hr with }

theorem splitIdx_ok {x : SV} {k : Int} : ∀ (n j : Nat) {S : St} {E : Env} {rs : List (Option Nat × St)}, Rel B G w0 E S w → x.den E = some (.int .i64 k) → splitIdx x n j S = some rs →
    ∃ p ∈ rs, ∃ F, E.le F ∧ Rel B G w0 F p.2 w ∧ ((∃ i : Nat, p.1 = some i ∧ k = i) ∨ (p.1 = none ∧ p.2.bad = true))
  | 0, j, S, E, rs, hr, hx, h => by
    simp only [splitIdx, Option.some.injEq] at h; subst h
    exact ⟨_, List.mem_cons_self, E, E.le_refl, hr.bad_set, .inr ⟨rfl, rfl⟩⟩
  | n + 1, j, S, E, rs, hr, hx, h => by
    simp only [splitIdx] at h
    split at h
    · cases h
    rename_i l hl
    obtain ⟨F, f1, f2, f3⟩ := known_ok hr (srt := .bool) (op := .int .eql .i64) (v := .bool (k == (j : Int))) (bound_int _ _) (denL_mk hx (denL_mk (x := .val (.int .i64 j)) (v := .int .i64 j) (by simp only [SV.den]) (r := []) rfl)) ⟨_, rfl⟩ (rel_int (by simp only [intV, if_true, ibin]))
    obtain ⟨p, hp, hv, hr2⟩ := dec_ok hl f2 f3
    have hm := splitAll_mem h p hp
    cases hb : p.1 with
    | true =>
      rw [hb] at hv
      simp only [Value.bool.injEq] at hv
      exact ⟨_, hm.1 hb, F, f1, hr2, .inl ⟨j, rfl, by simpa using hv⟩⟩
    | false =>
      obtain ⟨q, h1, h2⟩ := hm.2 hb
      obtain ⟨y, hy, F2, g1, g2, g3⟩ := splitIdx_ok n (j + 1) hr2 (SV.den_mono f1 _ _ hx) h1
      exact ⟨y, h2 y hy, F2, Env.le_trans f1 g1, g2, g3⟩

def splitAddrs (P : Program) (t : TypeId) (x : SV) : List (Option Nat × St) → Option (List (SV × St))
  | [] => some []
  | p :: r => match (match p.1 with
      | none => some (.val undef, p.2)
      | some j => match evIndexAddr P p.2 t x (.val (.int .i64 j)) with
        | some v => some (v, p.2)
        | none => none), splitAddrs P t x r with
    | some a, some b => some (a :: b)
    | _, _ => none

theorem splitAddrs_mem {t : TypeId} {x : SV} : ∀ {l : List (Option Nat × St)} {rs : List (SV × St)}, splitAddrs P t x l = some rs → ∀ p ∈ l, (p.1 = none → (.val undef, p.2) ∈ rs) ∧ (∀ j, p.1 = some j → ∃ v, evIndexAddr P p.2 t x (.val (.int .i64 j)) = some v ∧ (v, p.2) ∈ rs)
  | [], rs, h, p, hp => by cases hp
  | a :: r, rs, h, p, hp => by
    simp only [splitAddrs] at h
    split at h
    · rename_i u v hu hv
      simp only [Option.some.injEq] at h; subst h
      rcases List.mem_cons.1 hp with rfl | hp
      · constructor
        · intro e
          rw [e] at hu
          simp only [Option.some.injEq] at hu; subst hu
          exact List.mem_cons_self
        · intro j e
          rw [e] at hu
          simp only at hu
          split at hu
          · rename_i z hz
            simp only [Option.some.injEq] at hu; subst hu
            exact ⟨z, hz, List.mem_cons_self⟩
          · cases hu
      · have := splitAddrs_mem hv p hp
        refine ⟨fun e => List.mem_cons_of_mem _ (this.1 e), fun j e => ?_⟩
        obtain ⟨z, h1, h2⟩ := this.2 j e
        exact ⟨z, h1, List.mem_cons_of_mem _ h2⟩
    · cases h

/-- The place of an element whose index is not known, in an array of at most 64 elements. -/
def evSplitAddr (P : Program) (S : St) (t : TypeId) (x i : SV) : Option (List (SV × St)) :=
  match P.underlying t, norm S x, intOf S i with
  | some (.array len _), .ptr _ _, some (.i64, _, _) => bif Nat.blt 64 len then none else
    match splitIdx i len 0 S with
    | some l => splitAddrs P t x l
    | none => none
  | _, _, _ => none

theorem evSplitAddr_ok (hr : Rel B G w0 E S w) {t : TypeId} {x i : SV} {rs : List (SV × St)} {vx vi : Value} (h : evSplitAddr P S t x i = some rs) (hx : x.den E = some vx) (hi : i.den E = some vi) :
    DoesB B G w0 P E rs (Instr.indexAt t vx vi) w := by
  unfold evSplitAddr at h
  split at h
  case h_2 => cases h
  rename_i len e id off lo hi' hu hn hio
  cases hb : Nat.blt 64 len with
  | true => rw [hb] at h; cases h
  | false =>
  rw [hb] at h
  simp only [cond_false] at h
  split at h
  case h_2 => cases h
  rename_i l hl
  obtain ⟨k, rfl, _, _⟩ := intOf_ok hr.env hio hi
  obtain ⟨p, hp, F, f1, f2, f3⟩ := splitIdx_ok len 0 hr hi hl
  have hm := splitAddrs_mem h p hp
  rcases f3 with ⟨j, e1, rfl⟩ | ⟨e1, hbad⟩
  · obtain ⟨v, h1, h2⟩ := hm.2 j e1
    have := evIndexAddr_ok (P := P) f2.env h1 (SV.den_mono f1 _ _ hx) (vi := .int .i64 j) (by simp only [SV.den])
    obtain ⟨F2, u, w', g1, g2, g3, g4⟩ := this.does f2
    exact ⟨_, h2, .inr ⟨F2, u, w', Env.le_trans f1 g1, g2, g3, g4⟩⟩
  · exact ⟨_, hm.1 e1, .inl ⟨hbad, F, f1, f2⟩⟩
end
end Go.Ev
