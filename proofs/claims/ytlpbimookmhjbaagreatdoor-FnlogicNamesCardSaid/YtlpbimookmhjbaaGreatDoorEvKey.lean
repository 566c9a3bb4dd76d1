/- A map asked for an unknown text: at each key that it has, and at none of them. -/
import Derived.Test.YtlpbimookmhjbaaGreatDoorEvSym
namespace Go.Ev
open Go.RowKit (Below)

section
variable {B G : Nat} {w0 : Start} {E : Env} {S : St} {w : World} {P : Program}

theorem findNow_miss {s : ByteArray} : ∀ (ks : List Value) (i : Nat), (∀ k ∈ ks, ∃ b : ByteArray, k = .string b ∧ s.toList ≠ b.toList) → Instr.findNow .string (.string s) (ks.map bare) i = some none
  | [], i, _ => rfl
  | k :: r, i, h => by
    obtain ⟨b, rfl, hb⟩ := h k List.mem_cons_self
    have : (s == b) = false := by
      rw [← Bool.not_eq_true]
      exact fun e => hb (by rw [bytes_beq e])
    simp only [List.map_cons, Instr.findNow, bare, Instr.sameNow, this]
    exact findNow_miss r (i + 1) fun x hx => h x (List.mem_cons_of_mem _ hx)

theorem findS_miss {kt : TypeId} (hk : P.underlying kt = some .string) {s : ByteArray} {ks : List Value} (h : ∀ k ∈ ks, ∃ b : ByteArray, k = .string b ∧ s.toList ≠ b.toList) : findS P kt (.string s) ks = some none := by
  unfold findS
  have : pureRun P (Instr.findKey kt (.string s) (ks.map bare)) = some none := by
    unfold Instr.findKey
    refine pureRun_mk' (pureRun_underlying hk) ?_
    rw [findNow_miss ks 0 h]
    rfl
  rw [this]

/-- The entries of a map, in whatever order. -/
def anyOf (S : St) (x : SV) : Option (List (SV × SV × Nat)) :=
  match mapOf S x with
  | some es => some es
  | none => bagOf S x

theorem pickB_miss {s : ByteArray} : ∀ {es : List (SV × SV × Nat)} {ks : List Value} {bs : List ByteArray}, keysOf es = some ks → bytesKeys ks = some bs → (∀ k ∈ ks, ∃ b : ByteArray, k = .string b ∧ s.toList ≠ b.toList) → pickB s es bs = some none
  | [], ks, bs, h1, h2, _ => by
    simp only [keysOf, Option.some.injEq] at h1; subst h1
    simp only [bytesKeys, Option.some.injEq] at h2; subst h2
    rfl
  | x :: es, ks, bs, h1, h2, h => by
    simp only [keysOf] at h1
    split at h1
    · rename_i k l hk hl
      simp only [Option.some.injEq] at h1; subst h1
      obtain ⟨b, rfl, hb⟩ := h k List.mem_cons_self
      simp only [bytesKeys] at h2
      split at h2
      · rename_i bs' hbs
        simp only [Option.some.injEq] at h2; subst h2
        have e : (s.data.toList == b.data.toList) = false := by
          rw [← Bool.not_eq_true]
          intro e
          simp only [beq_iff_eq] at e
          refine hb ?_
          have : s = b := by cases s; cases b; simp only [ByteArray.mk.injEq]; exact Array.ext' e
          rw [this]
        simp only [pickB, e, cond_false]
        exact pickB_miss hl hbs fun k hk => h k (List.mem_cons_of_mem _ hk)
      · cases h2
    · cases h1

theorem evLookup_miss {t kt et : TypeId} {x : SV} {es : List (SV × SV × Nat)} {ks : List Value} {bs : List ByteArray} {z : Value} {s : ByteArray} {ok : Bool} (hu : P.underlying t = some (.map kt et)) (hm : anyOf S x = some es) (hks : keysOf es = some ks) (hbs : bytesKeys ks = some bs)
    (hz : (P.info? et).bind (·.zero) = some z) (hk : P.underlying kt = some .string) (h : ∀ k ∈ ks, ∃ b : ByteArray, k = .string b ∧ s.toList ≠ b.toList) :
    evLookup P S t x (.val (.string s)) ok = some (missS z ok) := by
  unfold anyOf at hm
  cases e : mapOf S x with
  | some es' =>
    rw [e] at hm
    simp only [Option.some.injEq] at hm; subst hm
    have : evLookupM P S t x (.val (.string s)) ok = some (missS z ok) := by
      unfold evLookupM missS
      simp only [hu, e, SV.conc, hks, hz, checkKey_str hk, findS_miss hk h]
      try (cases ok <;> rfl)
    unfold evLookup
    rw [this]
  | none =>
    rw [e] at hm
    have h0 : evLookupM P S t x (.val (.string s)) ok = none := by
      unfold evLookupM
      simp only [hu, e, SV.conc]
    unfold evLookup
    rw [h0]
    unfold evLookupB
    simp only [hu, hm, SV.conc, hks, hz, hk, hbs, pickB_miss hks hbs h]

/-- At each key that is not barred. -/
def hitsOf (P : Program) (S : St) (t : TypeId) (x : SV) (ok : Bool) (n : Nat) (l : List ByteArray) : List ByteArray → Option (List (SV × St))
  | [] => some []
  | b :: r => bif isIn b l then hitsOf P S t x ok n l r else
    match evLookup P S t x (.val (.string b)) ok, hitsOf P S t x ok n l r with
    | some sv, some rs => some ((sv, setSort S n (.is (.string b))) :: rs)
    | _, _ => none

theorem hitsOf_mem {t : TypeId} {x : SV} {ok : Bool} {n : Nat} {l : List ByteArray} {b : ByteArray} (hb : isIn b l = false) : ∀ {bs : List ByteArray} {rs : List (SV × St)}, hitsOf P S t x ok n l bs = some rs → b ∈ bs →
    ∃ sv, evLookup P S t x (.val (.string b)) ok = some sv ∧ (sv, setSort S n (.is (.string b))) ∈ rs
  | [], _, _, h => by cases h
  | c :: r, rs, h, hm => by
    simp only [hitsOf] at h
    cases e : isIn c l with
    | true =>
      rw [e] at h
      cases hm with
      | head => rw [hb] at e; cases e
      | tail _ hm => exact hitsOf_mem hb h hm
    | false =>
      rw [e] at h
      simp only [cond_false] at h
      split at h
      · rename_i sv us h1 h2
        simp only [Option.some.injEq] at h; subst h
        cases hm with
        | head => exact ⟨sv, h1, List.mem_cons_self⟩
        | tail _ hm =>
          obtain ⟨y, k1, k2⟩ := hitsOf_mem hb h2 hm
          exact ⟨y, k1, List.mem_cons_of_mem _ k2⟩
      · cases h

theorem isIn_of {b : ByteArray} : ∀ {l : List ByteArray} {x : ByteArray}, x ∈ l → x.toList = b.toList → isIn b l = true
  | y :: r, x, hx, he => by
    simp only [isIn]
    cases e : y.toList == b.toList with
    | true => rfl
    | false =>
      cases hx with
      | head => rw [he] at e; simp at e
      | tail _ hx => exact isIn_of hx he

def evLookupFork (P : Program) (S : St) (t : TypeId) (x k : SV) (ok : Bool) : Option (List (SV × St)) :=
  match strOf S k, P.underlying t, anyOf S x with
  | some (.isnt n l), some (.map kt et), some es => match P.underlying kt, keysOf es, (P.info? et).bind (·.zero) with
    | some .string, some ks, some z => match bytesKeys ks with
      | some bs => match hitsOf P S t x ok n l bs with
        | some rs => some ((missS z ok, setSort S n (.strNot (bs ++ l))) :: rs)
        | none => none
      | none => none
    | _, _, _ => none
  | _, _, _ => none

theorem evLookupFork_ok (hr : Rel B G w0 E S w) {t : TypeId} {x k : SV} {ok : Bool} {rs : List (SV × St)} {vx vk : Value} (h : evLookupFork P S t x k ok = some rs) (hx : x.den E = some vx) (hk : k.den E = some vk) :
    ∃ p ∈ rs, Does B G w0 P E p.1 p.2 (Instr.lookup t vx vk ok) w := by
  unfold evLookupFork at h
  split at h
  · rename_i n l kt et es hs hu hm
    split at h
    · rename_i ks z hkt hks hz
      split at h
      · rename_i bs hbs
        split at h
        · rename_i us hus
          simp only [Option.some.injEq] at h; subst h
          obtain ⟨s0, hs0⟩ := strOf_found hs
          obtain ⟨rfl, hn, s, rfl, hl⟩ := strOf_ok hr.env hs hk
          by_cases hin : ∃ b ∈ bs, s.toList = b.toList
          · obtain ⟨b, hb, he⟩ := hin
            have hsb := bytes_ext he
            subst hsb
            have hnot : isIn s l = false := by
              cases e : isIn s l with
              | false => rfl
              | true =>
                obtain ⟨y, hy, he'⟩ := isIn_mem e
                exact absurd he'.symm (hl y hy)
            obtain ⟨sv, h1, h2⟩ := hitsOf_mem hnot hus hb
            refine ⟨_, List.mem_cons_of_mem _ h2, ?_⟩
            obtain ⟨F, v, w', k1, k2, k3, k4⟩ := evLookup_ok (P := P) hr h1 hx (vk := .string s) (by simp only [SV.den])
            exact ⟨F, v, w', k1, k2.setSort hs0 (k1.σ _ _ hn) rfl, k3, k4⟩
          · refine ⟨_, List.mem_cons_self, ?_⟩
            have hmiss : ∀ b ∈ bs, s.toList ≠ b.toList := fun b hb e => hin ⟨b, hb, e⟩
            have := evLookup_miss (ok := ok) hu hm hks hbs hz hkt (s := s) fun k hk' => by
              obtain ⟨b, h1, h2⟩ := bytesKeys_mem hbs k hk'
              exact ⟨b, h2, hmiss b h1⟩
            obtain ⟨F, v, w', k1, k2, k3, k4⟩ := evLookup_ok (P := P) hr this hx (vk := .string s) (by simp only [SV.den])
            refine ⟨F, v, w', k1, k2.setSort hs0 (k1.σ _ _ hn) ⟨s, rfl, fun y hy => ?_⟩, k3, k4⟩
            rcases List.mem_append.1 hy with h | h
            · exact hmiss y h
            · exact hl y h
        · cases h
      · cases h
    · cases h
  · cases h
end
end Go.Ev
