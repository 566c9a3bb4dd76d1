/- The ..Names laws over contracts of the library's functions, whatever they are. -/
import Derived.Test.YtlpbimookmhjbaaGreatDoorEvNamesS
import Derived.Test.YtlpbimookmhjbaaGreatDoorEvBag
namespace Go.Ev
open Go.RowKit (Below)

abbrev Summ := Nat → List SV → St → Option (List (SV × St))

def cfgX (P : Program) (enters : Nat → Bool) (l : List Known) (sm : Summ) : Cfg := { cfg P 0 enters with summ := orSumm (knownOf l) sm }

section
variable {P : Program} {sm : Summ}

theorem cfgX_ok {B : Nat} {w0 : Start} (hP : w0.P = P) {enters : Nat → Bool} (he : ∀ f, enters f = true → entersOf P f = true) {l : List Known} (hl : ∀ k ∈ l, k.ok P w0.pins) (hC : ∀ (B : Nat) (w0 : Start), SummOK B 0 w0 P sm) :
    CfgOK B 0 w0 P (cfgX P enters l sm) :=
  { (cfg_ok (B := B) (G := 0) (w0 := w0) hP he (fun _ h => by cases h)) with summ := orSumm_ok (knownOf_ok l hl) (hC B w0) }

theorem calls_allX (hC : ∀ (B : Nat) (w0 : Start), SummOK B 0 w0 P sm) {enters : Nat → Bool} {l : List Known} {n f : Nat} (hm : P.follows .mixedOrders = true) (he : ∀ f, enters f = true → entersOf P f = true)
    {ns : Nat} {sorts : List (Nat × Sort_)} {pins : List (Nat × Value)} (hp : Pinned_ ns sorts pins) (hl : ∀ k ∈ l, k.ok P pins) {args : List SV} {vs : List Value} (hv : SV.denL (startEnv pins) args = some vs)
    {p : Out → Bool} (ho : allOuts (cfgX P enters l sm) n f args (startSt ns sorts) p = true) (w : World) :
    Calls P f vs.toArray w fun e w' => ∃ o, p o = true ∧ ∃ (F : Env) (sv : SV) (v : Value), o.kind = .val sv ∧ sv.den F = some v ∧ e = .returned v ∧ Rel w.heap.size 0 ⟨w, pins, P⟩ F o.st w' := by
  unfold allOuts at ho
  split at ho
  · rename_i outs houts
    exact evaluate_ok (cfgX_ok (w0 := ⟨w, pins, P⟩) rfl he hl hC) hm n _ _ houts (startEnv pins) vs w _ (relS P w hp) hv
      (fun o hmem F sv v w' _ h2 h3 h4 => ⟨o, (allOuts_mem ho hmem).2, F, sv, v, h3, h4, rfl, h2⟩)
      (fun o hmem _ sv _ _ _ _ h3 _ => ((allOuts_nopan ho hmem).2 sv h3).elim) (fun o hmem hb => by rw [(allOuts_mem ho hmem).1] at hb; cases hb)
  · cases ho

theorem calls_trueX (hC : ∀ (B : Nat) (w0 : Start), SummOK B 0 w0 P sm) {enters : Nat → Bool} {l : List Known} {n f : Nat} (hm : P.follows .mixedOrders = true) (he : ∀ f, enters f = true → entersOf P f = true)
    {ns : Nat} {sorts : List (Nat × Sort_)} {pins : List (Nat × Value)} (hp : Pinned_ ns sorts pins) (hl : ∀ k ∈ l, k.ok P pins) {args : List SV} {vs : List Value} (hv : SV.denL (startEnv pins) args = some vs)
    (ho : allOuts (cfgX P enters l sm) n f args (startSt ns sorts) outTrue = true) (w : World) :
    Calls P f vs.toArray w fun e w' => e = .returned (.bool true) ∧ Below w.heap.size w w' :=
  (calls_allX hC hm he hp hl hv ho w).mono fun e w' ⟨o, h, F, sv, v, h1, h2, h3, h4⟩ => by
    unfold outTrue at h
    rw [h1] at h
    simp only [isTrueS] at h
    split at h
    · simp only [SV.den, Option.some.injEq] at h2; subst h2
      exact ⟨h3, h4.below⟩
    · cases h

theorem pinnedN : Pinned_ 0 [] [] :=
  { few := fun i _ => rfl
    fits := fun i x hx => by cases hx
    once := fun p hp => by cases hp }

/-- A closed call. -/
theorem closed_trueX (hC : ∀ (B : Nat) (w0 : Start), SummOK B 0 w0 P sm) {n f : Nat} (hm : P.follows .mixedOrders = true) (ho : allOuts (cfgX P (entersOf P) [] sm) n f [] (startSt 0 []) outTrue = true) : ComesTrue P f :=
  fun w => calls_trueX hC hm (fun _ h => h) pinnedN (l := []) (fun _ h => by cases h) (args := []) (vs := []) rfl ho w

theorem calls_lookX (hC : ∀ (B : Nat) (w0 : Start), SummOK B 0 w0 P sm) {n f : Nat} (hm : P.follows .mixedOrders = true)
    {tbl : List (ByteArray × Int × Int)} (ho : allOuts (cfgX P (entersOf P) [] sm) n f [.sym 0] (startSt 1 [(0, .str)]) (outLook tbl) = true) : LooksUp P f tbl := fun s w => by
  have hp : Pinned_ 1 [(0, .str)] [(0, .string s)] :=
    { few := fun i hi => by rw [find_cons_ne (by omega)]; rfl
      fits := fun i x hx => by
        by_cases e : i = 0
        · subst e; rw [find_cons_self] at hx; cases hx; exact ⟨_, find_cons_self _ _ _, s, rfl⟩
        · rw [find_cons_ne e] at hx; cases hx
      once := fun p hp => by simp only [List.mem_singleton] at hp; subst hp; rfl }
  refine (calls_allX hC hm (fun _ h => h) hp (l := []) (fun _ h => by cases h) (args := [.sym 0]) (vs := [.string s]) rfl ho w).mono fun e w' ⟨o, h, F, sv, v, h1, h2, h3, h4⟩ => ⟨?_, h4.below⟩
  unfold outLook at h
  rw [h1] at h
  simp only at h
  split at h
  · rename_i t ht
    have := tripleOf_ok ht
    subst this
    simp only [SV.den, SV.denL, Option.some.injEq] at h2
    subst h2
    rw [h3]
    have h0 : F.σ 0 = some (.string s) := h4.pins (0, .string s) List.mem_cons_self
    have : t = look tbl s := by
      split at h
      · rename_i u hu
        obtain ⟨x, hx, hf⟩ := h4.sorts _ _ hu
        rw [h0] at hx; cases hx
        cases hf
        exact sameT_eq h
      · rename_i l hl
        simp only [Bool.and_eq_true] at h
        obtain ⟨x, hx, y, hy, hf⟩ := h4.sorts _ _ hl
        rw [h0] at hx; cases hx
        cases hy
        rw [look_none hf h.2]
        exact sameT_eq h.1
      · cases h
    rw [this]
  · cases h

theorem pinnedS (s : ByteArray) (a b : Int) (c : Bool) : Pinned_ 4 [(0, .str), (1, .int .i64), (2, .int .i64), (3, .bool)] [(0, .string s), (1, .int .i64 a), (2, .int .i64 b), (3, .bool c)] :=
  { few := fun i hi => by rw [find_cons_ne (by omega), find_cons_ne (by omega), find_cons_ne (by omega), find_cons_ne (by omega)]; rfl
    fits := fun i x hx => by
      match i, hx with
      | 0, hx => cases hx; exact ⟨_, rfl, s, rfl⟩
      | 1, hx => cases hx; exact ⟨_, rfl, _, rfl⟩
      | 2, hx => cases hx; exact ⟨_, rfl, _, rfl⟩
      | 3, hx => cases hx; exact ⟨_, rfl, _, rfl⟩
      | i + 4, hx => rw [find_cons_ne (by omega), find_cons_ne (by omega), find_cons_ne (by omega), find_cons_ne (by omega)] at hx; cases hx
    once := fun p hp => by
      simp only [List.mem_cons, List.not_mem_nil, or_false] at hp
      rcases hp with rfl | rfl | rfl | rfl <;> rfl }

/-- As 'names_true', over contracts of the library. -/
theorem names_trueX (hC : ∀ (B : Nat) (w0 : Start), SummOK B 0 w0 P sm) {n f fa fb : Nat} {more : List Known} {tbl : List (ByteArray × Int × Int)} {s : ByteArray} (hm : P.follows .mixedOrders = true)
    (ha : entersOf P fa = true) (hb : entersOf P fb = true) (hca : LooksUp P fa tbl) (hcb : LooksUp P fb tbl) (hmore : ∀ pins, ∀ k ∈ more, k.ok P pins)
    (ho : allOuts (cfgX P (entersOf P) (⟨fa, [.sym 0], .tuple [.sym 1, .sym 2, .sym 3]⟩ :: ⟨fb, [.sym 0], .tuple [.sym 1, .sym 2, .sym 3]⟩ :: more) sm) n f [.sym 0] (startSt 4 [(0, .str), (1, .int .i64), (2, .int .i64), (3, .bool)]) outTrue = true)
    (w : World) : Calls P f #[.string s] w fun e w' => e = .returned (.bool true) ∧ Below w.heap.size w w' := by
  refine calls_trueX hC hm (fun _ h => h) (pinnedS s (look tbl s).1 (look tbl s).2.1 (look tbl s).2.2) (l := ⟨fa, [.sym 0], .tuple [.sym 1, .sym 2, .sym 3]⟩ :: ⟨fb, [.sym 0], .tuple [.sym 1, .sym 2, .sym 3]⟩ :: more) (fun k hk => ?_) (args := [.sym 0]) (vs := [.string s]) rfl ho w
  simp only [List.mem_cons] at hk
  rcases hk with rfl | rfl | hk
  · exact known_look ha (fun w => hca s w)
  · exact known_look hb (fun w => hcb s w)
  · exact hmore _ k hk

/-! ### Closed calls: of known arguments, to one known answer -/
structure Closed where
  f : Nat
  args : List Value
  res : Value

def Closed.ok (P : Program) (k : Closed) : Prop :=
  entersOf P k.f = true ∧ ∀ w : World, Calls P k.f k.args.toArray w fun e w' => e = .returned k.res ∧ Below w.heap.size w w'

def sameVs : List Value → List SV → Bool
  | [], [] => true
  | v :: r, x :: s => SV.same (.val v) x && sameVs r s
  | _, _ => false
theorem sameVs_eq : ∀ {l : List Value} {r : List SV}, sameVs l r = true → r = l.map .val
  | [], [], _ => rfl
  | v :: r, x :: s, h => by
    simp only [sameVs, Bool.and_eq_true] at h
    rw [← same_eq _ _ h.1, sameVs_eq h.2, List.map_cons]
  | [], _ :: _, h => by cases h
  | _ :: _, [], h => by cases h

def closedSumm (l : List Closed) (f : Nat) (args : List SV) (S : St) : Option (List (SV × St)) :=
  match l with
  | [] => none
  | k :: r => bif Nat.beq k.f f && sameVs k.args args then some [(.val k.res, S)] else closedSumm r f args S

theorem closedSumm_ok : ∀ {l : List Closed}, (∀ k ∈ l, k.ok P) → ∀ (B : Nat) (w0 : Start), SummOK B 0 w0 P (closedSumm l)
  | [], _, _, _ => fun f args S rs _ h => by cases h
  | k :: r, hl, B, w0 => fun f args S rs hpan h => by
    simp only [closedSumm] at h
    cases e : Nat.beq k.f f && sameVs k.args args with
    | false =>
      rw [e] at h
      exact closedSumm_ok (l := r) (fun k hk => hl k (List.mem_cons_of_mem _ hk)) B w0 f args S rs hpan h
    | true =>
      rw [e] at h
      simp only [cond_true, Option.some.injEq] at h; subst h
      simp only [Bool.and_eq_true] at e
      have ef := Nat.eq_of_beq_eq_true e.1
      subst ef
      have ea := sameVs_eq e.2
      subst ea
      obtain ⟨h1, h2⟩ := hl k List.mem_cons_self
      refine ⟨fun as w => entersOf_ok h1 as w, fun E vs w R hr hvs hR _ _ => ?_⟩
      rw [denL_vals] at hvs
      simp only [Option.some.injEq] at hvs; subst hvs
      exact (h2 w).mono fun e w' ⟨he, hb⟩ => by
        subst he
        exact hR _ List.mem_cons_self hpan E k.res w' E.le_refl (hr.after hb) (by simp only [SV.den])

/-- The answer is a float and a truth. -/
def outFB (y : Nat) (b : Bool) (o : Out) : Bool :=
  match o.kind with
  | .val sv => match sv.conc with
    | some v => match v with
      | .tuple cs => match cs.toList with
        | [.float .f64 z, .bool c] => Nat.beq z y && (b == c)
        | _ => false
      | _ => false
    | none => false
  | _ => false

theorem closed_FB (hC : ∀ (B : Nat) (w0 : Start), SummOK B 0 w0 P sm) {n f y : Nat} {b : Bool} {args : List Value} (hm : P.follows .mixedOrders = true) (he : entersOf P f = true)
    (ho : allOuts (cfgX P (entersOf P) [] sm) n f (args.map .val) (startSt 0 []) (outFB y b) = true) : (Closed.mk f args (.tuple #[.float .f64 y, .bool b])).ok P :=
  ⟨he, fun w => (calls_allX hC hm (fun _ h => h) pinnedN (l := []) (fun _ h => by cases h) (args := args.map .val) (vs := args) (denL_vals args) ho w).mono fun e w' ⟨o, h, F, sv, v, h1, h2, h3, h4⟩ => by
    refine ⟨?_, h4.below⟩
    unfold outFB at h
    rw [h1] at h
    simp only at h
    split at h
    · rename_i v' hv
      have hd := conc_den (E := F) _ _ hv
      rw [h2] at hd
      simp only [Option.some.injEq] at hd
      subst hd
      split at h
      · rename_i cs
        split at h
        · rename_i z c hz
          simp only [Bool.and_eq_true, beq_iff_eq] at h
          have hz' : cs = #[.float .f64 z, .bool c] := Array.ext' hz
          rw [h3, hz', Nat.eq_of_beq_eq_true h.1, h.2]
        · cases h
      · cases h
    · cases h⟩

/-- slices.Sorted(maps.Keys(m)) and maps.Copy. -/
def mapsSumm (fS fI : Nat) (K : TypeId) (fC : Nat) : Summ := orSumm (summSorted fS fI K) (summCopy fC 0)
theorem mapsSumm_ok {fS fI fC : Nat} {K K' : TypeId} (h1 : SortedAt P fS fI K) (h2 : CopyAt P fC K') (B : Nat) (w0 : Start) : SummOK B 0 w0 P (mapsSumm fS fI K fC) :=
  orSumm_ok (summSorted_ok h1) (summCopy_ok h2)
end
end Go.Ev
