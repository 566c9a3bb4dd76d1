/- Calls by the evaluator, with unknown arguments and contracts. -/
import Derived.Test.YtlpbimookmhjbaaGreatDoorEvTop
namespace Go.Ev
open Go.RowKit (Below)
structure Known where
  f : Nat
  args : List SV
  res : SV
def sameSV : SV → SV → Bool
  | .sym n, .sym m => Nat.beq n m
  | _, _ => false
def sameUs : List SV → List SV → Bool
  | [], [] => true
  | x :: r, y :: s => sameSV x y && sameUs r s
  | _, _ => false
theorem sameSV_eq {x y : SV} (h : sameSV x y = true) : x = y := by
  unfold sameSV at h
  split at h
  · rw [Nat.eq_of_beq_eq_true h]
  · cases h
theorem sameUs_eq : ∀ {x y : List SV}, sameUs x y = true → x = y
  | [], [], _ => rfl
  | x :: r, y :: s, h => by
    simp only [sameUs, Bool.and_eq_true] at h
    rw [sameSV_eq h.1, sameUs_eq h.2]
  | [], _ :: _, h => by cases h
  | _ :: _, [], h => by cases h
def knownOf (l : List Known) (f : Nat) (args : List SV) (S : St) : Option (List (SV × St)) :=
  match l with
  | [] => none
  | k :: r => bif Nat.beq k.f f && sameUs k.args args then some [(k.res, S)] else knownOf r f args S
def Known.ok (P : Program) (pins : List (Nat × Value)) (k : Known) : Prop :=
  entersOf P k.f = true ∧ ∀ (E : Env) (vs : List Value) (w : World), (∀ p ∈ pins, E.σ p.1 = some p.2) → SV.denL E k.args = some vs →
    ∃ v, k.res.den E = some v ∧ Calls P k.f vs.toArray w fun e w' => e = .returned v ∧ Below w.heap.size w w'
def cfgK (P : Program) (enters : Nat → Bool) (l : List Known) : Cfg := { cfg P 0 enters with summ := knownOf l }
section
variable {P : Program} {B G : Nat} {w0 : Start}
theorem knownOf_ok : ∀ (l : List Known), (∀ k ∈ l, k.ok P w0.pins) → SummOK B G w0 P (knownOf l)
  | [], _ => fun _ _ _ _ _ h => by cases h
  | k :: r, hl => by
    intro f args S rs hpan h
    simp only [knownOf] at h
    cases e : Nat.beq k.f f && sameUs k.args args with
    | false =>
      rw [e] at h
      exact knownOf_ok r (fun x hx => hl x (List.mem_cons_of_mem _ hx)) f args S rs hpan h
    | true =>
      rw [e] at h
      simp only [cond_true, Option.some.injEq] at h
      subst h
      simp only [Bool.and_eq_true] at e
      have e1 := Nat.eq_of_beq_eq_true e.1
      have e2 := sameUs_eq e.2
      subst e1 e2
      obtain ⟨h1, h2⟩ := hl k List.mem_cons_self
      refine ⟨fun as w => entersOf_ok h1 as w, fun E vs w R hr hvs hR _ _ => ?_⟩
      obtain ⟨v, hv, hc⟩ := h2 E vs w hr.pins hvs
      refine hc.mono fun e w' ⟨he, hb⟩ => ?_
      subst he
      exact hR _ List.mem_cons_self hpan E v w' E.le_refl (hr.after hb) hv
theorem cfgK_ok (hP : w0.P = P) {enters : Nat → Bool} (he : ∀ f, enters f = true → entersOf P f = true) {l : List Known} (hl : ∀ k ∈ l, k.ok P w0.pins) : CfgOK B 0 w0 P (cfgK P enters l) :=
  { (cfg_ok (B := B) (G := 0) (w0 := w0) hP he (fun _ h => by cases h)) with summ := knownOf_ok l hl }
end
def startEnv (pins : List (Nat × Value)) : Env := { ρ := fun _ => none, σ := fun i => find i pins, κ := fun _ => none }
def startSt (n : Nat) (sorts : List (Nat × Sort_)) : St := { none0 with nsym := n, sorts := sorts }
structure Pinned_ (n : Nat) (sorts : List (Nat × Sort_)) (pins : List (Nat × Value)) : Prop where
  few : ∀ i, n ≤ i → find i pins = none
  fits : ∀ i s, find i sorts = some s → ∃ v, find i pins = some v ∧ s.fits v
  once : ∀ p ∈ pins, find p.1 pins = some p.2
theorem relS (P : Program) (w : World) {n : Nat} {sorts : List (Nat × Sort_)} {pins : List (Nat × Value)} (h : Pinned_ n sorts pins) : Rel w.heap.size 0 ⟨w, pins, P⟩ (startEnv pins) (startSt n sorts) w :=
  { heap := fun _ _ h => by cases h
    inj := fun _ _ _ _ _ h => by cases h
    low := fun _ _ _ h => by cases h
    next := Nat.zero_le _
    newρ := fun _ _ => rfl
    newσ := fun i hi => h.few i hi
    newκ := fun _ _ => rfl
    dom := fun _ _ h => by cases h
    own := fun _ _ _ h => by cases h
    base := Nat.le_refl _
    below := Below.refl _ _
    lows := fun _ _ h => by cases h
    sorts := h.fits
    pc := fun _ _ h => by cases h
    glob := fun _ h => by cases h
    pins := h.once
    ro := fun _ _ h => by cases h
    ra := fun _ _ h => by cases h
    deeps := fun _ h => by cases h
    facts := fun _ h => by cases h
    lists := fun _ h => by cases h
    apart := fun _ h => by cases h }
theorem calls_outs {P : Program} {enters : Nat → Bool} {l : List Known} {n f : Nat} (hm : P.follows .mixedOrders = true) (he : ∀ f, enters f = true → entersOf P f = true)
    {ns : Nat} {sorts : List (Nat × Sort_)} {pins : List (Nat × Value)} (hp : Pinned_ ns sorts pins) (hl : ∀ k ∈ l, k.ok P pins) {args : List SV} {vs : List Value} (hv : SV.denL (startEnv pins) args = some vs)
    {outs : List Out} (ho : evaluate (cfgK P enters l) n (.call f args (startSt ns sorts)) = some outs) (hnb : ∀ o ∈ outs, o.st.bad = false ∧ ∀ sv, o.kind ≠ .panic sv) (w : World) :
    Calls P f vs.toArray w fun e w' => ∃ o ∈ outs, ∃ (F : Env) (sv : SV) (v : Value), o.kind = .val sv ∧ sv.den F = some v ∧ e = .returned v ∧ Rel w.heap.size 0 ⟨w, pins, P⟩ F o.st w' :=
  evaluate_ok (cfgK_ok (w0 := ⟨w, pins, P⟩) rfl he hl) hm n _ _ ho (startEnv pins) vs w _ (relS P w hp) hv (fun o hmem F sv v _ _ h2 h3 h4 => ⟨o, hmem, F, sv, v, h3, h4, rfl, h2⟩) (fun o hmem _ sv _ _ _ _ h3 _ => ((hnb o hmem).2 sv h3).elim) (fun o hmem hb => by rw [(hnb o hmem).1] at hb; cases hb)
def Kind.noPan : Kind → Bool
  | .panic _ => false
  | _ => true
def allOuts (C : Cfg) (n f : Nat) (args : List SV) (S : St) (p : Out → Bool) : Bool := match evaluate C n (.call f args S) with
  | some outs => outs.all fun o => !o.st.bad && (o.kind.noPan && p o)
  | none => false
theorem allOuts_mem {outs : List Out} {p : Out → Bool} (h : (outs.all fun o => !o.st.bad && (o.kind.noPan && p o)) = true) {o : Out} (ho : o ∈ outs) : o.st.bad = false ∧ p o = true := by
  have := List.all_eq_true.1 h o ho
  simp only [Bool.and_eq_true, Bool.not_eq_true'] at this
  exact ⟨this.1, this.2.2⟩
theorem allOuts_nopan {outs : List Out} {p : Out → Bool} (h : (outs.all fun o => !o.st.bad && (o.kind.noPan && p o)) = true) {o : Out} (ho : o ∈ outs) : o.st.bad = false ∧ ∀ sv, o.kind ≠ .panic sv := by
  have := List.all_eq_true.1 h o ho
  simp only [Bool.and_eq_true, Bool.not_eq_true'] at this
  exact ⟨this.1, fun sv e => by rw [e] at this; cases this.2.1⟩
theorem calls_all {P : Program} {enters : Nat → Bool} {l : List Known} {n f : Nat} (hm : P.follows .mixedOrders = true) (he : ∀ f, enters f = true → entersOf P f = true)
    {ns : Nat} {sorts : List (Nat × Sort_)} {pins : List (Nat × Value)} (hp : Pinned_ ns sorts pins) (hl : ∀ k ∈ l, k.ok P pins) {args : List SV} {vs : List Value} (hv : SV.denL (startEnv pins) args = some vs)
    {p : Out → Bool} (ho : allOuts (cfgK P enters l) n f args (startSt ns sorts) p = true) (w : World) :
    Calls P f vs.toArray w fun e w' => ∃ o, p o = true ∧ ∃ (F : Env) (sv : SV) (v : Value), o.kind = .val sv ∧ sv.den F = some v ∧ e = .returned v ∧ Rel w.heap.size 0 ⟨w, pins, P⟩ F o.st w' := by
  unfold allOuts at ho
  split at ho
  · rename_i outs houts
    have hn := fun o hmem => allOuts_nopan ho (o := o) hmem
    have ho := fun o hmem => allOuts_mem ho (o := o) hmem
    exact (calls_outs hm he hp hl hv houts hn w).mono fun e _ ⟨o, hmem, h⟩ => ⟨o, (ho o hmem).2, h⟩
  · cases ho
def outTrue (o : Out) : Bool := match o.kind with
  | .val v => isTrueS v
  | _ => false
theorem calls_true_with {P : Program} {enters : Nat → Bool} {l : List Known} {n f : Nat} (hm : P.follows .mixedOrders = true) (he : ∀ f, enters f = true → entersOf P f = true)
    {ns : Nat} {sorts : List (Nat × Sort_)} {pins : List (Nat × Value)} (hp : Pinned_ ns sorts pins) (hl : ∀ k ∈ l, k.ok P pins) {args : List SV} {vs : List Value} (hv : SV.denL (startEnv pins) args = some vs)
    (ho : allOuts (cfgK P enters l) n f args (startSt ns sorts) outTrue = true) (w : World) :
    Calls P f vs.toArray w fun e w' => e = .returned (.bool true) ∧ Below w.heap.size w w' :=
  (calls_all hm he hp hl hv ho w).mono fun e w' ⟨o, h, F, sv, v, h1, h2, h3, h4⟩ => by
    unfold outTrue at h
    rw [h1] at h
    simp only [isTrueS] at h
    split at h
    · simp only [SV.den, Option.some.injEq] at h2; subst h2
      exact ⟨h3, h4.below⟩
    · cases h
theorem known_true {P : Program} {f : Nat} {pins : List (Nat × Value)} (he : entersOf P f = true)
    (h : ∀ w : World, Calls P f (#[] : Array Value) w fun e w' => e = .returned (.bool true) ∧ Below w.heap.size w w') : (Known.mk f [] (.val (.bool true))).ok P pins :=
  ⟨he, fun E vs w _ hvs => by
    simp only [SV.denL, Option.some.injEq] at hvs; subst hvs
    exact ⟨.bool true, by simp only [SV.den], h w⟩⟩
def look : List (ByteArray × Int × Int) → ByteArray → Int × Int × Bool
  | [], _ => (0, 0, false)
  | (k, a, b) :: r, s => bif s.toList == k.toList then (a, b, true) else look r s
def tripleOf : SV → Option (Int × Int × Bool)
  | .tuple [.val (.int .i64 a), .val (.int .i64 b), .val (.bool c)] => some (a, b, c)
  | _ => none
theorem tripleOf_ok {sv : SV} {t : Int × Int × Bool} (h : tripleOf sv = some t) : sv = .tuple [.val (.int .i64 t.1), .val (.int .i64 t.2.1), .val (.bool t.2.2)] := by
  unfold tripleOf at h
  split at h
  · simp only [Option.some.injEq] at h; subst h; rfl
  · cases h
def sameT (x y : Int × Int × Bool) : Bool := decide (x.1 = y.1) && (decide (x.2.1 = y.2.1) && x.2.2 == y.2.2)
theorem sameT_eq {x y : Int × Int × Bool} (h : sameT x y = true) : x = y := by
  simp only [sameT, Bool.and_eq_true, decide_eq_true_eq, beq_iff_eq] at h
  obtain ⟨a, b, c⟩ := x
  obtain ⟨a', b', c'⟩ := y
  obtain ⟨rfl, rfl, rfl⟩ := h
  rfl
def outLook (tbl : List (ByteArray × Int × Int)) (o : Out) : Bool := match o.kind with
  | .val v => match tripleOf v with
    | some t => match find 0 o.st.sorts with
      | some (.is (.string s)) => sameT t (look tbl s)
      | some (.strNot l) => sameT t (0, 0, false) && tbl.all fun e => isIn e.1 l
      | _ => false
    | none => false
  | _ => false
theorem look_none {s : ByteArray} {l : List ByteArray} (hl : ∀ x ∈ l, s.toList ≠ x.toList) : ∀ {tbl : List (ByteArray × Int × Int)}, (tbl.all fun e => isIn e.1 l) = true → look tbl s = (0, 0, false)
  | [], _ => rfl
  | (k, a, b) :: r, h => by
    simp only [List.all_cons, Bool.and_eq_true] at h
    obtain ⟨x, hx, he⟩ := isIn_mem h.1
    have : (s.toList == k.toList) = false := by
      have := hl x hx
      rw [he] at this
      simpa using this
    simp only [look, this, cond_false]
    exact look_none hl h.2
theorem calls_look {P : Program} {enters : Nat → Bool} {n f : Nat} (hm : P.follows .mixedOrders = true) (he : ∀ f, enters f = true → entersOf P f = true)
    {tbl : List (ByteArray × Int × Int)} (ho : allOuts (cfgK P enters []) n f [.sym 0] (startSt 1 [(0, .str)]) (outLook tbl) = true) (s : ByteArray) (w : World) :
    Calls P f #[.string s] w fun e w' => e = .returned (.tuple #[.int .i64 (look tbl s).1, .int .i64 (look tbl s).2.1, .bool (look tbl s).2.2]) ∧ Below w.heap.size w w' := by
  have hp : Pinned_ 1 [(0, .str)] [(0, .string s)] :=
    { few := fun i hi => by rw [find_cons_ne (by omega)]; rfl
      fits := fun i x hx => by
        by_cases e : i = 0
        · subst e; rw [find_cons_self] at hx; cases hx; exact ⟨_, find_cons_self _ _ _, s, rfl⟩
        · rw [find_cons_ne e] at hx; cases hx
      once := fun p hp => by simp only [List.mem_singleton] at hp; subst hp; rfl }
  refine (calls_all hm he hp (fun _ h => by cases h) (args := [.sym 0]) (vs := [.string s]) rfl ho w).mono fun e w' ⟨o, h, F, sv, v, h1, h2, h3, h4⟩ => ⟨?_, h4.below⟩
  unfold outLook at h
  rw [h1] at h
  simp only at h
  split at h
  · rename_i t ht
    have := tripleOf_ok ht
    subst this
    simp only [SV.den, SV.denL, Option.some.injEq] at h2
    subst h2
    rw [h3]
    have h0 : F.σ 0 = some (.string s) := h4.pins (0, .string s) List.mem_cons_self
    have : t = look tbl s := by
      split at h
      · rename_i u hu
        obtain ⟨x, hx, hf⟩ := h4.sorts _ _ hu
        rw [h0] at hx; cases hx
        cases hf
        exact sameT_eq h
      · rename_i l hl
        simp only [Bool.and_eq_true] at h
        obtain ⟨x, hx, y, hy, hf⟩ := h4.sorts _ _ hl
        rw [h0] at hx; cases hx
        cases hy
        rw [look_none hf h.2]
        exact sameT_eq h.1
      · cases h
    rw [this]
  · cases h
theorem known_look {P : Program} {f : Nat} {tbl : List (ByteArray × Int × Int)} {s : ByteArray} (he : entersOf P f = true)
    (h : ∀ w : World, Calls P f #[.string s] w fun e w' => e = .returned (.tuple #[.int .i64 (look tbl s).1, .int .i64 (look tbl s).2.1, .bool (look tbl s).2.2]) ∧ Below w.heap.size w w') :
    (Known.mk f [.sym 0] (.tuple [.sym 1, .sym 2, .sym 3])).ok P [(0, .string s), (1, .int .i64 (look tbl s).1), (2, .int .i64 (look tbl s).2.1), (3, .bool (look tbl s).2.2)] :=
  ⟨he, fun E vs w hp hvs => by
    have h0 := hp (0, .string s) (by simp)
    have h1 := hp (1, .int .i64 (look tbl s).1) (by simp)
    have h2 := hp (2, .int .i64 (look tbl s).2.1) (by simp)
    have h3 := hp (3, .bool (look tbl s).2.2) (by simp)
    simp only at h0 h1 h2 h3
    simp only [SV.denL, SV.den, h0, Option.some.injEq] at hvs
    subst hvs
    refine ⟨.tuple #[.int .i64 (look tbl s).1, .int .i64 (look tbl s).2.1, .bool (look tbl s).2.2], ?_, h w⟩
    simp only [SV.den, SV.denL, h1, h2, h3]⟩
def LooksUp (P : Program) (f : Nat) (tbl : List (ByteArray × Int × Int)) : Prop :=
  ∀ (s : ByteArray) (w : World), Calls P f #[.string s] w fun e w' => e = .returned (.tuple #[.int .i64 (look tbl s).1, .int .i64 (look tbl s).2.1, .bool (look tbl s).2.2]) ∧ Below w.heap.size w w'
def ComesTrue (P : Program) (f : Nat) : Prop :=
  ∀ w : World, Calls P f (#[] : Array Value) w fun e w' => e = .returned (.bool true) ∧ Below w.heap.size w w'
theorem names_true {P : Program} {n f fa fb : Nat} {more : List Known} {tbl : List (ByteArray × Int × Int)} {s : ByteArray} (hm : P.follows .mixedOrders = true)
    (ha : entersOf P fa = true) (hb : entersOf P fb = true)
    (hca : ∀ w : World, Calls P fa #[.string s] w fun e w' => e = .returned (.tuple #[.int .i64 (look tbl s).1, .int .i64 (look tbl s).2.1, .bool (look tbl s).2.2]) ∧ Below w.heap.size w w')
    (hcb : ∀ w : World, Calls P fb #[.string s] w fun e w' => e = .returned (.tuple #[.int .i64 (look tbl s).1, .int .i64 (look tbl s).2.1, .bool (look tbl s).2.2]) ∧ Below w.heap.size w w')
    (hmore : ∀ pins, ∀ k ∈ more, k.ok P pins)
    (ho : allOuts (cfgK P (entersOf P) (⟨fa, [.sym 0], .tuple [.sym 1, .sym 2, .sym 3]⟩ :: ⟨fb, [.sym 0], .tuple [.sym 1, .sym 2, .sym 3]⟩ :: more)) n f [.sym 0] (startSt 4 [(0, .str), (1, .int .i64), (2, .int .i64), (3, .bool)]) outTrue = true)
    (w : World) : Calls P f #[.string s] w fun e w' => e = .returned (.bool true) ∧ Below w.heap.size w w' := by
  have hp : Pinned_ 4 [(0, .str), (1, .int .i64), (2, .int .i64), (3, .bool)] [(0, .string s), (1, .int .i64 (look tbl s).1), (2, .int .i64 (look tbl s).2.1), (3, .bool (look tbl s).2.2)] :=
    { few := fun i hi => by rw [find_cons_ne (by omega), find_cons_ne (by omega), find_cons_ne (by omega), find_cons_ne (by omega)]; rfl
      fits := fun i x hx => by
        match i, hx with
        | 0, hx => cases hx; exact ⟨_, rfl, s, rfl⟩
        | 1, hx => cases hx; exact ⟨_, rfl, _, rfl⟩
        | 2, hx => cases hx; exact ⟨_, rfl, _, rfl⟩
        | 3, hx => cases hx; exact ⟨_, rfl, _, rfl⟩
        | i + 4, hx => rw [find_cons_ne (by omega), find_cons_ne (by omega), find_cons_ne (by omega), find_cons_ne (by omega)] at hx; cases hx
      once := fun p hp => by
        simp only [List.mem_cons, List.not_mem_nil, or_false] at hp
        rcases hp with rfl | rfl | rfl | rfl <;> rfl }
  refine calls_true_with hm (fun _ h => h) hp (l := ⟨fa, [.sym 0], .tuple [.sym 1, .sym 2, .sym 3]⟩ :: ⟨fb, [.sym 0], .tuple [.sym 1, .sym 2, .sym 3]⟩ :: more) (fun k hk => ?_) (args := [.sym 0]) (vs := [.string s]) rfl ho w
  simp only [List.mem_cons] at hk
  rcases hk with rfl | rfl | hk
  · exact known_look ha hca
  · exact known_look hb hcb
  · exact hmore _ k hk
end Go.Ev
