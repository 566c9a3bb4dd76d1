/- The rule for loops, put together. -/
import Derived.Test.YtdihaemeipdfgaaGreatDoorEvLoop3
namespace Go.Ev
open Go.RowKit (Below)

/-- The first region's number: by it a loop is named within its function. -/
def loopKey : Code → Option Nat
  | .region id _ _ => some id
  | .seq a b => match loopKey a with
    | some k => some k
    | none => loopKey b
  | .cond _ a b => match loopKey a with
    | some k => some k
    | none => loopKey b
  | .block _ c => loopKey c
  | .loop c => loopKey c
  | .scope c => loopKey c
  | _ => none

/-- The unknowns so far, each that has a sort. -/
def args0 (S : St) : Nat → List SV
  | 0 => []
  | n + 1 => args0 S n ++ [match find n S.sorts with
    | some _ => .sym n
    | none => .val undef]

def newSyms (N : Nat) : Nat → List SV
  | 0 => []
  | n + 1 => newSyms N n ++ [.sym (N + n)]

def isBack (o : Out) : Bool := !o.st.bad && (match o.kind with
  | .normal => true
  | _ => false)

def addFact (S : St) (op : SOp) (args : List SV) (bad : Bool) : St := { S with facts := ⟨op, args, .val undef⟩ :: S.facts, bad := bad }

/-- What holds at a loop's head, and what falls. -/
structure LSpec where
  id : String
  p : List Value → Prop
  m : List Value → Nat

/-- The outcomes of a loop, out of those of a round. -/
def loopOuts (k : LSpec) (T : Tpl) (H : List SV × St) (hs : List Sort_) (S : St) : List Out → Option (List Out)
  | [] => some []
  | o :: r => match loopOuts k T H hs S r with
    | none => none
    | some l => bif isBack o then
        match comes T H S hs.length o.ts o.st with
        | some nv => some ({ o with st := addFact o.st (.nback k.id k.p k.m (S.nsym + hs.length) (List.replicate S.nsym .any ++ hs)) ((args0 S S.nsym ++ newSyms S.nsym hs.length) ++ (args0 S S.nsym ++ nv)) true } :: l)
        | none => none
      else some (o :: l)

/-- A template that the rounds keep. -/
def seek (k : LSpec) (rec : Task → Option (List Out)) (c : Code) (ts : List SV) (S : St) : Nat → Tpl → List LEnt → Option (List Out)
  | 0, _, _ => none
  | n + 1, T, kept =>
    let hs := T.all.flatMap (sortsHv deep)
    let H := headSt T kept ts S
    match comes T H S hs.length ts S with
    | none => none
    | some nv => match rec (.code c H.1 (addFact H.2 (.pred k.id k.p) (args0 S S.nsym ++ newSyms S.nsym hs.length) false)) with
      | none => none
      | some outs => match loopOuts k T H hs S outs with
        | some l => some ({ kind := .normal, ts := ts, st := addFact S (.nat0 k.id k.p (List.replicate S.nsym .any ++ hs)) (args0 S S.nsym ++ nv) true } :: l)
        | none =>
          let back := outs.filter isBack
          seek k rec c ts S n (back.foldl (fun T o => joinTpl T (diffTpl ts S o.ts o.st)) T) (kept.filter fun l => back.all fun o => listKept o.st.lists l)

/-- Which loops are taken by a relation: the function, the loop's name in it, the relation's number. -/
def loopOf (f k : Nat) : List (Nat × Nat × LSpec) → Option LSpec
  | [] => none
  | (g, j, p) :: r => bif Nat.beq f g && Nat.beq k j then some p else loopOf f k r

def loops (K : List (Nat × Nat × LSpec)) (rec : Task → Option (List Out)) (c : Code) (ts : List SV) (S : St) : Option (Option (List Out)) :=
  match loopKey c with
  | none => none
  | some key => match loopOf S.fn key K with
    | none => none
    | some k => some (match rec (.code c ts S) with
      | none => none
      | some outs =>
        let back := outs.filter isBack
        seek k rec c ts S 4 (back.foldl (fun T o => joinTpl T (diffTpl ts S o.ts o.st)) (keepAll ts S)) (S.lists.filter fun l => back.all fun o => listKept o.st.lists l))

section
variable {B G : Nat} {w0 : Start} {E F : Env} {S S' : St} {w w' : World} {P : Program}

theorem args0_den (hr : Rel B G w0 E S w) : ∀ n, ∃ old, SV.denL E (args0 S n) = some old ∧ old.length = n
  | 0 => ⟨[], rfl, rfl⟩
  | n + 1 => by
    obtain ⟨old, h1, h2⟩ := args0_den hr n
    have : ∃ v, (match find n S.sorts with
      | some _ => SV.sym n
      | none => .val undef).den E = some v := by
      split
      · rename_i t ht
        obtain ⟨v, hv, _⟩ := hr.sorts n t ht
        exact ⟨v, by simp only [SV.den]; exact hv⟩
      · exact ⟨undef, by simp only [SV.den]⟩
    obtain ⟨v, hv⟩ := this
    exact ⟨old ++ [v], denL_append h1 (denL_mk hv (r := []) rfl), by simp [h2]⟩

theorem newSyms_den (E : Env) {N : Nat} {hv : List Value} : ∀ n, n ≤ hv.length → SV.denL (E.unks N hv) (newSyms N n) = some (hv.take n)
  | 0, _ => by simp [newSyms, SV.denL]
  | n + 1, h => by
    have h1 := newSyms_den E (N := N) (hv := hv) n (by omega)
    have h2 : (SV.sym (N + n)).den (E.unks N hv) = some hv[n] := by
      simp only [SV.den]
      rw [unks_new E hv (by omega)]
      rw [show N + n - N = n by omega]
      exact List.getElem?_eq_getElem (by omega)
    have := denL_append h1 (denL_mk h2 (r := []) rfl)
    rw [List.take_succ_eq_append_getElem (by omega)]
    exact this

theorem fits_old : ∀ {old : List Value} {hs : List Sort_} {hv : List Value}, fitsL (List.replicate old.length .any ++ hs) (old ++ hv) ↔ fitsL hs hv
  | [], hs, hv => Iff.rfl
  | v :: old, hs, hv => by
    simp only [List.length_cons, List.replicate_succ, List.cons_append, fitsL]
    rw [fits_old (old := old)]
    exact ⟨fun h => h.2, fun h => ⟨trivial, h⟩⟩

theorem Rel.addFact (h : Rel B G w0 E S w) {op : SOp} {args : List SV} {vs : List Value} (ha : SV.denL E args = some vs) (hop : op.rel w0 vs undef) (b : Bool) : Rel B G w0 E (addFact S op args b) w :=
  { h with
    facts := fun q hq => by
      simp only [Ev.addFact, List.mem_cons] at hq
      rcases hq with rfl | hq
      · exact ⟨vs, undef, ha, by simp only [SV.den], hop⟩
      · exact h.facts q hq }

theorem loopOuts_back {k : LSpec} {T : Tpl} {H : List SV × St} {hs : List Sort_} : ∀ {outs l : List Out}, loopOuts k T H hs S outs = some l → ∀ o ∈ outs,
    (isBack o = true → ∃ nv, comes T H S hs.length o.ts o.st = some nv ∧ { o with st := addFact o.st (.nback k.id k.p k.m (S.nsym + hs.length) (List.replicate S.nsym .any ++ hs)) ((args0 S S.nsym ++ newSyms S.nsym hs.length) ++ (args0 S S.nsym ++ nv)) true } ∈ l) ∧
    (isBack o = false → o ∈ l)
  | [], l, h, o, ho => by cases ho
  | x :: r, l, h, o, ho => by
    simp only [loopOuts] at h
    split at h
    · cases h
    rename_i l' hl'
    cases hb : isBack x with
    | true =>
      rw [hb] at h
      simp only [cond_true] at h
      split at h
      · rename_i nv hnv
        simp only [Option.some.injEq] at h; subst h
        cases ho with
        | head => exact ⟨fun _ => ⟨nv, hnv, List.mem_cons_self⟩, fun h => by rw [hb] at h; cases h⟩
        | tail _ ho =>
          obtain ⟨h1, h2⟩ := loopOuts_back hl' o ho
          exact ⟨(fun h => by obtain ⟨nv, k1, k2⟩ := h1 h; exact ⟨nv, k1, List.mem_cons_of_mem _ k2⟩), fun h => List.mem_cons_of_mem _ (h2 h)⟩
      · cases h
    | false =>
      rw [hb] at h
      simp only [cond_false, Option.some.injEq] at h; subst h
      cases ho with
      | head => exact ⟨(fun h => by rw [hb] at h; cases h), fun _ => List.mem_cons_self⟩
      | tail _ ho =>
        obtain ⟨h1, h2⟩ := loopOuts_back hl' o ho
        exact ⟨(fun h => by obtain ⟨nv, k1, k2⟩ := h1 h; exact ⟨nv, k1, List.mem_cons_of_mem _ k2⟩), fun h => List.mem_cons_of_mem _ (h2 h)⟩

theorem head_ok (T : Tpl) (kept : List LEnt) (ts : List SV) (S : St) : Heady S (T.all.flatMap (sortsHv deep)) (headSt T kept ts S).2 :=
  { next := rfl, ncap := rfl, lows := rfl, nsym := rfl, sorts := rfl, pc := rfl, gs := rfl, ro := rfl, ra := rfl, facts := rfl }

theorem seek_ok {n : Nat} {rec : Task → Option (List Out)} (hrec : RecOK B G w0 P n rec) {k : LSpec} {c : Code} {ts : List SV} : ∀ {m : Nat} {T : Tpl} {kept : List LEnt} {outs : List Out},
    seek k rec c ts S m T kept = some outs → CodeOK B G w0 P (.loop c) ts S outs
  | 0, _, _, _, h => by cases h
  | m + 1, T, kept, outs, h => by
    simp only [seek] at h
    split at h
    · cases h
    rename_i nv0 hnv0
    split at h
    · cases h
    rename_i bouts hb
    split at h
    case h_2 => exact seek_ok hrec h
    rename_i l hl
    simp only [Option.some.injEq] at h; subst h
    generalize hhs : T.all.flatMap (sortsHv deep) = hs at hnv0 hb hl
    have hH : Heady S hs (headSt T kept ts S).2 := by rw [← hhs]; exact head_ok T kept ts S
    generalize headSt T kept ts S = H at hnv0 hb hl hH
    intro E a w Q hr ht hd hQ hbad
    have hK := comes_known hr hnv0 ht
    have hN : ∀ i, S.nsym ≤ i → E.σ i = none := hr.newσ
    obtain ⟨old, ho1, ho2⟩ := args0_den hr S.nsym
    have hfo : ∀ hv : List Value, fitsL (List.replicate S.nsym .any ++ hs) (old ++ hv) ↔ fitsL hs hv := fun hv => by
      have := fits_old (old := old) (hs := hs) (hv := hv)
      rwa [ho2] at this
    have hbody := hrec _ _ hb
    -- a world that comes to the head
    let I : Nat → Act → World → Prop := fun n a w => ∃ hv, hv.length = hs.length ∧ fitsL hs hv ∧ k.p (old ++ hv) ∧ k.m (old ++ hv) = n ∧ Rel B G w0 (E.unks S.nsym hv) H.2 w ∧ SV.denL (E.unks S.nsym hv) H.1 = some a.tmps.toList ∧ DOk P a.defers
    have start : ∃ n, I n a w := by
      obtain ⟨hv, h1, h2, h3⟩ := comes_rel hr hH hK E.le_refl hr ht hnv0
      have key : fitsL hs hv ∧ k.p (old ++ hv) := by
        apply Classical.byContradiction
        intro hn
        refine hbad _ List.mem_cons_self rfl E w E.le_refl (hr.addFact (denL_append ho1 h1) ?_ true)
        intro hfit hp
        exact hn ⟨(hfo hv).1 hfit, hp⟩
      obtain ⟨k1, k2⟩ := h3 key.1
      exact ⟨_, hv, h2, key.1, key.2, rfl, k1, k2, hd⟩
    obtain ⟨n0, hI0⟩ := start
    refine wp_loop_ghost I n0 hI0 fun n a w hI => ?_
    obtain ⟨hv, v1, v2, v3, v4, v5, v6, v7⟩ := hI
    have hle := unks_le E hv hN
    have hargs : SV.denL (E.unks S.nsym hv) (args0 S S.nsym ++ newSyms S.nsym hs.length) = some (old ++ hv) := by
      have := denL_append (SV.denL_mono hle _ _ ho1) (newSyms_den E (N := S.nsym) (hv := hv) hs.length (by omega))
      rwa [← v1, List.take_length, v1] at this
    have hrh : Rel B G w0 (E.unks S.nsym hv) (addFact H.2 (.pred k.id k.p) (args0 S S.nsym ++ newSyms S.nsym hs.length) false) w := v5.addFact (op := .pred k.id k.p) hargs v3 false
    refine hbody _ a w _ hrh v6 v7 (fun o ho F e a' w' h1 h2 h3 h4 h5 => ?_) (fun o ho hob F w' h1 h2 => ?_)
    · obtain ⟨b1, b2⟩ := loopOuts_back hl o ho
      have hEF := Env.le_trans hle h1
      cases hback : isBack o with
      | true =>
        obtain ⟨nv, c1, c2⟩ := b1 hback
        have hkind : e = .normal := by
          unfold isBack at hback
          simp only [Bool.and_eq_true] at hback
          obtain ⟨_, hk⟩ := hback
          cases hkk : o.kind <;> rw [hkk] at hk h5 <;> simp at hk
          exact h5
        subst hkind
        obtain ⟨hv', g1, g2, g3⟩ := comes_rel hr hH hK hEF h2 h3 c1
        have hargs' : SV.denL F (args0 S S.nsym ++ nv) = some (old ++ hv') := denL_append (SV.denL_mono hEF _ _ ho1) g1
        have hall := denL_append (SV.denL_mono h1 _ _ hargs) hargs'
        have hlen : (old ++ hv).length = S.nsym + hs.length := by simp [ho2, v1]
        have key : fitsL hs hv' ∧ k.p (old ++ hv') ∧ k.m (old ++ hv') < k.m (old ++ hv) := by
          apply Classical.byContradiction
          intro hn
          refine hbad _ (List.mem_cons_of_mem _ c2) rfl F w' hEF (h2.addFact hall ?_ true)
          have d1 : ((old ++ hv) ++ (old ++ hv')).drop (S.nsym + hs.length) = old ++ hv' := by rw [← hlen]; exact List.drop_left
          have d2 : ((old ++ hv) ++ (old ++ hv')).take (S.nsym + hs.length) = old ++ hv := by rw [← hlen]; exact List.take_left
          show fitsL _ (List.drop _ _) → k.p (List.drop _ _) → ¬ k.m (List.drop _ _) < k.m (List.take _ _)
          rw [d1, d2]
          intro hfit hp hm
          exact hn ⟨(hfo hv').1 hfit, hp, hm⟩
        obtain ⟨k1, k2⟩ := g3 key.1
        exact ⟨_, by rw [← v4]; exact key.2.2, hv', g2, key.1, key.2.1, rfl, k1, k2, h4⟩
      | false =>
        have hm := b2 hback
        have hq := hQ o (List.mem_cons_of_mem _ hm) F e a' w' hEF h2 h3 h4 h5
        unfold isBack at hback
        cases hbb : o.st.bad with
        | true => exact (hbad o (List.mem_cons_of_mem _ hm) hbb F w' hEF h2).elim
        | false =>
          rw [hbb] at hback
          simp only [Bool.not_false, Bool.true_and] at hback
          cases hkk : o.kind with
          | normal => rw [hkk] at hback; cases hback
          | exit id => rw [hkk] at h5; cases h5; exact hq
          | ret => rw [hkk] at h5; cases h5; exact hq
          | val v => rw [hkk] at h5; cases h5
    · obtain ⟨_, b2⟩ := loopOuts_back hl o ho
      have : isBack o = false := by unfold isBack; rw [hob]; rfl
      exact hbad o (List.mem_cons_of_mem _ (b2 this)) hob F w' (Env.le_trans hle h1) h2

theorem loops_ok (K : List (Nat × Nat × LSpec)) : LoopsOK B G w0 P (loops K) := by
  intro n rec hrec c ts S outs h
  unfold loops at h
  split at h
  · cases h
  split at h
  · cases h
  simp only [Option.some.injEq] at h
  split at h
  · cases h
  · exact seek_ok hrec h

/-- The evaluator. -/
def evaluateK (C : Cfg) (K : List (Nat × Nat × LSpec)) (n : Nat) (t : Task) : Option (List Out) := ev C (evAny C) (loops K) (resC C.P) n t

theorem evaluateK_ok {C : Cfg} (hC : CfgOK B G w0 P C) (hm : P.follows .mixedOrders = true) (K : List (Nat × Nat × LSpec)) (n : Nat) : RecOK B G w0 P n (evaluateK C K n) :=
  ev_ok hC (evAny_ok hC hm) (loops_ok K) (by rw [hC.prog]; exact resC_ok) n

def evaluate (C : Cfg) (n : Nat) (t : Task) : Option (List Out) := evaluateK C [] n t

theorem evaluate_ok {C : Cfg} (hC : CfgOK B G w0 P C) (hm : P.follows .mixedOrders = true) (n : Nat) : RecOK B G w0 P n (evaluate C n) := evaluateK_ok hC hm [] n
end
end Go.Ev
