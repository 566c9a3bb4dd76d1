/- Maps: made, looked up, written, deleted from, ranged over; strings ranged over. -/
import Derived.Test.YtlpbimookmhjbaaGreatDoorEvMore
namespace Go.Ev
open Go.RowKit (Below)

section
variable {B G : Nat} {w0 : Start} {E : Env} {S : St} {w : World} {P : Program}

def bare (k : Value) : MapEntry := { key := k, val := undef, born := 0 }

theorem bare_key (k : Value) : (bare k).key = k := rfl

def keysOf : List (SV × SV × Nat) → Option (List Value)
  | [] => some []
  | x :: r => match x.1.conc, keysOf r with
    | some k, some l => some (k :: l)
    | _, _ => none

theorem keysOf_ok : ∀ {es : List (SV × SV × Nat)} {ks : List Value} {l : List MapEntry}, keysOf es = some ks → MRel E es l → l.map (·.key) = ks
  | [], ks, [], h, _ => by simp only [keysOf, Option.some.injEq] at h; subst h; rfl
  | x :: r, ks, m :: ms, h, ⟨a, _, _, d⟩ => by
    simp only [keysOf] at h
    split at h
    · rename_i k l hk hl
      simp only [Option.some.injEq] at h; subst h
      rw [conc_den (E := E) _ _ hk] at a
      simp only [Option.some.injEq] at a
      simp [keysOf_ok hl d, a]
    · cases h
  | [], _, _ :: _, _, k => k.elim
  | _ :: _, _, [], _, k => k.elim

theorem keysOf_mem : ∀ {es : List (SV × SV × Nat)} {ks : List Value}, keysOf es = some ks → ∀ e ∈ es, ∃ k ∈ ks, e.1.den E = some k
  | [], _, _, e, he => by cases he
  | x :: r, ks, h, e, he => by
    simp only [keysOf] at h
    split at h
    · rename_i k l hk hl
      simp only [Option.some.injEq] at h; subst h
      cases he with
      | head => exact ⟨k, List.mem_cons_self, conc_den (E := E) _ _ hk⟩
      | tail _ he => obtain ⟨k', h1, h2⟩ := keysOf_mem hl e he; exact ⟨k', List.mem_cons_of_mem _ h1, h2⟩
    · cases h

theorem findNow_keys (kind : TypeDesc) (k : Value) : ∀ (l : List MapEntry) (i : Nat),
    match Instr.findNow kind k ((l.map (·.key)).map bare) i with
    | none => Instr.findNow kind k l i = none
    | some none => Instr.findNow kind k l i = some none
    | some (some (j, _)) => ∃ m, i ≤ j ∧ l[j - i]? = some m ∧ Instr.findNow kind k l i = some (some (j, m.val))
  | [], i => by simp [Instr.findNow]
  | m :: r, i => by
    simp only [List.map_cons, Instr.findNow, bare_key]
    cases h : Instr.sameNow kind k m.key with
    | none => simp
    | some b =>
      cases b with
      | true => exact ⟨m, Nat.le_refl _, by simp, by simp⟩
      | false =>
        simp only
        have ih := findNow_keys kind k r (i + 1)
        split at ih
        · exact ih
        · exact ih
        · rename_i j v e
          obtain ⟨x, h1, h2, h3⟩ := ih
          refine ⟨x, by omega, ?_, h3⟩
          rw [show j - i = (j - (i + 1)) + 1 by omega]
          simpa using h2

theorem pureRun_bind {α β : Type} {x : Sem α} {f : α → Sem β} {b : β} (h : pureRun P (x.bind f) = some b) : ∃ a, pureRun P x = some a ∧ pureRun P (f a) = some b := by
  induction x with
  | pure a => exact ⟨a, rfl, h⟩
  | program k ih => simp only [Sem.bind, pureRun] at h ⊢; exact ih P h
  | mark m k ih => simp only [Sem.bind, pureRun] at h ⊢; exact ih h
  | _ => simp [Sem.bind, pureRun] at h

theorem pureRun_bind' {α β : Type} {x : Sem α} {f : α → Sem β} {b : β} (h : pureRun P (x >>= f) = some b) : ∃ a, pureRun P x = some a ∧ pureRun P (f a) = some b := pureRun_bind h

theorem findAsking_keys (kt : TypeId) (k : Value) : ∀ (l : List MapEntry) (i : Nat) (r : Option (Nat × Value)),
    pureRun P (Instr.findAsking kt k ((l.map (·.key)).map bare) i) = some r →
    (r = none → ∀ w : World, (Instr.findAsking kt k l i).run P w = .ok none w) ∧
    (∀ j v, r = some (j, v) → ∃ m, i ≤ j ∧ l[j - i]? = some m ∧ ∀ w : World, (Instr.findAsking kt k l i).run P w = .ok (some (j, m.val)) w)
  | [], i, r, h => by
    simp only [List.map_nil, Instr.findAsking] at h ⊢
    have : r = none := by simpa [pureRun, Pure.pure] using h.symm
    subst this
    exact ⟨fun _ w => rfl, fun j v e => by cases e⟩
  | m :: rest, i, r, h => by
    simp only [List.map_cons, Instr.findAsking, bare] at h ⊢
    obtain ⟨b, hb, h⟩ := pureRun_bind' h
    cases b with
    | true =>
      simp only [if_true] at h
      have : r = some (i, undef) := by simpa [pureRun, Pure.pure] using h.symm
      subst this
      refine ⟨fun e => (by cases e), fun j v e => ?_⟩
      cases e
      exact ⟨m, Nat.le_refl _, by simp, fun w => by simp [pureRun_run hb]⟩
    | false =>
      simp only [Bool.false_eq_true, if_false] at h
      obtain ⟨h1, h2⟩ := findAsking_keys kt k rest (i + 1) r h
      refine ⟨fun e w => by simp [pureRun_run hb, h1 e], fun j v e => ?_⟩
      obtain ⟨x, k1, k2, k3⟩ := h2 j v e
      refine ⟨x, by omega, ?_, fun w => by simp [pureRun_run hb, k3]⟩
      rw [show j - i = (j - (i + 1)) + 1 by omega]
      simpa using k2

/-- Where a key stands. -/
def findS (P : Program) (kt : TypeId) (k : Value) (ks : List Value) : Option (Option Nat) :=
  match pureRun P (Instr.findKey kt k (ks.map bare)) with
  | some none => some none
  | some (some (j, _)) => some (some j)
  | none => none

theorem findS_ok {kt : TypeId} {k : Value} {ks : List Value} {r : Option Nat} (h : findS P kt k ks = some r) {l : List MapEntry} (hl : l.map (·.key) = ks) :
    (r = none → ∀ w : World, (Instr.findKey kt k l).run P w = .ok none w) ∧
    (∀ j, r = some j → ∃ m, l[j]? = some m ∧ ∀ w : World, (Instr.findKey kt k l).run P w = .ok (some (j, m.val)) w) := by
  subst hl
  have key : ∀ x, pureRun P (Instr.findKey kt k ((l.map (·.key)).map bare)) = some x →
      (x = none → ∀ w : World, (Instr.findKey kt k l).run P w = .ok none w) ∧
      (∀ j v, x = some (j, v) → ∃ m, l[j]? = some m ∧ ∀ w : World, (Instr.findKey kt k l).run P w = .ok (some (j, m.val)) w) := fun x hx => by
    unfold Instr.findKey at hx
    obtain ⟨kind, hk, hx⟩ := pureRun_bind' hx
    have hn := findNow_keys kind k l 0
    split at hn
    · rename_i e
      simp only [e] at hx
      obtain ⟨h1, h2⟩ := findAsking_keys kt k l 0 x hx
      refine ⟨fun e' w => ?_, fun j v e' => ?_⟩
      · simp [Instr.findKey, pureRun_run hk, hn, h1 e']
      · obtain ⟨m, _, k2, k3⟩ := h2 j v e'
        exact ⟨m, by simpa using k2, fun w => by simp [Instr.findKey, pureRun_run hk, hn, k3]⟩
    · rename_i e
      simp only [e] at hx
      have : x = none := by simpa [pureRun, Pure.pure] using hx.symm
      subst this
      exact ⟨fun _ w => by simp [Instr.findKey, pureRun_run hk, hn], fun j v e' => by cases e'⟩
    · rename_i j v e
      simp only [e] at hx
      have : x = some (j, v) := by simpa [pureRun, Pure.pure] using hx.symm
      subst this
      obtain ⟨m, _, k2, k3⟩ := hn
      refine ⟨fun e' => (by cases e'), fun j' v' e' => ?_⟩
      cases e'
      exact ⟨m, by simpa using k2, fun w => by simp [Instr.findKey, pureRun_run hk, k3]⟩
  unfold findS at h
  split at h
  · rename_i e
    simp only [Option.some.injEq] at h; subst h
    exact ⟨fun _ => (key _ e).1 rfl, fun j e' => by cases e'⟩
  · rename_i j v e
    simp only [Option.some.injEq] at h; subst h
    refine ⟨fun e' => (by cases e'), fun j' e' => ?_⟩
    cases e'
    exact (key _ e).2 j v rfl
  · cases h

theorem MRel.get : ∀ {xs : List (SV × SV × Nat)} {ms : List MapEntry}, MRel E xs ms → ∀ {i : Nat} {m : MapEntry}, ms[i]? = some m → ∃ x, xs[i]? = some x ∧ x.1.den E = some m.key ∧ x.2.1.den E = some m.val ∧ m.born = x.2.2
  | [], [], _, i, m, h => by simp at h
  | x :: xs, y :: ms, ⟨a, b, c, d⟩, i, m, h => by
    cases i with
    | zero => simp at h; subst h; exact ⟨x, by simp, a, b, c⟩
    | succ i => simp at h; obtain ⟨z, h1, h2⟩ := MRel.get d h; exact ⟨z, by simpa using h1, h2⟩
  | [], _ :: _, k, _, _, _ => k.elim
  | _ :: _, [], k, _, _, _ => k.elim

theorem MRel.push : ∀ {xs : List (SV × SV × Nat)} {ms : List MapEntry} {x : SV × SV × Nat} {m : MapEntry}, MRel E xs ms → x.1.den E = some m.key → x.2.1.den E = some m.val → m.born = x.2.2 → MRel E (xs ++ [x]) (ms ++ [m])
  | [], [], _, _, _, a, b, c => ⟨a, b, c, trivial⟩
  | _ :: _, _ :: _, _, _, ⟨a', b', c', d'⟩, a, b, c => ⟨a', b', c', d'.push a b c⟩
  | [], _ :: _, _, _, k, _, _, _ => k.elim
  | _ :: _, [], _, _, k, _, _, _ => k.elim

theorem MRel.set : ∀ {xs : List (SV × SV × Nat)} {ms : List MapEntry} {x : SV × SV × Nat} {m : MapEntry} (i : Nat), MRel E xs ms → x.1.den E = some m.key → x.2.1.den E = some m.val → m.born = x.2.2 → MRel E (xs.set i x) (ms.set i m)
  | [], [], _, _, i, _, _, _, _ => by simp [MRel]
  | _ :: _, _ :: _, _, _, 0, ⟨_, _, _, d'⟩, a, b, c => ⟨a, b, c, d'⟩
  | _ :: _, _ :: _, _, _, i + 1, ⟨a', b', c', d'⟩, a, b, c => ⟨a', b', c', d'.set i a b c⟩
  | [], _ :: _, _, _, _, k, _, _, _ => k.elim
  | _ :: _, [], _, _, _, k, _, _, _ => k.elim

theorem MRel.erase : ∀ {xs : List (SV × SV × Nat)} {ms : List MapEntry} (i : Nat), MRel E xs ms → MRel E (xs.eraseIdx i) (ms.eraseIdx i)
  | [], [], i, _ => by simp [MRel]
  | _ :: _, _ :: _, 0, ⟨_, _, _, d⟩ => d
  | _ :: _, _ :: _, i + 1, ⟨a, b, c, d⟩ => ⟨a, b, c, d.erase i⟩
  | [], _ :: _, _, k => k.elim
  | _ :: _, [], _, k => k.elim

/-! ### make -/
def evMakeMap (S : St) : SV × St := (.map S.next, { S with heap := (S.next, .map [] 0) :: S.heap, next := S.next + 1 })

theorem evMakeMap_ok (hr : Rel B G w0 E S w) {t : TypeId} {r : Option Value} (hrv : r = none) : Does B G w0 P E (evMakeMap S).1 (evMakeMap S).2 (Instr.makeMap t r) w := by
  subst hrv
  obtain ⟨h1, h2⟩ := hr.pushed (o := .map [] 0) (x := .map #[] 0) (w' := { w with heap := w.heap.push (.map #[] 0) }) rfl rfl rfl rfl ⟨[], rfl, trivial⟩
  refine ⟨_, .map (some w.heap.size), _, h1, h2, ?_, ?_⟩
  · simp only [evMakeMap, SV.den, Env.place_self]
  · simp [Instr.makeMap]

/-! ### look up -/
def mapOf (S : St) : SV → Option (List (SV × SV × Nat))
  | .map id => match find id S.heap with
    | some (.map es _) => some es
    | _ => none
  | .val (.map none) => some []
  | _ => none

theorem mapOf_ok (hr : Rel B G w0 E S w) {x : SV} {es : List (SV × SV × Nat)} {vx : Value} (h : mapOf S x = some es) (hx : x.den E = some vx) :
    (vx = .map none ∧ es = []) ∨ (∃ id b clock l, x = .map id ∧ find id S.heap = some (.map es clock) ∧ E.ρ id = some b ∧ vx = .map (some b) ∧ w.heap[b]? = some (.map (l : List MapEntry).toArray clock) ∧ MRel E es l) := by
  unfold mapOf at h
  split at h
  · rename_i id
    split at h
    · rename_i es' clock hf
      simp only [Option.some.injEq] at h; subst h
      obtain ⟨b, hb, rfl⟩ := map_den hx
      obtain ⟨l, h1, h2⟩ := map_at hr hf hb
      exact .inr ⟨id, b, clock, l, rfl, hf, hb, rfl, h1, h2⟩
    · cases h
  · simp only [Option.some.injEq] at h; subst h
    simp only [SV.den, Option.some.injEq] at hx; subst hx
    exact .inl ⟨rfl, rfl⟩
  · cases h

def evLookupM (P : Program) (S : St) (t : TypeId) (x k : SV) (ok : Bool) : Option SV :=
  match P.underlying t, mapOf S x, k.conc with
  | some (.map kt et), some es, some kv => match keysOf es, (P.info? et).bind (·.zero), pureRun P (Instr.checkKey es.isEmpty 10000 kt kv) with
    | some ks, some z, some _ => match findS P kt kv ks with
      | some none => some (match ok with | true => .tuple [.val z, .val (.bool false)] | false => .val z)
      | some (some i) => match es[i]? with
        | some e => some (match ok with | true => .tuple [e.2.1, .val (.bool true)] | false => e.2.1)
        | none => none
      | none => none
    | _, _, _ => none
  | _, _, _ => none

theorem tuple2_den {a b : SV} {va vb : Value} (ha : a.den E = some va) (hb : b.den E = some vb) : (SV.tuple [a, b]).den E = some (.tuple #[va, vb]) := by
  simp only [SV.den, denL_mk ha (denL_mk hb (r := []) rfl)]

theorem evLookupM_ok (hr : Rel B G w0 E S w) {t : TypeId} {x k sv : SV} {ok : Bool} {vx vk : Value} (h : evLookupM P S t x k ok = some sv) (hx : x.den E = some vx) (hk : k.den E = some vk) :
    Does B G w0 P E sv S (Instr.lookup t vx vk ok) w := by
  unfold evLookupM at h
  split at h
  case h_2 => cases h
  rename_i kt et es kv hu hm hkc
  rw [conc_den (E := E) _ _ hkc] at hk
  simp only [Option.some.injEq] at hk; subst hk
  split at h
  case h_2 => cases h
  rename_i ks z u hks hz hck
  obtain ⟨l, hl, hes⟩ : ∃ l : List MapEntry, MRel E es l ∧ ((vx = .map none ∧ l = []) ∨ (∃ b clock, vx = .map (some b) ∧ w.heap[b]? = some (.map l.toArray clock))) := by
    rcases mapOf_ok hr hm hx with ⟨rfl, rfl⟩ | ⟨id, b, clock, l, _, _, _, rfl, h1, h2⟩
    · exact ⟨[], trivial, .inl ⟨rfl, rfl⟩⟩
    · exact ⟨l, h2, .inr ⟨b, clock, rfl, h1⟩⟩
  have hlen := hl.length
  have hemp : l.toArray.isEmpty = es.isEmpty := by cases es <;> cases l <;> first | rfl | (simp at hlen)
  have hckr := pureRun_run hck w
  have hres : ∀ (r : Option Nat), findS P kt kv ks = some r → ∀ (v : Value) (b : Bool), (r = none → v = z ∧ b = false) → (∀ i, r = some i → ∃ m, l[i]? = some m ∧ v = m.val ∧ b = true) →
      (Instr.lookup t vx kv ok).run P w = .ok (if ok then .tuple #[v, .bool b] else v) w := fun r hf v b h0 h1 => by
    obtain ⟨f0, f1⟩ := findS_ok (P := P) hf (keysOf_ok hks hl)
    have tail : ((do
        Instr.checkKey l.toArray.isEmpty 10000 kt kv
        let (v, ok') ← match ← Instr.findKey kt kv l with
          | some (_, v) => pure (v, true)
          | none => pure (← zeroValue et, false)
        pure (if ok then .tuple #[v, .bool ok'] else v)) : Sem Value).run P w = .ok (if ok then .tuple #[v, .bool b] else v) w := by
      simp only [Sem.run_bind, hemp, hckr, Result.andThen_ok]
      cases r with
      | none =>
        obtain ⟨rfl, rfl⟩ := h0 rfl
        simp [f0 rfl, run_zero' hz]
      | some i =>
        obtain ⟨m, k1, k2⟩ := f1 i rfl
        obtain ⟨m', k1', rfl, rfl⟩ := h1 i rfl
        rw [k1] at k1'; cases k1'
        simp [k2]
    unfold Instr.lookup
    simp only [Sem.run_bind, run_underlying hu, Result.andThen_ok]
    rcases hes with ⟨e1, rfl⟩ | ⟨b', c', e1, e2⟩
    · subst e1
      simp only [Sem.run_bind, Sem.run_pure, Result.andThen_ok] at tail ⊢
      exact tail
    · subst e1
      simp only [Sem.run_bind, run_getObj_map e2, Sem.run_pure, Result.andThen_ok] at tail ⊢
      exact tail
  split at h
  · rename_i hf
    have hrun := hres none hf z false (fun _ => ⟨rfl, rfl⟩) (fun i e => by cases e)
    simp only [Option.some.injEq] at h; subst h
    cases ok with
    | true => exact .here hr (tuple2_den (va := z) (vb := .bool false) (by simp only [SV.den]) (by simp only [SV.den])) (by simpa using hrun)
    | false => exact .here hr (v := z) (by simp only [SV.den]) (by simpa using hrun)
  · rename_i i hf
    split at h
    · rename_i e he
      obtain ⟨f0, f1⟩ := findS_ok (P := P) hf (keysOf_ok hks hl)
      obtain ⟨m, k1, k2⟩ := f1 i rfl
      obtain ⟨x', g1, g2, g3, g4⟩ := hl.get k1
      rw [he] at g1; cases g1
      have hrun := hres (some i) hf m.val true (fun e => by cases e) (fun j e => by cases e; exact ⟨m, k1, rfl, rfl⟩)
      simp only [Option.some.injEq] at h; subst h
      cases ok with
      | true => exact .here hr (tuple2_den (vb := .bool true) g3 (by simp only [SV.den])) (by simpa using hrun)
      | false => exact .here hr g3 (by simpa using hrun)
    · cases h
  · cases h


/-! ### look up in a map whose entries lie in an unknown order -/
theorem pureRun_mk {α β : Type} : ∀ {x : Sem α} {f : α → Sem β} {a : α} {b : β}, pureRun P x = some a → pureRun P (f a) = some b → pureRun P (x.bind f) = some b
  | .pure u, f, a, b, h, k => by simp only [pureRun, Option.some.injEq] at h; subst h; exact k
  | .program g, f, a, b, h, k => by simp only [pureRun] at h; simp only [Sem.bind, pureRun]; exact pureRun_mk (x := g P) h k
  | .mark m g, f, a, b, h, k => by simp only [pureRun] at h; simp only [Sem.bind, pureRun]; exact pureRun_mk (x := g) h k
  | .load .., f, a, b, h, k | .store .., f, a, b, h, k | .new .., f, a, b, h, k | .shape .., f, a, b, h, k | .freeze .., f, a, b, h, k | .frozen .., f, a, b, h, k | .getObj .., f, a, b, h, k | .setObj .., f, a, b, h, k
  | .choose .., f, a, b, h, k | .sys .., f, a, b, h, k | .halt .., f, a, b, h, k => by simp [pureRun] at h

theorem pureRun_mk' {α β : Type} {x : Sem α} {f : α → Sem β} {a : α} {b : β} (h : pureRun P x = some a) (k : pureRun P (f a) = some b) : pureRun P (x >>= f) = some b := pureRun_mk h k

theorem pureRun_underlying {t : TypeId} {d : TypeDesc} (h : P.underlying t = some d) : pureRun P (underlying t) = some d := by
  unfold underlying
  refine pureRun_mk' (a := P) rfl ?_
  simp only [h]
  rfl

theorem bytes_beq {a b : ByteArray} (h : (a == b) = true) : a = b := by
  cases a; cases b
  simp only [ByteArray.mk.injEq]
  exact eq_of_beq (α := Array UInt8) h

theorem checkKey_str {kt : TypeId} (hk : P.underlying kt = some .string) (e : Bool) (s : ByteArray) : pureRun P (Instr.checkKey e 10000 kt (.string s)) = some () := by
  unfold Instr.checkKey
  exact pureRun_mk' (pureRun_underlying hk) rfl

def missS (z : Value) (ok : Bool) : SV := match ok with
  | true => .tuple [.val z, .val (.bool false)]
  | false => .val z

/-- Each key that is a text. -/
def bytesKeys : List Value → Option (List ByteArray)
  | [] => some []
  | .string b :: r => match bytesKeys r with
    | some l => some (b :: l)
    | none => none
  | _ :: _ => none

theorem bytesKeys_mem : ∀ {ks : List Value} {bs : List ByteArray}, bytesKeys ks = some bs → ∀ k ∈ ks, ∃ b ∈ bs, k = .string b
  | [], _, _, k, hk => by cases hk
  | .string b :: r, bs, h, k, hk => by
    simp only [bytesKeys] at h
    split at h
    · rename_i l hl
      simp only [Option.some.injEq] at h; subst h
      cases hk with
      | head => exact ⟨b, List.mem_cons_self, rfl⟩
      | tail _ hk => obtain ⟨c, h1, h2⟩ := bytesKeys_mem hl k hk; exact ⟨c, List.mem_cons_of_mem _ h1, h2⟩
    · cases h
  | .bool _ :: _, _, h, _, _ | .int _ _ :: _, _, h, _, _ | .float _ _ :: _, _, h, _, _ | .complex _ _ _ :: _, _, h, _, _ | .pointer _ :: _, _, h, _, _ | .slice _ _ _ :: _, _, h, _, _ | .map _ :: _, _, h, _, _
  | .chan _ :: _, _, h, _, _ | .func _ _ _ :: _, _, h, _, _ | .nilFunc :: _, _, h, _, _ | .iface _ _ :: _, _, h, _, _ | .nilIface :: _, _, h, _, _ | .agg _ :: _, _, h, _, _ | .tuple _ :: _, _, h, _, _ => by cases h

def bagOf (S : St) : SV → Option (List (SV × SV × Nat))
  | .map id => match find id S.heap with
    | some (.bag es) => some es
    | _ => none
  | _ => none

theorem bagOf_ok (hr : Rel B G w0 E S w) {x : SV} {es : List (SV × SV × Nat)} {vx : Value} (h : bagOf S x = some es) (hx : x.den E = some vx) :
    ∃ (b clock : Nat) (l : List MapEntry), vx = .map (some b) ∧ w.heap[b]? = some (.map l.toArray clock) ∧ BRel E es l clock := by
  unfold bagOf at h
  split at h
  · rename_i id
    split at h
    · rename_i es' hf
      simp only [Option.some.injEq] at h; subst h
      obtain ⟨b, hb, rfl⟩ := map_den hx
      obtain ⟨b', x, h1, h2, l, clock, rfl, h3⟩ := hr.heap id _ hf
      rw [hb] at h1; cases h1
      exact ⟨b, clock, l, rfl, h2, h3⟩
    · cases h
  · cases h

/-- The entry at a text. -/
def pickB (s : ByteArray) : List (SV × SV × Nat) → List ByteArray → Option (Option SV)
  | [], [] => some none
  | e :: es, b :: bs => bif s.data.toList == b.data.toList then some (some e.2.1) else pickB s es bs
  | _, _ => none

theorem pickB_ok {E : Env} {s : ByteArray} : ∀ {es : List (SV × SV × Nat)} {ks : List Value} {bs : List ByteArray} {r : Option SV}, keysOf es = some ks → bytesKeys ks = some bs → pickB s es bs = some r →
    (∀ e ∈ es, ∃ b, e.1.den E = some (.string b)) ∧ (r = none → ∀ e ∈ es, e.1.den E ≠ some (.string s)) ∧ ∀ y, r = some y → ∃ e ∈ es, e.1.den E = some (.string s) ∧ e.2.1 = y
  | [], ks, bs, r, h1, h2, h3 => by
    simp only [keysOf, Option.some.injEq] at h1; subst h1
    simp only [bytesKeys, Option.some.injEq] at h2; subst h2
    simp only [pickB, Option.some.injEq] at h3; subst h3
    exact ⟨fun e he => (by cases he), fun _ e he => (by cases he), fun y hy => by cases hy⟩
  | x :: es, ks, bs, r, h1, h2, h3 => by
    simp only [keysOf] at h1
    split at h1
    · rename_i k l hk hl
      simp only [Option.some.injEq] at h1; subst h1
      obtain ⟨b0, _, rfl⟩ := bytesKeys_mem h2 k List.mem_cons_self
      simp only [bytesKeys] at h2
      split at h2
      · rename_i bs' hbs
        simp only [Option.some.injEq] at h2; subst h2
        have hx := conc_den (E := E) _ _ hk
        simp only [pickB] at h3
        cases e : s.data.toList == b0.data.toList with
        | true =>
          rw [e] at h3
          simp only [cond_true, Option.some.injEq] at h3; subst h3
          have hs : s = b0 := by
            simp only [beq_iff_eq] at e
            cases s; cases b0; simp only [ByteArray.mk.injEq]; exact Array.ext' e
          subst hs
          obtain ⟨hall⟩ : Nonempty (∀ e ∈ es, ∃ b, e.1.den E = some (.string b)) := ⟨fun e he => by
            obtain ⟨k', hk', hd⟩ := keysOf_mem hl e he
            obtain ⟨b, _, rfl⟩ := bytesKeys_mem hbs k' hk'
            exact ⟨b, hd⟩⟩
          refine ⟨fun e he => ?_, fun q => (by cases q), fun y hy => ⟨x, List.mem_cons_self, hx, by simpa using hy⟩⟩
          cases he with
          | head => exact ⟨_, hx⟩
          | tail _ he => exact hall e he
        | false =>
          rw [e] at h3
          simp only [cond_false] at h3
          obtain ⟨i1, i2, i3⟩ := pickB_ok hl hbs h3
          refine ⟨fun z hz => ?_, fun q z hz => ?_, fun y hy => ?_⟩
          · cases hz with
            | head => exact ⟨_, hx⟩
            | tail _ hz => exact i1 z hz
          · cases hz with
            | head =>
              rw [hx]
              intro q
              simp only [Option.some.injEq, Value.string.injEq] at q
              rw [q] at e; simp at e
            | tail _ hz => exact i2 q z hz
          · obtain ⟨z, hz, k1, k2⟩ := i3 y hy
            exact ⟨z, List.mem_cons_of_mem _ hz, k1, k2⟩
      · cases h2
    · cases h1

theorem findNow_str {s : ByteArray} : ∀ (l : List MapEntry) (i : Nat), (∀ m ∈ l, ∃ b, m.key = .string b) →
    ((∀ m ∈ l, m.key ≠ .string s) → Instr.findNow .string (.string s) l i = some none) ∧
    (∀ m ∈ l, m.key = .string s → (l.map (·.key)).Nodup → ∃ j, Instr.findNow .string (.string s) l i = some (some (j, m.val)))
  | [], i, _ => ⟨fun _ => rfl, fun m hm => by cases hm⟩
  | x :: r, i, h => by
    obtain ⟨b, hb⟩ := h x List.mem_cons_self
    obtain ⟨h1, h2⟩ := findNow_str (s := s) r (i + 1) fun m hm => h m (List.mem_cons_of_mem _ hm)
    have key : Instr.sameNow .string (.string s) x.key = some (s == b) := by rw [hb]; rfl
    refine ⟨fun q => ?_, fun m hm hms hn => ?_⟩
    · have : (s == b) = false := by
        rw [← Bool.not_eq_true]
        intro e
        exact q x List.mem_cons_self (by rw [hb, bytes_beq e])
      simp only [Instr.findNow, key, this]
      exact h1 fun m hm => q m (List.mem_cons_of_mem _ hm)
    · simp only [Instr.findNow, key]
      cases e : (s == b) with
      | true =>
        have hsb := bytes_beq e
        subst hsb
        simp only [List.map_cons, List.nodup_cons] at hn
        cases hm with
        | head => exact ⟨i, rfl⟩
        | tail _ hm => exact (hn.1 (by rw [hb, ← hms]; exact List.mem_map.2 ⟨m, hm, rfl⟩)).elim
      | false =>
        simp only [List.map_cons, List.nodup_cons] at hn
        cases hm with
        | head =>
          rw [hb] at hms
          simp only [Value.string.injEq] at hms
          rw [hms] at e
          have : (s == s) = true := by
            show (s.data == s.data) = true
            simp
          rw [this] at e; cases e
        | tail _ hm => exact h2 m hm hms hn.2

def evLookupB (P : Program) (S : St) (t : TypeId) (x k : SV) (ok : Bool) : Option SV :=
  match P.underlying t, bagOf S x, k.conc with
  | some (.map kt et), some es, some (.string s) => match P.underlying kt, keysOf es, (P.info? et).bind (·.zero) with
    | some .string, some ks, some z => match bytesKeys ks with
      | some bs => match pickB s es bs with
        | some none => some (missS z ok)
        | some (some y) => some (match ok with | true => .tuple [y, .val (.bool true)] | false => y)
        | none => none
      | none => none
    | _, _, _ => none
  | _, _, _ => none

theorem evLookupB_ok (hr : Rel B G w0 E S w) {t : TypeId} {x k sv : SV} {ok : Bool} {vx vk : Value} (h : evLookupB P S t x k ok = some sv) (hx : x.den E = some vx) (hk : k.den E = some vk) :
    Does B G w0 P E sv S (Instr.lookup t vx vk ok) w := by
  unfold evLookupB at h
  split at h
  case h_2 => cases h
  rename_i kt et es s hu hm hkc
  rw [conc_den (E := E) _ _ hkc] at hk
  simp only [Option.some.injEq] at hk; subst hk
  split at h
  case h_2 => cases h
  rename_i ks z hkt hks hz
  split at h
  case h_2 => cases h
  rename_i bs hbs
  obtain ⟨b, clock, l, rfl, hb, n1, n2, n3, n4, n5⟩ := bagOf_ok hr hm hx
  have go : ∀ r, pickB s es bs = some r → ∀ (v : Value) (q : Bool), (r = none → v = z ∧ q = false) → (∀ y, r = some y → y.den E = some v ∧ q = true) →
      (Instr.lookup t (.map (some b)) (.string s) ok).run P w = .ok (if ok then .tuple #[v, .bool q] else v) w := fun r hp v q c1 c2 => by
    obtain ⟨p1, p2, p3⟩ := pickB_ok (E := E) hks hbs hp
    have hstr : ∀ m ∈ l, ∃ b, m.key = .string b := fun m hm => by
      obtain ⟨e, he, e1, _⟩ := n4 m hm
      obtain ⟨b, hb⟩ := p1 e he
      rw [hb] at e1
      simp only [Option.some.injEq] at e1
      exact ⟨b, e1.symm⟩
    obtain ⟨f1, f2⟩ := findNow_str (s := s) l 0 hstr
    have hckr := pureRun_run (checkKey_str (P := P) hkt l.toArray.isEmpty s) w
    unfold Instr.lookup
    simp only [Sem.run_bind, run_underlying hu, Result.andThen_ok, run_getObj_map hb, Sem.run_pure, hckr]
    cases r with
    | none =>
      obtain ⟨rfl, rfl⟩ := c1 rfl
      have : (Instr.findKey kt (.string s) l).run P w = .ok none w := by
        unfold Instr.findKey
        simp only [Sem.run_bind, run_underlying hkt, Result.andThen_ok]
        rw [f1 fun m hm e => by
          obtain ⟨x, hx, e1, _⟩ := n4 m hm
          exact p2 rfl x hx (by rw [e1, e])]
        rfl
      simp [this, run_zero' hz]
    | some y =>
      obtain ⟨c3, rfl⟩ := c2 y rfl
      obtain ⟨e, he, e1, rfl⟩ := p3 y rfl
      obtain ⟨m, hm, m1, m2⟩ := n5 e he
      rw [e1] at m1; rw [c3] at m2
      simp only [Option.some.injEq] at m1 m2
      obtain ⟨j, hj⟩ := f2 m hm m1.symm n1
      have : (Instr.findKey kt (.string s) l).run P w = .ok (some (j, m.val)) w := by
        unfold Instr.findKey
        simp only [Sem.run_bind, run_underlying hkt, Result.andThen_ok]
        rw [hj]
        rfl
      simp [this, m2]
  split at h
  · rename_i hp
    have hrun := go none hp z false (fun _ => ⟨rfl, rfl⟩) (fun y e => by cases e)
    simp only [Option.some.injEq] at h; subst h
    unfold missS
    cases ok with
    | true => exact .here hr (tuple2_den (va := z) (vb := .bool false) (by simp only [SV.den]) (by simp only [SV.den])) (by simpa using hrun)
    | false => exact .here hr (v := z) (by simp only [SV.den]) (by simpa using hrun)
  · rename_i y hp
    obtain ⟨p1, p2, p3⟩ := pickB_ok (E := E) hks hbs hp
    obtain ⟨e, he, e1, e2⟩ := p3 y rfl
    obtain ⟨m, hm, m1, m2⟩ := n5 e he
    rw [e2] at m2
    have hrun := go (some y) hp m.val true (fun e => by cases e) (fun y' e => by cases e; exact ⟨m2, rfl⟩)
    simp only [Option.some.injEq] at h; subst h
    cases ok with
    | true => exact .here hr (tuple2_den (vb := .bool true) m2 (by simp only [SV.den])) (by simpa using hrun)
    | false => exact .here hr m2 (by simpa using hrun)
  · cases h

def evLookup (P : Program) (S : St) (t : TypeId) (x k : SV) (ok : Bool) : Option SV :=
  match evLookupM P S t x k ok with
  | some r => some r
  | none => evLookupB P S t x k ok

theorem evLookup_ok (hr : Rel B G w0 E S w) {t : TypeId} {x k sv : SV} {ok : Bool} {vx vk : Value} (h : evLookup P S t x k ok = some sv) (hx : x.den E = some vx) (hk : k.den E = some vk) :
    Does B G w0 P E sv S (Instr.lookup t vx vk ok) w := by
  unfold evLookup at h
  split at h
  · rename_i r hm
    simp only [Option.some.injEq] at h; subst h
    exact evLookupM_ok hr hm hx hk
  · exact evLookupB_ok hr h hx hk

/-! ### write, delete -/
theorem run_setObj_map {b : Nat} {l : Array MapEntry} {c : Nat} (o : Obj) (h : w.heap[b]? = some (.map l c)) : (setObj b o).run P w = .ok () { w with heap := w.heap.setIfInBounds b o } := by
  simp only [setObj, Sem.run, h]

theorem Rel.wroteObj (h : Rel B G w0 E S w) {id b : Nat} {o o' : SObj} {x' : Obj} (hf : find id S.heap = some o) (hb : E.ρ id = some b) (hG : G ≤ id) (ho' : ORel E o' x') :
    Rel B G w0 E { S with heap := upd id o' S.heap } { w with heap := w.heap.setIfInBounds b x' } := by
  have hd := h.dom id b hb
  refine h.wrote hf hb hG (by simp) (fun k hk => ?_) (by simp [hd]) ho' rfl rfl rfl
  simp [Ne.symm hk]

def evMapUpdate (P : Program) (G : Nat) (S : St) (t : TypeId) (x k v : SV) : Option St :=
  match P.underlying t, x, k.conc with
  | some (.map kt _), .map id, some kv => match find id S.heap with
    | some (.map es clock) => match keysOf es, pureRun P (Instr.checkKey false 10000 kt kv) with
      | some ks, some _ => match findS P kt kv ks with
        | some none => bif Nat.ble G id then some { S with heap := upd id (.map (es ++ [(.val kv, v, clock)]) (clock + 1)) S.heap } else none
        | some (some i) => match es[i]?, ks[i]? with
          | some e, some old => match pureRun P (Instr.keyThatStays old kv) with
            | some kept => bif Nat.ble G id then some { S with heap := upd id (.map (es.set i (.val kept, v, e.2.2)) clock) S.heap } else none
            | none => none
          | _, _ => none
        | none => none
      | _, _ => none
    | _ => none
  | _, _, _ => none

theorem evMapUpdate_ok (hr : Rel B G w0 E S w) {t : TypeId} {x k v : SV} {S' : St} {vx vk vv : Value} (h : evMapUpdate P G S t x k v = some S') (hx : x.den E = some vx) (hk : k.den E = some vk) (hv : v.den E = some vv) :
    ∃ w', (Instr.mapUpdate t vx vk vv).run P w = .ok () w' ∧ Rel B G w0 E S' w' := by
  unfold evMapUpdate at h
  split at h
  case h_2 => cases h
  rename_i kt et id kv hu hkc
  rw [conc_den (E := E) _ _ hkc] at hk
  simp only [Option.some.injEq] at hk; subst hk
  split at h
  case h_2 => cases h
  rename_i es clock hf
  obtain ⟨b, hb, rfl⟩ := map_den hx
  obtain ⟨l, h1, hl⟩ := map_at hr hf hb
  split at h
  case h_2 => cases h
  rename_i ks u hks hck
  have hckr := pureRun_run hck w
  have hkeys := keysOf_ok hks hl
  split at h
  · rename_i hfs
    obtain ⟨f0, -⟩ := findS_ok (P := P) hfs hkeys
    cases hG : Nat.ble G id with
    | false => rw [hG] at h; cases h
    | true =>
      rw [hG] at h
      simp only [cond_true, Option.some.injEq] at h; subst h
      refine ⟨_, ?_, hr.wroteObj hf hb (Nat.le_of_ble_eq_true hG) (x' := .map (l.toArray.push { key := kv, val := vv, born := clock }) (clock + 1)) ⟨l ++ [{ key := kv, val := vv, born := clock }], by simp, hl.push (by simp only [SV.den]) hv rfl⟩⟩
      simp only [Instr.mapUpdate, Sem.run_bind, run_underlying hu, Result.andThen_ok, run_getObj_map h1, hckr, f0 rfl]
      exact run_setObj_map _ h1
  · rename_i i hfs
    obtain ⟨-, f1⟩ := findS_ok (P := P) hfs hkeys
    obtain ⟨m, k1, k2⟩ := f1 i rfl
    split at h
    · rename_i e old he hold
      split at h
      · rename_i kept hkept
        cases hG : Nat.ble G id with
        | false => rw [hG] at h; cases h
        | true =>
          rw [hG] at h
          simp only [cond_true, Option.some.injEq] at h; subst h
          obtain ⟨x', g1, g2, g3, g4⟩ := hl.get k1
          rw [he] at g1; cases g1
          have hold' : m.key = old := by
            rw [← hkeys] at hold
            simp [k1] at hold
            exact hold
          have hrel : MRel E (es.set i (.val kept, v, e.2.2)) (l.set i { m with key := kept, val := vv }) := hl.set i (by simp only [SV.den]) hv g4
          refine ⟨_, ?_, hr.wroteObj hf hb (Nat.le_of_ble_eq_true hG) (x' := .map (l.toArray.modify i fun e => { e with key := kept, val := vv }) clock) ⟨_, ?_, hrel⟩⟩
          · simp only [Instr.mapUpdate, Sem.run_bind, run_underlying hu, Result.andThen_ok, run_getObj_map h1, hckr, k2]
            have hkk : ((l.toArray[i]?).map (·.key)).getD kv = old := by simp [k1, hold']
            rw [hkk, pureRun_run hkept]
            simp only [Result.andThen_ok]
            exact run_setObj_map _ h1
          · congr 1
            apply Array.ext'
            apply List.ext_getElem?
            intro j
            simp only [Array.getElem?_toList, Array.getElem?_modify, List.getElem?_toArray, List.getElem?_set]
            by_cases hij : i = j
            · subst hij
              obtain ⟨hlt, hli⟩ := List.getElem?_eq_some_iff.1 k1
              simp [hlt, hli]
            · simp [hij]
      · cases h
    · cases h
  · cases h

def evDelete (P : Program) (G : Nat) (S : St) (t : TypeId) (x k : SV) : Option St :=
  match P.underlying t, x, k.conc with
  | some (.map kt _), .map id, some kv => match find id S.heap with
    | some (.map es clock) => match keysOf es, pureRun P (Instr.checkKey es.isEmpty 10000 kt kv) with
      | some ks, some _ => match findS P kt kv ks with
        | some none => bif Nat.ble G id then some { S with heap := upd id (.map es clock) S.heap } else none
        | some (some i) => bif Nat.ble G id then some { S with heap := upd id (.map (es.eraseIdx i) clock) S.heap } else none
        | none => none
      | _, _ => none
    | _ => none
  | some (.map kt _), .val (.map none), some kv => match pureRun P (Instr.checkKey true 10000 kt kv) with
    | some _ => some S
    | none => none
  | _, _, _ => none

theorem evDelete_ok (hr : Rel B G w0 E S w) {t ty xt : TypeId} {x k : SV} {S' : St} {vx vk : Value} (h : evDelete P G S t x k = some S') (hx : x.den E = some vx) (hk : k.den E = some vk) :
    ∃ w', (Builtin.delete_ #[t, xt] ty #[vx, vk]).run P w = .ok (.tuple #[]) w' ∧ Rel B G w0 E S' w' := by
  unfold evDelete at h
  split at h
  · rename_i kt et id kv hu hkc
    rw [conc_den (E := E) _ _ hkc] at hk
    simp only [Option.some.injEq] at hk; subst hk
    split at h
    case h_2 => cases h
    rename_i es clock hf
    obtain ⟨b, hb, rfl⟩ := map_den hx
    obtain ⟨l, h1, hl⟩ := map_at hr hf hb
    split at h
    case h_2 => cases h
    rename_i ks u hks hck
    have hckr := pureRun_run hck w
    have hkeys := keysOf_ok hks hl
    have hlen := hl.length
    have hemp : l.isEmpty = es.isEmpty := by cases es <;> cases l <;> first | rfl | (simp at hlen)
    split at h
    · rename_i hfs
      obtain ⟨f0, -⟩ := findS_ok (P := P) hfs hkeys
      cases hG : Nat.ble G id with
      | false => rw [hG] at h; cases h
      | true =>
        rw [hG] at h
        simp only [cond_true, Option.some.injEq] at h; subst h
        refine ⟨_, ?_, hr.wroteObj hf hb (Nat.le_of_ble_eq_true hG) (x' := .map l.toArray clock) ⟨l, rfl, hl⟩⟩
        simp only [Builtin.delete_, List.getElem?_toArray, List.getElem?_cons_zero, List.getElem?_cons_succ, Sem.run_bind, run_underlying hu, Result.andThen_ok, run_getObj_map h1, List.isEmpty_toArray, hemp, hckr, f0 rfl, run_setObj_map _ h1, Sem.run_pure]
    · rename_i i hfs
      obtain ⟨-, f1⟩ := findS_ok (P := P) hfs hkeys
      obtain ⟨m, k1, k2⟩ := f1 i rfl
      cases hG : Nat.ble G id with
      | false => rw [hG] at h; cases h
      | true =>
        rw [hG] at h
        simp only [cond_true, Option.some.injEq] at h; subst h
        refine ⟨_, ?_, hr.wroteObj hf hb (Nat.le_of_ble_eq_true hG) (x' := .map (l.toArray.eraseIdxIfInBounds i) clock) ⟨l.eraseIdx i, ?_, hl.erase i⟩⟩
        · simp only [Builtin.delete_, List.getElem?_toArray, List.getElem?_cons_zero, List.getElem?_cons_succ, Sem.run_bind, run_underlying hu, Result.andThen_ok, run_getObj_map h1, List.isEmpty_toArray, hemp, hckr, k2, run_setObj_map _ h1, Sem.run_pure]
        · simp
    · cases h
  · rename_i kt et kv hu hkc
    rw [conc_den (E := E) _ _ hkc] at hk
    simp only [Option.some.injEq] at hk; subst hk
    split at h
    · rename_i u hck
      simp only [Option.some.injEq] at h; subst h
      simp only [SV.den, Option.some.injEq] at hx; subst hx
      refine ⟨w, ?_, hr⟩
      simp only [Builtin.delete_, List.getElem?_toArray, List.getElem?_cons_zero, List.getElem?_cons_succ, Sem.run_bind, run_underlying hu, Result.andThen_ok, pureRun_run hck, Sem.run_pure]
    · cases h
  · cases h
end
end Go.Ev
