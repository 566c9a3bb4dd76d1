/- Maps: made, looked up, written, deleted from, ranged over; strings ranged over. -/
import Derived.Test.YtlinfpchnonbpaaGreatDoorEvMore
namespace Go.Ev
open Go.RowKit (Below)
section
variable {B G : Nat} {w0 : Start} {E : Env} {S : St} {w : World} {P : Program}
def bare (k : Value) : MapEntry := { key := k, val := undef, born := 0 }
theorem bare_key (k : Value) : (bare k).key = k := rfl
def keysOf : List (SV × SV × Nat) → Option (List Value)
  | [] => some []
  | x :: r => match x.1.conc, keysOf r with
    | some k, some l => some (k :: l)
    | _, _ => none
theorem keysOf_ok : ∀ {es : List (SV × SV × Nat)} {ks : List Value} {l : List MapEntry}, keysOf es = some ks → MRel E es l → l.map (·.key) = ks
  | [], ks, [], h, _ => by simp only [keysOf, Option.some.injEq] at h; subst h; rfl
  | x :: r, ks, m :: ms, h, ⟨a, _, _, d⟩ => by
    simp only [keysOf] at h
    split at h
    · rename_i k l hk hl
      simp only [Option.some.injEq] at h; subst h
      rw [conc_den (E := E) _ _ hk] at a
      simp only [Option.some.injEq] at a
      simp [keysOf_ok hl d, a]
    · cases h
  | [], _, _ :: _, _, k => k.elim
  | _ :: _, _, [], _, k => k.elim
theorem keysOf_mem : ∀ {es : List (SV × SV × Nat)} {ks : List Value}, keysOf es = some ks → ∀ e ∈ es, ∃ k ∈ ks, e.1.den E = some k
  | [], _, _, e, he => by cases he
  | x :: r, ks, h, e, he => by
    simp only [keysOf] at h
    split at h
    · rename_i k l hk hl
      simp only [Option.some.injEq] at h; subst h
      cases he with
      | head => exact ⟨k, List.mem_cons_self, conc_den (E := E) _ _ hk⟩
      | tail _ he => obtain ⟨k', h1, h2⟩ := keysOf_mem hl e he; exact ⟨k', List.mem_cons_of_mem _ h1, h2⟩
    · cases h
theorem findNow_keys (kind : TypeDesc) (k : Value) : ∀ (l : List MapEntry) (i : Nat),
    match Instr.findNow kind k ((l.map (·.key)).map bare) i with
    | none => Instr.findNow kind k l i = none
    | some none => Instr.findNow kind k l i = some none
    | some (some (j, _)) => ∃ m, i ≤ j ∧ l[j - i]? = some m ∧ Instr.findNow kind k l i = some (some (j, m.val))
  | [], i => by simp [Instr.findNow]
  | m :: r, i => by
    simp only [List.map_cons, Instr.findNow, bare_key]
    cases h : Instr.sameNow kind k m.key with
    | none => simp
    | some b =>
      cases b with
      | true => exact ⟨m, Nat.le_refl _, by simp, by simp⟩
      | false =>
        simp only
        have ih := findNow_keys kind k r (i + 1)
        split at ih
        · exact ih
        · exact ih
        · rename_i j v e
          obtain ⟨x, h1, h2, h3⟩ := ih
          refine ⟨x, by omega, ?_, h3⟩
          rw [show j - i = (j - (i + 1)) + 1 by omega]
          simpa using h2
theorem pureRun_bind {α β : Type} {x : Sem α} {f : α → Sem β} {b : β} (h : pureRun P (x.bind f) = some b) : ∃ a, pureRun P x = some a ∧ pureRun P (f a) = some b := by
  induction x with
  | pure a => exact ⟨a, rfl, h⟩
  | program k ih => simp only [Sem.bind, pureRun] at h ⊢; exact ih P h
  | mark m k ih => simp only [Sem.bind, pureRun] at h ⊢; exact ih h
  | _ => simp [Sem.bind, pureRun] at h
theorem pureRun_bind' {α β : Type} {x : Sem α} {f : α → Sem β} {b : β} (h : pureRun P (x >>= f) = some b) : ∃ a, pureRun P x = some a ∧ pureRun P (f a) = some b := pureRun_bind h
theorem findAsking_keys (kt : TypeId) (k : Value) : ∀ (l : List MapEntry) (i : Nat) (r : Option (Nat × Value)),
    pureRun P (Instr.findAsking kt k ((l.map (·.key)).map bare) i) = some r →
    (r = none → ∀ w : World, (Instr.findAsking kt k l i).run P w = .ok none w) ∧
    (∀ j v, r = some (j, v) → ∃ m, i ≤ j ∧ l[j - i]? = some m ∧ ∀ w : World, (Instr.findAsking kt k l i).run P w = .ok (some (j, m.val)) w)
  | [], i, r, h => by
    simp only [List.map_nil, Instr.findAsking] at h ⊢
    have : r = none := by simpa [pureRun, Pure.pure] using h.symm
    subst this
    exact ⟨fun _ w => rfl, fun j v e => by cases e⟩
  | m :: rest, i, r, h => by
    simp only [List.map_cons, Instr.findAsking, bare] at h ⊢
    obtain ⟨b, hb, h⟩ := pureRun_bind' h
    cases b with
    | true =>
      simp only [if_true] at h
      have : r = some (i, undef) := by simpa [pureRun, Pure.pure] using h.symm
      subst this
      refine ⟨fun e => (by cases e), fun j v e => ?_⟩
      cases e
      exact ⟨m, Nat.le_refl _, by simp, fun w => by simp [pureRun_run hb]⟩
    | false =>
      simp only [Bool.false_eq_true, if_false] at h
      obtain ⟨h1, h2⟩ := findAsking_keys kt k rest (i + 1) r h
      refine ⟨fun e w => by simp [pureRun_run hb, h1 e], fun j v e => ?_⟩
      obtain ⟨x, k1, k2, k3⟩ := h2 j v e
      refine ⟨x, by omega, ?_, fun w => by simp [pureRun_run hb, k3]⟩
      rw [show j - i = (j - (i + 1)) + 1 by omega]
      simpa using k2
def findS (P : Program) (kt : TypeId) (k : Value) (ks : List Value) : Option (Option Nat) :=
  match pureRun P (Instr.findKey kt k (ks.map bare)) with
  | some none => some none
  | some (some (j, _)) => some (some j)
  | none => none
theorem findS_ok {kt : TypeId} {k : Value} {ks : List Value} {r : Option Nat} (h : findS P kt k ks = some r) {l : List MapEntry} (hl : l.map (·.key) = ks) :
    (r = none → ∀ w : World, (Instr.findKey kt k l).run P w = .ok none w) ∧
    (∀ j, r = some j → ∃ m, l[j]? = some m ∧ ∀ w : World, (Instr.findKey kt k l).run P w = .ok (some (j, m.val)) w) := by
  subst hl
  have key : ∀ x, pureRun P (Instr.findKey kt k ((l.map (·.key)).map bare)) = some x →
      (x = none → ∀ w : World, (Instr.findKey kt k l).run P w = .ok none w) ∧
      (∀ j v, x = some (j, v) → ∃ m, l[j]? = some m ∧ ∀ w : World, (Instr.findKey kt k l).run P w = .ok (some (j, m.val)) w) := fun x hx => by
    unfold Instr.findKey at hx
    obtain ⟨kind, hk, hx⟩ := pureRun_bind' hx
    have hn := findNow_keys kind k l 0
    split at hn
    · rename_i e
      simp only [e] at hx
      obtain ⟨h1, h2⟩ := findAsking_keys kt k l 0 x hx
      refine ⟨fun e' w => ?_, fun j v e' => ?_⟩
      · simp [Instr.findKey, pureRun_run hk, hn, h1 e']
      · obtain ⟨m, _, k2, k3⟩ := h2 j v e'
        exact ⟨m, by simpa using k2, fun w => by simp [Instr.findKey, pureRun_run hk, hn, k3]⟩
    · rename_i e
      simp only [e] at hx
      have : x = none := by simpa [pureRun, Pure.pure] using hx.symm
      subst this
      exact ⟨fun _ w => by simp [Instr.findKey, pureRun_run hk, hn], fun j v e' => by cases e'⟩
    · rename_i j v e
      simp only [e] at hx
      have : x = some (j, v) := by simpa [pureRun, Pure.pure] using hx.symm
      subst this
      obtain ⟨m, _, k2, k3⟩ := hn
      refine ⟨fun e' => (by cases e'), fun j' v' e' => ?_⟩
      cases e'
      exact ⟨m, by simpa using k2, fun w => by simp [Instr.findKey, pureRun_run hk, k3]⟩
  unfold findS at h
  split at h
  · rename_i e
    simp only [Option.some.injEq] at h; subst h
    exact ⟨fun _ => (key _ e).1 rfl, fun j e' => by cases e'⟩
  · rename_i j v e
    simp only [Option.some.injEq] at h; subst h
    refine ⟨fun e' => (by cases e'), fun j' e' => ?_⟩
    cases e'
    exact (key _ e).2 j v rfl
  · cases h
theorem MRel.get : ∀ {xs : List (SV × SV × Nat)} {ms : List MapEntry}, MRel E xs ms → ∀ {i : Nat} {m : MapEntry}, ms[i]? = some m → ∃ x, xs[i]? = some x ∧ x.1.den E = some m.key ∧ x.2.1.den E = some m.val ∧ m.born = x.2.2
  | [], [], _, i, m, h => by simp at h
  | x :: xs, y :: ms, ⟨a, b, c, d⟩, i, m, h => by
    cases i with
    | zero => simp at h; subst h; exact ⟨x, by simp, a, b, c⟩
    | succ i => simp at h; obtain ⟨z, h1, h2⟩ := MRel.get d h; exact ⟨z, by simpa using h1, h2⟩
  | [], _ :: _, k, _, _, _ => k.elim
  | _ :: _, [], k, _, _, _ => k.elim
theorem MRel.push : ∀ {xs : List (SV × SV × Nat)} {ms : List MapEntry} {x : SV × SV × Nat} {m : MapEntry}, MRel E xs ms → x.1.den E = some m.key → x.2.1.den E = some m.val → m.born = x.2.2 → MRel E (xs ++ [x]) (ms ++ [m])
  | [], [], _, _, _, a, b, c => ⟨a, b, c, trivial⟩
  | _ :: _, _ :: _, _, _, ⟨a', b', c', d'⟩, a, b, c => ⟨a', b', c', d'.push a b c⟩
  | [], _ :: _, _, _, k, _, _, _ => k.elim
  | _ :: _, [], _, _, k, _, _, _ => k.elim
theorem MRel.set : ∀ {xs : List (SV × SV × Nat)} {ms : List MapEntry} {x : SV × SV × Nat} {m : MapEntry} (i : Nat), MRel E xs ms → x.1.den E = some m.key → x.2.1.den E = some m.val → m.born = x.2.2 → MRel E (xs.set i x) (ms.set i m)
  | [], [], _, _, i, _, _, _, _ => by simp [MRel]
  | _ :: _, _ :: _, _, _, 0, ⟨_, _, _, d'⟩, a, b, c => ⟨a, b, c, d'⟩
  | _ :: _, _ :: _, _, _, i + 1, ⟨a', b', c', d'⟩, a, b, c => ⟨a', b', c', d'.set i a b c⟩
  | [], _ :: _, _, _, _, k, _, _, _ => k.elim
  | _ :: _, [], _, _, _, k, _, _, _ => k.elim
theorem MRel.erase : ∀ {xs : List (SV × SV × Nat)} {ms : List MapEntry} (i : Nat), MRel E xs ms → MRel E (xs.eraseIdx i) (ms.eraseIdx i)
  | [], [], i, _ => by simp [MRel]
  | _ :: _, _ :: _, 0, ⟨_, _, _, d⟩ => d
  | _ :: _, _ :: _, i + 1, ⟨a, b, c, d⟩ => ⟨a, b, c, d.erase i⟩
  | [], _ :: _, _, k => k.elim
  | _ :: _, [], _, k => k.elim
def evMakeMap (S : St) : SV × St := (.map S.next, { S with heap := (S.next, .map [] 0) :: S.heap, next := S.next + 1 })
theorem evMakeMap_ok (hr : Rel B G w0 E S w) {t : TypeId} {r : Option Value} (hrv : r = none) : Does B G w0 P E (evMakeMap S).1 (evMakeMap S).2 (Instr.makeMap t r) w := by
  subst hrv
  obtain ⟨h1, h2⟩ := hr.pushed (o := .map [] 0) (x := .map #[] 0) (w' := { w with heap := w.heap.push (.map #[] 0) }) rfl rfl rfl rfl ⟨[], rfl, trivial⟩
  refine ⟨_, .map (some w.heap.size), _, h1, h2, ?_, ?_⟩
  · simp only [evMakeMap, SV.den, Env.place_self]
  · simp [Instr.makeMap]
def mapOf (S : St) : SV → Option (List (SV × SV × Nat))
  | .map id => match find id S.heap with
    | some (.map es _) => some es
    | _ => none
  | .val (.map none) => some []
  | _ => none
theorem mapOf_ok (hr : Rel B G w0 E S w) {x : SV} {es : List (SV × SV × Nat)} {vx : Value} (h : mapOf S x = some es) (hx : x.den E = some vx) :
    (vx = .map none ∧ es = []) ∨ (∃ id b clock l, x = .map id ∧ find id S.heap = some (.map es clock) ∧ E.ρ id = some b ∧ vx = .map (some b) ∧ w.heap[b]? = some (.map (l : List MapEntry).toArray clock) ∧ MRel E es l) := by
  unfold mapOf at h
  split at h
  · rename_i id
    split at h
    · rename_i es' clock hf
      simp only [Option.some.injEq] at h; subst h
      obtain ⟨b, hb, rfl⟩ := map_den hx
      obtain ⟨l, h1, h2⟩ := map_at hr hf hb
      exact .inr ⟨id, b, clock, l, rfl, hf, hb, rfl, h1, h2⟩
    · cases h
  · simp only [Option.some.injEq] at h; subst h
    simp only [SV.den, Option.some.injEq] at hx; subst hx
    exact .inl ⟨rfl, rfl⟩
  · cases h
def evLookupM (P : Program) (S : St) (t : TypeId) (x k : SV) (ok : Bool) : Option SV :=
  match P.underlying t, mapOf S x, k.conc with
  | some (.map kt et), some es, some kv => match keysOf es, (P.info? et).bind (·.zero), pureRun P (Instr.checkKey es.isEmpty 10000 kt kv) with
    | some ks, some z, some _ => match findS P kt kv ks with
      | some none => some (match ok with | true => .tuple [.val z, .val (.bool false)] | false => .val z)
      | some (some i) => match es[i]? with
        | some e => some (match ok with | true => .tuple [e.2.1, .val (.bool true)] | false => e.2.1)
        | none => none
      | none => none
    | _, _, _ => none
  | _, _, _ => none
theorem tuple2_den {a b : SV} {va vb : Value} (ha : a.den E = some va) (hb : b.den E = some vb) : (SV.tuple [a, b]).den E = some (.tuple #[va, vb]) := by
  simp only [SV.den, denL_mk ha (denL_mk hb (r := []) rfl)]
theorem evLookupM_ok (hr : Rel B G w0 E S w) {t : TypeId} {x k sv : SV} {ok : Bool} {vx vk : Value} (h : evLookupM P S t x k ok = some sv) (hx : x.den E = some vx) (hk : k.den E = some vk) :
    Does B G w0 P E sv S (Instr.lookup t vx vk ok) w := by
  unfold evLookupM at h
  split at h
  case h_2 => cases h
  rename_i kt et es kv hu hm hkc
  rw [conc_den (E := E) _ _ hkc] at hk
  simp only [Option.some.injEq] at hk; subst hk
  split at h
  case h_2 => cases h
  rename_i ks z u hks hz hck
  obtain ⟨l, hl, hes⟩ : ∃ l : List MapEntry, MRel E es l ∧ ((vx = .map none ∧ l = []) ∨ (∃ b clock, vx = .map (some b) ∧ w.heap[b]? = some (.map l.toArray clock))) := by
    rcases mapOf_ok hr hm hx with ⟨rfl, rfl⟩ | ⟨id, b, clock, l, _, _, _, rfl, h1, h2⟩
    · exact ⟨[], trivial, .inl ⟨rfl, rfl⟩⟩
    · exact ⟨l, h2, .inr ⟨b, clock, rfl, h1⟩⟩
  have hlen := hl.length
  have hemp : l.toArray.isEmpty = es.isEmpty := by cases es <;> cases l <;> first | rfl | (simp at hlen)
  have hckr := pureRun_run hck w
  have hres : ∀ (r : Option Nat), findS P kt kv ks = some r → ∀ (v : Value) (b : Bool), (r = none → v = z ∧ b = false) → (∀ i, r = some i → ∃ m, l[i]? = some m ∧ v = m.val ∧ b = true) →
      (Instr.lookup t vx kv ok).run P w = .ok (if ok then .tuple #[v, .bool b] else v) w := fun r hf v b h0 h1 => by
    obtain ⟨f0, f1⟩ := findS_ok (P := P) hf (keysOf_ok hks hl)
    have tail : ((do
        Instr.checkKey l.toArray.isEmpty 10000 kt kv
        let (v, ok') ← match ← Instr.findKey kt kv l with
          | some (_, v) => pure (v, true)
          | none => pure (← zeroValue et, false)
        pure (if ok then .tuple #[v, .bool ok'] else v)) : Sem Value).run P w = .ok (if ok then .tuple #[v, .bool b] else v) w := by
      simp only [Sem.run_bind, hemp, hckr, Result.andThen_ok]
      cases r with
      | none =>
        obtain ⟨rfl, rfl⟩ := h0 rfl
        simp [f0 rfl, run_zero' hz]
      | some i =>
        obtain ⟨m, k1, k2⟩ := f1 i rfl
        obtain ⟨m', k1', rfl, rfl⟩ := h1 i rfl
        rw [k1] at k1'; cases k1'
        simp [k2]
    unfold Instr.lookup
    simp only [Sem.run_bind, run_underlying hu, Result.andThen_ok]
    rcases hes with ⟨e1, rfl⟩ | ⟨b', c', e1, e2⟩
    · subst e1
      simp only [Sem.run_bind, Sem.run_pure, Result.andThen_ok] at tail ⊢
      exact tail
    · subst e1
      simp only [Sem.run_bind, run_getObj_map e2, Sem.run_pure, Result.andThen_ok] at tail ⊢
      exact tail
  split at h
  · rename_i hf
    have hrun := hres none hf z false (fun _ => ⟨rfl, rfl⟩) (fun i e => by cases e)
    simp only [Option.some.injEq] at h; subst h
    cases ok with
    | true => exact .here hr (tuple2_den (va := z) (vb := .bool false) (by simp only [SV.den]) (by simp only [SV.den])) (by simpa using hrun)
    | false => exact .here hr (v := z) (by simp only [SV.den]) (by simpa using hrun)
  · rename_i i hf
    split at h
    · rename_i e he
      obtain ⟨f0, f1⟩ := findS_ok (P := P) hf (keysOf_ok hks hl)
      obtain ⟨m, k1, k2⟩ := f1 i rfl
      obtain ⟨x', g1, g2, g3, g4⟩ := hl.get k1
      rw [he] at g1; cases g1
      have hrun := hres (some i) hf m.val true (fun e => by cases e) (fun j e => by cases e; exact ⟨m, k1, rfl, rfl⟩)
      simp only [Option.some.injEq] at h; subst h
      cases ok with
      | true => exact .here hr (tuple2_den (vb := .bool true) g3 (by simp only [SV.den])) (by simpa using hrun)
      | false => exact .here hr g3 (by simpa using hrun)
    · cases h
  · cases h
theorem pureRun_mk {α β : Type} : ∀ {x : Sem α} {f : α → Sem β} {a : α} {b : β}, pureRun P x = some a → pureRun P (f a) = some b → pureRun P (x.bind f) = some b
  | .pure u, f, a, b, h, k => by simp only [pureRun, Option.some.injEq] at h; subst h; exact k
  | .program g, f, a, b, h, k => by simp only [pureRun] at h; simp only [Sem.bind, pureRun]; exact pureRun_mk (x := g P) h k
  | .mark m g, f, a, b, h, k => by simp only [pureRun] at h; simp only [Sem.bind, pureRun]; exact pureRun_mk (x := g) h k
  | .load .., f, a, b, h, k | .store .., f, a, b, h, k | .new .., f, a, b, h, k | .shape .., f, a, b, h, k | .freeze .., f, a, b, h, k | .frozen .., f, a, b, h, k | .getObj .., f, a, b, h, k | .setObj .., f, a, b, h, k
  | .choose .., f, a, b, h, k | .sys .., f, a, b, h, k | .halt .., f, a, b, h, k => by simp [pureRun] at h
theorem pureRun_mk' {α β : Type} {x : Sem α} {f : α → Sem β} {a : α} {b : β} (h : pureRun P x = some a) (k : pureRun P (f a) = some b) : pureRun P (x >>= f) = some b := pureRun_mk h k
theorem pureRun_underlying {t : TypeId} {d : TypeDesc} (h : P.underlying t = some d) : pureRun P (underlying t) = some d := by
  unfold underlying
  refine pureRun_mk' (a := P) rfl ?_
  simp only [h]
  rfl
theorem bytes_beq {a b : ByteArray} (h : (a == b) = true) : a = b := by
  cases a; cases b
  simp only [ByteArray.mk.injEq]
  exact eq_of_beq (α := Array UInt8) h
theorem checkKey_str {kt : TypeId} (hk : P.underlying kt = some .string) (e : Bool) (s : ByteArray) : pureRun P (Instr.checkKey e 10000 kt (.string s)) = some () := by
  unfold Instr.checkKey
  exact pureRun_mk' (pureRun_underlying hk) rfl
def missS (z : Value) (ok : Bool) : SV := match ok with
  | true => .tuple [.val z, .val (.bool false)]
  | false => .val z
def bytesKeys : List Value → Option (List ByteArray)
  | [] => some []
  | .string b :: r => match bytesKeys r with
    | some l => some (b :: l)
    | none => none
  | _ :: _ => none
theorem bytesKeys_mem : ∀ {ks : List Value} {bs : List ByteArray}, bytesKeys ks = some bs → ∀ k ∈ ks, ∃ b ∈ bs, k = .string b
  | [], _, _, k, hk => by cases hk
  | .string b :: r, bs, h, k, hk => by
    simp only [bytesKeys] at h
    split at h
    · rename_i l hl
      simp only [Option.some.injEq] at h; subst h
      cases hk with
      | head => exact ⟨b, List.mem_cons_self, rfl⟩
      | tail _ hk => obtain ⟨c, h1, h2⟩ := bytesKeys_mem hl k hk; exact ⟨c, List.mem_cons_of_mem _ h1, h2⟩
    · cases h
  | .bool _ :: _, _, h, _, _ | .int _ _ :: _, _, h, _, _ | .float _ _ :: _, _, h, _, _ | .complex _ _ _ :: _, _, h, _, _ | .pointer _ :: _, _, h, _, _ | .slice _ _ _ :: _, _, h, _, _ | .map _ :: _, _, h, _, _
  | .chan _ :: _, _, h, _, _ | .func _ _ _ :: _, _, h, _, _ | .nilFunc :: _, _, h, _, _ | .iface _ _ :: _, _, h, _, _ | .nilIface :: _, _, h, _, _ | .agg _ :: _, _, h, _, _ | .tuple _ :: _, _, h, _, _ => by cases h
def bagOf (S : St) : SV → Option (List (SV × SV × Nat))
  | .map id => match find id S.heap with
    | some (.bag es) => some es
    | _ => none
  | _ => none
theorem bagOf_ok (hr : Rel B G w0 E S w) {x : SV} {es : List (SV × SV × Nat)} {vx : Value} (h : bagOf S x = some es) (hx : x.den E = some vx) :
    ∃ (b clock : Nat) (l : List MapEntry), vx = .map (some b) ∧ w.heap[b]? = some (.map l.toArray clock) ∧ BRel E es l clock := by
  unfold bagOf at h
  split at h
  · rename_i id
    split at h
    · rename_i es' hf
      simp only [Option.some.injEq] at h; subst h
      obtain ⟨b, hb, rfl⟩ := map_den hx
      obtain ⟨b', x, h1, h2, l, clock, rfl, h3⟩ := hr.heap id _ hf
      rw [hb] at h1; cases h1
      exact ⟨b, clock, l, rfl, h2, h3⟩
    · cases h
  · cases h
def pickB (s : ByteArray) : List (SV × SV × Nat) → List ByteArray → Option (Option SV)
  | [], [] => some none
  | e :: es, b :: bs => bif s.data.toList == b.data.toList then some (some e.2.1) else pickB s es bs
  | _, _ => none
theorem pickB_ok {E : Env} {s : ByteArray} : ∀ {es : List (SV × SV × Nat)} {ks : List Value} {bs : List ByteArray} {r : Option SV}, keysOf es = some ks → bytesKeys ks = some bs → pickB s es bs = some r →
    (∀ e ∈ es, ∃ b, e.1.den E = some (.string b)) ∧ (r = none → ∀ e ∈ es, e.1.den E ≠ some (.string s)) ∧ ∀ y, r = some y → ∃ e ∈ es, e.1.den E = some (.string s) ∧ e.2.1 = y
  | [], ks, bs, r, h1, h2, h3 => by
    simp only [keysOf, Option.some.injEq] at h1; subst h1
    simp only [bytesKeys, Option.some.injEq] at h2; subst h2
    simp only [pickB, Option.some.injEq] at h3; subst h3
    exact ⟨fun e he => (by cases he), fun _ e he => (by cases he), fun y hy => by cases hy⟩
  | x :: es, ks, bs, r, h1, h2, h3 => by
    simp only [keysOf] at h1
    split at h1
    · rename_i k l hk hl
      simp only [Option.some.injEq] at h1; subst h1
      obtain ⟨b0, _, rfl⟩ := bytesKeys_mem h2 k List.mem_cons_self
      simp only [bytesKeys] at h2
      split at h2
      · rename_i bs' hbs
        simp only [Option.some.injEq] at h2; subst h2
        have hx := conc_den (E := E) _ _ hk
        simp only [pickB] at h3
        cases e : s.data.toList == b0.data.toList with
        | true =>
          rw [e] at h3
          simp only [cond_true, Option.some.injEq] at h3; subst h3
          have hs : s = b0 := by
            simp only [beq_iff_eq] at e
            cases s; cases b0; simp only [ByteArray.mk.injEq]; exact Array.ext' e
          subst hs
          obtain ⟨hall⟩ : Nonempty (∀ e ∈ es, ∃ b, e.1.den E = some (.string b)) := ⟨fun e he => by
            obtain ⟨k', hk', hd⟩ := keysOf_mem hl e he
            obtain ⟨b, _, rfl⟩ := bytesKeys_mem hbs k' hk'
            exact ⟨b, hd⟩⟩
          refine ⟨fun e he => ?_, fun q => (by cases q), fun y hy => ⟨x, List.mem_cons_self, hx, by simpa using hy⟩⟩
          cases he with
          | head => exact ⟨_, hx⟩
          | tail _ he => exact hall e he
        | false =>
          rw [e] at h3
          simp only [cond_false] at h3
          obtain ⟨i1, i2, i3⟩ := pickB_ok hl hbs h3
          refine ⟨fun z hz => ?_, fun q z hz => ?_, fun y hy => ?_⟩
          · cases hz with
            | head => exact ⟨_, hx⟩
            | tail _ hz => exact i1 z hz
          · cases hz with
            | head =>
              rw [hx]
              intro q
              simp only [Option.some.injEq, Value.string.injEq] at q
              rw [q] at e; simp at e
            | tail _ hz => exact i2 q z hz
          · obtain ⟨z, hz, k1, k2⟩ := i3 y hy
            exact ⟨z, List.mem_cons_of_mem _ hz, k1, k2⟩
      · cases h2
    · cases h1
theorem findNow_str {s : ByteArray} : ∀ (l : List MapEntry) (i : Nat), (∀ m ∈ l, ∃ b, m.key = .string b) →
    ((∀ m ∈ l, m.key ≠ .string s) → Instr.findNow .string (.string s) l i = some none) ∧
    (∀ m ∈ l, m.key = .string s → (l.map (·.key)).Nodup → ∃ j, Instr.findNow .string (.string s) l i = some (some (j, m.val)))
  | [], i, _ => ⟨fun _ => rfl, fun m hm => by cases hm⟩
  | x :: r, i, h => by
    obtain ⟨b, hb⟩ := h x List.mem_cons_self
    obtain ⟨h1, h2⟩ := findNow_str (s := s) r (i + 1) fun m hm => h m (List.mem_cons_of_mem _ hm)
    have key : Instr.sameNow .string (.string s) x.key = some (s == b) := by rw [hb]; rfl
    refine ⟨fun q => ?_, fun m hm hms hn => ?_⟩
    · have : (s == b) = false := by
        rw [← Bool.not_eq_true]
        intro e
        exact q x List.mem_cons_self (by rw [hb, bytes_beq e])
      simp only [Instr.findNow, key, this]
      exact h1 fun m hm => q m (List.mem_cons_of_mem _ hm)
    · simp only [Instr.findNow, key]
      cases e : (s == b) with
      | true =>
        have hsb := bytes_beq e
        subst hsb
        simp only [List.map_cons, List.nodup_cons] at hn
        cases hm with
        | head => exact ⟨i, rfl⟩
        | tail _ hm => exact (hn.1 (by rw [hb, ← hms]; exact List.mem_map.2 ⟨m, hm, rfl⟩)).elim
      | false =>
        simp only [List.map_cons, List.nodup_cons] at hn
        cases hm with
        | head =>
          rw [hb] at hms
          simp only [Value.string.injEq] at hms
          rw [hms] at e
          have : (s == s) = true := by
            show (s.data == s.data) = true
            simp
          rw [this] at e; cases e
        | tail _ hm => exact h2 m hm hms hn.2
def evLookupB (P : Program) (S : St) (t : TypeId) (x k : SV) (ok : Bool) : Option SV :=
  match P.underlying t, bagOf S x, k.conc with
  | some (.map kt et), some es, some (.string s) => match P.underlying kt, keysOf es, (P.info? et).bind (·.zero) with
    | some .string, some ks, some z => match bytesKeys ks with
      | some bs => match pickB s es bs with
        | some none => some (missS z ok)
        | some (some y) => some (match ok with | true => .tuple [y, .val (.bool true)] | false => y)
        | none => none
      | none => none
    | _, _, _ => none
  | _, _, _ => none
theorem evLookupB_ok (hr : Rel B G w0 E S w) {t : TypeId} {x k sv : SV} {ok : Bool} {vx vk : Value} (h : evLookupB P S t x k ok = some sv) (hx : x.den E = some vx) (hk : k.den E = some vk) :
    Does B G w0 P E sv S (Instr.lookup t vx vk ok) w := by
  unfold evLookupB at h
  split at h
  case h_2 => cases h
  rename_i kt et es s hu hm hkc
  rw [conc_den (E := E) _ _ hkc] at hk
  simp only [Option.some.injEq] at hk; subst hk
  split at h
  case h_2 => cases h
  rename_i ks z hkt hks hz
  split at h
  case h_2 => cases h
  rename_i bs hbs
  obtain ⟨b, clock, l, rfl, hb, n1, n2, n3, n4, n5⟩ := bagOf_ok hr hm hx
  have go : ∀ r, pickB s es bs = some r → ∀ (v : Value) (q : Bool), (r = none → v = z ∧ q = false) → (∀ y, r = some y → y.den E = some v ∧ q = true) →
      (Instr.lookup t (.map (some b)) (.string s) ok).run P w = .ok (if ok then .tuple #[v, .bool q] else v) w := fun r hp v q c1 c2 => by
    obtain ⟨p1, p2, p3⟩ := pickB_ok (E := E) hks hbs hp
    have hstr : ∀ m ∈ l, ∃ b, m.key = .string b := fun m hm => by
      obtain ⟨e, he, e1, _⟩ := n4 m hm
      obtain ⟨b, hb⟩ := p1 e he
      rw [hb] at e1
      simp only [Option.some.injEq] at e1
      exact ⟨b, e1.symm⟩
    obtain ⟨f1, f2⟩ := findNow_str (s := s) l 0 hstr
    have hckr := pureRun_run (checkKey_str (P := P) hkt l.toArray.isEmpty s) w
    unfold Instr.lookup
    simp only [Sem.run_bind, run_underlying hu, Result.andThen_ok, run_getObj_map hb, Sem.run_pure, hckr]
    cases r with
    | none =>
      obtain ⟨rfl, rfl⟩ := c1 rfl
      have : (Instr.findKey kt (.string s) l).run P w = .ok none w := by
        unfold Instr.findKey
        simp only [Sem.run_bind, run_underlying hkt, Result.andThen_ok]
        rw [f1 fun m hm e => by
          obtain ⟨x, hx, e1, _⟩ := n4 m hm
          exact p2 rfl x hx (by rw [e1, e])]
        rfl
      simp [this, run_zero' hz]
    | some y =>
      obtain ⟨c3, rfl⟩ := c2 y rfl
      obtain ⟨e, he, e1, rfl⟩ := p3 y rfl
      obtain ⟨m, hm, m1, m2⟩ := n5 e he
      rw [e1] at m1; rw [c3] at m2
      simp only [Option.some.injEq] at m1 m2
      obtain ⟨j, hj⟩ := f2 m hm m1.symm n1
      have : (Instr.findKey kt (.string s) l).run P w = .ok (some (j, m.val)) w := by
        unfold Instr.findKey
        simp only [Sem.run_bind, run_underlying hkt, Result.andThen_ok]
        rw [hj]
        rfl
      simp [this, m2]
  split at h
  · rename_i hp
    have hrun := go none hp z false (fun _ => ⟨rfl, rfl⟩) (fun y e => by cases e)
    simp only [Option.some.injEq] at h; subst h
    unfold missS
    cases ok with
    | true => exact .here hr (tuple2_den (va := z) (vb := .bool false) (by simp only [SV.den]) (by simp only [SV.den])) (by simpa using hrun)
    | false => exact .here hr (v := z) (by simp only [SV.den]) (by simpa using hrun)
  · rename_i y hp
    obtain ⟨p1, p2, p3⟩ := pickB_ok (E := E) hks hbs hp
    obtain ⟨e, he, e1, e2⟩ := p3 y rfl
    obtain ⟨m, hm, m1, m2⟩ := n5 e he
    rw [e2] at m2
    have hrun := go (some y) hp m.val true (fun e => by cases e) (fun y' e => by cases e; exact ⟨m2, rfl⟩)
    simp only [Option.some.injEq] at h; subst h
    cases ok with
    | true => exact .here hr (tuple2_den (vb := .bool true) m2 (by simp only [SV.den])) (by simpa using hrun)
    | false => exact .here hr m2 (by simpa using hrun)
  · cases h
def evLookup (P : Program) (S : St) (t : TypeId) (x k : SV) (ok : Bool) : Option SV :=
  match evLookupM P S t x k ok with
  | some r => some r
  | none => evLookupB P S t x k ok
theorem evLookup_ok (hr : Rel B G w0 E S w) {t : TypeId} {x k sv : SV} {ok : Bool} {vx vk : Value} (h : evLookup P S t x k ok = some sv) (hx : x.den E = some vx) (hk : k.den E = some vk) :
    Does B G w0 P E sv S (Instr.lookup t vx vk ok) w := by
  unfold evLookup at h
  split at h
  · rename_i r hm
    simp only [Option.some.injEq] at h; subst h
    exact evLookupM_ok hr hm hx hk
  · exact evLookupB_ok hr h hx hk
theorem run_setObj_map {b : Nat} {l : Array MapEntry} {c : Nat} (o : Obj) (h : w.heap[b]? = some (.map l c)) : (setObj b o).run P w = .ok () { w with heap := w.heap.setIfInBounds b o } := by
  simp only [setObj, Sem.run, h]
theorem Rel.wroteObj (h : Rel B G w0 E S w) {id b : Nat} {o o' : SObj} {x' : Obj} (hf : find id S.heap = some o) (hb : E.ρ id = some b) (hG : G ≤ id) (ho' : ORel E o' x') :
    Rel B G w0 E { S with heap := upd id o' S.heap } { w with heap := w.heap.setIfInBounds b x' } := by
  have hd := h.dom id b hb
  refine h.wrote hf hb hG (by simp) (fun k hk => ?_) (by simp [hd]) ho' rfl rfl rfl
  simp [Ne.symm hk]
def evMapUpdate (P : Program) (G : Nat) (S : St) (t : TypeId) (x k v : SV) : Option St :=
  match P.underlying t, x, k.conc with
  | some (.map kt _), .map id, some kv => match find id S.heap with
    | some (.map es clock) => match keysOf es, pureRun P (Instr.checkKey false 10000 kt kv) with
      | some ks, some _ => match findS P kt kv ks with
        | some none => bif Nat.ble G id then some { S with heap := upd id (.map (es ++ [(.val kv, v, clock)]) (clock + 1)) S.heap } else none
        | some (some i) => match es[i]?, ks[i]? with
          | some e, some old => match pureRun P (Instr.keyThatStays old kv) with
            | some kept => bif Nat.ble G id then some { S with heap := upd id (.map (es.set i (.val kept, v, e.2.2)) clock) S.heap } else none
            | none => none
          | _, _ => none
        | none => none
      | _, _ => none
    | _ => none
  | _, _, _ => none
theorem evMapUpdate_ok (hr : Rel B G w0 E S w) {t : TypeId} {x k v : SV} {S' : St} {vx vk vv : Value} (h : evMapUpdate P G S t x k v = some S') (hx : x.den E = some vx) (hk : k.den E = some vk) (hv : v.den E = some vv) :
    ∃ w', (Instr.mapUpdate t vx vk vv).run P w = .ok () w' ∧ Rel B G w0 E S' w' := by
  unfold evMapUpdate at h
  split at h
  case h_2 => cases h
  rename_i kt et id kv hu hkc
  rw [conc_den (E := E) _ _ hkc] at hk
  simp only [Option.some.injEq] at hk; subst hk
  split at h
  case h_2 => cases h
  rename_i es clock hf
  obtain ⟨b, hb, rfl⟩ := map_den hx
  obtain ⟨l, h1, hl⟩ := map_at hr hf hb
  split at h
  case h_2 => cases h
  rename_i ks u hks hck
  have hckr := pureRun_run hck w
  have hkeys := keysOf_ok hks hl
  split at h
  · rename_i hfs
    obtain ⟨f0, -⟩ := findS_ok (P := P) hfs hkeys
    cases hG : Nat.ble G id with
    | false => rw [hG] at h; cases h
    | true =>
      rw [hG] at h
      simp only [cond_true, Option.some.injEq] at h; subst h
      refine ⟨_, ?_, hr.wroteObj hf hb (Nat.le_of_ble_eq_true hG) (x' := .map (l.toArray.push { key := kv, val := vv, born := clock }) (clock + 1)) ⟨l ++ [{ key := kv, val := vv, born := clock }], by simp, hl.push (by simp only [SV.den]) hv rfl⟩⟩
      simp only [Instr.mapUpdate, Sem.run_bind, run_underlying hu, Result.andThen_ok, run_getObj_map h1, hckr, f0 rfl]
      exact run_setObj_map _ h1
  · rename_i i hfs
    obtain ⟨-, f1⟩ := findS_ok (P := P) hfs hkeys
    obtain ⟨m, k1, k2⟩ := f1 i rfl
    split at h
    · rename_i e old he hold
      split at h
      · rename_i kept hkept
        cases hG : Nat.ble G id with
        | false => rw [hG] at h; cases h
        | true =>
          rw [hG] at h
          simp only [cond_true, Option.some.injEq] at h; subst h
          obtain ⟨x', g1, g2, g3, g4⟩ := hl.get k1
          rw [he] at g1; cases g1
          have hold' : m.key = old := by
            rw [← hkeys] at hold
            simp [k1] at hold
            exact hold
          have hrel : MRel E (es.set i (.val kept, v, e.2.2)) (l.set i { m with key := kept, val := vv }) := hl.set i (by simp only [SV.den]) hv g4
          refine ⟨_, ?_, hr.wroteObj hf hb (Nat.le_of_ble_eq_true hG) (x' := .map (l.toArray.modify i fun e => { e with key := kept, val := vv }) clock) ⟨_, ?_, hrel⟩⟩
          · simp only [Instr.mapUpdate, Sem.run_bind, run_underlying hu, Result.andThen_ok, run_getObj_map h1, hckr, k2]
            have hkk : ((l.toArray[i]?).map (·.key)).getD kv = old := by simp [k1, hold']
            rw [hkk, pureRun_run hkept]
            simp only [Result.andThen_ok]
            exact run_setObj_map _ h1
          · congr 1
            apply Array.ext'
            apply List.ext_getElem?
            intro j
            simp only [Array.getElem?_toList, Array.getElem?_modify, List.getElem?_toArray, List.getElem?_set]
            by_cases hij : i = j
            · subst hij
              obtain ⟨hlt, hli⟩ := List.getElem?_eq_some_iff.1 k1
              simp [hlt, hli]
            · simp [hij]
      · cases h
    · cases h
  · cases h
def evDelete (P : Program) (G : Nat) (S : St) (t : TypeId) (x k : SV) : Option St :=
  match P.underlying t, x, k.conc with
  | some (.map kt _), .map id, some kv => match find id S.heap with
    | some (.map es clock) => match keysOf es, pureRun P (Instr.checkKey es.isEmpty 10000 kt kv) with
      | some ks, some _ => match findS P kt kv ks with
        | some none => bif Nat.ble G id then some { S with heap := upd id (.map es clock) S.heap } else none
        | some (some i) => bif Nat.ble G id then some { S with heap := upd id (.map (es.eraseIdx i) clock) S.heap } else none
        | none => none
      | _, _ => none
    | _ => none
  | some (.map kt _), .val (.map none), some kv => match pureRun P (Instr.checkKey true 10000 kt kv) with
    | some _ => some S
    | none => none
  | _, _, _ => none
theorem evDelete_ok (hr : Rel B G w0 E S w) {t ty xt : TypeId} {x k : SV} {S' : St} {vx vk : Value} (h : evDelete P G S t x k = some S') (hx : x.den E = some vx) (hk : k.den E = some vk) :
    ∃ w', (Builtin.delete_ #[t, xt] ty #[vx, vk]).run P w = .ok (.tuple #[]) w' ∧ Rel B G w0 E S' w' := by
  unfold evDelete at h
  split at h
  · rename_i kt et id kv hu hkc
    rw [conc_den (E := E) _ _ hkc] at hk
    simp only [Option.some.injEq] at hk; subst hk
    split at h
    case h_2 => cases h
    rename_i es clock hf
    obtain ⟨b, hb, rfl⟩ := map_den hx
    obtain ⟨l, h1, hl⟩ := map_at hr hf hb
    split at h
    case h_2 => cases h
    rename_i ks u hks hck
    have hckr := pureRun_run hck w
    have hkeys := keysOf_ok hks hl
    have hlen := hl.length
    have hemp : l.isEmpty = es.isEmpty := by cases es <;> cases l <;> first | rfl | (simp at hlen)
    split at h
    · rename_i hfs
      obtain ⟨f0, -⟩ := findS_ok (P := P) hfs hkeys
      cases hG : Nat.ble G id with
      | false => rw [hG] at h; cases h
      | true =>
        rw [hG] at h
        simp only [cond_true, Option.some.injEq] at h; subst h
        refine ⟨_, ?_, hr.wroteObj hf hb (Nat.le_of_ble_eq_true hG) (x' := .map l.toArray clock) ⟨l, rfl, hl⟩⟩
        simp only [Builtin.delete_, List.getElem?_toArray, List.getElem?_cons_zero, List.getElem?_cons_succ, Sem.run_bind, run_underlying hu, Result.andThen_ok, run_getObj_map h1, List.isEmpty_toArray, hemp, hckr, f0 rfl, run_setObj_map _ h1, Sem.run_pure]
    · rename_i i hfs
      obtain ⟨-, f1⟩ := findS_ok (P := P) hfs hkeys
      obtain ⟨m, k1, k2⟩ := f1 i rfl
      cases hG : Nat.ble G id with
      | false => rw [hG] at h; cases h
      | true =>
        rw [hG] at h
        simp only [cond_true, Option.some.injEq] at h; subst h
        refine ⟨_, ?_, hr.wroteObj hf hb (Nat.le_of_ble_eq_true hG) (x' := .map (l.toArray.eraseIdxIfInBounds i) clock) ⟨l.eraseIdx i, ?_, hl.erase i⟩⟩
        · simp only [Builtin.delete_, List.getElem?_toArray, List.getElem?_cons_zero, List.getElem?_cons_succ, Sem.run_bind, run_underlying hu, Result.andThen_ok, run_getObj_map h1, List.isEmpty_toArray, hemp, hckr, k2, run_setObj_map _ h1, Sem.run_pure]
        · simp
    · cases h
  · rename_i kt et kv hu hkc
    rw [conc_den (E := E) _ _ hkc] at hk
    simp only [Option.some.injEq] at hk; subst hk
    split at h
    · rename_i u hck
      simp only [Option.some.injEq] at h; subst h
      simp only [SV.den, Option.some.injEq] at hx; subst hx
      refine ⟨w, ?_, hr⟩
      simp only [Builtin.delete_, List.getElem?_toArray, List.getElem?_cons_zero, List.getElem?_cons_succ, Sem.run_bind, run_underlying hu, Result.andThen_ok, pureRun_run hck, Sem.run_pure]
    · cases h
  · cases h
end
end Go.Ev
namespace Go.Ev
open Go.RowKit (Below)
section
variable {B G : Nat} {w0 : Start} {E : Env} {S : St} {w : World} {P : Program}
def pushObj (S : St) (o : SObj) : St := { S with heap := (S.next, o) :: S.heap, next := S.next + 1 }
def evRange (P : Program) (S : St) (t : TypeId) (x : SV) : Option (SV × St) :=
  match P.underlying t, x with
  | some .string, .val (.string s) => some (.ptr S.next 0, pushObj S (.siter s 0))
  | some (.map _ _), .val (.map none) => some (.ptr S.next 0, pushObj S (.miter none 0 [] 0))
  | some (.map _ _), .map id => match find id S.heap with
    | some (.map _ clock) => some (.ptr S.next 0, pushObj S (.miter (some id) clock [] clock))
    | _ => none
  | _, _ => none
theorem evRange_ok (hr : Rel B G w0 E S w) {t : TypeId} {x sv : SV} {S' : St} {vx : Value} (h : evRange P S t x = some (sv, S')) (hx : x.den E = some vx) :
    Does B G w0 P E sv S' (Instr.range t vx) w := by
  have fin : ∀ (o : SObj) (ob : Obj), (∀ F : Env, E.le F → ORel F o ob) → (Instr.range t vx).run P w = .ok (.pointer (some ⟨w.heap.size, 0, none⟩)) { w with heap := w.heap.push ob } →
      Does B G w0 P E (.ptr S.next 0) (pushObj S o) (Instr.range t vx) w := fun o ob ho hrun => by
    have hle := E.place_le w.heap.size (hr.newρ S.next (Nat.le_refl _))
    obtain ⟨h1, h2⟩ := hr.pushed (o := o) (x := ob) (w' := { w with heap := w.heap.push ob }) rfl rfl rfl rfl (ho _ hle)
    exact ⟨_, _, _, h1, h2, by simp only [SV.den, Env.place_self], hrun⟩
  unfold evRange at h
  split at h
  · rename_i s hu
    simp only [Option.some.injEq, Prod.mk.injEq] at h
    obtain ⟨rfl, rfl⟩ := h
    simp only [SV.den, Option.some.injEq] at hx; subst hx
    exact fin _ (.stringIter s 0) (fun _ _ => rfl) (by simp [Instr.range, run_underlying hu])
  · rename_i k e hu
    simp only [Option.some.injEq, Prod.mk.injEq] at h
    obtain ⟨rfl, rfl⟩ := h
    simp only [SV.den, Option.some.injEq] at hx; subst hx
    exact fin _ (.mapIter none 0 #[] 0) (fun _ _ => rfl) (by simp [Instr.range, run_underlying hu])
  · rename_i k e id hu
    split at h
    · rename_i es clock hf
      simp only [Option.some.injEq, Prod.mk.injEq] at h
      obtain ⟨rfl, rfl⟩ := h
      obtain ⟨b, hb, rfl⟩ := map_den hx
      obtain ⟨l, h1, h2⟩ := map_at hr hf hb
      exact fin _ (.mapIter (some b) clock #[] clock) (fun F hF => ⟨b, hF.ρ _ _ hb, rfl⟩) (by simp [Instr.range, run_underlying hu, run_getObj_map h1])
    · cases h
  · cases h
def leftOf (es : List (SV × SV × Nat)) (seen : List Nat) (since : Nat) : List (SV × SV × Nat) :=
  let left := es.filter fun e => !seen.contains e.2.2
  (left.filter fun e => decide (e.2.2 < since)) ++ (left.filter fun e => decide (e.2.2 ≥ since))
def evNext (G : Nat) (S : St) (it : SV) (str : Bool) : Option (List (SV × St)) :=
  match it with
  | .ptr id 0 => match find id S.heap, str with
    | some (.siter s pos), true =>
      bif Nat.blt pos s.size && Nat.ble G id then
        let (c, width) := Utf8.decode s pos
        some [(.tuple [.val (.bool true), .val (goInt pos), .val (.int .i32 c)], { S with heap := upd id (.siter s (pos + width)) S.heap })]
      else bif Nat.ble s.size pos then some [(.tuple [.val (.bool false)], S)] else none
    | some (.miter none _ _ _), false => some [(.tuple [.val (.bool false)], S)]
    | some (.miter (some m) since seen last), false => match find m S.heap with
      | some (.map es clock) =>
        bif (!seen.isEmpty && (!es.isEmpty && es.all fun e => decide (e.2.2 ≥ last))) || !Nat.ble G id then none else
        some ((bif (es.filter fun e => !seen.contains e.2.2 && decide (e.2.2 < since)).isEmpty then [(SV.tuple [.val (.bool false)], S)] else []) ++
          (leftOf es seen since).map fun e => (SV.tuple [.val (.bool true), e.1, e.2.1], { S with heap := upd id (.miter (some m) since (seen ++ [e.2.2]) clock) S.heap }))
      | _ => none
    | _, _ => none
  | _ => none
def DoesL (B G : Nat) (w0 : Start) (P : Program) (E : Env) (rs : List (SV × St)) (m : Sem Value) (w : World) : Prop := ∃ p ∈ rs, Does B G w0 P E p.1 p.2 m w
theorem MRel.filter {p : Nat → Bool} : ∀ {xs : List (SV × SV × Nat)} {ms : List MapEntry}, MRel E xs ms → MRel E (xs.filter fun e => p e.2.2) (ms.filter fun m => p m.born)
  | [], [], _ => trivial
  | x :: xs, m :: ms, ⟨a, b, c, d⟩ => by
    have ih := MRel.filter (p := p) d
    simp only [List.filter_cons]
    rw [c]
    split
    · exact ⟨a, b, c, ih⟩
    · exact ih
  | [], _ :: _, k => k.elim
  | _ :: _, [], k => k.elim
theorem MRel.append : ∀ {xs ys : List (SV × SV × Nat)} {ms ns : List MapEntry}, MRel E xs ms → MRel E ys ns → MRel E (xs ++ ys) (ms ++ ns)
  | [], _, [], _, _, k => k
  | _ :: _, _, _ :: _, _, ⟨a, b, c, d⟩, k => ⟨a, b, c, d.append k⟩
  | [], _, _ :: _, _, k, _ => k.elim
  | _ :: _, _, [], _, k, _ => k.elim
theorem run_getObj_iter {b : Nat} {o : Obj} (h : w.heap[b]? = some o) (hc : ∀ c e f, o ≠ .cells c e f) : (getObj b).run P w = .ok o w := by
  simp only [getObj, Sem.run, h]
theorem run_setObj_iter {b : Nat} {o o' : Obj} (h : w.heap[b]? = some o) (hc : ∀ c e f, o ≠ .cells c e f) : (setObj b o').run P w = .ok () { w with heap := w.heap.setIfInBounds b o' } := by
  simp only [setObj, Sem.run, h]
theorem all_born {es : List (SV × SV × Nat)} {l : List MapEntry} {p : Nat → Bool} (h : MRel E es l) : l.all (fun e => p e.born) = es.all fun e => p e.2.2 := by
  induction es generalizing l with
  | nil => cases l with
    | nil => rfl
    | cons => exact h.elim
  | cons x xs ih => cases l with
    | nil => exact h.elim
    | cons m ms => obtain ⟨_, _, c, d⟩ := h; simp [ih d, c]
theorem iter_at (h : Rel B G w0 E S w) {id b : Nat} {o : SObj} (hf : find id S.heap = some o) (hb : E.ρ id = some b) : ∃ x, w.heap[b]? = some x ∧ ORel E o x := by
  obtain ⟨b', x, h1, h2, h3⟩ := h.heap id _ hf
  rw [hb] at h1; cases h1
  exact ⟨x, h2, h3⟩
theorem choose_run (q : Question) (n : Nat) (hq : ∀ t, q.cut t < n ∨ q.forced = true) (hn : 0 < n) (w : World) :
    ∃ i w', i < n ∧ (choose q).run P w = .ok i w' ∧ w'.heap = w.heap ∧ w'.tape = w.tape ∧ w'.os = w.os ∧ w'.output = w.output := by
  rw [run_choose]
  cases hf : q.forced with
  | true => exact ⟨0, w, hn, by simp, rfl, rfl, rfl, rfl⟩
  | false =>
    refine ⟨q.cut (w.tape w.drawn q), { w with drawn := w.drawn + 1 }, ?_, by simp, rfl, rfl, rfl, rfl⟩
    rcases hq (w.tape w.drawn q) with h | h
    · exact h
    · rw [hf] at h; cases h
theorem evNext_ok (hr : Rel B G w0 E S w) {ty : TypeId} {it : SV} {str : Bool} {rs : List (SV × St)} {vi : Value} (h : evNext G S it str = some rs) (hi : it.den E = some vi) :
    DoesL B G w0 P E rs (Instr.next vi str ty) w := by
  unfold evNext at h
  split at h
  case h_2 => cases h
  rename_i id
  obtain ⟨b, hb, rfl⟩ := ptr_den hi
  split at h
  · -- a string
    rename_i s pos hf
    obtain ⟨x, hx, rfl⟩ := iter_at hr hf hb
    have hg := run_getObj_iter (P := P) hx (fun c e f => by simp)
    cases hlt : Nat.blt pos s.size && Nat.ble G id with
    | true =>
      rw [hlt] at h
      simp only [cond_true, Option.some.injEq] at h; subst h
      simp only [Bool.and_eq_true] at hlt
      have hlt' : pos < s.size := Nat.le_of_ble_eq_true hlt.1
      refine ⟨_, List.mem_cons_self, E, .tuple #[.bool true, goInt pos, .int .i32 (Utf8.decode s pos).1], _, E.le_refl,
        hr.wroteObj hf hb (Nat.le_of_ble_eq_true hlt.2) (x' := .stringIter s (pos + (Utf8.decode s pos).2)) rfl, ?_, ?_⟩
      · simp only [SV.den, SV.denL]
      · simp only [Instr.next, Sem.run_bind, hg, Result.andThen_ok, hlt', if_true, run_setObj_iter (P := P) hx (fun c e f => by simp), Sem.run_pure]
    | false =>
      rw [hlt] at h
      simp only [cond_false] at h
      cases hge : Nat.ble s.size pos with
      | false => rw [hge] at h; cases h
      | true =>
        rw [hge] at h
        simp only [cond_true, Option.some.injEq] at h; subst h
        have hge' : ¬ pos < s.size := by have := Nat.le_of_ble_eq_true hge; omega
        refine ⟨_, List.mem_cons_self, .here hr (v := .tuple #[.bool false]) (by simp only [SV.den, SV.denL]) ?_⟩
        simp only [Instr.next, Sem.run_bind, hg, Result.andThen_ok, hge', if_false, Sem.run_pure]
  · -- a map that is nil
    rename_i hf
    obtain ⟨x, hx, rfl⟩ := iter_at hr hf hb
    have hg := run_getObj_iter (P := P) hx (fun c e f => by simp)
    simp only [Option.some.injEq] at h; subst h
    refine ⟨_, List.mem_cons_self, .here hr (v := .tuple #[.bool false]) (by simp only [SV.den, SV.denL]) ?_⟩
    simp only [Instr.next, Sem.run_bind, hg, Result.andThen_ok, Sem.run_pure]
  · -- a map
    rename_i m since seen last hf
    split at h
    case h_2 => cases h
    rename_i es clock hfm
    obtain ⟨x, hx, bm, hbm, rfl⟩ := iter_at hr hf hb
    obtain ⟨l, hm, hl⟩ := map_at hr hfm hbm
    have hg := run_getObj_iter (P := P) hx (fun c e f => by simp)
    have hgm := run_getObj_map (P := P) hm
    cases hbad : (!seen.isEmpty && (!es.isEmpty && es.all fun e => decide (e.2.2 ≥ last))) || !Nat.ble G id with
    | true => rw [hbad] at h; cases h
    | false =>
      rw [hbad] at h
      simp only [cond_false, Option.some.injEq] at h; subst h
      simp only [Bool.or_eq_false_iff, Bool.not_eq_false'] at hbad
      obtain ⟨hbad, hG⟩ := hbad
      have hlen := hl.length
      have hemp : l.isEmpty = es.isEmpty := by cases es <;> cases l <;> first | rfl | (simp at hlen)
      have hbad' : (!seen.toArray.isEmpty && !l.toArray.isEmpty && l.toArray.all (fun e => decide (e.born ≥ last))) = false := by
        rw [List.isEmpty_toArray, List.isEmpty_toArray, List.all_toArray, hemp, all_born (p := fun n => decide (n ≥ last)) hl, Bool.and_assoc]
        exact hbad
      -- the candidates
      obtain ⟨L, hL⟩ : ∃ L : List MapEntry, L = l.filter fun e => !seen.contains e.born := ⟨_, rfl⟩
      obtain ⟨old, hold⟩ : ∃ o, o = L.filter fun e => decide (e.born < since) := ⟨_, rfl⟩
      obtain ⟨new, hnew⟩ : ∃ o, o = L.filter fun e => decide (e.born ≥ since) := ⟨_, rfl⟩
      have hLr : MRel E (es.filter fun e => !seen.contains e.2.2) L := hL ▸ hl.filter (p := fun n => !seen.contains n)
      have ho : MRel E ((es.filter fun e => !seen.contains e.2.2).filter fun e => decide (e.2.2 < since)) old := hold ▸ hLr.filter (p := fun n => decide (n < since))
      have hn : MRel E ((es.filter fun e => !seen.contains e.2.2).filter fun e => decide (e.2.2 ≥ since)) new := hnew ▸ hLr.filter (p := fun n => decide (n ≥ since))
      have hall : MRel E (leftOf es seen since) (old ++ new) := ho.append hn
      obtain ⟨cands, hc⟩ : ∃ c : List (Option MapEntry), c = (if old.isEmpty then [none] else []) ++ (old ++ new).map some := ⟨_, rfl⟩
      have hpos : 0 < cands.length := by
        rw [hc]
        cases old with
        | nil => simp
        | cons y ys => simp
      obtain ⟨i, w1, hi1, hch, e1, e2, e3, e4⟩ := choose_run (P := P) (.mapNext cands.length) cands.length (fun t => by
        by_cases hle : cands.length ≤ 1
        · exact .inr (by simp [Question.forced, hle])
        · exact .inl (by simp only [Question.cut]; exact Nat.mod_lt _ hpos)) hpos w
      have hr1 : Rel B G w0 E S w1 := hr.same e1 e2 e3 e4
      have hx1 : w1.heap[b]? = some (.mapIter (some bm) since seen.toArray last) := by rw [e1]; exact hx
      -- the run up to the choice
      have hrun : ∀ (r : Result Value), (match cands[i]? with
          | some (some e) => .ok (.tuple #[.bool true, e.key, e.val]) { w1 with heap := w1.heap.setIfInBounds b (.mapIter (some bm) since (seen.toArray.push e.born) clock) }
          | some none => .ok (.tuple #[.bool false]) w1
          | none => r) = r → (Instr.next (.pointer (some ⟨b, 0, none⟩)) false ty).run P w = r := fun r hr' => by
        have hcsz : ((if (Array.filter (fun e => decide (e.born < since)) (Array.filter (fun e => !seen.toArray.contains e.born) l.toArray)).isEmpty then #[none] else #[]) ++
            Array.map some ((Array.filter (fun e => decide (e.born < since)) (Array.filter (fun e => !seen.toArray.contains e.born) l.toArray)) ++ (Array.filter (fun e => decide (e.born ≥ since)) (Array.filter (fun e => !seen.toArray.contains e.born) l.toArray)))) = cands.toArray := by
          rw [hc]
          simp only [List.contains_toArray, List.filter_toArray, ← hL, ← hold, ← hnew, List.isEmpty_toArray, List.append_toArray, List.map_toArray]
          cases old.isEmpty <;> simp
        simp only [Instr.next, Sem.run_bind, hg, hgm, Result.andThen_ok, hbad', Bool.false_eq_true, if_false]
        rw [hcsz]
        simp only [List.size_toArray, hch, Result.andThen_ok, List.getElem?_toArray]
        rw [← hr']
        cases hci : cands[i]? with
        | none =>
          rw [List.getElem?_eq_getElem hi1] at hci; cases hci
        | some c =>
          cases c with
          | none => simp
          | some e => simp only [Sem.run_bind, run_setObj_iter (P := P) hx1 (fun c e f => by simp), Result.andThen_ok, Sem.run_pure]
      have hci := List.getElem?_eq_getElem hi1
      by_cases hno : cands[i] = none
      · -- over
        have hmem : old.isEmpty = true := by
          cases ho' : old.isEmpty with
          | true => rfl
          | false =>
            exfalso
            have : none ∈ cands := hno ▸ List.getElem_mem hi1
            rw [hc, ho'] at this
            simp at this
        have hne : (es.filter fun e => !seen.contains e.2.2 && decide (e.2.2 < since)).isEmpty = true := by
          have h1 := ho.length
          have h2 : old = [] := by simpa using hmem
          rw [h2, List.filter_filter] at h1
          simp only [List.length_nil] at h1
          have h3 := List.eq_nil_of_length_eq_zero h1.symm
          have : (es.filter fun e => !seen.contains e.2.2 && decide (e.2.2 < since)) = [] := by
            rw [← h3]
            exact List.filter_congr fun e _ => Bool.and_comm _ _
          rw [this]; rfl
        refine ⟨(SV.tuple [.val (.bool false)], S), List.mem_append_left _ (by rw [hne]; exact List.mem_cons_self), ?_⟩
        refine ⟨E, .tuple #[.bool false], w1, E.le_refl, hr1, by simp only [SV.den, SV.denL], hrun _ ?_⟩
        rw [hci, hno]
      · obtain ⟨e, he⟩ := Option.ne_none_iff_exists'.1 hno
        have hmem : e ∈ old ++ new := by
          have : some e ∈ cands := he ▸ List.getElem_mem hi1
          rw [hc] at this
          rcases List.mem_append.1 this with h' | h'
          · split at h' <;> simp at h'
          · obtain ⟨y, hy, hye⟩ := List.mem_map.1 h'
            cases hye
            exact hy
        obtain ⟨j, hj⟩ := List.getElem?_of_mem hmem
        obtain ⟨x', g1, g2, g3, g4⟩ := hall.get hj
        refine ⟨(SV.tuple [.val (.bool true), x'.1, x'.2.1], { S with heap := upd id (.miter (some m) since (seen ++ [x'.2.2]) clock) S.heap }),
          List.mem_append_right _ (List.mem_map.2 ⟨x', List.mem_of_getElem? g1, rfl⟩), ?_⟩
        refine ⟨E, .tuple #[.bool true, e.key, e.val], _, E.le_refl, hr1.wroteObj hf hb (Nat.le_of_ble_eq_true hG) (x' := .mapIter (some bm) since (seen.toArray.push e.born) clock) ⟨bm, hbm, by simp [g4]⟩, ?_, hrun _ ?_⟩
        · simp only [SV.den, SV.denL, g2, g3]
        · rw [hci, he]
  · cases h
def evEntry (S : St) (it : SV) : Option SV :=
  match it with
  | .ptr id 0 => match find id S.heap with
    | some (.miter (some m) _ seen stepped) => match seen.getLast?, find m S.heap with
      | some stamp, some (.map es clock) => bif Nat.beq clock stepped then
          match es.find? (fun e => Nat.beq e.2.2 stamp) with
          | some e => some (.tuple [e.1, e.2.1])
          | none => none
        else none
      | _, _ => none
    | _ => none
  | _ => none
theorem MRel.find {s : Nat} : ∀ {xs : List (SV × SV × Nat)} {ms : List MapEntry}, MRel E xs ms → ∀ {x : SV × SV × Nat}, xs.find? (fun e => Nat.beq e.2.2 s) = some x →
    ∃ m, ms.find? (fun e => e.born == s) = some m ∧ x.1.den E = some m.key ∧ x.2.1.den E = some m.val
  | [], [], _, x, h => by cases h
  | y :: xs, m :: ms, ⟨a, b, c, d⟩, x, h => by
    simp only [List.find?_cons] at h ⊢
    cases hb : Nat.beq y.2.2 s with
    | true =>
      rw [hb] at h
      simp only [Option.some.injEq] at h; subst h
      have : (m.born == s) = true := by rw [c]; exact beq_iff_eq.2 (Nat.eq_of_beq_eq_true hb)
      exact ⟨m, by simp [this], a, b⟩
    | false =>
      rw [hb] at h
      have : (m.born == s) = false := by
        rw [c, beq_eq_false_iff_ne]
        exact fun e => by rw [e] at hb; simp at hb
      obtain ⟨z, h1, h2⟩ := MRel.find d h
      exact ⟨z, by simp [this, h1], h2⟩
  | [], _ :: _, k, _, _ => k.elim
  | _ :: _, [], k, _, _ => k.elim
theorem evEntry_ok (hr : Rel B G w0 E S w) {it sv : SV} {vi : Value} (h : evEntry S it = some sv) (hi : it.den E = some vi) : Does B G w0 P E sv S (Instr.entry vi) w := by
  unfold evEntry at h
  split at h
  case h_2 => cases h
  rename_i id
  obtain ⟨b, hb, rfl⟩ := ptr_den hi
  split at h
  case h_2 => cases h
  rename_i m since seen stepped hf
  split at h
  case h_2 => cases h
  rename_i stamp es clock hs hfm
  obtain ⟨x, hx, bm, hbm, rfl⟩ := iter_at hr hf hb
  obtain ⟨l, hm, hl⟩ := map_at hr hfm hbm
  have hg := run_getObj_iter (P := P) hx (fun c e f => by simp)
  have hgm := run_getObj_map (P := P) hm
  cases hck : Nat.beq clock stepped with
  | false => rw [hck] at h; cases h
  | true =>
    have hck' := Nat.eq_of_beq_eq_true hck
    rw [hck] at h
    simp only [cond_true] at h
    split at h
    · rename_i e he
      simp only [Option.some.injEq] at h; subst h
      obtain ⟨z, h1, h2, h3⟩ := hl.find he
      refine .here hr (tuple2_den h2 h3) ?_
      have hback : seen.toArray.back? = some stamp := by simpa using hs
      have hfind : l.toArray.find? (fun e => e.born == stamp) = some z := by simpa using h1
      simp [Instr.entry, hg, hgm, hback, hck', hfind]
    · cases h
end
end Go.Ev
namespace Go.Ev
open Go.RowKit (Below)
section
variable {B G : Nat} {w0 : Start} {E : Env} {S : St} {w : World} {P : Program}
def isU8 : Option TypeDesc → Bool
  | some (.int .u8) => true
  | _ => false
theorem isU8_eq {d : Option TypeDesc} (h : isU8 d = true) : d = some (.int .u8) := by
  unfold isU8 at h; split at h
  · rfl
  · cases h
def byteOf : SV → Option UInt8
  | .val (.int .u8 (.ofNat n)) => some (UInt8.ofNat n)
  | _ => none
def bytesOf : List SV → Option (List UInt8)
  | [] => some []
  | x :: r => match byteOf x, bytesOf r with
    | some b, some l => some (b :: l)
    | _, _ => none
theorem bytes_loop {xs : List SV} {l : List Value} {bs : List UInt8} (h : bytesOf xs = some bs) (hl : SV.denL E xs = some l) (w : World) : ∀ s : ByteArray,
    ((forIn (m := Sem) l s fun c s => do
      match c with
      | .int .u8 n => pure (.yield (s.push (UInt8.ofNat n.toNat)))
      | _ => do
        stuck "bytesToString: byte expected"
        pure (.yield s)) : Sem ByteArray).run P w = .ok ⟨(s.data.toList ++ bs).toArray⟩ w := by
  induction xs generalizing l bs with
  | nil =>
    intro s
    simp only [SV.denL, Option.some.injEq] at hl; subst hl
    simp only [bytesOf, Option.some.injEq] at h; subst h
    simp
  | cons x r ih =>
    intro s
    obtain ⟨v, l', h1, h2, rfl⟩ := denL_cons hl
    simp only [bytesOf] at h
    split at h
    · rename_i b bl hb hbl
      simp only [Option.some.injEq] at h; subst h
      unfold byteOf at hb
      split at hb
      · rename_i n
        simp only [Option.some.injEq] at hb; subst hb
        simp only [SV.den, Option.some.injEq] at h1; subst h1
        rw [List.forIn_cons]
        simp only [Sem.run_bind, Sem.run_pure, Result.andThen_ok]
        rw [ih hbl h2]
        congr 2
        apply Array.ext'
        simp [ByteArray.push]
      · cases hb
    · cases h
def evConvert (P : Program) (S : St) (src dst : TypeId) (x : SV) : Option (SV × St) :=
  match P.underlying src, P.underlying dst, x with
  | some .string, some (.slice e), .val (.string s) =>
    bif isU8 (P.underlying e) && Nat.ble s.size 4611686018427387904 then
      some (.slice S.next 0 s.size (.v S.ncap), newGrownS S e ((bytesL s).map .val) 1 s.size)
    else none
  | some (.slice e), some .string, .slice id off len _ =>
    bif isU8 (P.underlying e) then
      match find id S.heap with
      | some (.row cs _ _ _) => bif Nat.ble (off + len) cs.length then
          match bytesOf ((cs.drop off).take len) with
          | some bs => some (.val (.string ⟨bs.toArray⟩), S)
          | none => none
        else none
      | _ => none
    else none
  | some (.slice e), some .string, .val (.slice none _ _) => bif isU8 (P.underlying e) then some (.val (.string .empty), S) else none
  | _, _, _ => none
theorem evConvert_ok (hr : Rel B G w0 E S w) {src dst : TypeId} {x sv : SV} {S' : St} {vx : Value} (h : evConvert P S src dst x = some (sv, S')) (hx : x.den E = some vx) :
    Does B G w0 P E sv S' (convert src dst vx) w := by
  unfold evConvert at h
  split at h
  · rename_i e s hs hd
    cases hok : isU8 (P.underlying e) && Nat.ble s.size 4611686018427387904 with
    | false => rw [hok] at h; cases h
    | true =>
      rw [hok] at h
      simp only [cond_true, Option.some.injEq, Prod.mk.injEq] at h
      obtain ⟨rfl, rfl⟩ := h
      simp only [Bool.and_eq_true] at hok
      have hu := isU8_eq hok.1
      simp only [SV.den, Option.some.injEq] at hx; subst hx
      obtain ⟨c, hc1, hc2⟩ : ∃ c, s.size ≤ c ∧ c = (Question.appendCap s.size 0 e).cut (w.tape w.drawn (.appendCap s.size 0 e)) := ⟨_, by simp [Question.cut], rfl⟩
      have hsz : s.data.size = s.size := rfl
      have hlen : (bytesL s).length = s.size := by simp [bytesL, hsz]
      obtain ⟨k1, k2⟩ := newCap_ok hr (low := s.size) (n := c) hc1
      have hle := (E.cap S.ncap c).place_le w.heap.size (k2.newρ S.next (Nat.le_refl _))
      obtain ⟨h1, h2⟩ := k2.pushed (o := .row ((bytesL s).map .val) e true (some (S.ncap, 1))) (x := .cells (bytesL s ++ List.replicate (c - s.size) (Value.int .u8 0)).toArray e (c, c + 1))
        (w' := { w with drawn := w.drawn + 1, heap := w.heap.push (.cells (bytesL s ++ List.replicate (c - s.size) (Value.int .u8 0)).toArray e (c, c + 1)) }) rfl rfl rfl rfl
        ⟨_, List.replicate (c - s.size) (Value.int .u8 0), c, (c, c + 1), denL_vals _, hle.κ _ _ (Env.cap_self E _ c), by simp [hlen]; omega, rfl, fun _ i hi => by
          simp [hlen] at hi ⊢; omega⟩
      refine ⟨_, .slice (some ⟨w.heap.size, 0, none⟩) s.size c, _, Env.le_trans k1 h1, h2, ?_, ?_⟩
      · have p1 := Env.place_self (E.cap S.ncap c) S.next w.heap.size
        have p2 := hle.κ _ _ (Env.cap_self E S.ncap c)
        simp only [SV.den, Cap.den]
        rw [show (newCapS S s.size).next = S.next from rfl, p1, p2]
      · simp only [convert, Sem.run_bind, run_underlying hs, run_underlying hd, run_underlying hu, Result.andThen_ok, Conv.stringToBytes, run_choose, Question.forced, Bool.false_eq_true, if_false, ← hc2, newRow, run_newObj, Sem.run_pure, markStringish, run_shape]
        have hsh : ({ w with drawn := w.drawn + 1, heap := w.heap.push (.cells (Array.map (fun b => Value.int IntKind.u8 (b.toNat : Int)) s.data ++ Array.replicate (c - s.size) (Value.int .u8 0)) e) } : World).shape? w.heap.size = some (e, c) := by
          simp [World.shape?, hsz]; omega
        simp only [hsh, run_freeze, Result.andThen_ok]
        congr 1
        simp only [World.freeze, Nat.one_ne_zero, if_false]
        congr 1
        have : (Array.map (fun b => Value.int IntKind.u8 (b.toNat : Int)) s.data ++ Array.replicate (c - s.size) (Value.int .u8 0)) = (bytesL s ++ List.replicate (c - s.size) (Value.int .u8 0)).toArray := by
          apply Array.ext'; simp [bytesL]
        rw [this]
        apply Array.ext_getElem?
        intro i
        simp only [Array.getElem?_modify, Array.getElem?_push]
        by_cases hi : w.heap.size = i
        · subst hi; simp
        · have hi' : ¬ i = w.heap.size := fun e => hi e.symm
          simp [hi, hi']
  · rename_i e id off len cp hs hd
    cases hu : isU8 (P.underlying e) with
    | false => rw [hu] at h; cases h
    | true =>
      rw [hu] at h
      simp only [cond_true] at h
      have hu := isU8_eq hu
      split at h
      · rename_i cs e' wr ext hf
        cases hle : Nat.ble (off + len) cs.length with
        | false => rw [hle] at h; cases h
        | true =>
          rw [hle] at h
          simp only [cond_true] at h
          split at h
          · rename_i bs hbs
            simp only [Option.some.injEq, Prod.mk.injEq] at h
            obtain ⟨rfl, rfl⟩ := h
            have hle := Nat.le_of_ble_eq_true hle
            obtain ⟨b, m, hb, -, rfl⟩ := slice_den hx
            obtain ⟨l, r, fz, hh, hl, -, -, -⟩ := row_at hr hf hb
            have hlen := denL_length hl
            have hrun := loads_run (P := P) hh (off := off) (n := len) (by simp; omega)
            rw [show ((l ++ r).drop off).take len = (l.drop off).take len by rw [List.drop_append_of_le_length (by omega), List.take_append_of_le_length (by simp; omega)]] at hrun
            have hloop := bytes_loop (P := P) hbs (denL_take len (denL_drop off hl)) w .empty
            refine .here hr (v := .string ⟨bs.toArray⟩) (by simp only [SV.den]) ?_
            simp only [convert, Sem.run_bind, run_underlying hs, run_underlying hd, run_underlying hu, Result.andThen_ok, Conv.bytesToString, hrun, List.forIn_toArray]
            refine (congrArg (fun r => Result.andThen r _) hloop).trans ?_
            simp
          · cases h
      · cases h
  · rename_i e len c hs hd
    cases hu : isU8 (P.underlying e) with
    | false => rw [hu] at h; cases h
    | true =>
      rw [hu] at h
      simp only [cond_true, Option.some.injEq, Prod.mk.injEq] at h
      obtain ⟨rfl, rfl⟩ := h
      have hu := isU8_eq hu
      simp only [SV.den, Option.some.injEq] at hx; subst hx
      refine .here hr (v := .string .empty) (by simp only [SV.den]) ?_
      simp only [convert, Sem.run_bind, run_underlying hs, run_underlying hd, run_underlying hu, Result.andThen_ok, Conv.bytesToString, Sem.run_pure]
  · cases h
def nilAns (P : Program) (t : TypeId) (x y : SV) : Bool :=
  match P.underlying t, x, y with
  | some (.pointer _), .ptr _ _, .val (.pointer none) => true
  | some (.pointer _), .val (.pointer none), .ptr _ _ => true
  | some (.slice _), .slice _ _ _ _, .val (.slice none _ _) => true
  | some (.slice _), .val (.slice none _ _), .slice _ _ _ _ => true
  | some (.map _ _), .map _, .val (.map none) => true
  | some (.map _ _), .val (.map none), .map _ => true
  | some (.func _ _ _), .func _ _ _, .val .nilFunc => true
  | some (.func _ _ _), .val .nilFunc, .func _ _ _ => true
  | some (.interface _), .iface _ _, .val .nilIface => true
  | some (.interface _), .val .nilIface, .iface _ _ => true
  | _, _, _ => false
def evNil (P : Program) (op : BinOp) (t : TypeId) (x y : SV) : Option SV :=
  bif nilAns P t x y then
    match op with
    | .eql => some (.val (.bool false))
    | .neq => some (.val (.bool true))
    | _ => none
  else none
theorem func_den {fn : Fn} {a b : List SV} {v : Value} (h : (SV.func fn a b).den E = some v) : ∃ x y, v = .func fn x y := by
  simp only [SV.den] at h; split at h
  · simp only [Option.some.injEq] at h; exact ⟨_, _, h.symm⟩
  · cases h
theorem iface_den {t : TypeId} {x : SV} {v : Value} (h : (SV.iface t x).den E = some v) : ∃ u, x.den E = some u ∧ v = .iface t u := by
  simp only [SV.den] at h; split at h
  · rename_i u hu; simp only [Option.some.injEq] at h; exact ⟨u, hu, h.symm⟩
  · cases h
theorem eqIn_ptrL (d : Nat) {t : TypeId} {e : TypeId} (a : Addr) (hu : P.underlying t = some (TypeDesc.pointer e)) (w : World) : (Op.equalIn (d + 1) t (.pointer (some a)) (.pointer none)).run P w = .ok false w := by simp [Op.equalIn, run_underlying hu]
theorem eqIn_ptrR (d : Nat) {t : TypeId} {e : TypeId} (a : Addr) (hu : P.underlying t = some (TypeDesc.pointer e)) (w : World) : (Op.equalIn (d + 1) t (.pointer none) (.pointer (some a))).run P w = .ok false w := by simp [Op.equalIn, run_underlying hu]
theorem eqIn_sliceL (d : Nat) {t : TypeId} {e : TypeId} (a : Addr) (n c m k : Nat) (hu : P.underlying t = some (TypeDesc.slice e)) (w : World) : (Op.equalIn (d + 1) t (.slice (some a) n c) (.slice none m k)).run P w = .ok false w := by simp [Op.equalIn, run_underlying hu]
theorem eqIn_sliceR (d : Nat) {t : TypeId} {e : TypeId} (a : Addr) (n c m k : Nat) (hu : P.underlying t = some (TypeDesc.slice e)) (w : World) : (Op.equalIn (d + 1) t (.slice none m k) (.slice (some a) n c)).run P w = .ok false w := by simp [Op.equalIn, run_underlying hu]
theorem eqIn_mapL (d : Nat) {t : TypeId} {q e : TypeId} (a : Nat) (hu : P.underlying t = some (TypeDesc.map q e)) (w : World) : (Op.equalIn (d + 1) t (.map (some a)) (.map none)).run P w = .ok false w := by simp [Op.equalIn, run_underlying hu]
theorem eqIn_mapR (d : Nat) {t : TypeId} {q e : TypeId} (a : Nat) (hu : P.underlying t = some (TypeDesc.map q e)) (w : World) : (Op.equalIn (d + 1) t (.map none) (.map (some a))).run P w = .ok false w := by simp [Op.equalIn, run_underlying hu]
theorem eqIn_funcL (d : Nat) {t : TypeId} {q r : Array TypeId} {z : Bool} (f : Fn) (a b : Array Value) (hu : P.underlying t = some (TypeDesc.func q r z)) (w : World) : (Op.equalIn (d + 1) t (.func f a b) .nilFunc).run P w = .ok false w := by simp [Op.equalIn, run_underlying hu]
theorem eqIn_funcR (d : Nat) {t : TypeId} {q r : Array TypeId} {z : Bool} (f : Fn) (a b : Array Value) (hu : P.underlying t = some (TypeDesc.func q r z)) (w : World) : (Op.equalIn (d + 1) t .nilFunc (.func f a b)).run P w = .ok false w := by simp [Op.equalIn, run_underlying hu]
theorem eqIn_ifaceL (d : Nat) {t : TypeId} {q : Array (String × TypeId)} (u : TypeId) (a : Value) (hu : P.underlying t = some (TypeDesc.interface q)) (w : World) : (Op.equalIn (d + 1) t (.iface u a) .nilIface).run P w = .ok false w := by simp [Op.equalIn, run_underlying hu]
theorem eqIn_ifaceR (d : Nat) {t : TypeId} {q : Array (String × TypeId)} (u : TypeId) (a : Value) (hu : P.underlying t = some (TypeDesc.interface q)) (w : World) : (Op.equalIn (d + 1) t .nilIface (.iface u a)).run P w = .ok false w := by simp [Op.equalIn, run_underlying hu]
theorem nilAns_ok {t : TypeId} {x y : SV} {ox oy : Operand} {vx vy : Value} (h : nilAns P t x y = true) (hx : x.den E = some vx) (hy : y.den E = some vy) :
    (∀ w : World, (Op.equal t vx vy).run P w = .ok false w) ∧ (eqGuard .eql t ox oy vx vy = pure () ∧ eqGuard .neq t ox oy vx vy = pure ()) ∧
    (binOp .eql t vx vy = do pure (.bool (← Op.equal t vx vy))) ∧ (binOp .neq t vx vy = do pure (.bool (!(← Op.equal t vx vy)))) := by
  unfold nilAns at h
  split at h
  · rename_i hu
    obtain ⟨b, _, rfl⟩ := ptr_den hx
    simp only [SV.den, Option.some.injEq] at hy; subst hy
    exact ⟨fun w => eqIn_ptrL 9999 _ hu w, ⟨rfl, rfl⟩, rfl, rfl⟩
  · rename_i hu
    obtain ⟨b, _, rfl⟩ := ptr_den hy
    simp only [SV.den, Option.some.injEq] at hx; subst hx
    exact ⟨fun w => eqIn_ptrR 9999 _ hu w, ⟨rfl, rfl⟩, rfl, rfl⟩
  · rename_i hu
    obtain ⟨b, q, _, _, rfl⟩ := slice_den hx
    simp only [SV.den, Option.some.injEq] at hy; subst hy
    exact ⟨fun w => eqIn_sliceL 9999 _ _ _ _ _ hu w, ⟨rfl, rfl⟩, rfl, rfl⟩
  · rename_i hu
    obtain ⟨b, q, _, _, rfl⟩ := slice_den hy
    simp only [SV.den, Option.some.injEq] at hx; subst hx
    exact ⟨fun w => eqIn_sliceR 9999 _ _ _ _ _ hu w, ⟨rfl, rfl⟩, rfl, rfl⟩
  · rename_i hu
    obtain ⟨b, _, rfl⟩ := map_den hx
    simp only [SV.den, Option.some.injEq] at hy; subst hy
    exact ⟨fun w => eqIn_mapL 9999 _ hu w, ⟨rfl, rfl⟩, rfl, rfl⟩
  · rename_i hu
    obtain ⟨b, _, rfl⟩ := map_den hy
    simp only [SV.den, Option.some.injEq] at hx; subst hx
    exact ⟨fun w => eqIn_mapR 9999 _ hu w, ⟨rfl, rfl⟩, rfl, rfl⟩
  · rename_i hu
    obtain ⟨a, b, rfl⟩ := func_den hx
    simp only [SV.den, Option.some.injEq] at hy; subst hy
    exact ⟨fun w => eqIn_funcL 9999 _ _ _ hu w, ⟨rfl, rfl⟩, rfl, rfl⟩
  · rename_i hu
    obtain ⟨a, b, rfl⟩ := func_den hy
    simp only [SV.den, Option.some.injEq] at hx; subst hx
    exact ⟨fun w => eqIn_funcR 9999 _ _ _ hu w, ⟨rfl, rfl⟩, rfl, rfl⟩
  · rename_i hu
    obtain ⟨a, _, rfl⟩ := iface_den hx
    simp only [SV.den, Option.some.injEq] at hy; subst hy
    exact ⟨fun w => eqIn_ifaceL 9999 _ _ hu w, ⟨rfl, rfl⟩, rfl, rfl⟩
  · rename_i hu
    obtain ⟨a, _, rfl⟩ := iface_den hy
    simp only [SV.den, Option.some.injEq] at hx; subst hx
    exact ⟨fun w => eqIn_ifaceR 9999 _ _ hu w, ⟨rfl, rfl⟩, rfl, rfl⟩
  · cases h
theorem evNil_ok {op : BinOp} {t : TypeId} {x y sv : SV} {ox oy : Operand} {vx vy : Value} (h : evNil P op t x y = some sv) (hx : x.den E = some vx) (hy : y.den E = some vy) :
    Quiet P E sv (do eqGuard op t ox oy vx vy; binOp op t vx vy) := by
  unfold evNil at h
  cases hn : nilAns P t x y with
  | false => rw [hn] at h; cases h
  | true =>
    rw [hn] at h
    simp only [cond_true] at h
    obtain ⟨h1, ⟨h2, h3⟩, h4, h5⟩ := nilAns_ok (P := P) (ox := ox) (oy := oy) hn hx hy
    split at h
    · simp only [Option.some.injEq] at h; subst h
      exact .mk (v := .bool false) (by simp only [SV.den]) fun w => by simp only [h2, h4, Sem.run_bind, Sem.run_pure, Result.andThen_ok, h1]
    · simp only [Option.some.injEq] at h; subst h
      exact .mk (v := .bool true) (by simp only [SV.den]) fun w => by simp only [h3, h5, Sem.run_bind, Sem.run_pure, Result.andThen_ok, h1, Bool.not_false]
    · cases h
end
end Go.Ev
