/- Ranges, conversions, nil, functions, interfaces; the operations all together. -/
import Derived.Test.YtlpbimookmhjbaaGreatDoorEvMap
namespace Go.Ev
open Go.RowKit (Below)

section
variable {B G : Nat} {w0 : Start} {E : Env} {S : St} {w : World} {P : Program}

/-! ### Ranges -/
def pushObj (S : St) (o : SObj) : St := { S with heap := (S.next, o) :: S.heap, next := S.next + 1 }

def evRange (P : Program) (S : St) (t : TypeId) (x : SV) : Option (SV × St) :=
  match P.underlying t, x with
  | some .string, .val (.string s) => some (.ptr S.next 0, pushObj S (.siter s 0))
  | some (.map _ _), .val (.map none) => some (.ptr S.next 0, pushObj S (.miter none 0 [] 0))
  | some (.map _ _), .map id => match find id S.heap with
    | some (.map _ clock) => some (.ptr S.next 0, pushObj S (.miter (some id) clock [] clock))
    | _ => none
  | _, _ => none

theorem evRange_ok (hr : Rel B G w0 E S w) {t : TypeId} {x sv : SV} {S' : St} {vx : Value} (h : evRange P S t x = some (sv, S')) (hx : x.den E = some vx) :
    Does B G w0 P E sv S' (Instr.range t vx) w := by
  have fin : ∀ (o : SObj) (ob : Obj), (∀ F : Env, E.le F → ORel F o ob) → (Instr.range t vx).run P w = .ok (.pointer (some ⟨w.heap.size, 0, none⟩)) { w with heap := w.heap.push ob } →
      Does B G w0 P E (.ptr S.next 0) (pushObj S o) (Instr.range t vx) w := fun o ob ho hrun => by
    have hle := E.place_le w.heap.size (hr.newρ S.next (Nat.le_refl _))
    obtain ⟨h1, h2⟩ := hr.pushed (o := o) (x := ob) (w' := { w with heap := w.heap.push ob }) rfl rfl rfl rfl (ho _ hle)
    exact ⟨_, _, _, h1, h2, by simp only [SV.den, Env.place_self], hrun⟩
  unfold evRange at h
  split at h
  · rename_i s hu
    simp only [Option.some.injEq, Prod.mk.injEq] at h
    obtain ⟨rfl, rfl⟩ := h
    simp only [SV.den, Option.some.injEq] at hx; subst hx
    exact fin _ (.stringIter s 0) (fun _ _ => rfl) (by simp [Instr.range, run_underlying hu])
  · rename_i k e hu
    simp only [Option.some.injEq, Prod.mk.injEq] at h
    obtain ⟨rfl, rfl⟩ := h
    simp only [SV.den, Option.some.injEq] at hx; subst hx
    exact fin _ (.mapIter none 0 #[] 0) (fun _ _ => rfl) (by simp [Instr.range, run_underlying hu])
  · rename_i k e id hu
    split at h
    · rename_i es clock hf
      simp only [Option.some.injEq, Prod.mk.injEq] at h
      obtain ⟨rfl, rfl⟩ := h
      obtain ⟨b, hb, rfl⟩ := map_den hx
      obtain ⟨l, h1, h2⟩ := map_at hr hf hb
      exact fin _ (.mapIter (some b) clock #[] clock) (fun F hF => ⟨b, hF.ρ _ _ hb, rfl⟩) (by simp [Instr.range, run_underlying hu, run_getObj_map h1])
    · cases h
  · cases h

/-- The entries that an iterator may come to. -/
def leftOf (es : List (SV × SV × Nat)) (seen : List Nat) (since : Nat) : List (SV × SV × Nat) :=
  let left := es.filter fun e => !seen.contains e.2.2
  (left.filter fun e => decide (e.2.2 < since)) ++ (left.filter fun e => decide (e.2.2 ≥ since))

def evNext (G : Nat) (S : St) (it : SV) (str : Bool) : Option (List (SV × St)) :=
  match it with
  | .ptr id 0 => match find id S.heap, str with
    | some (.siter s pos), true =>
      bif Nat.blt pos s.size && Nat.ble G id then
        let (c, width) := Utf8.decode s pos
        some [(.tuple [.val (.bool true), .val (goInt pos), .val (.int .i32 c)], { S with heap := upd id (.siter s (pos + width)) S.heap })]
      else bif Nat.ble s.size pos then some [(.tuple [.val (.bool false)], S)] else none
    | some (.miter none _ _ _), false => some [(.tuple [.val (.bool false)], S)]
    | some (.miter (some m) since seen last), false => match find m S.heap with
      | some (.map es clock) =>
        bif (!seen.isEmpty && (!es.isEmpty && es.all fun e => decide (e.2.2 ≥ last))) || !Nat.ble G id then none else
        some ((bif (es.filter fun e => !seen.contains e.2.2 && decide (e.2.2 < since)).isEmpty then [(SV.tuple [.val (.bool false)], S)] else []) ++
          (leftOf es seen since).map fun e => (SV.tuple [.val (.bool true), e.1, e.2.1], { S with heap := upd id (.miter (some m) since (seen ++ [e.2.2]) clock) S.heap }))
      | _ => none
    | _, _ => none
  | _ => none

def DoesL (B G : Nat) (w0 : Start) (P : Program) (E : Env) (rs : List (SV × St)) (m : Sem Value) (w : World) : Prop := ∃ p ∈ rs, Does B G w0 P E p.1 p.2 m w

theorem MRel.filter {p : Nat → Bool} : ∀ {xs : List (SV × SV × Nat)} {ms : List MapEntry}, MRel E xs ms → MRel E (xs.filter fun e => p e.2.2) (ms.filter fun m => p m.born)
  | [], [], _ => trivial
  | x :: xs, m :: ms, ⟨a, b, c, d⟩ => by
    have ih := MRel.filter (p := p) d
    simp only [List.filter_cons]
    rw [c]
    split
    · exact ⟨a, b, c, ih⟩
    · exact ih
  | [], _ :: _, k => k.elim
  | _ :: _, [], k => k.elim

theorem MRel.append : ∀ {xs ys : List (SV × SV × Nat)} {ms ns : List MapEntry}, MRel E xs ms → MRel E ys ns → MRel E (xs ++ ys) (ms ++ ns)
  | [], _, [], _, _, k => k
  | _ :: _, _, _ :: _, _, ⟨a, b, c, d⟩, k => ⟨a, b, c, d.append k⟩
  | [], _, _ :: _, _, k, _ => k.elim
  | _ :: _, _, [], _, k, _ => k.elim

theorem run_getObj_iter {b : Nat} {o : Obj} (h : w.heap[b]? = some o) (hc : ∀ c e f, o ≠ .cells c e f) : (getObj b).run P w = .ok o w := by
  simp only [getObj, Sem.run, h]

theorem run_setObj_iter {b : Nat} {o o' : Obj} (h : w.heap[b]? = some o) (hc : ∀ c e f, o ≠ .cells c e f) : (setObj b o').run P w = .ok () { w with heap := w.heap.setIfInBounds b o' } := by
  simp only [setObj, Sem.run, h]

theorem all_born {es : List (SV × SV × Nat)} {l : List MapEntry} {p : Nat → Bool} (h : MRel E es l) : l.all (fun e => p e.born) = es.all fun e => p e.2.2 := by
  induction es generalizing l with
  | nil => cases l with
    | nil => rfl
    | cons => exact h.elim
  | cons x xs ih => cases l with
    | nil => exact h.elim
    | cons m ms => obtain ⟨_, _, c, d⟩ := h; simp [ih d, c]

theorem iter_at (h : Rel B G w0 E S w) {id b : Nat} {o : SObj} (hf : find id S.heap = some o) (hb : E.ρ id = some b) : ∃ x, w.heap[b]? = some x ∧ ORel E o x := by
  obtain ⟨b', x, h1, h2, h3⟩ := h.heap id _ hf
  rw [hb] at h1; cases h1
  exact ⟨x, h2, h3⟩

theorem choose_run (q : Question) (n : Nat) (hq : ∀ t, q.cut t < n ∨ q.forced = true) (hn : 0 < n) (w : World) :
    ∃ i w', i < n ∧ (choose q).run P w = .ok i w' ∧ w'.heap = w.heap ∧ w'.tape = w.tape ∧ w'.os = w.os ∧ w'.output = w.output := by
  rw [run_choose]
  cases hf : q.forced with
  | true => exact ⟨0, w, hn, by simp, rfl, rfl, rfl, rfl⟩
  | false =>
    refine ⟨q.cut (w.tape w.drawn q), { w with drawn := w.drawn + 1 }, ?_, by simp, rfl, rfl, rfl, rfl⟩
    rcases hq (w.tape w.drawn q) with h | h
    · exact h
    · rw [hf] at h; cases h

theorem evNext_ok (hr : Rel B G w0 E S w) {ty : TypeId} {it : SV} {str : Bool} {rs : List (SV × St)} {vi : Value} (h : evNext G S it str = some rs) (hi : it.den E = some vi) :
    DoesL B G w0 P E rs (Instr.next vi str ty) w := by
  unfold evNext at h
  split at h
  case h_2 => cases h
  rename_i id
  obtain ⟨b, hb, rfl⟩ := ptr_den hi
  split at h
  · -- a string
    rename_i s pos hf
    obtain ⟨x, hx, rfl⟩ := iter_at hr hf hb
    have hg := run_getObj_iter (P := P) hx (fun c e f => by simp)
    cases hlt : Nat.blt pos s.size && Nat.ble G id with
    | true =>
      rw [hlt] at h
      simp only [cond_true, Option.some.injEq] at h; subst h
      simp only [Bool.and_eq_true] at hlt
      have hlt' : pos < s.size := Nat.le_of_ble_eq_true hlt.1
      refine ⟨_, List.mem_cons_self, E, .tuple #[.bool true, goInt pos, .int .i32 (Utf8.decode s pos).1], _, E.le_refl,
        hr.wroteObj hf hb (Nat.le_of_ble_eq_true hlt.2) (x' := .stringIter s (pos + (Utf8.decode s pos).2)) rfl, ?_, ?_⟩
      · simp only [SV.den, SV.denL]
      · simp only [Instr.next, Sem.run_bind, hg, Result.andThen_ok, hlt', if_true, run_setObj_iter (P := P) hx (fun c e f => by simp), Sem.run_pure]
    | false =>
      rw [hlt] at h
      simp only [cond_false] at h
      cases hge : Nat.ble s.size pos with
      | false => rw [hge] at h; cases h
      | true =>
        rw [hge] at h
        simp only [cond_true, Option.some.injEq] at h; subst h
        have hge' : ¬ pos < s.size := by have := Nat.le_of_ble_eq_true hge; omega
        refine ⟨_, List.mem_cons_self, .here hr (v := .tuple #[.bool false]) (by simp only [SV.den, SV.denL]) ?_⟩
        simp only [Instr.next, Sem.run_bind, hg, Result.andThen_ok, hge', if_false, Sem.run_pure]
  · -- a map that is nil
    rename_i hf
    obtain ⟨x, hx, rfl⟩ := iter_at hr hf hb
    have hg := run_getObj_iter (P := P) hx (fun c e f => by simp)
    simp only [Option.some.injEq] at h; subst h
    refine ⟨_, List.mem_cons_self, .here hr (v := .tuple #[.bool false]) (by simp only [SV.den, SV.denL]) ?_⟩
    simp only [Instr.next, Sem.run_bind, hg, Result.andThen_ok, Sem.run_pure]
  · -- a map
    rename_i m since seen last hf
    split at h
    case h_2 => cases h
    rename_i es clock hfm
    obtain ⟨x, hx, bm, hbm, rfl⟩ := iter_at hr hf hb
    obtain ⟨l, hm, hl⟩ := map_at hr hfm hbm
    have hg := run_getObj_iter (P := P) hx (fun c e f => by simp)
    have hgm := run_getObj_map (P := P) hm
    cases hbad : (!seen.isEmpty && (!es.isEmpty && es.all fun e => decide (e.2.2 ≥ last))) || !Nat.ble G id with
    | true => rw [hbad] at h; cases h
    | false =>
      rw [hbad] at h
      simp only [cond_false, Option.some.injEq] at h; subst h
      simp only [Bool.or_eq_false_iff, Bool.not_eq_false'] at hbad
      obtain ⟨hbad, hG⟩ := hbad
      have hlen := hl.length
      have hemp : l.isEmpty = es.isEmpty := by cases es <;> cases l <;> first | rfl | (simp at hlen)
      have hbad' : (!seen.toArray.isEmpty && !l.toArray.isEmpty && l.toArray.all (fun e => decide (e.born ≥ last))) = false := by
        rw [List.isEmpty_toArray, List.isEmpty_toArray, List.all_toArray, hemp, all_born (p := fun n => decide (n ≥ last)) hl, Bool.and_assoc]
        exact hbad
      -- the candidates
      obtain ⟨L, hL⟩ : ∃ L : List MapEntry, L = l.filter fun e => !seen.contains e.born := ⟨_, rfl⟩
      obtain ⟨old, hold⟩ : ∃ o, o = L.filter fun e => decide (e.born < since) := ⟨_, rfl⟩
      obtain ⟨new, hnew⟩ : ∃ o, o = L.filter fun e => decide (e.born ≥ since) := ⟨_, rfl⟩
      have hLr : MRel E (es.filter fun e => !seen.contains e.2.2) L := hL ▸ hl.filter (p := fun n => !seen.contains n)
      have ho : MRel E ((es.filter fun e => !seen.contains e.2.2).filter fun e => decide (e.2.2 < since)) old := hold ▸ hLr.filter (p := fun n => decide (n < since))
      have hn : MRel E ((es.filter fun e => !seen.contains e.2.2).filter fun e => decide (e.2.2 ≥ since)) new := hnew ▸ hLr.filter (p := fun n => decide (n ≥ since))
      have hall : MRel E (leftOf es seen since) (old ++ new) := ho.append hn
      obtain ⟨cands, hc⟩ : ∃ c : List (Option MapEntry), c = (if old.isEmpty then [none] else []) ++ (old ++ new).map some := ⟨_, rfl⟩
      have hpos : 0 < cands.length := by
        rw [hc]
        cases old with
        | nil => simp
        | cons y ys => simp
      obtain ⟨i, w1, hi1, hch, e1, e2, e3, e4⟩ := choose_run (P := P) (.mapNext cands.length) cands.length (fun t => by
        by_cases hle : cands.length ≤ 1
        · exact .inr (by simp [Question.forced, hle])
        · exact .inl (by simp only [Question.cut]; exact Nat.mod_lt _ hpos)) hpos w
      have hr1 : Rel B G w0 E S w1 := hr.same e1 e2 e3 e4
      have hx1 : w1.heap[b]? = some (.mapIter (some bm) since seen.toArray last) := by rw [e1]; exact hx
      -- the run up to the choice
      have hrun : ∀ (r : Result Value), (match cands[i]? with
          | some (some e) => .ok (.tuple #[.bool true, e.key, e.val]) { w1 with heap := w1.heap.setIfInBounds b (.mapIter (some bm) since (seen.toArray.push e.born) clock) }
          | some none => .ok (.tuple #[.bool false]) w1
          | none => r) = r → (Instr.next (.pointer (some ⟨b, 0, none⟩)) false ty).run P w = r := fun r hr' => by
        have hcsz : ((if (Array.filter (fun e => decide (e.born < since)) (Array.filter (fun e => !seen.toArray.contains e.born) l.toArray)).isEmpty then #[none] else #[]) ++
            Array.map some ((Array.filter (fun e => decide (e.born < since)) (Array.filter (fun e => !seen.toArray.contains e.born) l.toArray)) ++ (Array.filter (fun e => decide (e.born ≥ since)) (Array.filter (fun e => !seen.toArray.contains e.born) l.toArray)))) = cands.toArray := by
          rw [hc]
          simp only [List.contains_toArray, List.filter_toArray, ← hL, ← hold, ← hnew, List.isEmpty_toArray, List.append_toArray, List.map_toArray]
          cases old.isEmpty <;> simp
        simp only [Instr.next, Sem.run_bind, hg, hgm, Result.andThen_ok, hbad', Bool.false_eq_true, if_false]
        rw [hcsz]
        simp only [List.size_toArray, hch, Result.andThen_ok, List.getElem?_toArray]
        rw [← hr']
        cases hci : cands[i]? with
        | none =>
          rw [List.getElem?_eq_getElem hi1] at hci; cases hci
        | some c =>
          cases c with
          | none => simp
          | some e => simp only [Sem.run_bind, run_setObj_iter (P := P) hx1 (fun c e f => by simp), Result.andThen_ok, Sem.run_pure]
      have hci := List.getElem?_eq_getElem hi1
      by_cases hno : cands[i] = none
      · -- over
        have hmem : old.isEmpty = true := by
          cases ho' : old.isEmpty with
          | true => rfl
          | false =>
            exfalso
            have : none ∈ cands := hno ▸ List.getElem_mem hi1
            rw [hc, ho'] at this
            simp at this
        have hne : (es.filter fun e => !seen.contains e.2.2 && decide (e.2.2 < since)).isEmpty = true := by
          have h1 := ho.length
          have h2 : old = [] := by simpa using hmem
          rw [h2, List.filter_filter] at h1
          simp only [List.length_nil] at h1
          have h3 := List.eq_nil_of_length_eq_zero h1.symm
          have : (es.filter fun e => !seen.contains e.2.2 && decide (e.2.2 < since)) = [] := by
            rw [← h3]
            exact List.filter_congr fun e _ => Bool.and_comm _ _
          rw [this]; rfl
        refine ⟨(SV.tuple [.val (.bool false)], S), List.mem_append_left _ (by rw [hne]; exact List.mem_cons_self), ?_⟩
        refine ⟨E, .tuple #[.bool false], w1, E.le_refl, hr1, by simp only [SV.den, SV.denL], hrun _ ?_⟩
        rw [hci, hno]
      · obtain ⟨e, he⟩ := Option.ne_none_iff_exists'.1 hno
        have hmem : e ∈ old ++ new := by
          have : some e ∈ cands := he ▸ List.getElem_mem hi1
          rw [hc] at this
          rcases List.mem_append.1 this with h' | h'
          · split at h' <;> simp at h'
          · obtain ⟨y, hy, hye⟩ := List.mem_map.1 h'
            cases hye
            exact hy
        obtain ⟨j, hj⟩ := List.getElem?_of_mem hmem
        obtain ⟨x', g1, g2, g3, g4⟩ := hall.get hj
        refine ⟨(SV.tuple [.val (.bool true), x'.1, x'.2.1], { S with heap := upd id (.miter (some m) since (seen ++ [x'.2.2]) clock) S.heap }),
          List.mem_append_right _ (List.mem_map.2 ⟨x', List.mem_of_getElem? g1, rfl⟩), ?_⟩
        refine ⟨E, .tuple #[.bool true, e.key, e.val], _, E.le_refl, hr1.wroteObj hf hb (Nat.le_of_ble_eq_true hG) (x' := .mapIter (some bm) since (seen.toArray.push e.born) clock) ⟨bm, hbm, by simp [g4]⟩, ?_, hrun _ ?_⟩
        · simp only [SV.den, SV.denL, g2, g3]
        · rw [hci, he]
  · cases h

/-- The entry that an iterator has come to. -/
def evEntry (S : St) (it : SV) : Option SV :=
  match it with
  | .ptr id 0 => match find id S.heap with
    | some (.miter (some m) _ seen stepped) => match seen.getLast?, find m S.heap with
      | some stamp, some (.map es clock) => bif Nat.beq clock stepped then
          match es.find? (fun e => Nat.beq e.2.2 stamp) with
          | some e => some (.tuple [e.1, e.2.1])
          | none => none
        else none
      | _, _ => none
    | _ => none
  | _ => none

theorem MRel.find {s : Nat} : ∀ {xs : List (SV × SV × Nat)} {ms : List MapEntry}, MRel E xs ms → ∀ {x : SV × SV × Nat}, xs.find? (fun e => Nat.beq e.2.2 s) = some x →
    ∃ m, ms.find? (fun e => e.born == s) = some m ∧ x.1.den E = some m.key ∧ x.2.1.den E = some m.val
  | [], [], _, x, h => by cases h
  | y :: xs, m :: ms, ⟨a, b, c, d⟩, x, h => by
    simp only [List.find?_cons] at h ⊢
    cases hb : Nat.beq y.2.2 s with
    | true =>
      rw [hb] at h
      simp only [Option.some.injEq] at h; subst h
      have : (m.born == s) = true := by rw [c]; exact beq_iff_eq.2 (Nat.eq_of_beq_eq_true hb)
      exact ⟨m, by simp [this], a, b⟩
    | false =>
      rw [hb] at h
      have : (m.born == s) = false := by
        rw [c, beq_eq_false_iff_ne]
        exact fun e => by rw [e] at hb; simp at hb
      obtain ⟨z, h1, h2⟩ := MRel.find d h
      exact ⟨z, by simp [this, h1], h2⟩
  | [], _ :: _, k, _, _ => k.elim
  | _ :: _, [], k, _, _ => k.elim

theorem evEntry_ok (hr : Rel B G w0 E S w) {it sv : SV} {vi : Value} (h : evEntry S it = some sv) (hi : it.den E = some vi) : Does B G w0 P E sv S (Instr.entry vi) w := by
  unfold evEntry at h
  split at h
  case h_2 => cases h
  rename_i id
  obtain ⟨b, hb, rfl⟩ := ptr_den hi
  split at h
  case h_2 => cases h
  rename_i m since seen stepped hf
  split at h
  case h_2 => cases h
  rename_i stamp es clock hs hfm
  obtain ⟨x, hx, bm, hbm, rfl⟩ := iter_at hr hf hb
  obtain ⟨l, hm, hl⟩ := map_at hr hfm hbm
  have hg := run_getObj_iter (P := P) hx (fun c e f => by simp)
  have hgm := run_getObj_map (P := P) hm
  cases hck : Nat.beq clock stepped with
  | false => rw [hck] at h; cases h
  | true =>
    have hck' := Nat.eq_of_beq_eq_true hck
    rw [hck] at h
    simp only [cond_true] at h
    split at h
    · rename_i e he
      simp only [Option.some.injEq] at h; subst h
      obtain ⟨z, h1, h2, h3⟩ := hl.find he
      refine .here hr (tuple2_den h2 h3) ?_
      have hback : seen.toArray.back? = some stamp := by simpa using hs
      have hfind : l.toArray.find? (fun e => e.born == stamp) = some z := by simpa using h1
      simp [Instr.entry, hg, hgm, hback, hck', hfind]
    · cases h
end
end Go.Ev
