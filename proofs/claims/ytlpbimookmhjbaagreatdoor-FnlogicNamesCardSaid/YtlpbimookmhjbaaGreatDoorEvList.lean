/- Lists of unknown length: how long, which element, appended to. -/
import Derived.Test.YtlpbimookmhjbaaGreatDoorEvOpen2
import Derived.DataElems
namespace Go.Ev
open Go.RowKit (Below)

def LEnt.sz (l : LEnt) : Nat := l.lay.length

def listAt (n : Nat) : List LEnt → Option LEnt
  | [] => none
  | l :: r => bif Nat.beq n l.s then some l else listAt n r

theorem listAt_mem {n : Nat} : ∀ {ls : List LEnt} {l : LEnt}, listAt n ls = some l → l ∈ ls ∧ l.s = n
  | [], l, h => by cases h
  | m :: r, l, h => by
    simp only [listAt] at h
    cases e : Nat.beq n m.s with
    | true =>
      rw [e] at h
      simp only [cond_true, Option.some.injEq] at h; subst h
      exact ⟨List.mem_cons_self, (Nat.eq_of_beq_eq_true e).symm⟩
    | false =>
      rw [e] at h
      obtain ⟨h1, h2⟩ := listAt_mem h
      exact ⟨List.mem_cons_of_mem _ h1, h2⟩

section
variable {B G : Nat} {w0 : Start} {E : Env} {S : St} {w : World} {P : Program}

/-- The slice of a list: where it lies, and what its cells are. -/
theorem LRel.slice {l : LEnt} {v : Value} {cells : Array Value} (h : LRel B w0 E w l v cells) (hr : Rel B G w0 E S w) :
    (v = .slice none 0 0 ∧ cells.size / l.lay.length = 0) ∨ ∃ a cap, v = .slice (some a) (cells.size / l.lay.length) cap ∧ ∀ (j : Nat) (c : Value), cells[j]? = some c → w.cell? (a.add j) = some c := by
  cases ho : l.own with
  | true =>
    have hown := h.own ho
    rcases hown.2 with ⟨rfl, hn⟩ | ⟨g, cap, cur, hv, _⟩
    · exact .inl ⟨rfl, hn⟩
    · refine .inr ⟨⟨g, 0, none⟩, cap, hv, fun j c hc => ?_⟩
      exact hown.cells (g := g) (by rw [hv]; rfl) j c (by simpa using hc)
  | false =>
    rcases h.old ho with ⟨rfl, rfl⟩ | ⟨a, cap, hv, hb, hc⟩
    · exact .inl ⟨rfl, by simp⟩
    · refine .inr ⟨a, cap, hv, fun j c hj => ?_⟩
      have h1 := hc j c hj
      rw [← h1]
      refine World.cell?_of_block (hr.below.block _ ?_)
      rw [addr_add_block]; exact hb

theorem bound_len (sz : Nat) : Bound (.len sz) := bound_fun fun _ _ _ => rfl
theorem bound_get (sz off : Nat) : Bound (.get sz off) := bound_fun fun _ _ _ => rfl
theorem bound_addr (sz off : Nat) : Bound (.addr sz off) := bound_fun fun _ _ _ => rfl
theorem bound_inb (sz : Nat) : Bound (.inb sz) := bound_fun fun _ _ _ => rfl
theorem bound_catc : Bound .catc := bound_fun fun _ _ _ => rfl
theorem bound_cat : Bound .cat := bound_fun fun _ _ _ => rfl

def lenSort : Sort_ := .intIn .i64 (some 0) (some 140737488355328)

def lenL (S : St) (l : LEnt) : SV × St := known S lenSort (.len l.lay.length) [.sym l.x]

theorem lenL_ok (hr : Rel B G w0 E S w) {l : LEnt} {v : Value} {cells : Array Value} (h : LRel B w0 E w l v cells) :
    ∃ F, E.le F ∧ Rel B G w0 F (lenL S l).2 w ∧ (lenL S l).1.den F = some (.int .i64 ((cells.size / l.lay.length : Nat) : Int)) :=
  known_ok hr (vs := [.agg cells]) (bound_len _) (denL_mk (x := .sym l.x) (by simp only [SV.den]; exact h.x) (r := []) rfl)
    ⟨_, rfl, fun a e => by cases e; exact Int.natCast_nonneg _, fun b e => by cases e; exact Int.ofNat_le.2 h.few⟩ rfl

def evLLen (P : Program) (S : St) (t : TypeId) (x : SV) : Option (SV × St) :=
  match x with
  | .sym n => match listAt n S.lists, P.underlying t with
    | some l, some (.slice _) => some (lenL S l)
    | _, _ => none
  | _ => none

theorem evLLen_ok (hr : Rel B G w0 E S w) {t ty : TypeId} {x sv : SV} {S' : St} {vx : Value} (h : evLLen P S t x = some (sv, S')) (hx : x.den E = some vx) : Does B G w0 P E sv S' (Builtin.len_ #[t] ty #[vx]) w := by
  unfold evLLen at h
  split at h
  · rename_i n
    split at h
    · rename_i l e hl hu
      simp only [Option.some.injEq] at h
      obtain ⟨hm, rfl⟩ := listAt_mem hl
      obtain ⟨v, cells, hL⟩ := hr.lists l hm
      simp only [SV.den] at hx
      rw [hL.s] at hx; cases hx
      obtain ⟨F, f1, f2, f3⟩ := lenL_ok hr hL
      rw [h] at f2 f3
      refine ⟨F, _, w, f1, f2, f3, ?_⟩
      rcases hL.slice hr with ⟨rfl, e0⟩ | ⟨a, cap, rfl, _⟩
      · simp [Builtin.len_, run_underlying hu, e0]; rfl
      · simp [Builtin.len_, run_underlying hu]; rfl
    · cases h
  · cases h

/-- A number is not below nought: known of it, or asked. -/
def notNeg (S : St) (i : SV) : Option (St × List St) :=
  match intOf S i with
  | some (_, some lo, _) => bif decide (0 ≤ lo) then some (S, []) else
    (let z := known S .bool (.int .lss .i64) [i, .val (.int .i64 0)]
    need z.2 z.1 false)
  | some (.i64, _, _) =>
    let z := known S .bool (.int .lss .i64) [i, .val (.int .i64 0)]
    need z.2 z.1 false
  | _ => none

theorem notNeg_ok (hr : Rel B G w0 E S w) {i : SV} {n : Int} (hi : i.den E = some (.int .i64 n)) {S' : St} {l : List St} (h : notNeg S i = some (S', l)) :
    ∃ F, E.le F ∧ ((0 ≤ n ∧ Rel B G w0 F S' w) ∨ ∃ T ∈ l, T.bad = true ∧ Rel B G w0 F T w) := by
  have asked : ∀ {S' : St} {l : List St}, need (known S .bool (.int .lss .i64) [i, .val (.int .i64 0)]).2 (known S .bool (.int .lss .i64) [i, .val (.int .i64 0)]).1 false = some (S', l) →
      ∃ F, E.le F ∧ ((0 ≤ n ∧ Rel B G w0 F S' w) ∨ ∃ T ∈ l, T.bad = true ∧ Rel B G w0 F T w) := fun {S' l} h => by
    obtain ⟨F, f1, f2, f3⟩ := known_ok hr (srt := .bool) (op := .int .lss .i64) (v := .bool (n < 0)) (vs := [.int .i64 n, .int .i64 0]) (bound_int _ _) (denL_mk hi (denL_mk (x := .val (.int .i64 0)) (by simp only [SV.den]) (r := []) rfl)) ⟨_, rfl⟩ (rel_int (by simp only [intV, if_true, ibin]))
    rcases need_ok f2 h f3 with ⟨e, hr'⟩ | hb
    · refine ⟨F, f1, .inl ⟨?_, hr'⟩⟩
      have : ¬ n < 0 := by simpa using e
      omega
    · exact ⟨F, f1, .inr hb⟩
  unfold notNeg at h
  split at h
  · rename_i k lo hi' hio
    obtain ⟨m, e1, e2, _⟩ := intOf_ok hr.env hio hi
    cases e1
    cases hlo : decide (0 ≤ lo) with
    | true =>
      rw [hlo] at h
      simp only [cond_true, Option.some.injEq, Prod.mk.injEq] at h
      obtain ⟨rfl, rfl⟩ := h
      simp only [decide_eq_true_eq] at hlo
      have := e2 lo rfl
      exact ⟨E, E.le_refl, .inl ⟨by omega, hr⟩⟩
    | false => rw [hlo] at h; exact asked h
  · exact asked h
  · cases h

/-- The place of an element. -/
def evLAddr (P : Program) (S : St) (t : TypeId) (x i : SV) : Option (List (SV × St)) :=
  match x with
  | .sym n => match listAt n S.lists, P.underlying t, intOf S i with
    | some l, some (.slice e), some (.i64, _, _) => match (P.info? e).map (·.size) with
      | some sz => bif Nat.beq sz l.lay.length then
          match notNeg S i with
          | none => none
          | some (S1, b1) =>
            let ln := lenL S1 l
            let c := known ln.2 .bool (.int .lss .i64) [i, ln.1]
            match need c.2 c.1 true with
            | none => none
            | some (S2, b2) =>
              let p := known S2 .cell (.addr l.lay.length 0) [x, i]
              let q := known p.2 .bool (.inb l.lay.length) [.sym l.x, i]
              some ((p.1, q.2) :: bads (b1 ++ b2))
        else none
      | none => none
    | _, _, _ => none
  | _ => none

theorem doesB_more {E' : Env} (hE : E.le E') {l : List St} {S' : St} {sv : SV} {m : Sem Value} (h : ∃ T ∈ l, T.bad = true ∧ Rel B G w0 E' T w) {l' : List St} (hl : ∀ T ∈ l, T ∈ l') : DoesB B G w0 P E ((sv, S') :: bads l') m w := by
  obtain ⟨T, h1, h2, h3⟩ := h
  exact doesB_bad hE ⟨T, hl T h1, h2, h3⟩

theorem evLAddr_ok (hr : Rel B G w0 E S w) {t : TypeId} {x i : SV} {rs : List (SV × St)} {vx vi : Value} (h : evLAddr P S t x i = some rs) (hx : x.den E = some vx) (hi : i.den E = some vi) :
    DoesB B G w0 P E rs (Instr.indexAt t vx vi) w := by
  unfold evLAddr at h
  split at h
  case h_2 => cases h
  rename_i n
  split at h
  case h_2 => cases h
  rename_i l e lo hi' hl hu hio
  split at h
  case h_2 => cases h
  rename_i sz hsz
  cases hb : Nat.beq sz l.lay.length with
  | false => rw [hb] at h; cases h
  | true =>
  rw [hb] at h
  have hbe := Nat.eq_of_beq_eq_true hb
  simp only [cond_true] at h
  obtain ⟨k, rfl, _, _⟩ := intOf_ok hr.env hio hi
  split at h
  · cases h
  rename_i S1 b1 hn
  split at h
  · cases h
  rename_i S2 b2 hn2
  simp only [Option.some.injEq] at h; subst h
  obtain ⟨F, f1, f2⟩ := notNeg_ok hr hi hn
  rcases f2 with ⟨hk, hr1⟩ | hbad
  case inr => exact doesB_more f1 hbad fun T hT => List.mem_append_left _ hT
  obtain ⟨hm, rfl⟩ := listAt_mem hl
  obtain ⟨v, cells, hL0⟩ := hr.lists l hm
  have hL := hL0.mono f1
  simp only [SV.den] at hx
  rw [hL0.s] at hx; cases hx
  obtain ⟨F2, g1, g2, g3⟩ := lenL_ok hr1 hL
  have hi2 := SV.den_mono (Env.le_trans f1 g1) _ _ hi
  obtain ⟨F3, k1, k2, k3⟩ := known_ok g2 (srt := .bool) (op := .int .lss .i64) (v := .bool (k < ((cells.size / l.lay.length : Nat) : Int))) (bound_int _ _) (denL_mk hi2 (denL_mk g3 (r := []) rfl)) ⟨_, rfl⟩ (rel_int (by simp only [intV, if_true, ibin]))
  rcases need_ok k2 hn2 k3 with ⟨e1, hr2⟩ | hbad
  case inr => exact doesB_more (Env.le_trans f1 (Env.le_trans g1 k1)) hbad fun T hT => List.mem_append_right _ hT
  have hlt : k < ((cells.size / l.lay.length : Nat) : Int) := by simpa using e1
  have hE3 := Env.le_trans f1 (Env.le_trans g1 k1)
  have hL3 := hL0.mono hE3
  rcases hL0.slice hr with ⟨rfl, e0⟩ | ⟨a, cap, rfl, hcells⟩
  · rw [e0] at hlt; omega
  have hx3 : (SV.sym l.s).den F3 = some (.slice (some a) (cells.size / l.lay.length) cap) := by simp only [SV.den]; exact hL3.s
  have hi3 := SV.den_mono hE3 _ _ hi
  obtain ⟨F4, m1, m2, m3⟩ := known_ok hr2 (srt := .cell) (op := .addr l.lay.length 0) (v := .pointer (some (a.add (k.toNat * l.lay.length + 0)))) (bound_addr _ _) (denL_mk hx3 (denL_mk hi3 (r := []) rfl)) rfl rfl
  have hX4 : (SV.sym l.x).den F4 = some (.agg cells) := by simp only [SV.den]; exact (hL3.mono m1).x
  obtain ⟨F5, n1, n2, n3⟩ := known_ok m2 (srt := .bool) (op := .inb l.lay.length) (v := .bool true) (bound_inb _) (denL_mk hX4 (denL_mk (SV.den_mono m1 _ _ hi3) (r := []) rfl)) ⟨_, rfl⟩ (by
    show (if 0 ≤ k ∧ k.toNat < cells.size / l.lay.length then some (Value.bool true) else none) = _
    rw [if_pos ⟨hk, by omega⟩])
  refine ⟨_, List.mem_cons_self, .inr ⟨F5, _, w, Env.le_trans hE3 (Env.le_trans m1 n1), n2, SV.den_mono n1 _ _ m3, ?_⟩⟩
  subst hbe
  simp only [Instr.indexAt, asIntOf, Sem.run_bind, Sem.run_pure, Result.andThen_ok, run_underlying hu]
  have h1 : (0 : Int) ≤ k ∧ k < ((cells.size / l.lay.length : Nat) : Int) := ⟨hk, hlt⟩
  simp only [h1, and_self, if_true, Sem.run_bind, run_sizeOf' hsz, Result.andThen_ok, Nat.add_zero, Sem.run_pure]

/-! ### The cells of an element -/
/-- Which place of which list an unknown is. -/
def placeOf (p : Nat) : List Fact_ → Option (Nat × Nat × SV × Nat)
  | [] => none
  | q :: r => match q with
    | ⟨.addr sz off, [.sym s, i], .sym p'⟩ => bif Nat.beq p p' then some (sz, s, i, off) else placeOf p r
    | _ => placeOf p r

theorem placeOf_mem {p : Nat} : ∀ {fs : List Fact_} {sz s : Nat} {i : SV} {off : Nat}, placeOf p fs = some (sz, s, i, off) → (⟨.addr sz off, [.sym s, i], .sym p⟩ : Fact_) ∈ fs
  | [], _, _, _, _, h => by cases h
  | q :: r, sz, s, i, off, h => by
    unfold placeOf at h
    split at h
    · rename_i sz' off' s' i' p'
      cases e : Nat.beq p p' with
      | true =>
        have := Nat.eq_of_beq_eq_true e
        subst this
        rw [e] at h
        simp only [cond_true, Option.some.injEq, Prod.mk.injEq] at h
        obtain ⟨rfl, rfl, rfl, rfl⟩ := h
        exact List.mem_cons_self
      | false => rw [e] at h; exact List.mem_cons_of_mem _ (placeOf_mem h)
    · exact List.mem_cons_of_mem _ (placeOf_mem h)

/-- 'n' cells of an element, from one on. -/
def getCells (x : Nat) (i : SV) (lay : List Sort_) : Nat → Nat → St → Option (List SV × St)
  | 0, _, S => some ([], S)
  | n + 1, off, S => match lay[off]? with
    | none => none
    | some t =>
      let c := known S t (.get lay.length off) [.sym x, i]
      match getCells x i lay n (off + 1) c.2 with
      | some (l, S') => some (c.1 :: l, S')
      | none => none

theorem getCells_ok {x : Nat} {i : SV} {lay : List Sort_} {cells : Array Value} {k : Int} (hlay : ∀ (j : Nat) (c : Value), cells[j]? = some c → ∃ t, lay[j % lay.length]? = some t ∧ t.fits c) (hk : k.toNat * lay.length + lay.length ≤ cells.size) :
    ∀ (n off : Nat) (S S' : St) (E : Env) (l : List SV), getCells x i lay n off S = some (l, S') → Rel B G w0 E S w → (SV.sym x).den E = some (.agg cells) → (∃ kd, i.den E = some (.int kd k)) → off + n ≤ lay.length →
      ∃ F vs, E.le F ∧ Rel B G w0 F S' w ∧ SV.denL F l = some vs ∧ vs = (cells.toList.drop (k.toNat * lay.length + off)).take n
  | 0, off, S, S', E, l, h, hr, _, _, _ => by
    simp only [getCells, Option.some.injEq, Prod.mk.injEq] at h
    obtain ⟨rfl, rfl⟩ := h
    exact ⟨E, [], E.le_refl, hr, rfl, by simp⟩
  | n + 1, off, S, S', E, l, h, hr, hx, hi, ho => by
    simp only [getCells] at h
    split at h
    · cases h
    · rename_i t ht
      split at h
      · rename_i l' S'' hg
        simp only [Option.some.injEq, Prod.mk.injEq] at h
        obtain ⟨rfl, rfl⟩ := h
        obtain ⟨kd, hi'⟩ := hi
        have hidx : k.toNat * lay.length + off < cells.size := by omega
        have hc : cells[k.toNat * lay.length + off]? = some cells[k.toNat * lay.length + off] := Array.getElem?_eq_getElem hidx
        obtain ⟨t', ht', hfit⟩ := hlay _ _ hc
        have hmod : (k.toNat * lay.length + off) % lay.length = off := by
          rw [Nat.mul_comm, Nat.mul_add_mod, Nat.mod_eq_of_lt (by omega)]
        rw [hmod, ht] at ht'
        cases ht'
        obtain ⟨F, f1, f2, f3⟩ := known_ok hr (srt := t) (op := .get lay.length off) (v := cells[k.toNat * lay.length + off]) (bound_get _ _) (denL_mk hx (denL_mk hi' (r := []) rfl)) hfit hc
        obtain ⟨F', vs, g1, g2, g3, g4⟩ := getCells_ok hlay hk n (off + 1) _ S'' F l' hg f2 (SV.den_mono f1 _ _ hx) ⟨kd, SV.den_mono f1 _ _ hi'⟩ (by omega)
        refine ⟨F', _, Env.le_trans f1 g1, g2, denL_mk (SV.den_mono g1 _ _ f3) g3, ?_⟩
        rw [g4]
        have hlt : k.toNat * lay.length + off < cells.toList.length := by simpa using hidx
        rw [List.drop_eq_getElem_cons hlt, List.take_succ_cons]
        simp only [Array.getElem_toList, Nat.add_assoc]
      · cases h

def evLLoad (P : Program) (S : St) (t : TypeId) (a : SV) : Option (SV × St) :=
  match a with
  | .sym p => match placeOf p S.facts with
    | some (sz, s, i, off) => match listAt s S.lists with
      | some l => bif Nat.beq sz l.lay.length then
          match lookFact (.inb sz) [.sym l.x, i] S.facts, P.underlying t with
          | some _, some d => bif isAggD d then
              match (P.info? t).map (·.size) with
              | none => none
              | some n => bif Nat.ble (off + n) sz then
                  match getCells l.x i l.lay n off S with
                  | some (cs, S') => some (.agg cs, S')
                  | none => none
                else none
            else bif Nat.blt off sz then
              match getCells l.x i l.lay 1 off S with
              | some ([c], S') => some (c, S')
              | _ => none
            else none
          | _, _ => none
        else none
      | none => none
    | none => none
  | _ => none

theorem inb_of {cells : Array Value} {sz : Nat} {k : Int} {kd : IntKind} {v : Value} (h : sopFun (.inb sz) [.agg cells, .int kd k] = some v) : 0 ≤ k ∧ k.toNat < cells.size / sz := by
  simp only [sopFun] at h
  split at h
  · assumption
  · cases h

/-- What an unknown place is. -/
theorem place_at (hr : Rel B G w0 E S w) {p sz s : Nat} {i : SV} {off : Nat} (h : placeOf p S.facts = some (sz, s, i, off)) {v : Value} (hp : E.σ p = some v) :
    ∃ a n cap kd k, E.σ s = some (.slice (some a) n cap) ∧ i.den E = some (.int kd k) ∧ v = .pointer (some (a.add (k.toNat * sz + off))) := by
  obtain ⟨vs, u, h1, h2, h3⟩ := hr.facts _ (placeOf_mem h)
  obtain ⟨v1, l1, e1, e2, rfl⟩ := denL_cons h1
  obtain ⟨v2, l2, e3, e4, rfl⟩ := denL_cons e2
  simp only [SV.denL, Option.some.injEq] at e4; subst e4
  simp only [SV.den] at h2 e1
  rw [hp] at h2; cases h2
  have h3' : sopFun (.addr sz off) [v1, v2] = some v := h3
  match v1, v2, h3' with
  | .slice (some a) n cap, .int kd k, h3' =>
    simp only [sopFun, Option.some.injEq] at h3'
    exact ⟨a, n, cap, kd, k, e1, e3, h3'.symm⟩

theorem loads_far {a : Addr} {n : Nat} {l : List Value} (hlen : l.length = n) (h : ∀ (j : Nat) (v : Value), l[j]? = some v → w.cell? (a.add j) = some v) : (loadCells a n).run P w = .ok l.toArray w := by
  subst hlen
  exact run_loadCells_list (P := P) w a l h

theorem evLLoad_ok (hr : Rel B G w0 E S w) {t : TypeId} {a sv : SV} {S' : St} {va : Value} (h : evLLoad P S t a = some (sv, S')) (ha : a.den E = some va) : Does B G w0 P E sv S' (Instr.loadAt t va) w := by
  unfold evLLoad at h
  split at h
  case h_2 => cases h
  rename_i p
  split at h
  case h_2 => cases h
  rename_i sz s i off hp
  split at h
  case h_2 => cases h
  rename_i l hl
  cases hb : Nat.beq sz l.lay.length with
  | false => rw [hb] at h; cases h
  | true =>
  rw [hb] at h
  have hbe := Nat.eq_of_beq_eq_true hb
  subst hbe
  simp only [cond_true] at h
  split at h
  case h_2 => cases h
  rename_i z d hz hd
  simp only [SV.den] at ha
  obtain ⟨a, n, cap, kd, k, e1, e2, rfl⟩ := place_at hr hp ha
  obtain ⟨hm, rfl⟩ := listAt_mem hl
  obtain ⟨v, cells, hL⟩ := hr.lists l hm
  have hX : (SV.sym l.x).den E = some (.agg cells) := by simp only [SV.den]; exact hL.x
  obtain ⟨u, hu1, hu2⟩ := fact_at hr hz (denL_mk hX (denL_mk e2 (r := []) rfl))
  obtain ⟨hk0, hk1⟩ := inb_of hu2
  have hs := hL.s
  rw [e1] at hs; cases hs
  have hcells : ∀ (j : Nat) (c : Value), cells[j]? = some c → w.cell? (a.add j) = some c := by
    rcases hL.slice hr with ⟨e, _⟩ | ⟨a', cap', e, hc⟩
    · cases e
    · cases e; exact hc
  have hwhole : k.toNat * l.lay.length + l.lay.length ≤ cells.size := by
    have h1 : (k.toNat + 1) * l.lay.length ≤ cells.size / l.lay.length * l.lay.length := Nat.mul_le_mul_right _ hk1
    rw [Nat.add_mul, Nat.one_mul] at h1
    have := hL.whole; omega
  have go : ∀ (m : Nat) (cs : List SV) (S'' : St), off + m ≤ l.lay.length → getCells l.x i l.lay m off S = some (cs, S'') →
      ∃ F vs, E.le F ∧ Rel B G w0 F S'' w ∧ SV.denL F cs = some vs ∧ vs.length = m ∧ ∀ (j : Nat) (c : Value), vs[j]? = some c → w.cell? ((a.add (k.toNat * l.lay.length + off)).add j) = some c := fun m cs S'' hom hg => by
    obtain ⟨F, vs, f1, f2, f3, f4⟩ := getCells_ok hL.lay hwhole m off S S'' E cs hg hr hX ⟨kd, e2⟩ hom
    refine ⟨F, vs, f1, f2, f3, by rw [f4]; simp; omega, fun j c hj => ?_⟩
    rw [Addr.add_add]
    refine hcells _ _ ?_
    rw [f4, List.getElem?_take] at hj
    split at hj
    · rw [List.getElem?_drop] at hj
      simpa using hj
    · cases hj
  cases hagg : isAggD d with
  | true =>
    rw [hagg] at h
    simp only [cond_true] at h
    split at h
    · cases h
    rename_i m hsz
    cases hle : Nat.ble (off + m) l.lay.length with
    | false => rw [hle] at h; cases h
    | true =>
    rw [hle] at h
    simp only [cond_true] at h
    split at h
    · rename_i cs S'' hg
      simp only [Option.some.injEq, Prod.mk.injEq] at h
      obtain ⟨rfl, rfl⟩ := h
      obtain ⟨F, vs, f1, f2, f3, f4, f5⟩ := go m cs S'' (Nat.le_of_ble_eq_true hle) hg
      refine ⟨F, .agg vs.toArray, w, f1, f2, by simp only [SV.den, f3], ?_⟩
      simp only [Instr.loadAt, Instr.sureAddr, loadVar, Sem.run_bind, Sem.run_pure, Result.andThen_ok, run_isAgg' hd, hagg, if_true, run_sizeOf' hsz, loads_far f4 f5]
    · cases h
  | false =>
    rw [hagg] at h
    simp only [cond_false] at h
    cases hlt : Nat.blt off l.lay.length with
    | false => rw [hlt] at h; cases h
    | true =>
    have hlt' : off < l.lay.length := Nat.le_of_ble_eq_true hlt
    rw [hlt] at h
    simp only [cond_true] at h
    split at h
    · rename_i c S'' hg
      simp only [Option.some.injEq, Prod.mk.injEq] at h
      obtain ⟨rfl, rfl⟩ := h
      obtain ⟨F, vs, f1, f2, f3, f4, f5⟩ := go 1 [c] S'' (by omega) hg
      obtain ⟨v1, l1, g1, g2, rfl⟩ := denL_cons f3
      simp only [SV.denL, Option.some.injEq] at g2; subst g2
      refine ⟨F, v1, w, f1, f2, g1, ?_⟩
      have hc := f5 0 v1 (by simp)
      simp only [Addr.add, if_true] at hc
      simp only [Instr.loadAt, Instr.sureAddr, loadVar, Sem.run_bind, Sem.run_pure, Result.andThen_ok, run_isAgg' hd, hagg, Bool.false_eq_true, if_false, run_load]
      simp only [Addr.add] at hc ⊢
      rw [hc]
    · cases h

/-- A field's place. -/
def evLField (P : Program) (S : St) (t : TypeId) (a : SV) (f : Nat) : Option (SV × St) :=
  match a with
  | .sym p => match placeOf p S.facts with
    | some (sz, s, i, off) => match P.underlying t with
      | some (.struct fields) => match fields[f]? with
        | some fd => match (P.info? fd.type).map (·.size) with
          | some (_ + 1) => some (known S .cell (.addr sz (off + fd.offset)) [.sym s, i])
          | _ => none
        | none => none
      | _ => none
    | none => none
  | _ => none

theorem evLField_ok (hr : Rel B G w0 E S w) {t : TypeId} {a sv : SV} {S' : St} {f : Nat} {va : Value} (h : evLField P S t a f = some (sv, S')) (ha : a.den E = some va) : Does B G w0 P E sv S' (Instr.fieldAt t va f) w := by
  unfold evLField at h
  split at h
  case h_2 => cases h
  rename_i p
  split at h
  case h_2 => cases h
  rename_i sz s i off hp
  split at h
  case h_2 => cases h
  rename_i fields hu
  split at h
  case h_2 => cases h
  rename_i fd hfd
  split at h
  case h_2 => cases h
  rename_i n hsz
  simp only [Option.some.injEq] at h
  simp only [SV.den] at ha
  obtain ⟨a, n', cap, kd, k, e1, e2, rfl⟩ := place_at hr hp ha
  obtain ⟨F, f1, f2, f3⟩ := known_ok hr (srt := .cell) (op := .addr sz (off + fd.offset)) (vs := [.slice (some a) n' cap, .int kd k]) (v := .pointer (some (a.add (k.toNat * sz + (off + fd.offset))))) (bound_addr _ _)
    (denL_mk (x := .sym s) (by simp only [SV.den]; exact e1) (denL_mk e2 (r := []) rfl)) rfl rfl
  rw [h] at f2 f3
  refine ⟨F, _, w, f1, f2, f3, ?_⟩
  simp only [Instr.fieldAt, Sem.run_bind, run_underlying hu, Result.andThen_ok, hfd, Instr.sureAddr, Sem.run_pure, fieldPlace, run_sizeOf' hsz]
  simp [Addr.add_add, Nat.add_assoc]
end
end Go.Ev
