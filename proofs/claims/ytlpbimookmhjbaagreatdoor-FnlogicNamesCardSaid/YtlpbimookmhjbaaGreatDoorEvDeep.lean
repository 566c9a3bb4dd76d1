/- Lists with lists in them, laid before the call: length, elements, and what is in these. -/
import Derived.Test.YtlpbimookmhjbaaGreatDoorEvWhole
namespace Go.Ev
open Go.RowKit (Below)

def deepAt (n : Nat) : List DEnt → Option DEnt
  | [] => none
  | d :: r => bif Nat.beq n d.s then some d else deepAt n r

theorem deepAt_mem {n : Nat} : ∀ {ds : List DEnt} {d : DEnt}, deepAt n ds = some d → d ∈ ds ∧ d.s = n
  | [], _, h => by cases h
  | e :: r, d, h => by
    simp only [deepAt] at h
    cases hb : Nat.beq n e.s with
    | true =>
      rw [hb] at h
      simp only [cond_true, Option.some.injEq] at h; subst h
      exact ⟨List.mem_cons_self, (Nat.eq_of_beq_eq_true hb).symm⟩
    | false =>
      rw [hb] at h
      obtain ⟨h1, h2⟩ := deepAt_mem h
      exact ⟨List.mem_cons_of_mem _ h1, h2⟩

theorem Deep.mono {B B' : Nat} {w w' : World} (hB : B ≤ B') (hw : ∀ b, b < B → w'.heap[b]? = w.heap[b]?) : ∀ {l : Lay} {v x : Value}, Deep B w l v x → Deep B' w' l v x
  | _, _, _, .sc h => .sc h
  | _, _, _, .nil h => .nil h
  | _, _, _, .list h1 h2 h3 h4 h5 h6 h7 => .list h1 h2 h3 h4 (by omega) (fun j c hj => by
      rw [← h6 j c hj]
      refine World.cell?_of_block (hw _ ?_)
      rw [addr_add_block]; exact h5) (fun j t c x g1 g2 g3 => Deep.mono hB hw (h7 j t c x g1 g2 g3))

/-- A list, opened. -/
theorem Deep.open {B : Nat} {w : World} {lay : List Lay} {v x : Value} (h : Deep B w (.list lay) v x) : ∃ cells : Array Value, x = .agg cells ∧ 0 < lay.length ∧ cells.size / lay.length ≤ 140737488355328 ∧ cells.size = cells.size / lay.length * lay.length ∧
    ((v = .slice none 0 0 ∧ cells = #[]) ∨ ∃ (a : Addr) (cap : Nat) (raw : Array Value), v = .slice (some a) (cells.size / lay.length) cap ∧ raw.size = cells.size ∧ a.block < B ∧ (∀ (j : Nat) (c : Value), raw[j]? = some c → w.cell? (a.add j) = some c) ∧
      ∀ (j : Nat) (t : Lay) (c x : Value), lay[j % lay.length]? = some t → raw[j]? = some c → cells[j]? = some x → Deep B w t c x) := by
  cases h with
  | nil h => exact ⟨#[], rfl, h, by simp, by simp, .inl ⟨rfl, rfl⟩⟩
  | list h1 h2 h3 h4 h5 h6 h7 => exact ⟨_, rfl, h1, h2, h3, .inr ⟨_, _, _, rfl, h4, h5, h6, h7⟩⟩

def allSc : List Lay → Option (List Sort_)
  | [] => some []
  | .sc t :: r => match allSc r with
    | some l => some (t :: l)
    | none => none
  | .list _ :: _ => none

theorem allSc_get : ∀ {lay : List Lay} {l : List Sort_}, allSc lay = some l → l.length = lay.length ∧ ∀ (j : Nat) (t : Lay), lay[j]? = some t → ∃ u, t = .sc u ∧ l[j]? = some u
  | [], l, h => by simp only [allSc, Option.some.injEq] at h; subst h; exact ⟨rfl, fun j t h => by simp at h⟩
  | .sc t :: r, l, h => by
    simp only [allSc] at h
    split at h
    · rename_i l' hl
      simp only [Option.some.injEq] at h; subst h
      obtain ⟨h1, h2⟩ := allSc_get hl
      refine ⟨by simp [h1], fun j u hj => ?_⟩
      cases j with
      | zero => simp at hj; subst hj; exact ⟨t, rfl, by simp⟩
      | succ j => simp at hj; obtain ⟨z, e, hz⟩ := h2 j u hj; exact ⟨z, e, by simpa using hz⟩
    · cases h
  | .list _ :: _, _, h => by cases h

section
variable {B G : Nat} {w0 : Start} {E : Env} {S : St} {w : World} {P : Program}

/-- A list laid before the call, of which more is known. -/
theorem Rel.addOld (h : Rel B G w0 E S w) {l : LEnt} {v : Value} {cells : Array Value} (hL : LRel B w0 E w l v cells) (ho : l.own = false) : Rel B G w0 E { S with lists := l :: S.lists } w :=
  { h with
    lists := fun m hm => by
      simp only [List.mem_cons] at hm
      rcases hm with rfl | hm
      · exact ⟨v, cells, hL⟩
      · exact h.lists m hm
    apart := fun m hm hmo x hx b hb => by
      simp only [List.mem_cons] at hm
      rcases hm with rfl | hm
      · rw [ho] at hmo; cases hmo
      · obtain ⟨h1, h2⟩ := h.apart m hm hmo x hx b hb
        refine ⟨h1, fun k hk hko u hu hub => ?_⟩
        simp only [List.mem_cons] at hk
        rcases hk with rfl | hk
        · rw [ho] at hko; cases hko
        · exact h2 k hk hko u hu hub }

def addDeep (S : St) (s x : Nat) (lay : List Lay) : St :=
  match allSc lay with
  | some l => { S with lists := { s := s, x := x, e := 0, lay := l, own := false } :: S.lists }
  | none => { S with deeps := { s := s, x := x, lay := lay } :: S.deeps }

theorem Rel.addDeep (h : Rel B G w0 E S w) {s x : Nat} {lay : List Lay} {v u : Value} (hs : E.σ s = some v) (hx : E.σ x = some u) (hd : Deep B w0.w (.list lay) v u) : Rel B G w0 E (addDeep S s x lay) w := by
  unfold Ev.addDeep
  split
  · rename_i l hl
    obtain ⟨a1, a2⟩ := allSc_get hl
    obtain ⟨cells, rfl, k1, k2, k3, k4⟩ := hd.open
    have eqc : ∀ {a : Addr} {cap : Nat} {raw : Array Value}, raw.size = cells.size → (∀ (j : Nat) (t : Lay) (c x : Value), lay[j % lay.length]? = some t → raw[j]? = some c → cells[j]? = some x → Deep B w0.w t c x) → raw = cells ∧ ∀ (j : Nat) (c : Value), cells[j]? = some c → ∃ t, l[j % l.length]? = some t ∧ t.fits c := fun {a cap raw} g1 g2 => by
      have key : ∀ (j : Nat) (hj : j < cells.size), ∃ t, l[j % l.length]? = some t ∧ t.fits cells[j] ∧ raw[j]? = some cells[j] := fun j hj => by
        have hm : j % lay.length < lay.length := Nat.mod_lt _ k1
        obtain ⟨t, e, ht⟩ := a2 (j % lay.length) lay[j % lay.length] (List.getElem?_eq_getElem hm)
        have hr : j < raw.size := by omega
        have := g2 j _ raw[j] cells[j] (List.getElem?_eq_getElem hm) (Array.getElem?_eq_getElem hr) (Array.getElem?_eq_getElem hj)
        rw [e] at this
        obtain ⟨hfit, heq⟩ : t.fits cells[j] ∧ raw[j] = cells[j] := by
          generalize raw[j] = r at this
          generalize cells[j] = c at this
          cases this with
          | sc hf => exact ⟨hf, rfl⟩
        exact ⟨t, by rw [a1]; exact ht, hfit, by rw [Array.getElem?_eq_getElem hr, heq]⟩
      refine ⟨Array.ext g1 fun j h1 h2 => ?_, fun j c hj => ?_⟩
      · obtain ⟨_, _, _, e⟩ := key j h2
        rw [Array.getElem?_eq_getElem h1] at e
        exact Option.some.inj e
      · obtain ⟨hj', rfl⟩ := Array.getElem?_eq_some_iff.1 hj
        obtain ⟨t, e1, e2, _⟩ := key j hj'
        exact ⟨t, e1, e2⟩
    have hL : LRel B w0 E w { s := s, x := x, e := 0, lay := l, own := false } v cells := by
      refine { s := hs, x := hx, some_ := by show 0 < l.length; omega, few := by show cells.size / l.length ≤ _; rw [a1]; exact k2, whole := by show cells.size = cells.size / l.length * l.length; rw [a1]; exact k3, lay := ?_, own := (fun h => by cases h), old := fun _ => ?_ }
      · rcases k4 with ⟨_, rfl⟩ | ⟨a, cap, raw, _, g1, _, _, g2⟩
        · intro j c hj; simp at hj
        · exact (eqc (a := a) (cap := cap) g1 g2).2
      · rcases k4 with h | ⟨a, cap, raw, e, g1, gb, g3, g2⟩
        · exact .inl h
        · obtain ⟨rfl, _⟩ := eqc (a := a) (cap := cap) g1 g2
          exact .inr ⟨a, cap, by show v = .slice (some a) (raw.size / l.length) cap; rw [a1]; exact e, gb, g3⟩
    exact h.addOld hL rfl
  · exact { h with
      deeps := fun d hm => by
        simp only [List.mem_cons] at hm
        rcases hm with rfl | hm
        · exact ⟨v, u, hs, hx, hd⟩
        · exact h.deeps d hm }

/-! ### Length, places -/
def lenD (S : St) (d : DEnt) : SV × St := known S lenSort (.len d.lay.length) [.sym d.x]

theorem lenD_ok (hr : Rel B G w0 E S w) {d : DEnt} {cells : Array Value} (hx : E.σ d.x = some (.agg cells)) (hf : cells.size / d.lay.length ≤ 140737488355328) :
    ∃ F, E.le F ∧ Rel B G w0 F (lenD S d).2 w ∧ (lenD S d).1.den F = some (.int .i64 ((cells.size / d.lay.length : Nat) : Int)) :=
  known_ok hr (vs := [.agg cells]) (bound_len _) (denL_mk (x := .sym d.x) (by simp only [SV.den]; exact hx) (r := []) rfl)
    ⟨_, rfl, fun a e => by cases e; exact Int.natCast_nonneg _, fun b e => by cases e; exact Int.ofNat_le.2 hf⟩ rfl

def evDLen (P : Program) (S : St) (t : TypeId) (x : SV) : Option (SV × St) :=
  match x with
  | .sym n => match deepAt n S.deeps, P.underlying t with
    | some d, some (.slice _) => some (lenD S d)
    | _, _ => none
  | _ => none

theorem evDLen_ok (hr : Rel B G w0 E S w) {t ty : TypeId} {x sv : SV} {S' : St} {vx : Value} (h : evDLen P S t x = some (sv, S')) (hx : x.den E = some vx) : Does B G w0 P E sv S' (Builtin.len_ #[t] ty #[vx]) w := by
  unfold evDLen at h
  split at h
  · rename_i n
    split at h
    · rename_i d e hd hu
      simp only [Option.some.injEq] at h
      obtain ⟨hm, rfl⟩ := deepAt_mem hd
      obtain ⟨v, u, hs, hux, hD⟩ := hr.deeps d hm
      simp only [SV.den] at hx
      rw [hs] at hx; cases hx
      obtain ⟨cells, rfl, k1, k2, k3, k4⟩ := hD.open
      obtain ⟨F, f1, f2, f3⟩ := lenD_ok hr hux k2
      rw [h] at f2 f3
      refine ⟨F, _, w, f1, f2, f3, ?_⟩
      rcases k4 with ⟨rfl, rfl⟩ | ⟨a, cap, raw, rfl, _⟩
      · simp [Builtin.len_, run_underlying hu]; rfl
      · simp [Builtin.len_, run_underlying hu]; rfl
    · cases h
  · cases h

/-- The place of an element. -/
def evDAddr (P : Program) (S : St) (t : TypeId) (x i : SV) : Option (List (SV × St)) :=
  match x with
  | .sym n => match deepAt n S.deeps, P.underlying t, intOf S i with
    | some l, some (.slice e), some (.i64, _, _) => match (P.info? e).map (·.size) with
      | some sz => bif Nat.beq sz l.lay.length then
          match notNeg S i with
          | none => none
          | some (S1, b1) =>
            let ln := lenD S1 l
            let c := (match evIntCmp ln.2 .lss i ln.1 with
              | some v => (v, ln.2)
              | none => known ln.2 .bool (.int .lss .i64) [i, ln.1])
            match need c.2 c.1 true with
            | none => none
            | some (S2, b2) =>
              let p := known S2 .cell (.addr l.lay.length 0) [x, i]
              let q := known p.2 .bool (.inb l.lay.length) [.sym l.x, i]
              some ((p.1, q.2) :: bads (b1 ++ b2))
        else none
      | none => none
    | _, _, _ => none
  | _ => none

theorem evDAddr_ok (hr : Rel B G w0 E S w) {t : TypeId} {x i : SV} {rs : List (SV × St)} {vx vi : Value} (h : evDAddr P S t x i = some rs) (hx : x.den E = some vx) (hi : i.den E = some vi) :
    DoesB B G w0 P E rs (Instr.indexAt t vx vi) w := by
  unfold evDAddr at h
  split at h
  case h_2 => cases h
  rename_i n
  split at h
  case h_2 => cases h
  rename_i l e lo hi' hl hu hio
  split at h
  case h_2 => cases h
  rename_i sz hsz
  cases hb : Nat.beq sz l.lay.length with
  | false => rw [hb] at h; cases h
  | true =>
  rw [hb] at h
  have hbe := Nat.eq_of_beq_eq_true hb
  simp only [cond_true] at h
  obtain ⟨k, rfl, _, _⟩ := intOf_ok hr.env hio hi
  split at h
  · cases h
  rename_i S1 b1 hn
  split at h
  · cases h
  rename_i S2 b2 hn2
  simp only [Option.some.injEq] at h; subst h
  obtain ⟨F, f1, f2⟩ := notNeg_ok hr hi hn
  rcases f2 with ⟨hk, hr1⟩ | hbad
  case inr => exact doesB_more f1 hbad fun T hT => List.mem_append_left _ hT
  obtain ⟨hm, rfl⟩ := deepAt_mem hl
  obtain ⟨v, u, hs, hux, hD⟩ := hr.deeps l hm
  obtain ⟨cells, rfl, q1, q2, q3, q4⟩ := hD.open
  simp only [SV.den] at hx
  rw [hs] at hx; cases hx
  obtain ⟨F2, g1, g2, g3⟩ := lenD_ok hr1 (f1.σ _ _ hux) q2
  have hi2 := SV.den_mono (Env.le_trans f1 g1) _ _ hi
  have cmp : ∃ F3, F2.le F3 ∧ Rel B G w0 F3 (match evIntCmp (lenD S1 l).2 .lss i (lenD S1 l).1 with
              | some v => (v, (lenD S1 l).2)
              | none => known (lenD S1 l).2 .bool (.int .lss .i64) [i, (lenD S1 l).1]).2 w ∧ (match evIntCmp (lenD S1 l).2 .lss i (lenD S1 l).1 with
              | some v => (v, (lenD S1 l).2)
              | none => known (lenD S1 l).2 .bool (.int .lss .i64) [i, (lenD S1 l).1]).1.den F3 = some (.bool (k < ((cells.size / l.lay.length : Nat) : Int))) := by
    split
    · rename_i v hv
      obtain ⟨c, rfl, e⟩ := evIntCmp_val g2.env hv hi2 g3
      simp only [ibin, Option.some.injEq, Value.bool.injEq] at e
      exact ⟨F2, F2.le_refl, g2, by simp only [SV.den, e]⟩
    · exact known_ok g2 (srt := .bool) (op := .int .lss .i64) (bound_int _ _) (denL_mk hi2 (denL_mk g3 (r := []) rfl)) ⟨_, rfl⟩ (rel_int (by simp only [intV, if_true, ibin]))
  obtain ⟨F3, k1, k2, k3⟩ := cmp
  rcases need_ok k2 hn2 k3 with ⟨e1, hr2⟩ | hbad
  case inr => exact doesB_more (Env.le_trans f1 (Env.le_trans g1 k1)) hbad fun T hT => List.mem_append_right _ hT
  have hlt : k < ((cells.size / l.lay.length : Nat) : Int) := by simpa using e1
  have hE3 := Env.le_trans f1 (Env.le_trans g1 k1)
  rcases q4 with ⟨rfl, rfl⟩ | ⟨a, cap, raw, rfl, hcells⟩
  · simp at hlt; omega
  have hx3 : (SV.sym l.s).den F3 = some (.slice (some a) (cells.size / l.lay.length) cap) := by simp only [SV.den]; exact hE3.σ _ _ hs
  have hi3 := SV.den_mono hE3 _ _ hi
  obtain ⟨F4, m1, m2, m3⟩ := known_ok hr2 (srt := .cell) (op := .addr l.lay.length 0) (v := .pointer (some (a.add (k.toNat * l.lay.length + 0)))) (bound_addr _ _) (denL_mk hx3 (denL_mk hi3 (r := []) rfl)) rfl rfl
  have hX4 : (SV.sym l.x).den F4 = some (.agg cells) := by simp only [SV.den]; exact m1.σ _ _ (hE3.σ _ _ hux)
  obtain ⟨F5, n1, n2, n3⟩ := known_ok m2 (srt := .bool) (op := .inb l.lay.length) (v := .bool true) (bound_inb _) (denL_mk hX4 (denL_mk (SV.den_mono m1 _ _ hi3) (r := []) rfl)) ⟨_, rfl⟩ (by
    show (if 0 ≤ k ∧ k.toNat < cells.size / l.lay.length then some (Value.bool true) else none) = _
    rw [if_pos ⟨hk, by omega⟩])
  refine ⟨_, List.mem_cons_self, .inr ⟨F5, _, w, Env.le_trans hE3 (Env.le_trans m1 n1), n2, SV.den_mono n1 _ _ m3, ?_⟩⟩
  subst hbe
  simp only [Instr.indexAt, asIntOf, Sem.run_bind, Sem.run_pure, Result.andThen_ok, run_underlying hu]
  have h1 : (0 : Int) ≤ k ∧ k < ((cells.size / l.lay.length : Nat) : Int) := ⟨hk, hlt⟩
  simp only [h1, and_self, if_true, Sem.run_bind, run_sizeOf' hsz, Result.andThen_ok, Nat.add_zero, Sem.run_pure]

/-! ### The cells of an element -/
/-- 'n' cells of an element, from one on; a list among them is a list of which all is known. -/
def getCellsD (x : Nat) (i : SV) (lay : List Lay) : Nat → Nat → St → Option (List SV × St)
  | 0, _, S => some ([], S)
  | n + 1, off, S => match lay[off]? with
    | none => none
    | some (.sc t) =>
      let c := known S t (.get lay.length off) [.sym x, i]
      match getCellsD x i lay n (off + 1) c.2 with
      | some (l, S') => some (c.1 :: l, S')
      | none => none
    | some (.list lay') =>
      let c := known S .any (.get lay.length off) [.sym x, i]
      match c.1 with
      | .sym m =>
        let S1 : St := { c.2 with nsym := c.2.nsym + 1, sorts := (c.2.nsym, .cell) :: c.2.sorts }
        match getCellsD x i lay n (off + 1) (addDeep S1 c.2.nsym m lay') with
        | some (l, S') => some (.sym c.2.nsym :: l, S')
        | none => none
      | _ => none

theorem Deep.one {Bd : Nat} {w : World} {lay : List Lay} {v x : Value} (h : Deep Bd w (.list lay) v x) : v.oneCell' = true := by
  cases h <;> rfl

theorem getCellsD_ok {x : Nat} {i : SV} {lay : List Lay} {raw cells : Array Value} {k : Int} (hsz : raw.size = cells.size)
    (hlay : ∀ (j : Nat) (t : Lay) (c x : Value), lay[j % lay.length]? = some t → raw[j]? = some c → cells[j]? = some x → Deep B w0.w t c x) (hk : k.toNat * lay.length + lay.length ≤ cells.size) :
    ∀ (n off : Nat) (S S' : St) (E : Env) (l : List SV), getCellsD x i lay n off S = some (l, S') → Rel B G w0 E S w → (SV.sym x).den E = some (.agg cells) → (∃ kd, i.den E = some (.int kd k)) → off + n ≤ lay.length →
      ∃ F vs, E.le F ∧ Rel B G w0 F S' w ∧ SV.denL F l = some vs ∧ vs = (raw.toList.drop (k.toNat * lay.length + off)).take n
  | 0, off, S, S', E, l, h, hr, _, _, _ => by
    simp only [getCellsD, Option.some.injEq, Prod.mk.injEq] at h
    obtain ⟨rfl, rfl⟩ := h
    exact ⟨E, [], E.le_refl, hr, rfl, by simp⟩
  | n + 1, off, S, S', E, l, h, hr, hx, hi, ho => by
    have hidx : k.toNat * lay.length + off < cells.size := by omega
    have hidr : k.toNat * lay.length + off < raw.size := by omega
    have hc : cells[k.toNat * lay.length + off]? = some cells[k.toNat * lay.length + off] := Array.getElem?_eq_getElem hidx
    have hcr : raw[k.toNat * lay.length + off]? = some raw[k.toNat * lay.length + off] := Array.getElem?_eq_getElem hidr
    have hmod : (k.toNat * lay.length + off) % lay.length = off := by
      rw [Nat.mul_comm, Nat.mul_add_mod, Nat.mod_eq_of_lt (by omega)]
    have fin : ∀ (vs : List Value), vs = (raw.toList.drop (k.toNat * lay.length + (off + 1))).take n → raw[k.toNat * lay.length + off] :: vs = (raw.toList.drop (k.toNat * lay.length + off)).take (n + 1) := fun vs e => by
      rw [e]
      have hlt : k.toNat * lay.length + off < raw.toList.length := by simpa using hidr
      rw [List.drop_eq_getElem_cons hlt, List.take_succ_cons]
      simp only [Array.getElem_toList, Nat.add_assoc]
    obtain ⟨kd, hi'⟩ := hi
    simp only [getCellsD] at h
    split at h
    · cases h
    · rename_i t ht
      have hD := hlay _ (.sc t) _ _ (by rw [hmod]; exact ht) hcr hc
      split at h
      · rename_i l' S'' hg
        simp only [Option.some.injEq, Prod.mk.injEq] at h
        obtain ⟨rfl, rfl⟩ := h
        obtain ⟨hfit, heq⟩ : t.fits cells[k.toNat * lay.length + off] ∧ raw[k.toNat * lay.length + off] = cells[k.toNat * lay.length + off] := by
          generalize raw[k.toNat * lay.length + off] = r at hD
          generalize cells[k.toNat * lay.length + off] = c at hD
          cases hD with
          | sc hf => exact ⟨hf, rfl⟩
        obtain ⟨F, f1, f2, f3⟩ := known_ok hr (srt := t) (op := .get lay.length off) (v := cells[k.toNat * lay.length + off]) (bound_get _ _) (denL_mk hx (denL_mk hi' (r := []) rfl)) hfit hc
        obtain ⟨F', vs, g1, g2, g3, g4⟩ := getCellsD_ok hsz hlay hk n (off + 1) _ S'' F l' hg f2 (SV.den_mono f1 _ _ hx) ⟨kd, SV.den_mono f1 _ _ hi'⟩ (by omega)
        exact ⟨F', _, Env.le_trans f1 g1, g2, denL_mk (SV.den_mono g1 _ _ f3) g3, by rw [← heq]; exact fin vs g4⟩
      · cases h
    · rename_i lay' ht
      have hD := hlay _ (.list lay') _ _ (by rw [hmod]; exact ht) hcr hc
      obtain ⟨F, f1, f2, f3⟩ := known_ok hr (srt := .any) (op := .get lay.length off) (v := cells[k.toNat * lay.length + off]) (bound_get _ _) (denL_mk hx (denL_mk hi' (r := []) rfl)) trivial hc
      split at h
      case h_2 => cases h
      rename_i m hm
      split at h
      case h_2 => cases h
      rename_i l' S'' hg
      simp only [Option.some.injEq, Prod.mk.injEq] at h
      obtain ⟨rfl, rfl⟩ := h
      rw [hm] at f3
      simp only [SV.den] at f3
      obtain ⟨k1, k2⟩ := f2.newCell (v := raw[k.toNat * lay.length + off]) hD.one
      have k3 := k2.addDeep (Env.unk_self _ _ _) (k1.σ _ _ f3) hD
      have hle := Env.le_trans f1 k1
      obtain ⟨F', vs, g1, g2, g3, g4⟩ := getCellsD_ok hsz hlay hk n (off + 1) _ S'' _ l' hg k3 (SV.den_mono hle _ _ hx) ⟨kd, SV.den_mono hle _ _ hi'⟩ (by omega)
      exact ⟨F', _, Env.le_trans hle g1, g2, denL_mk (SV.den_mono g1 _ _ (by simp only [SV.den]; exact Env.unk_self _ _ _)) g3, fin vs g4⟩

def evDLoad (P : Program) (S : St) (t : TypeId) (a : SV) : Option (SV × St) :=
  match a with
  | .sym p => match placeOf p S.facts with
    | some (sz, s, i, off) => match deepAt s S.deeps with
      | some l => bif Nat.beq sz l.lay.length then
          match lookFact (.inb sz) [.sym l.x, i] S.facts, P.underlying t with
          | some _, some d => bif isAggD d then
              match (P.info? t).map (·.size) with
              | none => none
              | some n => bif Nat.ble (off + n) sz then
                  match getCellsD l.x i l.lay n off S with
                  | some (cs, S') => some (.agg cs, S')
                  | none => none
                else none
            else bif Nat.blt off sz then
              match getCellsD l.x i l.lay 1 off S with
              | some ([c], S') => some (c, S')
              | _ => none
            else none
          | _, _ => none
        else none
      | none => none
    | none => none
  | _ => none

theorem evDLoad_ok (hr : Rel B G w0 E S w) {t : TypeId} {a sv : SV} {S' : St} {va : Value} (h : evDLoad P S t a = some (sv, S')) (ha : a.den E = some va) : Does B G w0 P E sv S' (Instr.loadAt t va) w := by
  unfold evDLoad at h
  split at h
  case h_2 => cases h
  rename_i p
  split at h
  case h_2 => cases h
  rename_i sz s i off hp
  split at h
  case h_2 => cases h
  rename_i l hl
  cases hb : Nat.beq sz l.lay.length with
  | false => rw [hb] at h; cases h
  | true =>
  rw [hb] at h
  have hbe := Nat.eq_of_beq_eq_true hb
  subst hbe
  simp only [cond_true] at h
  split at h
  case h_2 => cases h
  rename_i z d hz hd
  simp only [SV.den] at ha
  obtain ⟨a, n, cap, kd, k, e1, e2, rfl⟩ := place_at hr hp ha
  obtain ⟨hm, rfl⟩ := deepAt_mem hl
  obtain ⟨v, u, hs, hux, hD⟩ := hr.deeps l hm
  obtain ⟨cells, rfl, q1, q2, q3, q4⟩ := hD.open
  have hX : (SV.sym l.x).den E = some (.agg cells) := by simp only [SV.den]; exact hux
  obtain ⟨u, hu1, hu2⟩ := fact_at hr hz (denL_mk hX (denL_mk e2 (r := []) rfl))
  obtain ⟨hk0, hk1⟩ := inb_of hu2
  rw [e1] at hs; cases hs
  rcases q4 with ⟨e, _⟩ | ⟨a', cap', raw, e, hrs, hblk, hcells0, hdeep⟩
  · cases e
  cases e
  have hcells : ∀ (j : Nat) (c : Value), raw[j]? = some c → w.cell? (a.add j) = some c := fun j c hj => by
    rw [← hcells0 j c hj]
    refine World.cell?_of_block (hr.below.block _ ?_)
    rw [addr_add_block]; exact hblk
  have hwhole : k.toNat * l.lay.length + l.lay.length ≤ cells.size := by
    have h1 : (k.toNat + 1) * l.lay.length ≤ cells.size / l.lay.length * l.lay.length := Nat.mul_le_mul_right _ hk1
    rw [Nat.add_mul, Nat.one_mul] at h1
    omega
  have go : ∀ (m : Nat) (cs : List SV) (S'' : St), off + m ≤ l.lay.length → getCellsD l.x i l.lay m off S = some (cs, S'') →
      ∃ F vs, E.le F ∧ Rel B G w0 F S'' w ∧ SV.denL F cs = some vs ∧ vs.length = m ∧ ∀ (j : Nat) (c : Value), vs[j]? = some c → w.cell? ((a.add (k.toNat * l.lay.length + off)).add j) = some c := fun m cs S'' hom hg => by
    obtain ⟨F, vs, f1, f2, f3, f4⟩ := getCellsD_ok hrs hdeep hwhole m off S S'' E cs hg hr hX ⟨kd, e2⟩ hom
    refine ⟨F, vs, f1, f2, f3, by rw [f4]; simp; omega, fun j c hj => ?_⟩
    rw [Addr.add_add]
    refine hcells _ _ ?_
    rw [f4, List.getElem?_take] at hj
    split at hj
    · rw [List.getElem?_drop] at hj
      simpa using hj
    · cases hj
  cases hagg : isAggD d with
  | true =>
    rw [hagg] at h
    simp only [cond_true] at h
    split at h
    · cases h
    rename_i m hsz
    cases hle : Nat.ble (off + m) l.lay.length with
    | false => rw [hle] at h; cases h
    | true =>
    rw [hle] at h
    simp only [cond_true] at h
    split at h
    · rename_i cs S'' hg
      simp only [Option.some.injEq, Prod.mk.injEq] at h
      obtain ⟨rfl, rfl⟩ := h
      obtain ⟨F, vs, f1, f2, f3, f4, f5⟩ := go m cs S'' (Nat.le_of_ble_eq_true hle) hg
      refine ⟨F, .agg vs.toArray, w, f1, f2, by simp only [SV.den, f3], ?_⟩
      simp only [Instr.loadAt, Instr.sureAddr, loadVar, Sem.run_bind, Sem.run_pure, Result.andThen_ok, run_isAgg' hd, hagg, if_true, run_sizeOf' hsz, loads_far f4 f5]
    · cases h
  | false =>
    rw [hagg] at h
    simp only [cond_false] at h
    cases hlt : Nat.blt off l.lay.length with
    | false => rw [hlt] at h; cases h
    | true =>
    have hlt' : off < l.lay.length := Nat.le_of_ble_eq_true hlt
    rw [hlt] at h
    simp only [cond_true] at h
    split at h
    · rename_i c S'' hg
      simp only [Option.some.injEq, Prod.mk.injEq] at h
      obtain ⟨rfl, rfl⟩ := h
      obtain ⟨F, vs, f1, f2, f3, f4, f5⟩ := go 1 [c] S'' (by omega) hg
      obtain ⟨v1, l1, g1, g2, rfl⟩ := denL_cons f3
      simp only [SV.denL, Option.some.injEq] at g2; subst g2
      refine ⟨F, v1, w, f1, f2, g1, ?_⟩
      have hc := f5 0 v1 (by simp)
      simp only [Addr.add, if_true] at hc
      simp only [Instr.loadAt, Instr.sureAddr, loadVar, Sem.run_bind, Sem.run_pure, Result.andThen_ok, run_isAgg' hd, hagg, Bool.false_eq_true, if_false, run_load]
      simp only [Addr.add] at hc ⊢
      rw [hc]
    · cases h
end
end Go.Ev
