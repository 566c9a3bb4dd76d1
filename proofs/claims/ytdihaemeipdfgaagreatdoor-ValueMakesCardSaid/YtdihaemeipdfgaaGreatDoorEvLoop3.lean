/- The rule for loops. -/
import Derived.Test.YtdihaemeipdfgaaGreatDoorEvLoop2
namespace Go.Ev
open Go.RowKit (Below)

theorem enumS_find : ∀ {hs : List Sort_} {N i : Nat} {r : List (Nat × Sort_)}, find i (enumS N hs ++ r) = if N ≤ i ∧ i < N + hs.length then hs[i - N]? else find i r
  | [], N, i, r => by
    have : ¬ (N ≤ i ∧ i < N + ([] : List Sort_).length) := by simp
    rw [if_neg this]; rfl
  | t :: hs, N, i, r => by
    simp only [enumS, List.cons_append]
    by_cases e : i = N
    · subst e
      rw [find_cons_self, if_pos (by simp)]
      simp
    · rw [find_cons_ne e, enumS_find]
      by_cases h : N ≤ i ∧ i < N + (t :: hs).length
      · rw [if_pos h, if_pos (by simp only [List.length_cons] at h; omega)]
        obtain ⟨k, hk⟩ : ∃ k, i - N = k + 1 := ⟨i - N - 1, by omega⟩
        rw [hk, List.getElem?_cons_succ]
        congr 1
        omega
      · rw [if_neg h, if_neg (by simp only [List.length_cons] at h; omega)]

theorem fitsL_get : ∀ {hs : List Sort_} {vs : List Value}, fitsL hs vs → ∀ {j : Nat} {t : Sort_}, hs[j]? = some t → ∃ v, vs[j]? = some v ∧ t.fits v
  | [], [], _, j, t, h => by simp at h
  | s :: ss, v :: vs, h, j, t, hj => by
    cases j with
    | zero => simp at hj; subst hj; exact ⟨v, rfl, h.1⟩
    | succ j => simp at hj; simpa using fitsL_get h.2 hj
  | [], _ :: _, h, _, _, _ => h.elim
  | _ :: _, [], h, _, _, _ => h.elim

theorem fitsL_length : ∀ {hs : List Sort_} {vs : List Value}, fitsL hs vs → hs.length = vs.length
  | [], [], _ => rfl
  | _ :: ss, _ :: vs, h => by simp [fitsL_length (hs := ss) (vs := vs) h.2]
  | [], _ :: _, h => h.elim
  | _ :: _, [], h => h.elim

/-- The check: a state that comes to the head, and what the head's unknowns stand for there. -/
def comes (T : Tpl) (H : List SV × St) (S : St) (m : Nat) (ts' : List SV) (S' : St) : Option (List SV) :=
  match newVals T S ts' S' with
  | none => none
  | some nv => bif Nat.beq nv.length m && (alignL S.nsym nv H.1 ts' && alignHeap S.nsym nv S S' H.2.heap) then
      (match alignLists S.nsym nv S S' H.2.lists with
      | some _ => some nv
      | none => none) else none

section
variable {B G : Nat} {w0 : Start} {E F : Env} {S S' : St} {w w' : World} {P : Program}

/-- What the head tells besides. -/
structure Heady (S : St) (hs : List Sort_) (SH : St) : Prop where
  next : SH.next = S.next
  ncap : SH.ncap = S.ncap
  lows : SH.lows = S.lows
  nsym : SH.nsym = S.nsym + hs.length
  sorts : SH.sorts = enumS S.nsym hs ++ S.sorts
  pc : SH.pc = S.pc
  gs : SH.gs = S.gs
  ro : SH.ro = S.ro
  ra : SH.ra = S.ra
  facts : SH.facts = S.facts

/-- What is known of the head, out of the state in which it was made. -/
structure HeadKnown (E : Env) (N : Nat) (H : List SV × St) : Prop where
  ts : KnownL E N H.1
  heap : ∀ id o, find id H.2.heap = some o → KnownO E N o

theorem comes_known {T : Tpl} {H : List SV × St} {m : Nat} {ts : List SV} {l : List Value} {nv : List SV} (hr : Rel B G w0 E S w) (h : comes T H S m ts S = some nv) (ht : SV.denL E ts = some l) : HeadKnown E S.nsym H := by
  unfold comes at h
  split at h
  · cases h
  rename_i nv' _
  cases hc : Nat.beq nv'.length m && (alignL S.nsym nv' H.1 ts && alignHeap S.nsym nv' S S H.2.heap) with
  | false => rw [hc] at h; cases h
  | true =>
    simp only [Bool.and_eq_true] at hc
    refine ⟨alignL_known _ _ _ hc.2.1 ht, fun id o hf => ?_⟩
    obtain ⟨o', o0, h1, h2, h3⟩ := alignHeap_find hc.2.2 hf
    obtain ⟨b, x, _, _, hx⟩ := hr.heap id o' h1
    exact alignObj_known h3 hx

theorem ownBlock_nil : (Value.slice none 0 0).ownBlock = none := rfl

theorem bindL_den {α : Type} {f : α → Option (List SV)} : ∀ {l : List α} {r : List SV}, bindL l f = some r → (∀ x ∈ l, ∀ a, f x = some a → ∃ vs, SV.denL F a = some vs) → ∃ vs, SV.denL F r = some vs
  | [], r, h, _ => by simp only [bindL, Option.some.injEq] at h; subst h; exact ⟨[], rfl⟩
  | x :: l, r, h, hf => by
    simp only [bindL] at h
    split at h
    · cases h
    · rename_i a ha
      split at h
      · cases h
      · rename_i b hb
        simp only [Option.some.injEq] at h; subst h
        obtain ⟨va, h1⟩ := hf x List.mem_cons_self a ha
        obtain ⟨vb, h2⟩ := bindL_den hb fun y hy => hf y (List.mem_cons_of_mem _ hy)
        exact ⟨va ++ vb, denL_append h1 h2⟩

theorem zip_den {α : Type} {ys : List SV} {l : List Value} (h : SV.denL F ys = some l) {xs : List α} : ∀ p ∈ xs.zip ys, ∃ v, p.2.den F = some v := fun p hp => by
  obtain ⟨j, hj⟩ := List.mem_iff_getElem?.1 hp
  have := (List.getElem?_zip_eq_some.1 hj).2
  obtain ⟨v, _, hv⟩ := denL_get h this
  exact ⟨v, hv⟩

theorem listVals_den (hr : Rel B G w0 F S' w') {y : SV} {l : List SV} {v : Value} (h : listVals S' y = some l) (hy : y.den F = some v) : ∃ vs, SV.denL F l = some vs := by
  unfold listVals at h
  split at h
  · split at h
    · rename_i m hm
      simp only [Option.some.injEq] at h; subst h
      obtain ⟨u, cells, hL⟩ := hr.lists m (listAt_mem hm).1
      exact ⟨_, denL_mk hy (denL_mk (x := .sym m.x) (by simp only [SV.den]; exact hL.x) (r := []) rfl)⟩
    · cases h
  · cases hn : isNilS y with
    | false => rw [hn] at h; cases h
    | true =>
      rw [hn] at h
      simp only [cond_true, Option.some.injEq] at h; subst h
      exact ⟨_, denL_mk hy (denL_mk (x := .val (.agg #[])) (v := .agg #[]) (by simp only [SV.den]) (r := []) rfl)⟩

theorem valsHv_den (hr : Rel B G w0 F S' w') : ∀ (d : Nat) (h : Hv) (y : SV) (l : List SV) (v : Value), valsHv S' d h y = some l → y.den F = some v → ∃ vs, SV.denL F l = some vs
  | d, .keep, y, l, v, h, hy => by
    have : l = [] := by cases d <;> (simp only [valsHv, Option.some.injEq] at h; exact h.symm)
    subst this; exact ⟨[], rfl⟩
  | d, .scal t, y, l, v, h, hy => by
    have : l = [y] := by cases d <;> (simp only [valsHv, Option.some.injEq] at h; exact h.symm)
    subst this; exact ⟨[v], denL_mk hy (r := []) rfl⟩
  | d, .list e lay, y, l, v, h, hy => by
    have h : listVals S' y = some l := by cases d <;> exact h
    exact listVals_den hr h hy
  | 0, .agg hs, y, l, v, h, hy => by simp only [valsHv] at h; cases h
  | d + 1, .agg hs, y, l, v, h, hy => by
    simp only [valsHv] at h
    split at h
    · rename_i ys hys
      obtain ⟨vs, hvs, _⟩ := aggOf_den hys hy
      cases hb : Nat.beq hs.length ys.length with
      | false => rw [hb] at h; cases h
      | true =>
        rw [hb] at h
        refine bindL_den h fun p hp a ha => ?_
        obtain ⟨u, hu⟩ := zip_den hvs p hp
        exact valsHv_den hr d p.1 p.2 a u ha hu
    · cases h

theorem newVals_den (hr : Rel B G w0 F S' w') {T : Tpl} {ts' : List SV} {l' : List Value} (ht : SV.denL F ts' = some l') {nv : List SV} (h : newVals T S ts' S' = some nv) : ∃ hv, SV.denL F nv = some hv := by
  unfold newVals at h
  split at h
  · cases h
  rename_i a ha
  split at h
  · cases h
  rename_i b hb
  simp only [Option.some.injEq] at h; subst h
  obtain ⟨va, h1⟩ := bindL_den (F := F) ha fun p hp a ha => by
    obtain ⟨u, hu⟩ := zip_den ht p hp
    exact valsHv_den hr deep p.1 p.2 a u ha hu
  obtain ⟨vb, h2⟩ := bindL_den (F := F) hb fun p hp a ha => by
    split at ha
    · split at ha
      · rename_i cs e wr ext hf
        obtain ⟨blk, x, hρ, hx, _⟩ := hr.heap _ _ hf
        obtain ⟨l, r, fz, _, hl, _⟩ := row_at hr hf hρ
        refine bindL_den ha fun q hq a ha => ?_
        obtain ⟨u, hu⟩ := zip_den hl q hq
        exact valsHv_den hr deep q.1 q.2 a u ha hu
      · cases ha
    · simp only [Option.some.injEq] at ha; subst ha; exact ⟨[], rfl⟩
  exact ⟨va ++ vb, denL_append h1 h2⟩

/-- A list at the head, out of the state that comes there. -/
theorem list_rel {N : Nat} {nv : List SV} {hv : List Value} (hr0 : Rel B G w0 E S w) (hN : N = S.nsym) (hE : E.le F) (hr : Rel B G w0 F S' w') (hnv : SV.denL F nv = some hv) {l : LEnt} (hf : ListFits N nv S S' l) :
    ∃ v cells, LRel B w0 (E.unks N hv) w' l v cells ∧ (∀ b, l.own = true → v.ownBlock = some b → ∃ m ∈ S'.lists, m.own = true ∧ srcOf N nv l = some m.s ∧ F.σ m.s = some v) := by
  have hle := unks_le E hv (N := N) (by rw [hN]; exact hr0.newσ)
  rcases hf with ⟨hlt, hm, hk⟩ | ⟨hge, hgx, ho, hpos, hcase⟩
  · obtain ⟨v, cells, hL⟩ := hr0.lists l hm
    have hsrc : srcOf N nv l = some l.s := by
      have : Nat.blt l.s N = true := Nat.ble_eq_true_of_le hlt
      simp only [srcOf, this, cond_true]
    cases ho : l.own with
    | false =>
      exact ⟨v, cells, { s := hle.σ _ _ hL.s, x := hle.σ _ _ hL.x, some_ := hL.some_, few := hL.few, whole := hL.whole, lay := hL.lay, own := fun h => (by rw [ho] at h; cases h), old := hL.old }, fun b h => by cases h⟩
    | true =>
      unfold listKept at hk
      rw [ho] at hk
      simp only [Bool.not_true, Bool.false_or] at hk
      split at hk
      · rename_i m hm'
        simp only [Bool.and_eq_true] at hk
        obtain ⟨c1, c2, c3, c4⟩ := hk
        obtain ⟨e1, e2⟩ := listAt_mem hm'
        have c1 := Nat.eq_of_beq_eq_true c1
        have c3 := Nat.eq_of_beq_eq_true c3
        have c4 := Nat.eq_of_beq_eq_true c4
        obtain ⟨v', cells', hL'⟩ := hr.lists m e1
        have hv : v' = v := by have := hL'.s; rw [e2, hE.σ _ _ hL.s] at this; cases this; rfl
        have hc : cells' = cells := by have := hL'.x; rw [c1, hE.σ _ _ hL.x] at this; cases this; rfl
        subst hv hc
        refine ⟨v', cells', { s := hle.σ _ _ hL.s, x := hle.σ _ _ hL.x, some_ := hL.some_, few := hL.few, whole := hL.whole, lay := hL.lay, own := fun _ => ?_, old := hL.old }, fun b _ _ => ⟨m, e1, c2, by rw [hsrc, e2], hL'.s⟩⟩
        have := hL'.own c2
        rw [c3, c4] at this
        exact this
      · cases hk
  · have hlt : Nat.blt l.s N = false := by rw [← Bool.not_eq_true]; exact fun e => by have : l.s < N := Nat.le_of_ble_eq_true e; omega
    rcases hcase with ⟨m, hm, mo, me, ml, h1, h2⟩ | ⟨a, h1, h2, rfl⟩
    · obtain ⟨v, cells, hL⟩ := hr.lists m hm
      have d1 : (E.unks N hv).σ l.s = some v := by
        rw [unks_new E hv hge]
        obtain ⟨u, hu, hd⟩ := denL_get hnv h1
        simp only [SV.den] at hd
        rw [hL.s] at hd; cases hd
        exact hu
      have d2 : (E.unks N hv).σ l.x = some (.agg cells) := by
        rw [unks_new E hv hgx]
        obtain ⟨u, hu, hd⟩ := denL_get hnv h2
        simp only [SV.den] at hd
        rw [hL.x] at hd; cases hd
        exact hu
      refine ⟨v, cells, { s := d1, x := d2, some_ := hpos, few := by rw [← ml]; exact hL.few, whole := by rw [← ml]; exact hL.whole, lay := by rw [← ml]; exact hL.lay, own := fun _ => ?_, old := fun h => by rw [ho] at h; cases h },
        fun b _ _ => ⟨m, hm, mo, by simp only [srcOf, hlt, cond_false, h1], hL.s⟩⟩
      have := hL.own mo
      rw [me, ml] at this
      exact this
    · have d1 : (E.unks N hv).σ l.s = some (.slice none 0 0) := by
        rw [unks_new E hv hge]
        obtain ⟨u, hu, hd⟩ := denL_get hnv h1
        simp only [SV.den, Option.some.injEq] at hd; subst hd
        exact hu
      have d2 : (E.unks N hv).σ l.x = some (.agg #[]) := by
        rw [unks_new E hv hgx]
        obtain ⟨u, hu, hd⟩ := denL_get hnv h2
        simp only [SV.den, Option.some.injEq] at hd; subst hd
        exact hu
      refine ⟨.slice none 0 0, #[], { s := d1, x := d2, some_ := hpos, few := by simp, whole := by simp, lay := fun j c hj => by simp at hj, own := fun _ => ?_, old := fun h => by rw [ho] at h; cases h },
        fun b _ h => by cases h⟩
      simpa using World.ownsRow_nil w' B l.e l.lay.length

/-- A state that comes to the head is one of the head's. -/
theorem comes_rel {T : Tpl} {H : List SV × St} {hs : List Sort_} {ts' : List SV} {l' : List Value} {nv : List SV} {w : World} (hr0 : Rel B G w0 E S w) (hH : Heady S hs H.2) (hK : HeadKnown E S.nsym H)
    (hE : E.le F) (hr : Rel B G w0 F S' w') (ht : SV.denL F ts' = some l') (h : comes T H S hs.length ts' S' = some nv) :
    ∃ hv, SV.denL F nv = some hv ∧ hv.length = hs.length ∧ (fitsL hs hv → Rel B G w0 (E.unks S.nsym hv) H.2 w' ∧ SV.denL (E.unks S.nsym hv) H.1 = some l') := by
  unfold comes at h
  split at h
  · cases h
  rename_i nv' hnv
  cases hc : Nat.beq nv'.length hs.length && (alignL S.nsym nv' H.1 ts' && alignHeap S.nsym nv' S S' H.2.heap) with
  | false => rw [hc] at h; cases h
  | true =>
  rw [hc] at h
  simp only [cond_true] at h
  split at h
  case h_2 => cases h
  rename_i used hused
  simp only [Option.some.injEq] at h; subst h
  simp only [Bool.and_eq_true] at hc
  obtain ⟨hlen, hal, hah⟩ := hc
  have hlen := Nat.eq_of_beq_eq_true hlen
  obtain ⟨hv, hden⟩ := newVals_den hr ht hnv
  have hvl : hv.length = hs.length := by rw [denL_length hden, hlen]
  refine ⟨hv, hden, hvl, fun hfit => ?_⟩
  have hN : ∀ i, S.nsym ≤ i → E.σ i = none := hr0.newσ
  have hle := unks_le E hv hN
  obtain ⟨hl1, _, hl3⟩ := alignLists_ok hused
  have lists : ∀ l ∈ H.2.lists, ∃ v cells, LRel B w0 (E.unks S.nsym hv) w' l v cells ∧ (∀ b, l.own = true → v.ownBlock = some b → ∃ m ∈ S'.lists, m.own = true ∧ srcOf S.nsym nv' l = some m.s ∧ F.σ m.s = some v) :=
    fun l hl => list_rel hr0 rfl hE hr hden (hl1 l hl)
  have ids : ∀ id o, find id H.2.heap = some o → ∃ o' c x, find id S'.heap = some o' ∧ E.ρ id = some c ∧ F.ρ id = some c ∧ w'.heap[c]? = some x ∧ ORel (E.unks S.nsym hv) o x := fun id o hf => by
    obtain ⟨o', o0, h1, h2, h3⟩ := alignHeap_find hah hf
    obtain ⟨c0, x0, k1, _, _⟩ := hr0.heap id o0 h2
    obtain ⟨c, x, k2, k3, k4⟩ := hr.heap id o' h1
    have := hE.ρ _ _ k1
    rw [k2] at this; cases this
    exact ⟨o', _, x, h1, k1, k2, k3, alignObj_rel hE hN hden h3 (hK.heap id o hf) k4⟩
  refine ⟨?_, alignL_den hE hN hden _ _ _ hal hK.ts ht⟩
  exact
  { heap := fun id o hf => by
      obtain ⟨o', c, x, h1, h2, h3, h4, h5⟩ := ids id o hf
      exact ⟨c, x, h2, h4, h5⟩
    inj := fun i j a b c hi hj hi' hj' => by
      obtain ⟨o1, c1, x1, h1, h2, h3, _⟩ := ids i a hi
      obtain ⟨o2, c2, x2, k1, k2, k3, _⟩ := ids j b hj
      exact hr.inj i j o1 o2 c h1 k1 (hE.ρ _ _ hi') (hE.ρ _ _ hj')
    newρ := by rw [hH.next]; exact hr0.newρ
    newσ := fun i hi => by
      rw [hH.nsym] at hi
      rw [unks_new E hv (by omega), List.getElem?_eq_none (by omega)]
    newκ := by rw [hH.ncap]; exact hr0.newκ
    dom := fun i b hb => hr.dom i b (hE.ρ _ _ hb)
    own := fun i o b hi hg hb => by
      obtain ⟨o', c, x, h1, h2, h3, _⟩ := ids i o hi
      exact hr.own i o' b h1 hg (hE.ρ _ _ hb)
    base := hr.base
    below := hr.below
    lows := by rw [hH.lows]; exact hr0.lows
    sorts := fun i t hi => by
      rw [hH.sorts, enumS_find] at hi
      split at hi
      · rename_i hb
        obtain ⟨v, h1, h2⟩ := fitsL_get hfit hi
        exact ⟨v, by rw [unks_new E hv hb.1]; exact h1, h2⟩
      · obtain ⟨v, h1, h2⟩ := hr0.sorts i t hi
        exact ⟨v, hle.σ _ _ h1, h2⟩
    pc := fun i b hi => by rw [hH.pc] at hi; exact hle.σ _ _ (hr0.pc i b hi)
    glob := fun i hi => by rw [hH.gs] at hi; exact hr0.glob i hi
    pins := fun p hp => hle.σ _ _ (hr0.pins p hp)
    ro := fun i xs hi => by rw [hH.ro] at hi; obtain ⟨a, cap, h1, h2⟩ := hr0.ro i xs hi; exact ⟨a, cap, hle.σ _ _ h1, h2⟩
    ra := fun i u hi => by rw [hH.ra] at hi; obtain ⟨a, h1, h2⟩ := hr0.ra i u hi; exact ⟨a, hle.σ _ _ h1, h2⟩
    facts := fun q hq => by rw [hH.facts] at hq; obtain ⟨vs, v, h1, h2, h3⟩ := hr0.facts q hq; exact ⟨vs, v, SV.denL_mono hle _ _ h1, SV.den_mono hle _ _ h2, h3⟩
    lists := fun l hl => by obtain ⟨v, cells, h1, _⟩ := lists l hl; exact ⟨v, cells, h1⟩
    apart := fun l hl ho v hlv b hb => by
      obtain ⟨v1, cells, h1, h2⟩ := lists l hl
      have := h1.s; rw [hlv] at this; cases this
      obtain ⟨m, hm, mo, hsrc, hmv⟩ := h2 b ho hb
      obtain ⟨a1, a2⟩ := hr.apart m hm mo v hmv b hb
      refine ⟨fun id o hf he => ?_, fun l2 hl2 ho2 u hu hub => ?_⟩
      · obtain ⟨o', c, x, k1, k2, k3, _⟩ := ids id o hf
        exact a1 id o' k1 (hE.ρ _ _ he)
      · obtain ⟨v2, cells2, k1, k2⟩ := lists l2 hl2
        have := k1.s; rw [hu] at this; cases this
        obtain ⟨m2, hm2, mo2, hsrc2, hmv2⟩ := k2 b ho2 hub
        have e := a2 m2 hm2 mo2 u hmv2 hub
        rw [e] at hsrc2
        exact hl3 l hl ho l2 hl2 ho2 m.s hsrc hsrc2 }
end
end Go.Ev
