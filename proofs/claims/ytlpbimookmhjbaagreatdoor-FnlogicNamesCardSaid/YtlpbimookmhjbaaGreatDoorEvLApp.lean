/- append to a list of unknown length that is the call's own. -/
import Derived.Test.YtlpbimookmhjbaaGreatDoorEvList
import Derived.Maps.AppendAt
namespace Go.Ev
open Go.RowKit (Below)

section
variable {B G : Nat} {w0 : Start} {E : Env} {S : St} {w : World} {P : Program}

/-- Is it of the sort, for sure? -/
def fitsS (S : St) (x : SV) : Sort_ → Bool
  | .any => true
  | .cell => oneS S x
  | .int k => match kindS S x with
    | some (.int k') => decide (k' = k)
    | _ => false
  | .float k => match kindS S x with
    | some (.float k') => decide (k' = k)
    | _ => false
  | .str => match kindS S x with
    | some .str => true
    | _ => false
  | .bool => match kindS S x with
    | some .bool => true
    | _ => false
  | _ => false

theorem fitsS_ok (hr : ERel E S) {x : SV} {t : Sort_} {v : Value} (h : fitsS S x t = true) (hx : x.den E = some v) : t.fits v := by
  cases t with
  | any => trivial
  | cell => exact oneS_ok hr h hx
  | int k =>
    simp only [fitsS] at h
    split at h
    · rename_i k' hk
      simp only [decide_eq_true_eq] at h; subst h
      exact kindS_ok hr hk hx
    · cases h
  | float k =>
    simp only [fitsS] at h
    split at h
    · rename_i k' hk
      simp only [decide_eq_true_eq] at h; subst h
      exact kindS_ok hr hk hx
    · cases h
  | str =>
    simp only [fitsS] at h
    split at h
    · rename_i hk; exact kindS_ok hr hk hx
    · cases h
  | bool =>
    simp only [fitsS] at h
    split at h
    · rename_i hk; exact kindS_ok hr hk hx
    · cases h
  | «is» u => cases h
  | strNot l => cases h
  | intIn k a b => cases h
  | nan64 => cases h

def oneSort : Sort_ → Bool
  | .any => false
  | .is _ => false
  | _ => true

theorem oneSort_ok {t : Sort_} {v : Value} (h : oneSort t = true) (hf : t.fits v) : v.oneCell' = true := by
  cases t with
  | any => cases h
  | «is» u => cases h
  | cell => exact hf
  | strNot l => obtain ⟨b, rfl, _⟩ := hf; rfl
  | intIn k lo hi => obtain ⟨b, rfl, _⟩ := hf; rfl
  | nan64 => obtain ⟨b, rfl, _⟩ := hf; rfl
  | bool => obtain ⟨b, rfl⟩ := hf; rfl
  | int k => obtain ⟨b, rfl⟩ := hf; rfl
  | float k => obtain ⟨b, rfl⟩ := hf; rfl
  | str => obtain ⟨b, rfl⟩ := hf; rfl

/-- Whole elements, cell by cell of their sorts. -/
def fitsRows (S : St) (lay : List Sort_) : Nat → List SV → Bool
  | _, [] => true
  | j, x :: r => match lay[j % lay.length]? with
    | some t => bif fitsS S x t && oneSort t then fitsRows S lay (j + 1) r else false
    | none => false

theorem fitsRows_ok (hr : ERel E S) {lay : List Sort_} : ∀ {xs : List SV} {vs : List Value} (j : Nat), fitsRows S lay j xs = true → SV.denL E xs = some vs →
    ∀ (i : Nat) (v : Value), vs[i]? = some v → v.oneCell' = true ∧ ∃ t, lay[(j + i) % lay.length]? = some t ∧ t.fits v
  | [], vs, j, _, hv, i, v, hi => by simp only [SV.denL, Option.some.injEq] at hv; subst hv; simp at hi
  | x :: r, vs, j, h, hv, i, v, hi => by
    obtain ⟨u, l, h1, h2, rfl⟩ := denL_cons hv
    simp only [fitsRows] at h
    split at h
    · rename_i t ht
      cases hb : fitsS S x t && oneSort t with
      | false => rw [hb] at h; cases h
      | true =>
        rw [hb] at h
        simp only [Bool.and_eq_true] at hb
        cases i with
        | zero =>
          simp at hi; subst hi
          have := fitsS_ok hr hb.1 h1
          exact ⟨oneSort_ok hb.2 this, t, ht, this⟩
        | succ i =>
          simp at hi
          have := fitsRows_ok hr (j + 1) h h2 i v hi
          rwa [show j + 1 + i = j + (i + 1) by omega] at this
    · cases h

def dropList (n : Nat) : List LEnt → List LEnt
  | [] => []
  | l :: r => bif Nat.beq n l.s then dropList n r else l :: dropList n r

theorem dropList_mem {n : Nat} : ∀ {ls : List LEnt} {l : LEnt}, l ∈ dropList n ls → l ∈ ls ∧ l.s ≠ n
  | [], l, h => by cases h
  | m :: r, l, h => by
    simp only [dropList] at h
    cases e : Nat.beq n m.s with
    | true => rw [e] at h; obtain ⟨h1, h2⟩ := dropList_mem h; exact ⟨List.mem_cons_of_mem _ h1, h2⟩
    | false =>
      rw [e] at h
      simp only [cond_false, List.mem_cons] at h
      rcases h with rfl | h
      · exact ⟨List.mem_cons_self, fun h => by rw [h] at e; simp at e⟩
      · obtain ⟨h1, h2⟩ := dropList_mem h; exact ⟨List.mem_cons_of_mem _ h1, h2⟩

/-- A list of the call's own, in place of another one. -/
theorem Rel.relist (hr : Rel B G w0 E S w) {l l' : LEnt} (hl : l ∈ S.lists) (ho : l.own = true) {v v' : Value} {cells' : Array Value} (hv : E.σ l.s = some v) {w' : World} (hg : w.grownBy w' v.ownBlock)
    (hb : v'.ownBlock = v.ownBlock ∨ v'.ownBlock = some w.heap.size ∨ v'.ownBlock = none) (ho' : l'.own = true) (hL : LRel B w0 E w' l' v' cells') (hs' : ∀ m ∈ S.lists, m.s ≠ l.s → m.s ≠ l'.s) :
    Rel B G w0 E { S with lists := l' :: dropList l.s S.lists } w' := by
  obtain ⟨u, cells, hr0⟩ := hr.lists l hl
  have : u = v := by have := hr0.s; rw [hv] at this; cases this; rfl
  subst this
  have hrow : ∀ b, u.ownBlock = some b → B ≤ b ∧ b < w.heap.size := fun b hb => hr0.lt ho hb
  have far : ∀ k, k < w.heap.size → u.ownBlock ≠ some k → w'.heap[k]? = w.heap[k]? := fun k hk hne => hg.block k hk (fun e => hne e.symm)
  exact
  { hr with
    heap := fun id o hi => by
      obtain ⟨b, x, h1, h2, h3⟩ := hr.heap id o hi
      refine ⟨b, x, h1, ?_, h3⟩
      rw [far b (hr.dom id b h1) (fun e => (hr.apart l hl ho u hv b e).1 id o hi h1)]
      exact h2
    dom := fun i b hb => by have := hr.dom i b hb; have := hg.size; omega
    base := by have := hr.base; have := hg.size; omega
    below := hr.below.trans ⟨hg.os, hg.tape, hg.output, hg.size, fun i hi => far i (by have := hr.base; omega) (fun e => by have := (hrow i e).1; omega)⟩
    lists := fun m hm => by
      simp only [List.mem_cons] at hm
      rcases hm with rfl | hm
      · exact ⟨v', cells', hL⟩
      · obtain ⟨hm, hne⟩ := dropList_mem hm
        obtain ⟨x, c, hx⟩ := hr.lists m hm
        exact ⟨x, c, hx.keep fun hmo b hxb => far b (hx.lt hmo hxb).2 fun e => hne ((hr.apart l hl ho u hv b e).2 m hm hmo x hx.s hxb)⟩
    apart := fun m hm hmo x hx b hxb => by
      have hnew : ∀ b, v'.ownBlock = some b → (∀ id o, find id S.heap = some o → E.ρ id ≠ some b) ∧ ∀ m ∈ S.lists, m.own = true → m.s ≠ l.s → ∀ y, E.σ m.s = some y → y.ownBlock ≠ some b := fun b hvb => by
        rcases hb with e | e | e
        · rw [e] at hvb
          have ha := hr.apart l hl ho u hv b hvb
          exact ⟨ha.1, fun m hm hmo hne y hy hyb => hne (ha.2 m hm hmo y hy hyb)⟩
        · rw [e] at hvb; cases hvb
          exact ⟨fun id o hi h => by have := hr.dom id _ h; omega, fun m hm hmo hne y hy hyb => by
            obtain ⟨z, c, hz⟩ := hr.lists m hm
            have := hz.s; rw [hy] at this; cases this
            have := (hz.lt hmo hyb).2; omega⟩
        · rw [e] at hvb; cases hvb
      simp only [List.mem_cons] at hm
      rcases hm with rfl | hm
      · have := hL.s; rw [hx] at this; cases this
        refine ⟨(hnew b hxb).1, fun k hk hko y hy hyb => ?_⟩
        simp only [List.mem_cons] at hk
        rcases hk with rfl | hk
        · rfl
        · obtain ⟨hk, hne⟩ := dropList_mem hk
          exact absurd hyb ((hnew b hxb).2 k hk hko hne y hy)
      · obtain ⟨hm, hne⟩ := dropList_mem hm
        have ha := hr.apart m hm hmo x hx b hxb
        refine ⟨ha.1, fun k hk hko y hy hyb => ?_⟩
        simp only [List.mem_cons] at hk
        rcases hk with rfl | hk
        · have := hL.s; rw [hy] at this; cases this
          exact absurd hxb ((hnew b hyb).2 m hm hmo hne x hx)
        · exact ha.2 k (dropList_mem hk).1 hko y hy hyb }

def evLAppend (P : Program) (S : St) (t xt : TypeId) (s x : SV) : Option (List (SV × St)) :=
  match s, x with
  | .sym n, .slice id off len c => match listAt n S.lists, P.underlying t with
    | some l, some (.slice e) => match P.info? e with
      | none => none
      | some i => match i.zero with
        | none => none
        | some z =>
          bif l.own && (Nat.beq t xt && (Nat.beq e l.e && (Nat.beq i.size l.lay.length && (Nat.beq z.cells.size i.size && (Nat.blt 0 i.size && (Nat.blt 0 i.bytes && Nat.ble (len * i.bytes) 140737488355328)))))) then
            match srcCells S i.size (.slice id off len c) with
            | none => none
            | some (m, cs) => bif fitsRows S l.lay 0 cs then
                let ln := lenL S l
                let c := known ln.2 .bool (.int .leq .i64) [ln.1, .val (.int .i64 (((140737488355328 / i.bytes : Nat) : Int) - m))]
                match need c.2 c.1 true with
                | none => none
                | some (S2, b2) =>
                  let y := freshS S2 .any .catc (.sym l.x :: cs)
                  some ((.sym (S2.nsym + 1), { y.2 with nsym := S2.nsym + 2, sorts := (S2.nsym + 1, .cell) :: y.2.sorts, lists := { l with s := S2.nsym + 1, x := S2.nsym } :: dropList l.s y.2.lists }) :: bads b2)
              else none
          else none
    | _, _ => none
  | _, _ => none

theorem Rel.newCell (h : Rel B G w0 E S w) {v : Value} (hv : v.oneCell' = true) : E.le (E.unk S.nsym v) ∧ Rel B G w0 (E.unk S.nsym v) { S with nsym := S.nsym + 1, sorts := (S.nsym, .cell) :: S.sorts } w := by
  obtain ⟨k1, k2⟩ := h.newSym v
  refine ⟨k1, ?_⟩
  exact
  { k2 with
    sorts := fun i s hi => by
      by_cases e : i = S.nsym
      · subst e
        rw [find_cons_self] at hi; cases hi
        exact ⟨_, Env.unk_self _ _ _, hv⟩
      · rw [find_cons_ne e] at hi
        exact k2.sorts i s hi }

theorem ownsRow_one {w : World} {base e size n : Nat} {v : Value} {xs : List Value} (h : w.ownsRow base e size v n xs) : v.oneCell' = true := by
  rcases h.2 with ⟨rfl, _⟩ | ⟨g, cap, cur, rfl, _⟩ <;> rfl

theorem evLAppend_ok (hr : Rel B G w0 E S w) {t xt ty : TypeId} {s x : SV} {rs : List (SV × St)} {vs vx : Value} (h : evLAppend P S t xt s x = some rs) (hs : s.den E = some vs) (hx : x.den E = some vx) :
    DoesB B G w0 P E rs (Builtin.append_ #[t, xt] ty #[vs, vx]) w := by
  unfold evLAppend at h
  split at h
  case h_2 => cases h
  rename_i n id off len c
  split at h
  case h_2 => cases h
  rename_i l e hl hu
  split at h
  · cases h
  rename_i i hi
  split at h
  · cases h
  rename_i z hz
  cases hb : l.own && (Nat.beq t xt && (Nat.beq e l.e && (Nat.beq i.size l.lay.length && (Nat.beq z.cells.size i.size && (Nat.blt 0 i.size && (Nat.blt 0 i.bytes && Nat.ble (len * i.bytes) 140737488355328)))))) with
  | false => rw [hb] at h; cases h
  | true =>
  rw [hb] at h
  simp only [Bool.and_eq_true] at hb
  obtain ⟨ho, b1, b2, b3, b4, b5, b6, b7⟩ := hb
  have b1 := Nat.eq_of_beq_eq_true b1
  have b2 := Nat.eq_of_beq_eq_true b2
  have b3 := Nat.eq_of_beq_eq_true b3
  have b4 := Nat.eq_of_beq_eq_true b4
  have b5 : 0 < i.size := Nat.le_of_ble_eq_true b5
  have b6 : 0 < i.bytes := Nat.le_of_ble_eq_true b6
  have b7 := Nat.le_of_ble_eq_true b7
  subst b1 b2
  simp only [cond_true] at h
  split at h
  · cases h
  rename_i m cs hsrc
  cases hf : fitsRows S l.lay 0 cs with
  | false => rw [hf] at h; cases h
  | true =>
  rw [hf] at h
  simp only [cond_true] at h
  split at h
  · cases h
  rename_i S2 b2 hn2
  simp only [Option.some.injEq] at h; subst h
  obtain ⟨hm, rfl⟩ := listAt_mem hl
  obtain ⟨v, cells, hL⟩ := hr.lists l hm
  simp only [SV.den] at hs
  rw [hL.s] at hs; cases hs
  obtain ⟨b, cap, hρ, _, rfl⟩ := slice_den hx
  -- what is appended
  simp only [srcCells] at hsrc
  split at hsrc
  case h_2 => cases hsrc
  rename_i rc re rw_ rx hfd
  cases hle : Nat.ble (off + len * i.size) rc.length with
  | false => rw [hle] at hsrc; cases hsrc
  | true =>
  rw [hle] at hsrc
  have hle := Nat.le_of_ble_eq_true hle
  simp only [cond_true, Option.some.injEq, Prod.mk.injEq] at hsrc
  obtain ⟨rfl, rfl⟩ := hsrc
  obtain ⟨lr, rr, fz, hh, hlr, -, -, -⟩ := row_at hr hfd hρ
  have hlen := denL_length hlr
  have hden : SV.denL E ((rc.drop off).take (len * i.size)) = some ((lr.drop off).take (len * i.size)) := denL_take _ (denL_drop off hlr)
  have hfit := fitsRows_ok hr.env 0 hf hden
  -- how long
  obtain ⟨F, f1, f2, f3⟩ := lenL_ok hr hL
  obtain ⟨F2, g1, g2, g3⟩ := known_ok f2 (srt := .bool) (op := .int .leq .i64) (v := .bool (((cells.size / l.lay.length : Nat) : Int) ≤ ((140737488355328 / i.bytes : Nat) : Int) - len)) (vs := [.int .i64 ((cells.size / l.lay.length : Nat) : Int), .int .i64 (((140737488355328 / i.bytes : Nat) : Int) - len)])
    (bound_int _ _) (denL_mk f3 (denL_mk (x := .val (.int .i64 (((140737488355328 / i.bytes : Nat) : Int) - len))) (by simp only [SV.den]) (r := []) rfl)) ⟨_, rfl⟩ (rel_int (by simp only [intV, if_true, ibin]))
  rcases need_ok g2 hn2 g3 with ⟨e1, hr2⟩ | hbad
  case inr => exact doesB_bad (Env.le_trans f1 g1) hbad
  have hE2 := Env.le_trans f1 g1
  have hfew : cells.size / l.lay.length + len ≤ 140737488355328 / i.bytes := by
    have : ((cells.size / l.lay.length : Nat) : Int) ≤ ((140737488355328 / i.bytes : Nat) : Int) - len := by simpa using e1
    have h2 : ((cells.size / l.lay.length : Nat) : Int) + (len : Int) ≤ ((140737488355328 / i.bytes : Nat) : Int) := by omega
    exact_mod_cast h2
  have hbytes : (cells.size / l.lay.length + len) * i.bytes ≤ 140737488355328 := Nat.le_trans (Nat.mul_le_mul_right _ hfew) (Nat.div_mul_le_self _ _)
  have hsmall : cells.size / l.lay.length + len ≤ 140737488355328 := Nat.le_trans hfew (Nat.div_le_self _ _)
  have hown := hL.own ho
  have hnl : ((lr.drop off).take (len * i.size)).length = len * i.size := by simp; omega
  rw [← b3] at hown hsmall hbytes
  obtain ⟨v', w', hrun, hown', hg, _, hblk⟩ := run_append_own_at (P := P) w B t ty l.e i z i.size i.bytes hu hi hz rfl rfl b4 b5 vs _ _ hown ⟨b, off, none⟩ len cap ((lr.drop off).take (len * i.size))
    hnl (fun j u hj => by
      rw [add_at, cell_at hh]
      rw [List.getElem?_take] at hj
      split at hj
      · rw [List.getElem?_drop] at hj
        have hlt := (List.getElem?_eq_some_iff.1 hj).1
        simp only [List.getElem?_toArray]
        rw [List.getElem?_append_left hlt]; exact hj
      · cases hj) (fun u hu => by
      obtain ⟨j, hj⟩ := List.mem_iff_getElem?.1 hu
      exact (hfit j u hj).1) (by simp only [maxLen]; omega) hbytes hr.base
  refine ⟨_, List.mem_cons_self, .inr ?_⟩
  have hcs2 := SV.denL_mono hE2 _ _ hden
  have hX2 : (SV.sym l.x).den F2 = some (.agg cells) := by simp only [SV.den]; exact (hL.mono hE2).x
  -- the new unknowns
  obtain ⟨k1, k2, k3⟩ := fresh_ok hr2 (srt := .any) (op := .catc) (args := .sym l.x :: (rc.drop off).take (len * i.size)) (denL_mk hX2 hcs2) (v := .agg (cells ++ ((lr.drop off).take (len * i.size)).toArray)) trivial rfl
  obtain ⟨m1, m2⟩ := k2.newCell (v := v') (ownsRow_one hown')
  have hE4 := Env.le_trans hE2 (Env.le_trans k1 m1)
  have hsz : (cells ++ ((lr.drop off).take (len * i.size)).toArray).size = (cells.size / l.lay.length + len) * l.lay.length := by
    have := hL.whole
    simp only [Array.size_append, List.size_toArray, hnl]
    rw [Nat.add_mul, ← b3]
    rw [← b3] at this
    omega
  have hpos : 0 < l.lay.length := hL.some_
  have hdiv : (cells ++ ((lr.drop off).take (len * i.size)).toArray).size / l.lay.length = cells.size / l.lay.length + len := by rw [hsz, Nat.mul_div_cancel _ hpos]
  have hL' : LRel B w0 ((F2.unk S2.nsym (.agg (cells ++ ((lr.drop off).take (len * i.size)).toArray))).unk (S2.nsym + 1) v') w' { l with s := S2.nsym + 1, x := S2.nsym } v' (cells ++ ((lr.drop off).take (len * i.size)).toArray) :=
    { s := Env.unk_self _ _ _
      x := by show (Env.unk _ _ _).σ S2.nsym = _; rw [Env.unk_ne _ _ (by omega)]; exact Env.unk_self _ _ _
      some_ := hpos
      few := by show _ / l.lay.length ≤ _; rw [hdiv]; rw [← b3]; exact hsmall
      whole := by show _ = _ / l.lay.length * l.lay.length; rw [hdiv]; exact hsz
      lay := fun j c hj => by
        rw [Array.getElem?_append] at hj
        split at hj
        · exact hL.lay j c hj
        · rename_i hge
          obtain ⟨_, t', h1, h2⟩ := hfit (j - cells.size) c (by simpa using hj)
          refine ⟨t', ?_, h2⟩
          rw [← h1]
          show l.lay[j % l.lay.length]? = _
          congr 1
          rw [Nat.zero_add]
          have e : j = (j - cells.size) + cells.size / l.lay.length * l.lay.length := by have := hL.whole; omega
          conv => lhs; rw [e]
          rw [Nat.add_mul_mod_self_right]
      own := fun _ => by
        show w'.ownsRow B l.e l.lay.length v' _ _
        rw [hdiv]
        rw [← b3]
        simpa using hown'
      old := fun h => by simp only at h; rw [ho] at h; cases h }
  have hlist : ∀ q ∈ S2.lists, q.s < S2.nsym := fun q hq => by
    rcases Nat.lt_or_ge q.s S2.nsym with h | h
    · exact h
    · obtain ⟨_, _, hq⟩ := hr2.lists q hq
      have := hq.s; rw [hr2.newσ _ h] at this; cases this
  have hlists2 : S2.lists = S.lists := by
    have h1 : ∀ (T : St) (srt : Sort_) (op : SOp) (as : List SV), (known T srt op as).2.lists = T.lists := fun T srt op as => by
      unfold known; split <;> rfl
    have h2 : ∀ (T : St) (x : SV) (T' : St) (bs : List St), need T x true = some (T', bs) → T'.lists = T.lists := fun T x T' bs h => by
      unfold need at h
      split at h
      · rename_i b
        cases b with
        | false => cases h
        | true => simp only [beq_self_eq_true, cond_true, Option.some.injEq, Prod.mk.injEq] at h; rw [← h.1]
      · split at h
        · rename_i b _
          cases b with
          | false => cases h
          | true => simp only [beq_self_eq_true, cond_true, Option.some.injEq, Prod.mk.injEq] at h; rw [← h.1]
        · split at h
          · simp only [Option.some.injEq, Prod.mk.injEq] at h; rw [← h.1]
          · cases h
      · cases h
    rw [h2 _ _ _ _ hn2, h1]
    exact h1 _ _ _ _
  have hfin := m2.relist (l := l) (l' := { l with s := S2.nsym + 1, x := S2.nsym }) (v := vs) (v' := v') (w' := w') (by show l ∈ S2.lists; rw [hlists2]; exact hm) ho
    (hL.mono hE4).s hg (hblk.imp (fun h => h) .inl) ho hL' (fun q hq _ => by have := hlist q hq; simp only; omega)
  exact ⟨_, v', w', hE4, hfin, by simp only [SV.den]; exact Env.unk_self _ _ _, hrun⟩
end
end Go.Ev
