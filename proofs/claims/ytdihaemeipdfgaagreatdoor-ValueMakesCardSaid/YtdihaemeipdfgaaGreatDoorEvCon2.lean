/- A contract at a caller, and a contract shown by the evaluator. -/
import Derived.Test.YtdihaemeipdfgaaGreatDoorEvCon
namespace Go.Ev
open Go.RowKit (Below)

section
variable {B G : Nat} {w0 : Start} {E : Env} {S : St} {w w' : World} {P : Program}

theorem fitsS2_ok (hr : ERel E S) {x : SV} {t : Sort_} {v : Value} (h : fitsS2 S x t = true) (hx : x.den E = some v) : t.fits v := by
  cases t with
  | intIn k lo hi =>
    simp only [fitsS2] at h
    split at h
    · rename_i k' lx ux hi'
      simp only [Bool.and_eq_true, decide_eq_true_eq] at h
      obtain ⟨rfl, h1, h2⟩ := h
      obtain ⟨n, rfl, e1, e2⟩ := intOf_ok hr hi' hx
      refine ⟨n, rfl, fun a ha => ?_, fun a ha => ?_⟩
      · subst ha
        obtain ⟨p, q, k1, k2, k3⟩ := leO_ok h1
        cases k1
        have := e1 q k2
        omega
      · subst ha
        obtain ⟨p, q, k1, k2, k3⟩ := leO_ok h2
        cases k2
        have := e2 p k1
        omega
    · cases h
  | _ => exact fitsS_ok hr (by simpa only [fitsS2] using h) hx

theorem sameSos_ne {a b : List Sort_} (h : sameSos a b = true) : a = b := sameSos_eq h

theorem list_in (hr : Rel B G w0 E S w) {l : LEnt} {v : Value} {cells : Array Value} (hL : LRel B w0 E w l v cells) : ListIn w l.lay v cells ∧ v.oneCell' = true := by
  cases ho : l.own with
  | true =>
    have hown := hL.own ho
    refine ⟨{ some_ := hL.some_, few := hL.few, whole := hL.whole, fit := hL.lay, at_ := ?_ }, ownsRow_one hown⟩
    rcases hown.2 with ⟨rfl, hn⟩ | ⟨g, cap, cur, hv, h1, h2, h3⟩
    · refine .inl ⟨rfl, ?_⟩
      have := hL.whole
      rw [hn, Nat.zero_mul] at this
      exact Array.eq_empty_of_size_eq_zero this
    · refine .inr ⟨⟨g, 0, none⟩, cap, hv, (Array.getElem?_eq_some_iff.1 h2).1, fun j c hc => ?_⟩
      exact hown.cells (g := g) (by rw [hv]; rfl) j c (by simpa using hc)
  | false =>
    have hbase : B ≤ w.heap.size := hr.base
    rcases hL.old ho with ⟨rfl, rfl⟩ | ⟨a, cap, hv, hb, hc⟩
    · exact ⟨{ some_ := hL.some_, few := hL.few, whole := hL.whole, fit := hL.lay, at_ := .inl ⟨rfl, rfl⟩ }, rfl⟩
    · refine ⟨{ some_ := hL.some_, few := hL.few, whole := hL.whole, fit := hL.lay, at_ := .inr ⟨a, cap, hv, by omega, fun j c hj => ?_⟩ }, by rw [hv]; rfl⟩
      rw [← hc j c hj]
      refine World.cell?_of_block (hr.below.block _ ?_)
      rw [addr_add_block]; exact hb

mutual
theorem matchSh_ok (hr : Rel B G w0 E S w) : ∀ (s : Sh) (x : SV) (flat : List SV) (v : Value), matchSh S s x = some flat → x.den E = some v → ∃ fl, SV.denL E flat = some fl ∧ s.rel (inR w) v fl
  | .sc t, x, flat, v, h, hx => by
    simp only [matchSh] at h
    cases hf : fitsS2 S x t with
    | false => rw [hf] at h; cases h
    | true =>
      rw [hf] at h
      simp only [cond_true, Option.some.injEq] at h; subst h
      exact ⟨[v], denL_mk hx (r := []) rfl, by simp only [Sh.rel]; exact ⟨fitsS2_ok hr.env hf hx, trivial⟩⟩
  | .list e lay, x, flat, v, h, hx => by
    simp only [matchSh] at h
    split at h
    · rename_i n
      split at h
      · rename_i l hl
        cases hs : sameSos l.lay lay with
        | false => rw [hs] at h; cases h
        | true =>
          rw [hs] at h
          simp only [cond_true, Option.some.injEq] at h; subst h
          have hs := sameSos_eq hs
          subst hs
          obtain ⟨hm, rfl⟩ := listAt_mem hl
          obtain ⟨u, cells, hL⟩ := hr.lists l hm
          have hv : u = v := by simp only [SV.den] at hx; rw [hL.s] at hx; exact Option.some.inj hx
          subst hv
          obtain ⟨k1, k2⟩ := list_in hr hL
          exact ⟨[u, .agg cells], denL_mk hx (denL_mk (x := .sym l.x) (by simp only [SV.den]; exact hL.x) (r := []) rfl), by simp only [Sh.rel]; exact ⟨cells, k1, k2, rfl⟩⟩
      · cases h
    · rename_i x' _
      cases hs : isNilS x && Nat.blt 0 lay.length with
      | false => rw [hs] at h; cases h
      | true =>
        rw [hs] at h
        simp only [cond_true, Option.some.injEq] at h; subst h
        simp only [Bool.and_eq_true] at hs
        have h1 := isNilS_eq hs.1
        have h2 : 0 < lay.length := Nat.le_of_ble_eq_true hs.2
        subst h1
        simp only [SV.den, Option.some.injEq] at hx; subst hx
        exact ⟨[.slice none 0 0, .agg #[]], denL_mk (x := .val (.slice none 0 0)) (by simp only [SV.den]) (denL_mk (x := .val (.agg #[])) (v := .agg #[]) (by simp only [SV.den]) (r := []) rfl), by
          simp only [Sh.rel]
          exact ⟨#[], { some_ := h2, few := by simp, whole := by simp, fit := fun j c hj => by simp at hj, at_ := .inl ⟨rfl, rfl⟩ }, rfl, rfl⟩⟩
  | .agg l, x, flat, v, h, hx => by
    simp only [matchSh] at h
    split at h
    · rename_i xs hxs
      obtain ⟨vs, h1, rfl⟩ := aggOf_den hxs hx
      obtain ⟨fl, h2, h3⟩ := matchL_ok hr l xs flat vs h h1
      exact ⟨fl, h2, by simp only [Sh.rel]; exact ⟨vs, rfl, h3⟩⟩
    · cases h
  | .tup l, x, flat, v, h, hx => by
    simp only [matchSh] at h
    split at h
    · rename_i xs hxs
      obtain ⟨vs, h1, rfl⟩ := tupOf_den hxs hx
      obtain ⟨fl, h2, h3⟩ := matchL_ok hr l xs flat vs h h1
      exact ⟨fl, h2, by simp only [Sh.rel]; exact ⟨vs, rfl, h3⟩⟩
    · cases h
theorem matchL_ok (hr : Rel B G w0 E S w) : ∀ (l : List Sh) (xs flat : List SV) (vs : List Value), matchL S l xs = some flat → SV.denL E xs = some vs → ∃ fl, SV.denL E flat = some fl ∧ relL (inR w) l vs fl
  | [], [], flat, vs, h, hv => by
    simp only [matchL, Option.some.injEq] at h; subst h
    simp only [SV.denL, Option.some.injEq] at hv; subst hv
    exact ⟨[], rfl, by simp only [relL]; exact ⟨trivial, trivial⟩⟩
  | s :: r, x :: xs, flat, vs, h, hv => by
    simp only [matchL] at h
    split at h
    · rename_i a b ha hb
      simp only [Option.some.injEq] at h; subst h
      obtain ⟨v, vs', h1, h2, rfl⟩ := denL_cons hv
      obtain ⟨f1, k1, k2⟩ := matchSh_ok hr s x a v ha h1
      obtain ⟨f2, k3, k4⟩ := matchL_ok hr r xs b vs' hb h2
      exact ⟨f1 ++ f2, denL_append k1 k3, by simp only [relL]; exact ⟨v, vs', f1, f2, rfl, rfl, k2, k4⟩⟩
    · cases h
  | [], _ :: _, _, _, h, _ => by simp [matchL] at h
  | _ :: _, [], _, _, h, _ => by simp [matchL] at h
end

theorem conOf_mem {f : Nat} : ∀ {l : List Con} {c : Con}, conOf f l = some c → c ∈ l ∧ c.f = f
  | [], c, h => by cases h
  | x :: r, c, h => by
    simp only [conOf] at h
    cases e : Nat.beq x.f f with
    | true =>
      rw [e] at h
      simp only [cond_true, Option.some.injEq] at h; subst h
      exact ⟨List.mem_cons_self, Nat.eq_of_beq_eq_true e⟩
    | false =>
      rw [e] at h
      obtain ⟨h1, h2⟩ := conOf_mem h
      exact ⟨List.mem_cons_of_mem _ h1, h2⟩

theorem atMost1_cases {l : List LEnt} (h : atMost1 l = true) : l = [] ∨ ∃ x, l = [x] := by
  unfold atMost1 at h
  split at h
  · exact .inl rfl
  · exact .inr ⟨_, rfl⟩
  · cases h

theorem conSumm_ok {cond : World → Prop} (hcond : ∀ w, Below B w0.w w → cond w) {cons : List Con} (hc : ∀ c ∈ cons, c.ok P cond) : SummOK B G w0 P (conSumm cons) := by
  intro f args S rs h
  unfold conSumm at h
  split at h
  · cases h
  rename_i c hcf
  split at h
  · cases h
  rename_i flat hflat
  simp only at h
  cases h1 : atMost1 (listsSh true c.out S.nsym) with
  | false => rw [h1] at h; cases h
  | true =>
  rw [h1] at h
  simp only [cond_true, Option.some.injEq] at h; subst h
  obtain ⟨hm, rfl⟩ := conOf_mem hcf
  obtain ⟨hent, hcon⟩ := hc c hm
  refine ⟨fun as w => entersOf_ok hent as w, fun E vs w R hr hvs hR hbad => ?_⟩
  obtain ⟨fl, hfl, hin⟩ := matchL_ok hr c.ins args flat vs hflat hvs
  by_cases hpre : c.asks = true → c.pre fl
  case neg =>
    have hpre : c.asks = true ∧ ¬ c.pre fl := by
      by_cases h : c.asks = true
      · exact ⟨h, fun hp => hpre fun _ => hp⟩
      · exact absurd (fun h' => absurd h' h) hpre
    refine (hbad (.val undef, addFact S (.npred (c.id ++ "Pre") c.pre) flat true) ?_ rfl E w E.le_refl (hr.addFact (op := .npred (c.id ++ "Pre") c.pre) hfl hpre.2 true)).elim
    rw [hpre.1]
    exact List.mem_cons_of_mem _ List.mem_cons_self
  refine (hcon w vs fl (hcond w hr.below) hin hpre).mono fun e w' ⟨v, fo, he, hout, hrel, hb⟩ => ?_
  subst he
  have hr' := hr.after hb
  have hfit := newSh_fits c.out S.nsym v fo hout
  obtain ⟨hle, hr2⟩ := hr'.newSyms hfit
  have hcov := unks_covers E S.nsym fo
  obtain ⟨d1, d2⟩ := newSh_den c.out S.nsym v fo hout hcov
  have hlists := listsSh_rel (own := true) c.out S.nsym v fo hout hcov
  have key : Rel B G w0 (E.unks S.nsym fo) (newSt S (newSh c.out S.nsym).1 (listsSh true c.out S.nsym)) w' := by
    rcases atMost1_cases h1 with e | ⟨l, e⟩
    · rw [e]; exact hr2
    · rw [e]
      obtain ⟨u, cells, k1, k2, k3, k4, _⟩ := hlists l (by rw [e]; exact List.mem_cons_self)
      refine hr2.addList (l := l) (v := u) (cells := cells) (D := w.heap.size) (ListOut.lrel k3 hr.base k1 k2 rfl rfl k4) k4 (fun b hb => ListOut.block k3 hb) (fun i b hi => hr.dom i b hi) (fun m hm hmo x hx b hb => ?_)
      have hm' : m ∈ S.lists := by simpa [newSt] using hm
      obtain ⟨y, cs, hL⟩ := hr.lists m hm'
      have hx' := hr.listAt hm' hle hx
      have := hL.s; rw [hx'] at this; cases this
      exact (hL.lt hmo hb).2
  refine hR _ List.mem_cons_self (E.unks S.nsym fo) v w' hle (key.addFact (op := .pred c.id c.rel) (denL_append (SV.denL_mono hle _ _ hfl) d2) hrel false) d1

/-! ### The function itself -/
mutual
def outSh (S : St) : Sh → SV → Option (List SV)
  | .sc t, x => bif fitsS2 S x t then some [x] else none
  | .list e lay, x => match x with
    | .sym n => match listAt n S.lists with
      | some l => bif l.own && (Nat.beq l.e e && sameSos l.lay lay) then some [.sym n, .sym l.x] else none
      | none => none
    | x => bif isNilS x && Nat.blt 0 lay.length then some [x, .val (.agg #[])] else none
  | .agg l, x => match aggOf x with
    | some xs => outL S l xs
    | none => none
  | .tup l, x => match tupOf x with
    | some xs => outL S l xs
    | none => none
def outL (S : St) : List Sh → List SV → Option (List SV)
  | [], [] => some []
  | s :: r, x :: xs => match outSh S s x, outL S r xs with
    | some a, some b => some (a ++ b)
    | _, _ => none
  | _, _ => none
end

mutual
theorem outSh_ok (hr : Rel B G w0 E S w) : ∀ (s : Sh) (x : SV) (flat : List SV) (v : Value), outSh S s x = some flat → x.den E = some v → ∃ fl, SV.denL E flat = some fl ∧ s.rel (outR B w) v fl
  | .sc t, x, flat, v, h, hx => by
    simp only [outSh] at h
    cases hf : fitsS2 S x t with
    | false => rw [hf] at h; cases h
    | true =>
      rw [hf] at h
      simp only [cond_true, Option.some.injEq] at h; subst h
      exact ⟨[v], denL_mk hx (r := []) rfl, by simp only [Sh.rel]; exact ⟨fitsS2_ok hr.env hf hx, trivial⟩⟩
  | .list e lay, x, flat, v, h, hx => by
    simp only [outSh] at h
    split at h
    · rename_i n
      split at h
      · rename_i l hl
        cases hs : l.own && (Nat.beq l.e e && sameSos l.lay lay) with
        | false => rw [hs] at h; cases h
        | true =>
          rw [hs] at h
          simp only [cond_true, Option.some.injEq] at h; subst h
          simp only [Bool.and_eq_true] at hs
          obtain ⟨ho, he, hs⟩ := hs
          have hs := sameSos_eq hs
          have he := Nat.eq_of_beq_eq_true he
          subst hs he
          obtain ⟨hm, rfl⟩ := listAt_mem hl
          obtain ⟨u, cells, hL⟩ := hr.lists l hm
          have hv : u = v := by simp only [SV.den] at hx; rw [hL.s] at hx; exact Option.some.inj hx
          subst hv
          exact ⟨[u, .agg cells], denL_mk hx (denL_mk (x := .sym l.x) (by simp only [SV.den]; exact hL.x) (r := []) rfl), by
            simp only [Sh.rel]
            exact ⟨cells, { some_ := hL.some_, few := hL.few, whole := hL.whole, fit := hL.lay, own := hL.own ho }, ownsRow_one (hL.own ho), rfl⟩⟩
      · cases h
    · cases hs : isNilS x && Nat.blt 0 lay.length with
      | false => rw [hs] at h; cases h
      | true =>
        rw [hs] at h
        simp only [cond_true, Option.some.injEq] at h; subst h
        simp only [Bool.and_eq_true] at hs
        have h1 := isNilS_eq hs.1
        have h2 : 0 < lay.length := Nat.le_of_ble_eq_true hs.2
        subst h1
        simp only [SV.den, Option.some.injEq] at hx; subst hx
        exact ⟨[.slice none 0 0, .agg #[]], denL_mk (x := .val (.slice none 0 0)) (by simp only [SV.den]) (denL_mk (x := .val (.agg #[])) (v := .agg #[]) (by simp only [SV.den]) (r := []) rfl), by
          simp only [Sh.rel]
          exact ⟨#[], { some_ := h2, few := by simp, whole := by simp, fit := fun j c hj => by simp at hj, own := by simpa using World.ownsRow_nil w B e lay.length }, rfl, rfl⟩⟩
  | .agg l, x, flat, v, h, hx => by
    simp only [outSh] at h
    split at h
    · rename_i xs hxs
      obtain ⟨vs, h1, rfl⟩ := aggOf_den hxs hx
      obtain ⟨fl, h2, h3⟩ := outL_ok hr l xs flat vs h h1
      exact ⟨fl, h2, by simp only [Sh.rel]; exact ⟨vs, rfl, h3⟩⟩
    · cases h
  | .tup l, x, flat, v, h, hx => by
    simp only [outSh] at h
    split at h
    · rename_i xs hxs
      obtain ⟨vs, h1, rfl⟩ := tupOf_den hxs hx
      obtain ⟨fl, h2, h3⟩ := outL_ok hr l xs flat vs h h1
      exact ⟨fl, h2, by simp only [Sh.rel]; exact ⟨vs, rfl, h3⟩⟩
    · cases h
theorem outL_ok (hr : Rel B G w0 E S w) : ∀ (l : List Sh) (xs flat : List SV) (vs : List Value), outL S l xs = some flat → SV.denL E xs = some vs → ∃ fl, SV.denL E flat = some fl ∧ relL (outR B w) l vs fl
  | [], [], flat, vs, h, hv => by
    simp only [outL, Option.some.injEq] at h; subst h
    simp only [SV.denL, Option.some.injEq] at hv; subst hv
    exact ⟨[], rfl, by simp only [relL]; exact ⟨trivial, trivial⟩⟩
  | s :: r, x :: xs, flat, vs, h, hv => by
    simp only [outL] at h
    split at h
    · rename_i a b ha hb
      simp only [Option.some.injEq] at h; subst h
      obtain ⟨v, vs', h1, h2, rfl⟩ := denL_cons hv
      obtain ⟨f1, k1, k2⟩ := outSh_ok hr s x a v ha h1
      obtain ⟨f2, k3, k4⟩ := outL_ok hr r xs b vs' hb h2
      exact ⟨f1 ++ f2, denL_append k1 k3, by simp only [relL]; exact ⟨v, vs', f1, f2, rfl, rfl, k2, k4⟩⟩
    · cases h
  | [], _ :: _, _, _, h, _ => by simp [outL] at h
  | _ :: _, [], _, _, h, _ => by simp [outL] at h
end

def Con.args (c : Con) : List SV := (newL c.ins 0).2.1
def Con.flat (c : Con) : List SV := (newL c.ins 0).2.2
def Con.st (c : Con) : St :=
  let S := newSt none0 (newL c.ins 0).1 (listsL false c.ins 0)
  bif c.asks then addFact S (.pred (c.id ++ "Pre") c.pre) c.flat false else S

/-- What is to be shown of an outcome. -/
def leafGoal (c : Con) (σ : Nat → Value) (o : Out) : Prop :=
  imps (o.st.says σ) (bif o.st.bad then False else match o.kind with
    | .val sv => match outSh o.st c.out sv with
      | some fo => bif purL c.flat && purL fo then c.rel (atL σ c.flat ++ atL σ fo) else False
      | none => False
    | _ => False)

def goalsL (c : Con) : List Out → Prop
  | [] => True
  | o :: r => (∀ σ, leafGoal c σ o) ∧ goalsL c r

def Con.goals (c : Con) (C : Cfg) (K : List (Nat × Nat × LSpec)) (n : Nat) : Prop :=
  match evaluateK C K n (.call c.f c.args c.st) with
  | some outs => goalsL c outs
  | none => False

theorem goalsL_mem {c : Con} : ∀ {l : List Out}, goalsL c l → ∀ o ∈ l, ∀ σ, leafGoal c σ o
  | _ :: _, h, _, .head _ => h.1
  | _ :: _, h, o, .tail _ ho => goalsL_mem h.2 o ho

theorem lists_old {c : Con} {w : World} {vs fl : List Value} (h : relL (inR w) c.ins vs fl) : ∀ l ∈ listsL false c.ins 0, ∃ v cells, LRel w.heap.size ⟨w, [], P⟩ (env0.unks 0 fl) w l v cells ∧ l.own = false := fun l hl => by
  obtain ⟨v, cells, k1, k2, k3, k4, _⟩ := listsL_rel c.ins 0 vs fl h (unks_covers env0 0 fl) l hl
  have k3 : ListIn w l.lay v cells := k3
  refine ⟨v, cells, { s := k1, x := k2, some_ := k3.some_, few := k3.few, whole := k3.whole, lay := k3.fit, own := fun h => (by rw [k4] at h; cases h), old := fun _ => ?_ }, k4⟩
  rcases k3.at_ with h | ⟨a, cap, e1, e2, e3⟩
  · exact .inl h
  · exact .inr ⟨a, cap, e1, e2, e3⟩

theorem start_rel {c : Con} {w : World} {vs fl : List Value} (h : relL (inR w) c.ins vs fl) (hp : c.asks = true → c.pre fl) :
    Rel w.heap.size 0 ⟨w, [], P⟩ (env0.unks 0 fl) c.st w ∧ SV.denL (env0.unks 0 fl) c.args = some vs ∧ SV.denL (env0.unks 0 fl) c.flat = some fl := by
  have hfit := newL_fits c.ins 0 vs fl h
  obtain ⟨_, hr⟩ := (rel0 P w).newSyms hfit
  obtain ⟨d1, d2⟩ := newL_den c.ins 0 vs fl h (unks_covers env0 0 fl)
  have hls := lists_old (P := P) h
  have key : Rel w.heap.size 0 ⟨w, [], P⟩ (env0.unks 0 fl) (newSt none0 (newL c.ins 0).1 (listsL false c.ins 0)) w :=
    { hr with
      lists := fun l hl => by
        have hl : l ∈ listsL false c.ins 0 := by simpa [newSt, none0] using hl
        obtain ⟨v, cells, k, _⟩ := hls l hl
        exact ⟨v, cells, k⟩
      apart := fun l hl ho => by
        have hl : l ∈ listsL false c.ins 0 := by simpa [newSt, none0] using hl
        obtain ⟨v, cells, _, k⟩ := hls l hl
        rw [k] at ho; cases ho }
  refine ⟨?_, d1, d2⟩
  unfold Con.st
  cases ha : c.asks with
  | false => exact key
  | true => exact key.addFact (op := .pred (c.id ++ "Pre") c.pre) d2 (hp ha) false

/-- A contract, out of its goals. -/
theorem con_ok {c : Con} {C : Cfg} {K : List (Nat × Nat × LSpec)} {n : Nat} (hm : P.follows .mixedOrders = true) (he : entersOf P c.f = true) {cond : World → Prop} (hC : ∀ w : World, cond w → CfgOK w.heap.size 0 ⟨w, [], P⟩ P C) (h : c.goals C K n) : c.ok P cond := by
  refine ⟨he, fun w vs fl hw hin hp => ?_⟩
  unfold Con.goals at h
  split at h
  case h_2 => exact h.elim
  rename_i outs ho
  obtain ⟨hr, h1, h2⟩ := start_rel (P := P) hin hp
  have hg := goalsL_mem h
  refine evaluateK_ok (hC w hw) hm K n _ _ ho _ vs w _ hr h1 (fun o hmem F sv v w' k1 k2 k3 k4 => ?_) (fun o hmem hb F w' k1 k2 => ?_)
  · have g := imps_mp (hg o hmem F.val) (says_ok k2)
    cases hb : o.st.bad with
    | true => rw [hb] at g; exact g.elim
    | false =>
      rw [hb, k3] at g
      simp only [cond_false] at g
      split at g
      · rename_i fo hfo
        cases hpu : purL c.flat && purL fo with
        | false => rw [hpu] at g; exact g.elim
        | true =>
          rw [hpu] at g
          simp only [Bool.and_eq_true] at hpu
          simp only [cond_true] at g
          obtain ⟨fl', e1, e2⟩ := outSh_ok k2 c.out sv fo v hfo k4
          rw [atL_den _ _ hpu.1 (SV.denL_mono k1 _ _ h2), atL_den _ _ hpu.2 e1] at g
          exact ⟨v, fl', rfl, e2, g, k2.below⟩
      · exact g.elim
  · have g := imps_mp (hg o hmem F.val) (says_ok k2)
    rw [hb] at g
    exact g.elim

def cfgC (P : Program) (enters : Nat → Bool) (X : List (Nat × ExtOp)) (cons : List Con) : Cfg := { cfg P 0 enters X with summ := conSumm cons }

theorem cfgC_ok {enters : Nat → Bool} (he : ∀ f, enters f = true → entersOf P f = true) {X : List (Nat × ExtOp)} (hX : ∀ p ∈ X, ExtAt P p.1 p.2) {cond : World → Prop} (hs : ∀ w w', cond w → Below w.heap.size w w' → cond w') {cons : List Con} (hc : ∀ c ∈ cons, c.ok P cond) (w : World) (hw : cond w) : CfgOK w.heap.size 0 ⟨w, [], P⟩ P (cfgC P enters X cons) :=
  { (cfg_ok (B := w.heap.size) (G := 0) (w0 := ⟨w, [], P⟩) rfl he hX) with summ := conSumm_ok (fun w' hb => hs w w' hw hb) hc }

/-- A call that comes to 'true', as a contract. -/
theorem con_true {f : Nat} {cond : World → Prop} (he : entersOf P f = true) (h : ∀ w : World, cond w → Calls P f (#[] : Array Value) w fun e w' => e = .returned (.bool true) ∧ Below w.heap.size w w') :
    (Con.mk f [] (.sc .bool) "isTrue" (fun _ => True) false fun vs => vs = [.bool true]).ok P cond := by
  refine ⟨he, fun w vs fl hw hin _ => ?_⟩
  simp only [relL] at hin
  obtain ⟨rfl, rfl⟩ := hin
  exact (h w hw).mono fun e w' ⟨h1, h2⟩ => ⟨.bool true, [.bool true], h1, by simp only [Sh.rel]; exact ⟨⟨true, rfl⟩, trivial⟩, rfl, h2⟩
end
end Go.Ev
