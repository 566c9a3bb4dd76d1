/- A state that comes to a loop's head is one of the head's. -/
import Derived.Test.YtdihaemeipdfgaaGreatDoorEvLoop
namespace Go.Ev
open Go.RowKit (Below)

/-- The environment with the head's unknowns. -/
def Env.unks (E : Env) (N : Nat) (hv : List Value) : Env := { E with σ := fun i => bif Nat.ble N i then hv[i - N]? else E.σ i }

theorem unks_old (E : Env) {N i : Nat} (hv : List Value) (h : i < N) : (E.unks N hv).σ i = E.σ i := by
  have : Nat.ble N i = false := by rw [← Bool.not_eq_true]; exact fun e => by have := Nat.le_of_ble_eq_true e; omega
  simp [Env.unks, this]
theorem unks_new (E : Env) {N i : Nat} (hv : List Value) (h : N ≤ i) : (E.unks N hv).σ i = hv[i - N]? := by
  have : Nat.ble N i = true := Nat.ble_eq_true_of_le h
  simp [Env.unks, this]
theorem unks_le (E : Env) {N : Nat} (hv : List Value) (h : ∀ i, N ≤ i → E.σ i = none) : E.le (E.unks N hv) :=
  { ρ := fun _ _ h => h
    σ := fun i c hi => by
      rcases Nat.lt_or_ge i N with hl | hg
      · rw [unks_old E hv hl]; exact hi
      · rw [h i hg] at hi; cases hi
    κ := fun _ _ h => h }

/-! All but the head's own unknowns stand for something. -/
mutual
def Known_ (E : Env) (N : Nat) : SV → Prop
  | .sym n => N ≤ n ∨ ∃ u, E.σ n = some u
  | .agg xs => KnownL E N xs
  | .val v => ∃ u, (SV.val v).den E = some u
  | .ptr a b => ∃ u, (SV.ptr a b).den E = some u
  | .slice a b c d => ∃ u, (SV.slice a b c d).den E = some u
  | .map a => ∃ u, (SV.map a).den E = some u
  | .func a b c => ∃ u, (SV.func a b c).den E = some u
  | .iface a b => ∃ u, (SV.iface a b).den E = some u
  | .tuple a => ∃ u, (SV.tuple a).den E = some u
def KnownL (E : Env) (N : Nat) : List SV → Prop
  | [] => True
  | x :: r => Known_ E N x ∧ KnownL E N r
end

section
variable {E F : Env} {N : Nat} {nv : List SV} {hv : List Value}

theorem alike_known {c y : SV} (h : c.alike y = true) {u : Value} (hu : y.den E = some u) : c.den E = some u := by rw [alike_eq h]; exact hu

mutual
theorem align_known : ∀ (c y : SV) (u : Value), align N nv c y = true → y.den E = some u → Known_ E N c
  | .sym n, y, u, h, hu => by
    simp only [align] at h
    simp only [Known_]
    cases e : Nat.ble N n with
    | true => exact .inl (Nat.le_of_ble_eq_true e)
    | false =>
      rw [e] at h
      have := alike_known h hu
      simp only [SV.den] at this
      exact .inr ⟨u, this⟩
  | .agg xs, .agg ys, u, h, hu => by
    simp only [align] at h
    obtain ⟨l, hl, rfl⟩ := agg_den hu
    simp only [Known_]
    exact alignL_known xs ys l h hl
  | .agg xs, .val (.agg ys), u, h, hu => by
    simp only [align] at h
    simp only [Known_]
    exact alignL_known xs _ ys.toList h (denL_vals _)
  | .agg xs, .sym _, u, h, hu => by simp only [align] at h; have := alike_eq h; cases this
  | .agg xs, .ptr _ _, u, h, hu => by simp only [align] at h; have := alike_eq h; cases this
  | .agg xs, .slice _ _ _ _, u, h, hu => by simp only [align] at h; have := alike_eq h; cases this
  | .agg xs, .map _, u, h, hu => by simp only [align] at h; have := alike_eq h; cases this
  | .agg xs, .func _ _ _, u, h, hu => by simp only [align] at h; have := alike_eq h; cases this
  | .agg xs, .iface _ _, u, h, hu => by simp only [align] at h; have := alike_eq h; cases this
  | .agg xs, .tuple _, u, h, hu => by simp only [align] at h; have := alike_eq h; cases this
  | .agg xs, .val v, u, h, hu => by
    cases v with
    | agg ys =>
      simp only [align] at h
      simp only [Known_]
      exact alignL_known xs _ ys.toList h (denL_vals _)
    | _ => simp only [align] at h; have := alike_eq h; cases this
  | .val v, y, u, h, hu => by simp only [align] at h; simp only [Known_]; exact ⟨u, alike_known h hu⟩
  | .ptr a b, y, u, h, hu => by simp only [align] at h; simp only [Known_]; exact ⟨u, alike_known h hu⟩
  | .slice a b c d, y, u, h, hu => by simp only [align] at h; simp only [Known_]; exact ⟨u, alike_known h hu⟩
  | .map a, y, u, h, hu => by simp only [align] at h; simp only [Known_]; exact ⟨u, alike_known h hu⟩
  | .func a b c, y, u, h, hu => by simp only [align] at h; simp only [Known_]; exact ⟨u, alike_known h hu⟩
  | .iface a b, y, u, h, hu => by simp only [align] at h; simp only [Known_]; exact ⟨u, alike_known h hu⟩
  | .tuple a, y, u, h, hu => by simp only [align] at h; simp only [Known_]; exact ⟨u, alike_known h hu⟩
theorem alignL_known : ∀ (xs ys : List SV) (l : List Value), alignL N nv xs ys = true → SV.denL E ys = some l → KnownL E N xs
  | [], [], _, _, _ => by simp only [KnownL]
  | x :: xs, y :: ys, l, h, hl => by
    simp only [alignL, Bool.and_eq_true] at h
    obtain ⟨v, l', h1, h2, rfl⟩ := denL_cons hl
    simp only [KnownL]
    exact ⟨align_known x y v h.1 h1, alignL_known xs ys l' h.2 h2⟩
  | [], _ :: _, _, h, _ => by simp [alignL] at h
  | _ :: _, [], _, h, _ => by simp [alignL] at h
end

theorem known_den (hE : E.le F) {x : SV} (hx : ∃ u, x.den E = some u) {v : Value} (hv : x.den F = some v) {G : Env} (hG : E.le G) : x.den G = some v := by
  obtain ⟨u, hu⟩ := hx
  have := SV.den_mono hE _ _ hu
  rw [hv] at this; cases this
  exact SV.den_mono hG _ _ hu

mutual
theorem align_den (hE : E.le F) (hN : ∀ i, N ≤ i → E.σ i = none) (hnv : SV.denL F nv = some hv) : ∀ (c y : SV) (v : Value), align N nv c y = true → Known_ E N c → y.den F = some v → c.den (E.unks N hv) = some v
  | .sym n, y, v, h, hk, hy => by
    simp only [align] at h
    simp only [SV.den]
    cases e : Nat.ble N n with
    | true =>
      rw [e] at h
      simp only [cond_true] at h
      rw [unks_new E hv (Nat.le_of_ble_eq_true e)]
      split at h
      · rename_i x hx
        obtain ⟨u, hu, hd⟩ := denL_get hnv hx
        rw [alike_eq h, hy] at hd
        rw [hu, ← hd]
      · cases h
    | false =>
      rw [e] at h
      simp only [cond_false] at h
      have hy' := alike_known h hy
      simp only [SV.den] at hy'
      have hn : n < N := by
        rcases Nat.lt_or_ge n N with h' | h'
        · exact h'
        · rw [Nat.ble_eq_true_of_le h'] at e; cases e
      rw [unks_old E hv hn]
      simp only [Known_] at hk
      rcases hk with hk | ⟨u, hu⟩
      · omega
      · have := hE.σ _ _ hu
        rw [hy'] at this; cases this
        exact hu
  | .agg xs, .agg ys, v, h, hk, hy => by
    simp only [align] at h
    obtain ⟨l, hl, rfl⟩ := agg_den hy
    simp only [Known_] at hk
    simp only [SV.den, alignL_den hE hN hnv xs ys l h hk hl]
  | .agg xs, .val u, v, h, hk, hy => by
    cases u with
    | agg ys =>
      simp only [align] at h
      simp only [Known_] at hk
      simp only [SV.den, Option.some.injEq] at hy; subst hy
      simp only [SV.den, alignL_den hE hN hnv xs _ ys.toList h hk (denL_vals _)]
    | _ => simp only [align] at h; have := alike_eq h; cases this
  | .agg xs, .sym _, v, h, hk, hy => by simp only [align] at h; have := alike_eq h; cases this
  | .agg xs, .ptr _ _, v, h, hk, hy => by simp only [align] at h; have := alike_eq h; cases this
  | .agg xs, .slice _ _ _ _, v, h, hk, hy => by simp only [align] at h; have := alike_eq h; cases this
  | .agg xs, .map _, v, h, hk, hy => by simp only [align] at h; have := alike_eq h; cases this
  | .agg xs, .func _ _ _, v, h, hk, hy => by simp only [align] at h; have := alike_eq h; cases this
  | .agg xs, .iface _ _, v, h, hk, hy => by simp only [align] at h; have := alike_eq h; cases this
  | .agg xs, .tuple _, v, h, hk, hy => by simp only [align] at h; have := alike_eq h; cases this
  | .val u, y, v, h, hk, hy => by simp only [align] at h; simp only [Known_] at hk; exact known_den hE hk (alike_known h hy) (unks_le E hv hN)
  | .ptr a b, y, v, h, hk, hy => by simp only [align] at h; simp only [Known_] at hk; exact known_den hE hk (alike_known h hy) (unks_le E hv hN)
  | .slice a b c d, y, v, h, hk, hy => by simp only [align] at h; simp only [Known_] at hk; exact known_den hE hk (alike_known h hy) (unks_le E hv hN)
  | .map a, y, v, h, hk, hy => by simp only [align] at h; simp only [Known_] at hk; exact known_den hE hk (alike_known h hy) (unks_le E hv hN)
  | .func a b c, y, v, h, hk, hy => by simp only [align] at h; simp only [Known_] at hk; exact known_den hE hk (alike_known h hy) (unks_le E hv hN)
  | .iface a b, y, v, h, hk, hy => by simp only [align] at h; simp only [Known_] at hk; exact known_den hE hk (alike_known h hy) (unks_le E hv hN)
  | .tuple a, y, v, h, hk, hy => by simp only [align] at h; simp only [Known_] at hk; exact known_den hE hk (alike_known h hy) (unks_le E hv hN)
theorem alignL_den (hE : E.le F) (hN : ∀ i, N ≤ i → E.σ i = none) (hnv : SV.denL F nv = some hv) : ∀ (xs ys : List SV) (l : List Value), alignL N nv xs ys = true → KnownL E N xs → SV.denL F ys = some l → SV.denL (E.unks N hv) xs = some l
  | [], [], _, _, _, hl => by simpa only [SV.denL] using hl
  | x :: xs, y :: ys, l, h, hk, hl => by
    simp only [alignL, Bool.and_eq_true] at h
    obtain ⟨v, l', h1, h2, rfl⟩ := denL_cons hl
    simp only [KnownL] at hk
    exact denL_mk (align_den hE hN hnv x y v h.1 hk.1 h1) (alignL_den hE hN hnv xs ys l' h.2 hk.2 h2)
  | [], _ :: _, _, h, _, _ => by simp [alignL] at h
  | _ :: _, [], _, h, _, _ => by simp [alignL] at h
end
end

/-! ### Blocks -/
def KnownO (E : Env) (N : Nat) : SObj → Prop
  | .row cs _ _ ext => KnownL E N cs ∧ ∀ p, ext = some p → ∃ n, E.κ p.1 = some n
  | o => ∃ x, ORel E o x

section
variable {B G : Nat} {w0 : Start} {E F : Env} {S S' : St} {w w' : World} {N : Nat} {nv : List SV} {hv : List Value}

theorem alignObj_known {o o' : SObj} {x : Obj} (h : alignObj N nv o o' = true) (hx : ORel E o' x) : KnownO E N o := by
  unfold alignObj at h
  split at h
  · rename_i cs e wr ext cs' e' wr' ext'
    simp only [Bool.and_eq_true, beq_iff_eq] at h
    obtain ⟨h1, h2, h3, h4⟩ := h
    have h3 := sameExt_eq h3
    subst h3
    cases ext with
    | none =>
      obtain ⟨l, fz, k1, _⟩ := hx
      exact ⟨alignL_known cs cs' l h4 k1, fun p hp => by cases hp⟩
    | some q =>
      obtain ⟨i, u⟩ := q
      obtain ⟨l, r, n, fz, k1, k2, _⟩ := hx
      exact ⟨alignL_known cs cs' l h4 k1, fun p hp => by cases hp; exact ⟨n, k2⟩⟩
  · have := sameObj_eq h
    subst this
    unfold KnownO
    split
    · simp [sameObj] at h
    · exact ⟨x, hx⟩

theorem MRel_known {E F G : Env} (hE : E.le F) (hG : E.le G) : ∀ {es : List (SV × SV × Nat)} {l m : List MapEntry}, MRel E es l → MRel F es m → MRel G es m
  | [], [], [], _, _ => trivial
  | _ :: _, _ :: _, _ :: _, ⟨h1, h2, _, h4⟩, ⟨k1, k2, k3, k4⟩ => ⟨known_den hE ⟨_, h1⟩ k1 hG, known_den hE ⟨_, h2⟩ k2 hG, k3, MRel_known hE hG h4 k4⟩
  | [], _ :: _, _, h, _ => h.elim
  | _ :: _, [], _, h, _ => h.elim
  | [], _, _ :: _, _, h => h.elim
  | _ :: _, _, [], _, h => h.elim

theorem alignObj_rel (hE : E.le F) (hN : ∀ i, N ≤ i → E.σ i = none) (hnv : SV.denL F nv = some hv) {o o' : SObj} {x : Obj} (h : alignObj N nv o o' = true) (hk : KnownO E N o) (hx : ORel F o' x) : ORel (E.unks N hv) o x := by
  have hle := unks_le E hv hN
  unfold alignObj at h
  split at h
  · rename_i cs e wr ext cs' e' wr' ext'
    simp only [Bool.and_eq_true, beq_iff_eq] at h
    obtain ⟨h1, h2, h3, h4⟩ := h
    have h1 := Nat.eq_of_beq_eq_true h1
    have h3 := sameExt_eq h3
    subst h1 h2 h3
    cases ext with
    | none =>
      obtain ⟨l, fz, k1, k2⟩ := hx
      exact ⟨l, fz, alignL_den hE hN hnv cs cs' l h4 hk.1 k1, k2⟩
    | some q =>
      obtain ⟨i, u⟩ := q
      obtain ⟨l, r, n, fz, k1, k2, k3⟩ := hx
      obtain ⟨m, hm⟩ := hk.2 (i, u) rfl
      have := hE.κ _ _ hm
      rw [k2] at this; cases this
      exact ⟨l, r, n, fz, alignL_den hE hN hnv cs cs' l h4 hk.1 k1, hle.κ _ _ hm, k3⟩
  · have := sameObj_eq h
    subst this
    cases o with
    | row cs e wr ext => simp [sameObj] at h
    | map es c =>
      obtain ⟨y, l0, _, hl0⟩ := hk
      obtain ⟨l, hl1, hl2⟩ := hx
      exact ⟨l, hl1, MRel_known hE hle hl0 hl2⟩
    | siter s p => exact hx
    | miter m a b c =>
      cases m with
      | none => exact hx
      | some id =>
        obtain ⟨y, b0, hb0, _⟩ := hk
        obtain ⟨b1, hb1, hx⟩ := hx
        have := hE.ρ _ _ hb0
        rw [hb1] at this; cases this
        exact ⟨_, hle.ρ _ _ hb0, hx⟩

theorem alignHeap_find : ∀ {l : List (Nat × SObj)}, alignHeap N nv S S' l = true → ∀ {id : Nat} {o : SObj}, find id l = some o → ∃ o' o0, find id S'.heap = some o' ∧ find id S.heap = some o0 ∧ alignObj N nv o o' = true
  | [], _, id, o, hf => by cases hf
  | (j, x) :: r, h, id, o, hf => by
    simp only [alignHeap, Bool.and_eq_true] at h
    simp only [find] at hf
    cases e : Nat.beq id j with
    | true =>
      have := Nat.eq_of_beq_eq_true e
      subst this
      rw [e] at hf
      simp only [cond_true, Option.some.injEq] at hf; subst hf
      have h1 := h.1
      split at h1
      · rename_i o' o0 h2 h3; exact ⟨o', o0, h2, h3, h1⟩
      · cases h1
    | false => rw [e] at hf; exact alignHeap_find h.2 hf

/-! ### Lists -/
def srcOf (N : Nat) (nv : List SV) (l : LEnt) : Option Nat := bif Nat.blt l.s N then some l.s else match nv[l.s - N]? with
  | some (.sym n) => some n
  | _ => none

theorem isInN_in {i : Nat} : ∀ {l : List Nat}, i ∈ l → isInN i l = true
  | _ :: _, .head _ => by simp [isInN]
  | j :: _, .tail _ h => by
    simp only [isInN]
    cases Nat.beq i j <;> simp [isInN_in h]

/-- What is checked of a list at the head. -/
def ListFits (N : Nat) (nv : List SV) (S S' : St) (l : LEnt) : Prop :=
  (l.s < N ∧ l ∈ S.lists ∧ listKept S'.lists l = true) ∨
  (N ≤ l.s ∧ N ≤ l.x ∧ l.own = true ∧ 0 < l.lay.length ∧
    ((∃ m ∈ S'.lists, m.own = true ∧ m.e = l.e ∧ m.lay = l.lay ∧ nv[l.s - N]? = some (.sym m.s) ∧ nv[l.x - N]? = some (.sym m.x)) ∨
      ∃ a, nv[l.s - N]? = some (.val (.slice none 0 0)) ∧ nv[l.x - N]? = some (.val (.agg a)) ∧ a = #[]))

theorem isNilS_eq {y : SV} (h : isNilS y = true) : y = .val (.slice none 0 0) := by
  unfold isNilS at h
  split at h
  · rfl
  · cases h

theorem alignList_fits {l : LEnt} {r : Option Nat} (h : alignList N nv S' l = some r) (hge : N ≤ l.s) : ListFits N nv S S' l ∧ srcOf N nv l = r := by
  have hlt : Nat.blt l.s N = false := by rw [← Bool.not_eq_true]; exact fun e => by have : l.s < N := Nat.le_of_ble_eq_true e; omega
  unfold alignList at h
  cases hc : Nat.ble N l.s && (l.own && Nat.blt 0 l.lay.length) with
  | false => rw [hc] at h; cases h
  | true =>
    rw [hc] at h
    simp only [Bool.and_eq_true] at hc
    obtain ⟨c1, c2, c3⟩ := hc
    have c3 : 0 < l.lay.length := Nat.le_of_ble_eq_true c3
    simp only [cond_true] at h
    split at h
    · rename_i n x h1 h2
      split at h
      · rename_i m hm
        cases hb : Nat.ble N l.x && (m.own && (Nat.beq m.x x && (Nat.beq m.e l.e && sameSos m.lay l.lay))) with
        | false => rw [hb] at h; cases h
        | true =>
          rw [hb] at h
          simp only [cond_true, Option.some.injEq] at h; subst h
          simp only [Bool.and_eq_true] at hb
          obtain ⟨d1, d2, d3, d4, d5⟩ := hb
          obtain ⟨e1, e2⟩ := listAt_mem hm
          subst e2
          have d3 := Nat.eq_of_beq_eq_true d3
          subst d3
          refine ⟨.inr ⟨hge, Nat.le_of_ble_eq_true d1, c2, c3, .inl ⟨m, e1, d2, Nat.eq_of_beq_eq_true d4, sameSos_eq d5, h1, h2⟩⟩, ?_⟩
          simp only [srcOf, hlt, cond_false, h1]
      · cases h
    · rename_i y a h1 h2
      cases hb : Nat.ble N l.x && (isNilS y && Nat.beq a.size 0) with
      | false => rw [hb] at h; cases h
      | true =>
        rw [hb] at h
        simp only [cond_true, Option.some.injEq] at h; subst h
        simp only [Bool.and_eq_true] at hb
        obtain ⟨d1, d2, d3⟩ := hb
        have d2 := isNilS_eq d2
        subst d2
        refine ⟨.inr ⟨hge, Nat.le_of_ble_eq_true d1, c2, c3, .inr ⟨a, h1, h2, arr0 d3⟩⟩, ?_⟩
        simp only [srcOf, hlt, cond_false, h1]
    · cases h

theorem lent_ext {m l : LEnt} (h1 : m.s = l.s) (h2 : m.x = l.x) (h3 : m.e = l.e) (h4 : m.lay = l.lay) (h5 : m.own = l.own) : m = l := by
  obtain ⟨a, b, c, d, e⟩ := m
  obtain ⟨a', b', c', d', e'⟩ := l
  simp only at h1 h2 h3 h4 h5
  rw [h1, h2, h3, h4, h5]

theorem alignLists_ok : ∀ {ls : List LEnt} {used : List Nat}, alignLists N nv S S' ls = some used →
    (∀ l ∈ ls, ListFits N nv S S' l) ∧ (∀ l ∈ ls, l.own = true → ∀ n, srcOf N nv l = some n → n ∈ used) ∧
    ∀ l ∈ ls, l.own = true → ∀ m ∈ ls, m.own = true → ∀ n, srcOf N nv l = some n → srcOf N nv m = some n → m.s = l.s
  | [], used, h => ⟨fun _ h => (by cases h), fun _ h => (by cases h), fun _ h => (by cases h)⟩
  | l :: r, used, h => by
    simp only [alignLists] at h
    split at h
    · cases h
    rename_i used' hu
    obtain ⟨k1, k2, k3⟩ := alignLists_ok hu
    -- what remains, by what is known of the first
    have fin : ListFits N nv S S' l → (l.own = true → ∀ n, srcOf N nv l = some n → n ∈ used ∧ ¬ n ∈ used') → (∀ n ∈ used', n ∈ used) → _ := fun hf hs hsub =>
      (⟨fun m hm => by
        cases hm with
        | head => exact hf
        | tail _ hm => exact k1 m hm, fun m hm ho n hn => by
        cases hm with
        | head => exact (hs ho n hn).1
        | tail _ hm => exact hsub n (k2 m hm ho n hn), fun m hm ho m' hm' ho' n hn hn' => by
        cases hm with
        | head =>
          cases hm' with
          | head => rfl
          | tail _ hm' => exact absurd (k2 m' hm' ho' n hn') (hs ho n hn).2
        | tail _ hm =>
          cases hm' with
          | head => exact absurd (k2 m hm ho n hn) (hs ho' n hn').2
          | tail _ hm' => exact k3 m hm ho m' hm' ho' n hn hn'⟩ : (∀ m ∈ l :: r, ListFits N nv S S' m) ∧ (∀ m ∈ l :: r, m.own = true → ∀ n, srcOf N nv m = some n → n ∈ used) ∧
    ∀ m ∈ l :: r, m.own = true → ∀ m' ∈ l :: r, m'.own = true → ∀ n, srcOf N nv m = some n → srcOf N nv m' = some n → m'.s = m.s)
    cases hlt : Nat.blt l.s N with
    | true =>
      have hlt' : l.s < N := Nat.le_of_ble_eq_true hlt
      rw [hlt] at h
      simp only [cond_true] at h
      cases hc : listKept S'.lists l && sameIn S.lists l with
      | false => rw [hc] at h; cases h
      | true =>
        rw [hc] at h
        simp only [cond_true] at h
        simp only [Bool.and_eq_true] at hc
        obtain ⟨c1, c2⟩ := hc
        have hmem : l ∈ S.lists := by
          unfold sameIn at c2
          split at c2
          · rename_i m hm
            simp only [Bool.and_eq_true, beq_iff_eq] at c2
            obtain ⟨d1, d2, d3, d4⟩ := c2
            obtain ⟨e1, e2⟩ := listAt_mem hm
            rw [← lent_ext e2 (Nat.eq_of_beq_eq_true d1) (Nat.eq_of_beq_eq_true d2) (sameSos_eq d4) d3]; exact e1
          · cases c2
        have hf : ListFits N nv S S' l := .inl ⟨hlt', hmem, c1⟩
        have hsrc : srcOf N nv l = some l.s := by simp only [srcOf, hlt, cond_true]
        cases ho : l.own with
        | false =>
          rw [ho] at h
          simp only [cond_false, Option.some.injEq] at h; subst h
          exact fin hf (fun h => by rw [ho] at h; cases h) fun _ h => h
        | true =>
          rw [ho] at h
          simp only [cond_true] at h
          cases hin : isInN l.s used' with
          | true => rw [hin] at h; cases h
          | false =>
            rw [hin] at h
            simp only [cond_false, Option.some.injEq] at h; subst h
            refine fin hf (fun _ n hn => ?_) fun _ h => List.mem_cons_of_mem _ h
            rw [hsrc] at hn; cases hn
            exact ⟨List.mem_cons_self, fun hm => by rw [isInN_in hm] at hin; cases hin⟩
    | false =>
      have hge : N ≤ l.s := by
        rcases Nat.lt_or_ge l.s N with h' | h'
        · have : Nat.blt l.s N = true := Nat.ble_eq_true_of_le h'
          rw [hlt] at this; cases this
        · exact h'
      rw [hlt] at h
      simp only [cond_false] at h
      split at h
      · rename_i n ha
        obtain ⟨hf, hsrc⟩ := alignList_fits (S := S) ha hge
        cases hin : isInN n used' with
        | true => rw [hin] at h; cases h
        | false =>
          rw [hin] at h
          simp only [cond_false, Option.some.injEq] at h; subst h
          refine fin hf (fun _ m hn => ?_) fun _ h => List.mem_cons_of_mem _ h
          rw [hsrc] at hn; cases hn
          exact ⟨List.mem_cons_self, fun hm => by rw [isInN_in hm] at hin; cases hin⟩
      · rename_i ha
        obtain ⟨hf, hsrc⟩ := alignList_fits (S := S) ha hge
        simp only [Option.some.injEq] at h; subst h
        exact fin hf (fun _ m hn => by rw [hsrc] at hn; cases hn) fun _ h => h
      · cases h
end
end Go.Ev
