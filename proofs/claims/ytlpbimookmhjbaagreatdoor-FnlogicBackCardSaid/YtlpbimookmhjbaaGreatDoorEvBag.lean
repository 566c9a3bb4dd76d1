/- maps.Copy given to the evaluator as a contract: behind it the map's entries lie in an order that nobody knows. -/
import Derived.Test.YtlpbimookmhjbaaGreatDoorEvSorted
import Derived.Lib.SlMapMerge
import Derived.Laws.AppendOwn
namespace Go.Ev
open Go.RowKit (Below)
open Go.Maps Go.WideElems Go.MapKept Go.WideShapes
open Go.ChangeMaps (mem_insert_iff)
def RV : Value → Option (DataW Value × List MemPlace)
  | .agg cs => if cs.size = 3 ∧ cs.all (·.oneCell') = true then some (.held (.agg cs), []) else none
  | _ => none
theorem RV_inv {v : Value} {y : DataW Value × List MemPlace} (h : RV v = some y) : y = (.held v, []) := by
  unfold RV at h
  split at h
  · split at h
    · simp only [Option.some.injEq] at h; exact h.symm
    · cases h
  · cases h
def CopyAt (P : Program) (fC : Nat) (K : TypeId) : Prop :=
  entersOf P fC = true ∧ P.underlying K = some .string ∧
  ∀ (bd bs nd ns : Nat) (Dd Ds : DataW Value) (w : World), w.ownsMap P K RV bd nd Dd → w.ownsMap P K RV bs ns Ds → bd ≠ bs → nd + Maps.size Ds ≤ maxLen →
    Calls P fC #[.map (some bd), .map (some bs)] w fun e w' => e = .returned (.tuple #[]) ∧ w'.ownsMap P K RV bd (nd + Maps.size Ds) (Lib.mergeD Dd Ds) ∧ w.grownBy w' (some bd)
theorem fold_put {H : Type} : ∀ (es L : List (Lit × DataW H)), es.Pairwise (fun p q => p.1.sameKey q.1 = false) →
    ∃ L', es.foldl (fun D p => D.put p.1 p.2) (DataW.map L) = .map L' ∧ ∀ p, p ∈ L' ↔ p ∈ es ∨ (p ∈ L ∧ ∀ q ∈ es, p.1.sameKey q.1 = false)
  | [], L, _ => ⟨L, rfl, fun p => by simp⟩
  | x :: r, L, h => by
    obtain ⟨h1, h2⟩ := List.pairwise_cons.1 h
    obtain ⟨L', e, hm⟩ := fold_put r (DataW.insert (x.1, x.2) (L.filter fun p => !p.1.sameKey x.1)) h2
    refine ⟨L', e, fun p => ?_⟩
    rw [hm p, mem_insert_iff, List.mem_filter]
    constructor
    · rintro (h | ⟨rfl | ⟨ha, hb⟩, hc⟩)
      · exact .inl (List.mem_cons_of_mem _ h)
      · exact .inl List.mem_cons_self
      · refine .inr ⟨ha, fun q hq => ?_⟩
        cases hq with
        | head => simpa using hb
        | tail _ hq => exact hc q hq
    · rintro (h | ⟨ha, hb⟩)
      · cases h with
        | head => exact .inr ⟨.inl rfl, h1⟩
        | tail _ h => exact .inl h
      · exact .inr ⟨.inr ⟨ha, by simp [hb x List.mem_cons_self]⟩, fun q hq => hb q (List.mem_cons_of_mem _ hq)⟩
def memB (b : ByteArray) : List ByteArray → Bool
  | [] => false
  | c :: r => b.data.toList == c.data.toList || memB b r
theorem memB_iff {b : ByteArray} : ∀ {l : List ByteArray}, memB b l = true ↔ ∃ c ∈ l, b.data.toList = c.data.toList
  | [] => by simp [memB]
  | c :: r => by
    simp only [memB, Bool.or_eq_true, beq_iff_eq, memB_iff (l := r), List.mem_cons]
    constructor
    · rintro (h | ⟨d, h1, h2⟩)
      · exact ⟨c, .inl rfl, h⟩
      · exact ⟨d, .inr h1, h2⟩
    · rintro ⟨d, rfl | h1, h2⟩
      · exact .inl h2
      · exact .inr ⟨d, h1, h2⟩
def dropB (bs : List ByteArray) : List (SV × SV × Nat) → List ByteArray → List (SV × SV × Nat)
  | e :: es, b :: r => bif memB b bs then dropB bs es r else e :: dropB bs es r
  | _, _ => []
def agg3 (S : St) : SV → Bool
  | .agg [a, b, c] => oneS S a && (oneS S b && oneS S c)
  | .val (.agg cs) => Nat.beq cs.size 3 && cs.all (·.oneCell')
  | _ => false
theorem agg3_den {E : Env} {S : St} (hr : ERel E S) {x : SV} {v : Value} (h : agg3 S x = true) (hd : x.den E = some v) : ∃ y, RV v = some y := by
  unfold agg3 at h
  split at h
  · rename_i a b c
    simp only [Bool.and_eq_true] at h
    simp only [SV.den] at hd
    split at hd
    · rename_i l hl
      simp only [Option.some.injEq] at hd; subst hd
      obtain ⟨v0, l0, g0, h0, rfl⟩ := denL_cons hl
      obtain ⟨v1, l1, g1, h1, rfl⟩ := denL_cons h0
      obtain ⟨v2, l2, g2, h2, rfl⟩ := denL_cons h1
      simp only [SV.denL, Option.some.injEq] at h2; subst h2
      have k0 := oneS_ok hr h.1 g0
      have k1 := oneS_ok hr h.2.1 g1
      have k2 := oneS_ok hr h.2.2 g2
      exact ⟨(.held (.agg #[v0, v1, v2]), []), by simp [RV, k0, k1, k2]⟩
    · cases hd
  · simp only [SV.den, Option.some.injEq] at hd; subst hd
    rename_i cs
    simp only [Bool.and_eq_true] at h
    have := Nat.eq_of_beq_eq_true h.1
    exact ⟨(.held (.agg cs), []), if_pos ⟨this, h.2⟩⟩
  · cases h
def plainB (S : St) (es : List (SV × SV × Nat)) : Option (List ByteArray) :=
  match keysOf es with
  | some ks => match bytesKeys ks with
    | some bs => bif Nat.ble bs.length 1000 && ((bs.all fun b => Nat.ble b.data.toList.length 1000) && es.all fun e => agg3 S e.2.1) then some bs else none
    | none => none
  | none => none
section
variable {B G : Nat} {w0 : Start} {E : Env} {S : St} {w : World} {P : Program}
theorem MRel.mem : ∀ {xs : List (SV × SV × Nat)} {ms : List MapEntry}, MRel E xs ms → ∀ m ∈ ms, ∃ x ∈ xs, x.1.den E = some m.key ∧ x.2.1.den E = some m.val
  | [], [], _, m, hm => by cases hm
  | x :: xs, y :: ms, ⟨a, b, _, d⟩, m, hm => by
    cases hm with
    | head => exact ⟨x, List.mem_cons_self, a, b⟩
    | tail _ hm => obtain ⟨z, h1, h2⟩ := MRel.mem d m hm; exact ⟨z, List.mem_cons_of_mem _ h1, h2⟩
  | [], _ :: _, k, _, _ => k.elim
  | _ :: _, [], k, _, _ => k.elim
theorem MRel.back : ∀ {xs : List (SV × SV × Nat)} {ms : List MapEntry}, MRel E xs ms → ∀ x ∈ xs, ∃ m ∈ ms, x.1.den E = some m.key ∧ x.2.1.den E = some m.val
  | [], [], _, x, hx => by cases hx
  | z :: xs, y :: ms, ⟨a, b, _, d⟩, x, hx => by
    cases hx with
    | head => exact ⟨y, List.mem_cons_self, a, b⟩
    | tail _ hx => obtain ⟨m, h1, h2⟩ := MRel.back d x hx; exact ⟨m, List.mem_cons_of_mem _ h1, h2⟩
  | [], _ :: _, k, _, _ => k.elim
  | _ :: _, [], k, _, _ => k.elim
theorem plainB_ok (hr : ERel E S) {es : List (SV × SV × Nat)} {bs : List ByteArray} (h : plainB S es = some bs) {l : List MapEntry} (hl : MRel E es l) :
    es.length = bs.length ∧ bs.length ≤ 1000 ∧ l.map (·.key) = bs.map Value.string ∧ (∀ b ∈ bs, b.size ≤ maxLen) ∧ ∀ m ∈ l, ∃ y, RV m.val = some y := by
  unfold plainB at h
  split at h
  case h_2 => cases h
  rename_i ks hks
  split at h
  case h_2 => cases h
  rename_i bs' hbs
  cases hc : Nat.ble bs'.length 1000 && ((bs'.all fun b => Nat.ble b.data.toList.length 1000) && es.all fun e => agg3 S e.2.1) with
  | false => rw [hc] at h; cases h
  | true =>
    rw [hc] at h
    simp only [cond_true, Option.some.injEq] at h; subst h
    simp only [Bool.and_eq_true, List.all_eq_true] at hc
    obtain ⟨c1, c2, c3⟩ := hc
    have hk : l.map (·.key) = bs'.map Value.string := by rw [keysOf_ok hks hl, bytesKeys_eq hbs]
    refine ⟨?_, Nat.le_of_ble_eq_true c1, hk, fun b hb => ?_, fun m hm => ?_⟩
    · have := congrArg List.length hk
      simp only [List.length_map] at this
      rw [← hl.length, this]
    · have := Nat.le_of_ble_eq_true (c2 b hb)
      have e : b.size = b.data.toList.length := by rw [Array.length_toList]; rfl
      rw [e]
      exact Nat.le_trans this (by unfold maxLen; omega)
    · obtain ⟨x, hx, _, h2⟩ := hl.mem m hm
      exact agg3_den hr (c3 x hx) h2
theorem rd_str {K : TypeId} (hK : P.underlying K = some .string) {m : MapEntry} {b : ByteArray} (hb : m.key = .string b) (hs : b.size ≤ maxLen) {y : DataW Value × List MemPlace} (hy : RV m.val = some y) :
    rd P K RV m = some (.string b.data.toList, .held m.val) := by
  rw [RV_inv hy] at hy
  simp only [rd, hb, keyOf, hK, mapKey, hs, if_true, Option.bind_some, hy, Option.map_some]
theorem rd_str_inv {K : TypeId} (hK : P.underlying K = some .string) {m : MapEntry} {y : Lit × DataW Value} (h : rd P K RV m = some y) :
    ∃ b : ByteArray, m.key = .string b ∧ y = (.string b.data.toList, .held m.val) := by
  have h1 := rd_key h
  obtain ⟨z, h2, h3⟩ := rd_val h
  rw [RV_inv h2] at h3
  simp only [keyOf, hK, mapKey] at h1
  split at h1
  · rename_i e1 _; cases e1
  · rename_i e1 _; cases e1
  · rename_i s e1 e2
    split at h1
    · simp only [Option.some.injEq] at h1
      exact ⟨s, e2, Prod.ext h1.symm h3⟩
    · cases h1
  · cases h1
theorem sameKey_turn : ∀ a b : Lit, a.sameKey b = b.sameKey a := by
  intro a b
  cases a <;> cases b <;> first
    | rfl
    | (simp only [Lit.sameKey]; exact Bool.beq_comm)
    | (simp only [Lit.sameKey]; exact decide_eq_decide.2 ⟨fun h => ⟨h.1.symm, h.2.symm⟩, fun h => ⟨h.1.symm, h.2.symm⟩⟩)
theorem same_str {a b : List UInt8} : (Lit.string a).sameKey (.string b) = false ↔ a ≠ b := by
  simp [Lit.sameKey]
theorem fit_of (hr : ERel E S) {K : TypeId} (hK : P.underlying K = some .string) {es : List (SV × SV × Nat)} {bs : List ByteArray} (h : plainB S es = some bs) {l : List MapEntry} (hl : MRel E es l) {clock : Nat} (hc : ∀ m ∈ l, m.born < clock) (hb : (l.map (·.born)).Nodup)
    (hn : (l.map (·.key)).Nodup) : Fit P K RV l.toArray clock := by
  obtain ⟨p1, p2, p3, p4, p5⟩ := plainB_ok hr h hl
  refine ⟨?_, ⟨fun x hx => hc x (by simpa using hx), hb, hn⟩, fun x hx => ?_⟩
  · have := hl.length
    simp only [List.size_toArray]
    exact Nat.le_trans (by omega : l.length ≤ 1000) (by unfold maxLen; omega)
  · have hx : x ∈ l := by simpa using hx
    have : x.key ∈ bs.map Value.string := by rw [← p3]; exact List.mem_map.2 ⟨x, hx, rfl⟩
    obtain ⟨b, hb, e⟩ := List.mem_map.1 this
    obtain ⟨y, hy⟩ := p5 x hx
    exact ⟨_, rd_str hK e.symm (p4 b hb) hy⟩
theorem bag_merge (hr : ERel E S) {K : TypeId} (hK : P.underlying K = some .string) {es1 es2 : List (SV × SV × Nat)} {bs1 bs2 : List ByteArray} (h1 : plainB S es1 = some bs1) (h2 : plainB S es2 = some bs2) {l1 l2 l' : List MapEntry} {clock : Nat}
    (m1 : MRel E es1 l1) (m2 : MRel E es2 l2) (n2 : (l2.map (·.key)).Nodup) (hF : Fit P K RV l'.toArray clock)
    (hD : DataW.map ((l'.map (rg P K RV)).foldr DataW.insert []) = Lib.mergeD (.map ((l1.map (rg P K RV)).foldr DataW.insert [])) (.map ((l2.map (rg P K RV)).foldr DataW.insert []))) :
    BRel E (es2 ++ dropB bs2 es1 bs1) l' clock := by
  obtain ⟨p1, p2, p3, p4, p5⟩ := plainB_ok hr h1 m1
  obtain ⟨q1, q2, q3, q4, q5⟩ := plainB_ok hr h2 m2
  have read : ∀ {es : List (SV × SV × Nat)} {bs : List ByteArray} {l : List MapEntry}, l.map (·.key) = bs.map Value.string → (∀ b ∈ bs, b.size ≤ maxLen) → (∀ m ∈ l, ∃ y, RV m.val = some y) →
      ∀ m ∈ l, ∃ b ∈ bs, m.key = .string b ∧ rg P K RV m = (.string b.data.toList, .held m.val) := fun {es bs l} a b c m hm => by
    have : m.key ∈ bs.map Value.string := by rw [← a]; exact List.mem_map.2 ⟨m, hm, rfl⟩
    obtain ⟨x, hx, e⟩ := List.mem_map.1 this
    obtain ⟨y, hy⟩ := c m hm
    exact ⟨x, hx, e.symm, rg_of (rd_str hK e.symm (b x hx) hy)⟩
  have r1 := read (es := es1) p3 p4 p5
  have r2 := read (es := es2) q3 q4 q5
  have ext : ∀ {a b : ByteArray}, a.data.toList = b.data.toList → a = b := fun {a b} e => by cases a; cases b; simp only [ByteArray.mk.injEq]; exact Array.ext' e
  have hpw : (l2.map (rg P K RV)).Pairwise (fun p q => p.1.sameKey q.1 = false) := by
    have : ∀ (l : List MapEntry), (∀ m ∈ l, ∃ b : ByteArray, m.key = .string b ∧ rg P K RV m = (.string b.data.toList, .held m.val)) → (l.map (·.key)).Nodup → (l.map (rg P K RV)).Pairwise (fun p q => p.1.sameKey q.1 = false) := by
      intro l
      induction l with
      | nil => intro _ _; exact .nil
      | cons x r ih =>
        intro hr hn
        simp only [List.map_cons, List.nodup_cons] at hn
        simp only [List.map_cons, List.pairwise_cons]
        refine ⟨fun q hq => ?_, ih (fun m hm => hr m (List.mem_cons_of_mem _ hm)) hn.2⟩
        obtain ⟨m, hm, rfl⟩ := List.mem_map.1 hq
        obtain ⟨b, e1, e2⟩ := hr x List.mem_cons_self
        obtain ⟨c, f1, f2⟩ := hr m (List.mem_cons_of_mem _ hm)
        rw [e2, f2]
        refine same_str.2 fun e => hn.1 ?_
        rw [e1, ext e, ← f1]
        exact List.mem_map.2 ⟨m, hm, rfl⟩
    exact this l2 (fun m hm => by obtain ⟨b, _, x⟩ := r2 m hm; exact ⟨b, x⟩) n2
  have hsym : ∀ p q : Lit × DataW Value, p.1.sameKey q.1 = false → q.1.sameKey p.1 = false := fun p q h => by rw [sameKey_turn]; exact h
  have hpw' := ((sorted_perm (l2.map (rg P K RV))).pairwise_iff (fun {a b} => hsym a b)).2 hpw
  obtain ⟨L', e, hm⟩ := fold_put _ ((l1.map (rg P K RV)).foldr DataW.insert []) hpw'
  have hL : (l'.map (rg P K RV)).foldr DataW.insert [] = L' := by
    have : DataW.map ((l'.map (rg P K RV)).foldr DataW.insert []) = .map L' := hD.trans e
    exact DataW.map.inj this
  have mem' : ∀ p, p ∈ l'.map (rg P K RV) ↔ p ∈ l2.map (rg P K RV) ∨ (p ∈ l1.map (rg P K RV) ∧ ∀ q ∈ l2.map (rg P K RV), p.1.sameKey q.1 = false) := fun p => by
    rw [← (sorted_perm (l'.map (rg P K RV))).mem_iff, hL, hm p, (sorted_perm (l2.map (rg P K RV))).mem_iff, (sorted_perm (l1.map (rg P K RV))).mem_iff]
    constructor
    · rintro (h | ⟨h, k⟩)
      · exact .inl h
      · exact .inr ⟨h, fun q hq => k q ((sorted_perm _).mem_iff.2 hq)⟩
    · rintro (h | ⟨h, k⟩)
      · exact .inl h
      · exact .inr ⟨h, fun q hq => k q ((sorted_perm _).mem_iff.1 hq)⟩
  have r' : ∀ m ∈ l', ∃ b : ByteArray, m.key = .string b ∧ rg P K RV m = (.string b.data.toList, .held m.val) := fun m hm => by
    obtain ⟨y, hy⟩ := hF.reads m (by simpa using hm)
    obtain ⟨b, h1, h2⟩ := rd_str_inv hK hy
    exact ⟨b, h1, by rw [rg_of hy, h2]⟩
  have dropIn : ∀ (es : List (SV × SV × Nat)) (bs : List ByteArray) (l : List MapEntry), MRel E es l → l.map (·.key) = bs.map Value.string →
      (∀ m ∈ l, ∀ b : ByteArray, m.key = .string b → memB b bs2 = false → ∃ e ∈ dropB bs2 es bs, e.1.den E = some m.key ∧ e.2.1.den E = some m.val) ∧
      (∀ e ∈ dropB bs2 es bs, ∃ m ∈ l, ∃ b : ByteArray, m.key = .string b ∧ memB b bs2 = false ∧ e.1.den E = some m.key ∧ e.2.1.den E = some m.val) := by
    intro es
    induction es with
    | nil =>
      intro bs l hl hk
      cases l with
      | nil => exact ⟨fun m hm => (by cases hm), fun e he => by cases bs <;> cases he⟩
      | cons => exact hl.elim
    | cons x es ih =>
      intro bs l hl hk
      cases l with
      | nil => exact hl.elim
      | cons y l =>
        obtain ⟨a, b, _, d⟩ := hl
        cases bs with
        | nil => simp at hk
        | cons z bs =>
          simp only [List.map_cons, List.cons.injEq] at hk
          obtain ⟨i1, i2⟩ := ih bs l d hk.2
          have hz : ∀ c : ByteArray, y.key = .string c → c = z := fun c hc => by
            rw [hk.1] at hc
            exact (Value.string.inj hc).symm
          simp only [dropB]
          cases hmz : memB z bs2 with
          | true =>
            refine ⟨fun m hm c hc hcn => ?_, fun e he => ?_⟩
            · cases hm with
              | head => rw [hz c hc, hmz] at hcn; cases hcn
              | tail _ hm => exact i1 m hm c hc hcn
            · obtain ⟨m, h1, h2⟩ := i2 e he
              exact ⟨m, List.mem_cons_of_mem _ h1, h2⟩
          | false =>
            refine ⟨fun m hm c hc hcn => ?_, fun e he => ?_⟩
            · cases hm with
              | head => exact ⟨x, List.mem_cons_self, a, b⟩
              | tail _ hm => obtain ⟨e, h1, h2⟩ := i1 m hm c hc hcn; exact ⟨e, List.mem_cons_of_mem _ h1, h2⟩
            · cases he with
              | head => exact ⟨y, List.mem_cons_self, z, hk.1, hmz, a, b⟩
              | tail _ he => obtain ⟨m, h1, h2⟩ := i2 e he; exact ⟨m, List.mem_cons_of_mem _ h1, h2⟩
  obtain ⟨d1, d2⟩ := dropIn es1 bs1 l1 m1 p3
  have inv : ∀ {m n : MapEntry} {b c : ByteArray}, m.key = .string b → n.key = .string c → (Lit.string b.data.toList, (DataW.held m.val : DataW Value)) = (.string c.data.toList, .held n.val) → m.key = n.key ∧ m.val = n.val := fun {m n b c} h1 h2 h => by
    simp only [Prod.mk.injEq, Lit.string.injEq, DataW.held.injEq] at h
    exact ⟨by rw [h1, h2, ext h.1], h.2⟩
  refine ⟨?_, ?_, fun m hm => ?_, fun m hm => ?_, fun x hx => ?_⟩
  · exact hF.stamped.2.2
  · exact hF.stamped.2.1
  · exact hF.stamped.1 m (by simpa using hm)
  · obtain ⟨b, e1, e2⟩ := r' m hm
    rcases (mem' (rg P K RV m)).1 (List.mem_map.2 ⟨m, hm, rfl⟩) with h | ⟨h, k⟩
    · obtain ⟨n, hn, en⟩ := List.mem_map.1 h
      obtain ⟨c, _, f1, f2⟩ := r2 n hn
      rw [f2, e2] at en
      obtain ⟨g1, g2⟩ := inv f1 e1 en
      obtain ⟨x, hx, x1, x2⟩ := m2.mem n hn
      exact ⟨x, List.mem_append_left _ hx, by rw [x1, g1], by rw [x2, g2]⟩
    · obtain ⟨n, hn, en⟩ := List.mem_map.1 h
      obtain ⟨c, _, f1, f2⟩ := r1 n hn
      rw [f2, e2] at en
      obtain ⟨g1, g2⟩ := inv f1 e1 en
      have hnot : memB c bs2 = false := by
        rw [← Bool.not_eq_true]
        intro hc
        obtain ⟨z, hz, hcz⟩ := memB_iff.1 hc
        have : (Value.string z) ∈ l2.map (·.key) := by rw [q3]; exact List.mem_map.2 ⟨z, hz, rfl⟩
        obtain ⟨o, ho, eo⟩ := List.mem_map.1 this
        obtain ⟨c', _, o1, o2⟩ := r2 o ho
        have hk := k _ (List.mem_map.2 ⟨o, ho, rfl⟩)
        rw [o2, e2] at hk
        refine same_str.1 hk ?_
        have hb : b = c := by
          rw [f1, e1] at g1
          exact (Value.string.inj g1).symm
        have hc' : c' = z := by
          have : o.key = .string z := eo
          rw [o1] at this
          exact Value.string.inj this
        rw [hb, hc', hcz]
      obtain ⟨x, hx, x1, x2⟩ := d1 n hn c f1 hnot
      exact ⟨x, List.mem_append_right _ hx, by rw [x1, g1], by rw [x2, g2]⟩
  · rcases List.mem_append.1 hx with hx | hx
    · obtain ⟨n, hn, n1, n2'⟩ := MRel.back m2 x hx
      have := (mem' (rg P K RV n)).2 (.inl (List.mem_map.2 ⟨n, hn, rfl⟩))
      obtain ⟨m, hm, em⟩ := List.mem_map.1 this
      obtain ⟨b, e1, e2⟩ := r' m hm
      obtain ⟨c, _, f1, f2⟩ := r2 n hn
      rw [e2, f2] at em
      obtain ⟨g1, g2⟩ := inv e1 f1 em
      exact ⟨m, hm, by rw [n1, g1], by rw [n2', g2]⟩
    · obtain ⟨n, hn, c, f1, hnot, n1, n2'⟩ := d2 x hx
      obtain ⟨c', _, f1', f2⟩ := r1 n hn
      rw [f1] at f1'
      have := Value.string.inj f1'
      subst this
      have hk : ∀ q ∈ l2.map (rg P K RV), (rg P K RV n).1.sameKey q.1 = false := fun q hq => by
        obtain ⟨o, ho, rfl⟩ := List.mem_map.1 hq
        obtain ⟨z, hz, o1, o2⟩ := r2 o ho
        rw [f2, o2]
        refine same_str.2 fun e => ?_
        have : memB c bs2 = true := memB_iff.2 ⟨z, hz, e⟩
        rw [this] at hnot; cases hnot
      have := (mem' (rg P K RV n)).2 (.inr ⟨List.mem_map.2 ⟨n, hn, rfl⟩, hk⟩)
      obtain ⟨m, hm, em⟩ := List.mem_map.1 this
      obtain ⟨b, e1, e2⟩ := r' m hm
      rw [e2, f2] at em
      obtain ⟨g1, g2⟩ := inv e1 f1 em
      exact ⟨m, hm, by rw [n1, g1], by rw [n2', g2]⟩
def okB (es : List (SV × SV × Nat)) (c : Nat) (bs : List ByteArray) : Bool := (es.all fun e => Nat.blt e.2.2 c) && (nodupN (es.map (·.2.2)) && nodupY bs)
theorem okB_ok {es : List (SV × SV × Nat)} {c : Nat} {bs : List ByteArray} (h : okB es c bs = true) {l : List MapEntry} (hl : MRel E es l) (hk : l.map (·.key) = bs.map Value.string) :
    (∀ m ∈ l, m.born < c) ∧ (l.map (·.born)).Nodup ∧ (l.map (·.key)).Nodup := by
  simp only [okB, Bool.and_eq_true, List.all_eq_true] at h
  obtain ⟨c4, c5, c6⟩ := h
  have hborn := MRel.borns hl
  refine ⟨fun x hx => ?_, by rw [hborn]; exact nodupN_ok c5, by rw [hk]; exact nodupY_ok c6⟩
  have : x.born ∈ es.map (·.2.2) := by rw [← hborn]; exact List.mem_map.2 ⟨x, hx, rfl⟩
  obtain ⟨y, hy, hxy⟩ := List.mem_map.1 this
  rw [← hxy]
  exact Nat.le_of_ble_eq_true (c4 y hy)
def summCopy (fC G : Nat) (f : Nat) (args : List SV) (S : St) : Option (List (SV × St)) :=
  bif Nat.beq f fC then
    match args with
    | [.map d, .map s] => match find d S.heap, find s S.heap with
      | some (.map es1 c1), some (.map es2 c2) => match plainB S es1, plainB S es2 with
        | some bs1, some bs2 => bif Nat.ble G d && (!Nat.beq d s && (okB es1 c1 bs1 && okB es2 c2 bs2)) then some [(.val (.tuple #[]), { S with heap := upd d (.bag (es2 ++ dropB bs2 es1 bs1)) S.heap })] else none
        | _, _ => none
      | _, _ => none
    | _ => none
  else none
theorem summCopy_ok {fC : Nat} {K : TypeId} (hC : CopyAt P fC K) : SummOK B G w0 P (summCopy fC G) := by
  obtain ⟨hent, hK, hC⟩ := hC
  intro f args S rs hpan h
  unfold summCopy at h
  cases ef : Nat.beq f fC with
  | false => rw [ef] at h; cases h
  | true =>
    have ef := Nat.eq_of_beq_eq_true ef
    subst ef
    simp only [Nat.beq_refl, cond_true] at h
    refine ⟨fun as w => entersOf_ok hent as w, fun E vs w R hr hvs hR _ _ => ?_⟩
    split at h
    case h_2 => cases h
    rename_i d s
    split at h
    case h_2 => cases h
    rename_i es1 c1 es2 c2 hd hs
    split at h
    case h_2 => cases h
    rename_i bs1 bs2 hb1 hb2
    cases hchk : Nat.ble G d && (!Nat.beq d s && (okB es1 c1 bs1 && okB es2 c2 bs2)) with
    | false => rw [hchk] at h; cases h
    | true =>
      rw [hchk] at h
      simp only [cond_true, Option.some.injEq] at h; subst h
      simp only [Bool.and_eq_true, Bool.not_eq_true'] at hchk
      obtain ⟨g1, g2, g3, g4⟩ := hchk
      have g1 := Nat.le_of_ble_eq_true g1
      have hds : d ≠ s := fun e => by rw [e, Nat.beq_refl] at g2; cases g2
      obtain ⟨v1, r1, hv1, hr1, rfl⟩ := denL_cons hvs
      obtain ⟨v2, r2, hv2, hr2, rfl⟩ := denL_cons hr1
      simp only [SV.denL, Option.some.injEq] at hr2; subst hr2
      obtain ⟨bd, hbd, rfl⟩ := map_den hv1
      obtain ⟨bs, hbs, rfl⟩ := map_den hv2
      obtain ⟨l1, hh1, m1⟩ := map_at hr hd hbd
      obtain ⟨l2, hh2, m2⟩ := map_at hr hs hbs
      have hne : bd ≠ bs := fun e => hr.other hs hbs hd hbd g1 e.symm (fun e => hds e.symm)
      obtain ⟨p1, p2, p3, p4, p5⟩ := plainB_ok hr.env hb1 m1
      obtain ⟨q1, q2, q3, q4, q5⟩ := plainB_ok hr.env hb2 m2
      obtain ⟨o1, o2, o3⟩ := okB_ok g3 m1 p3
      obtain ⟨t1, t2, t3⟩ := okB_ok g4 m2 q3
      have n1 := m1.length
      have n2 := m2.length
      have own1 : w.ownsMap P K RV bd l1.length (.map ((l1.map (rg P K RV)).foldr DataW.insert [])) := ⟨l1.toArray, c1, hh1, fit_of hr.env hK hb1 m1 o1 o2 o3, by simp, by simp⟩
      have own2 : w.ownsMap P K RV bs l2.length (.map ((l2.map (rg P K RV)).foldr DataW.insert [])) := ⟨l2.toArray, c2, hh2, fit_of hr.env hK hb2 m2 t1 t2 t3, by simp, by simp⟩
      have hsize : Maps.size (DataW.map ((l2.map (rg P K RV)).foldr DataW.insert [])) = l2.length := by rw [size_eq, (sorted_perm _).length_eq, List.length_map]
      refine (hC bd bs _ _ _ _ w own1 own2 hne (by rw [hsize]; exact Nat.le_trans (by omega : l1.length + l2.length ≤ 2000) (by unfold maxLen; omega))).mono fun e w' ⟨he, hown, hg⟩ => ?_
      subst he
      obtain ⟨es', clock, hh', hF, _, hD⟩ := hown
      have hbag : BRel E (es2 ++ dropB bs2 es1 bs1) es'.toList clock := bag_merge hr.env hK hb1 hb2 m1 m2 t3 (by simpa using hF) hD.symm
      -- the world, but for the map
      have hlt := hr.dom d bd hbd
      have hmid : Rel B G w0 E S { w' with heap := w'.heap.setIfInBounds bd (.map l1.toArray c1) } := hr.after
        ⟨hg.os, hg.tape, hg.output, by simp; exact hg.size, fun k hk => by
          simp only [Array.getElem?_setIfInBounds]
          by_cases e : bd = k
          · subst e
            have := hg.size
            rw [if_pos rfl, if_pos (by omega), hh1]
          · rw [if_neg e]
            exact hg.block k hk fun e' => e (Option.some.inj e').symm⟩
      have hfin := hmid.wrote (w' := w') (o' := .bag (es2 ++ dropB bs2 es1 bs1)) hd hbd g1 (by simp) (fun k hk => by
          simp only [Array.getElem?_setIfInBounds]
          rw [if_neg (fun e => hk e.symm)]) hh' ⟨es'.toList, clock, by simp, hbag⟩ rfl rfl rfl
      exact hR _ List.mem_cons_self hpan E (.tuple #[]) w' E.le_refl hfin (by simp only [SV.den])
end
end Go.Ev
