/- slices.Sorted(maps.Keys(m)) given to the evaluator as a contract: whatever order the keys come in, the list is the sorted one. -/
import Derived.Test.YtlpbimookmhjbaaGreatDoorEvAdopt
import Derived.Sort.KeysCollected
import Derived.Laws.AppendOwn
namespace Go.Ev
open Go.RowKit (Below)
open Go.Maps Go.WideElems Go.MapKept Go.WideShapes
open Go.Proofs (encStr)
def insB (x : List UInt8) : List (List UInt8) → List (List UInt8)
  | [] => [x]
  | y :: r => bif leB x y then x :: y :: r else y :: insB x r
def sortB : List (List UInt8) → List (List UInt8)
  | [] => []
  | x :: r => insB x (sortB r)
theorem insB_perm (x : List UInt8) : ∀ l, (insB x l).Perm (x :: l)
  | [] => .refl _
  | y :: r => by
    simp only [insB]
    cases leB x y with
    | true => exact .refl _
    | false => exact ((insB_perm x r).cons y).trans (.swap x y r)
theorem sortB_perm : ∀ l, (sortB l).Perm l
  | [] => .refl _
  | x :: r => (insB_perm x _).trans ((sortB_perm r).cons x)
theorem leB_trans {a b c : List UInt8} (h1 : leB a b = true) (h2 : leB b c = true) : leB a c = true := by
  simp only [leB, decide_eq_true_eq] at *; exact List.le_trans h1 h2
theorem leB_total (a b : List UInt8) : leB a b = true ∨ leB b a = true := by
  simp only [leB, decide_eq_true_eq]; exact List.le_total a b
theorem insB_sorted (x : List UInt8) : ∀ l, l.Pairwise (fun a b => leB a b = true) → (insB x l).Pairwise (fun a b => leB a b = true)
  | [], _ => List.pairwise_singleton _ _
  | y :: r, h => by
    simp only [insB]
    obtain ⟨h1, h2⟩ := List.pairwise_cons.1 h
    cases e : leB x y with
    | true =>
      refine List.pairwise_cons.2 ⟨fun z hz => ?_, h⟩
      cases hz with
      | head => exact e
      | tail _ hz => exact leB_trans e (h1 z hz)
    | false =>
      refine List.pairwise_cons.2 ⟨fun z hz => ?_, insB_sorted x r h2⟩
      rcases List.mem_cons.1 ((insB_perm x r).mem_iff.1 hz) with rfl | hz
      · rcases leB_total z y with h | h
        · rw [h] at e; cases e
        · exact h
      · exact h1 z hz
theorem sortB_sorted : ∀ l, (sortB l).Pairwise (fun a b => leB a b = true)
  | [] => .nil
  | x :: r => insB_sorted x _ (sortB_sorted r)
theorem sortB_eq {l ss : List (List UInt8)} (h : ss.Perm l) : sortB l = ss.mergeSort leB := by
  have tr : ∀ a b c : List UInt8, leB a b = true → leB b c = true → leB a c = true := fun a b c => leB_trans
  have to : ∀ a b : List UInt8, (leB a b || leB b a) = true := fun a b => by simpa using leB_total a b
  refine List.Perm.eq_of_pairwise (le := fun a b => leB a b = true) (fun a b _ _ h1 h2 => ?_) (sortB_sorted l) (List.pairwise_mergeSort tr to ss) ((sortB_perm l).trans (h.symm.trans (List.mergeSort_perm ss leB).symm))
  simp only [leB, decide_eq_true_eq] at h1 h2
  exact List.le_antisymm h1 h2
def nodupN : List Nat → Bool
  | [] => true
  | x :: r => bif isInN x r then false else nodupN r
def nodupY : List ByteArray → Bool
  | [] => true
  | x :: r => bif isIn x r then false else nodupY r
theorem isInN_of' {i : Nat} : ∀ {l : List Nat}, i ∈ l → isInN i l = true
  | j :: r, h => by
    simp only [isInN]
    cases e : Nat.beq i j with
    | true => rfl
    | false =>
      cases h with
      | head => simp at e
      | tail _ h => exact isInN_of' h
theorem nodupN_ok : ∀ {l : List Nat}, nodupN l = true → l.Nodup
  | [], _ => List.nodup_nil
  | x :: r, h => by
    simp only [nodupN] at h
    cases e : isInN x r with
    | true => rw [e] at h; cases h
    | false =>
      rw [e] at h
      exact List.nodup_cons.2 ⟨(fun hx => by rw [isInN_of' hx] at e; cases e), nodupN_ok h⟩
theorem nodupY_ok : ∀ {l : List ByteArray}, nodupY l = true → (l.map Value.string).Nodup
  | [], _ => List.nodup_nil
  | x :: r, h => by
    simp only [nodupY] at h
    cases e : isIn x r with
    | true => rw [e] at h; cases h
    | false =>
      rw [e] at h
      refine List.nodup_cons.2 ⟨fun hx => ?_, nodupY_ok h⟩
      obtain ⟨y, hy, he⟩ := List.mem_map.1 hx
      simp only [Value.string.injEq] at he
      subst he
      rw [isIn_of hy rfl] at e; cases e
theorem bytesKeys_eq : ∀ {ks : List Value} {bs : List ByteArray}, bytesKeys ks = some bs → ks = bs.map Value.string
  | [], bs, h => by simp only [bytesKeys, Option.some.injEq] at h; subst h; rfl
  | k :: r, bs, h => by
    cases k with
    | string b =>
      simp only [bytesKeys] at h
      split at h
      · rename_i l hl
        simp only [Option.some.injEq] at h; subst h
        rw [bytesKeys_eq hl]; rfl
      · cases h
    | _ => simp [bytesKeys] at h
theorem MRel.borns {E : Env} : ∀ {es : List (SV × SV × Nat)} {l : List MapEntry}, MRel E es l → l.map (·.born) = es.map (·.2.2)
  | [], [], _ => rfl
  | x :: xs, m :: ms, ⟨_, _, h, r⟩ => by simp only [List.map_cons, h, MRel.borns r]
  | [], _ :: _, h => h.elim
  | _ :: _, [], h => h.elim
def SortedAt (P : Program) (fS fI : Nat) (K : TypeId) : Prop :=
  entersOf P fS = true ∧ P.underlying K = some .string ∧
  ∀ (b nn : Nat) (D0 : DataW Unit) (R : Value → Option (DataW Unit × List MemPlace)) (w : World) (bm : Nat), w.ownsMap P K R b nn D0 → Maps.size D0 ≤ maxLen → Maps.size D0 * 16 ≤ 140737488355328 → w.cell? ⟨bm, 0, none⟩ = some (.map (some b)) →
    Calls P fS #[.func (.func fI) #[] #[.pointer (some ⟨bm, 0, none⟩)]] w fun e w' => ∃ (v : Value) (ss : List (List UInt8)), e = .returned v ∧ ss.Perm (strKeys D0) ∧
      w'.ownsRow w.heap.size K 1 v ss.length ((ss.mergeSort (fun x y => decide (x ≤ y))).map encStr) ∧ (v = .slice none 0 0 ↔ ss = []) ∧ Below w.heap.size w w'
def small (bs : List ByteArray) : Bool := Nat.ble 1 bs.length && (Nat.ble bs.length 1000 && bs.all fun b => Nat.ble b.data.toList.length 1000)
def sortedKeys (S : St) (id : Nat) : Option (List ByteArray) :=
  match find id S.heap with
  | some (.row [.map m] _ _ none) => match find m S.heap with
    | some (.map es clock) => match keysOf es with
      | some ks => match bytesKeys ks with
        | some bs => bif small bs && ((es.all fun e => Nat.blt e.2.2 clock) && (nodupN (es.map (·.2.2)) && nodupY bs)) then some bs else none
        | none => none
      | none => none
    | some (.bag es) => match keysOf es with
      | some ks => match bytesKeys ks with
        | some bs => bif small bs && nodupY bs then some bs else none
        | none => none
      | none => none
    | _ => none
  | _ => none
def summSorted (fS fI : Nat) (K : TypeId) (f : Nat) (args : List SV) (S : St) : Option (List (SV × St)) :=
  bif Nat.beq f fS then
    match args with
    | [.func (.func g) [] [.ptr id 0]] => bif Nat.beq g fI then
        match sortedKeys S id with
        | some bs => some [(.slice S.next 0 bs.length (.v S.ncap), newGrownS S K (((sortB (bs.map fun b => b.data.toList)).map encStr).map .val) 1 bs.length)]
        | none => none
      else none
    | _ => none
  else none
section
variable {B G : Nat} {w0 : Start} {P : Program}
def keyBytes : Value → List UInt8
  | .string b => b.data.toList
  | _ => []
theorem keysOf_back {E : Env} : ∀ {es : List (SV × SV × Nat)} {ks : List Value}, keysOf es = some ks → ∀ k ∈ ks, ∃ e ∈ es, e.1.den E = some k
  | [], ks, h, k, hk => by simp only [keysOf, Option.some.injEq] at h; subst h; cases hk
  | x :: r, ks, h, k, hk => by
    simp only [keysOf] at h
    split at h
    · rename_i k0 l hk0 hl
      simp only [Option.some.injEq] at h; subst h
      cases hk with
      | head => exact ⟨x, List.mem_cons_self, conc_den (E := E) _ _ hk0⟩
      | tail _ hk => obtain ⟨e, h1, h2⟩ := keysOf_back hl k hk; exact ⟨e, List.mem_cons_of_mem _ h1, h2⟩
    · cases h
theorem sortedKeys_src {E : Env} {S : St} {w : World} (hr : Rel B G w0 E S w) {id : Nat} {bs : List ByteArray} (h : sortedKeys S id = some bs) :
    ∃ (bm b clock : Nat) (l : List MapEntry), E.ρ id = some bm ∧ w.cell? ⟨bm, 0, none⟩ = some (.map (some b)) ∧ w.heap[b]? = some (.map l.toArray clock) ∧ (l.map (·.key)).Perm (bs.map Value.string) ∧
      (l.map (·.key)).Nodup ∧ (l.map (·.born)).Nodup ∧ (∀ m ∈ l, m.born < clock) ∧ small bs = true := by
  unfold sortedKeys at h
  split at h
  case h_2 => cases h
  rename_i m te wr hrow
  obtain ⟨bm, xo, hbm, hxo, l0, fz0, hl0, rfl, _⟩ := hr.heap id _ hrow
  obtain ⟨vm, l1, hvm, hl1, rfl⟩ := denL_cons hl0
  simp only [SV.denL, Option.some.injEq] at hl1
  subst hl1
  obtain ⟨b, hb, rfl⟩ := map_den hvm
  have hcell : w.cell? ⟨bm, 0, none⟩ = some (.map (some b)) := by
    unfold World.cell?
    simp [hxo]
  split at h
  · rename_i es clock hmap
    split at h
    case h_2 => cases h
    rename_i ks hks
    split at h
    case h_2 => cases h
    rename_i bs' hbk
    cases hchk : small bs' && ((es.all fun e => Nat.blt e.2.2 clock) && (nodupN (es.map (·.2.2)) && nodupY bs')) with
    | false => rw [hchk] at h; cases h
    | true =>
      rw [hchk] at h
      simp only [cond_true, Option.some.injEq] at h
      subst h
      simp only [Bool.and_eq_true, List.all_eq_true] at hchk
      obtain ⟨c1, c4, c5, c6⟩ := hchk
      obtain ⟨l, hheap, hrel⟩ := map_at hr hmap hb
      have hkeys : l.map (·.key) = bs'.map Value.string := by rw [keysOf_ok hks hrel, bytesKeys_eq hbk]
      have hborn := MRel.borns hrel
      refine ⟨bm, b, clock, l, hbm, hcell, hheap, by rw [hkeys], by rw [hkeys]; exact nodupY_ok c6, by rw [hborn]; exact nodupN_ok c5, fun x hx => ?_, c1⟩
      have : x.born ∈ es.map (·.2.2) := by rw [← hborn]; exact List.mem_map.2 ⟨x, hx, rfl⟩
      obtain ⟨y, hy, hxy⟩ := List.mem_map.1 this
      rw [← hxy]
      exact Nat.le_of_ble_eq_true (c4 y hy)
  · rename_i es hmap
    split at h
    case h_2 => cases h
    rename_i ks hks
    split at h
    case h_2 => cases h
    rename_i bs' hbk
    cases hchk : small bs' && nodupY bs' with
    | false => rw [hchk] at h; cases h
    | true =>
      rw [hchk] at h
      simp only [cond_true, Option.some.injEq] at h
      subst h
      simp only [Bool.and_eq_true] at hchk
      obtain ⟨c1, c6⟩ := hchk
      obtain ⟨b', x, h1, h2, l, clock, rfl, n1, n2, n3, n4, n5⟩ := hr.heap m _ hmap
      rw [hb] at h1; cases h1
      have hks' := bytesKeys_eq hbk
      have hperm : (l.map (·.key)).Perm (bs'.map Value.string) := (List.perm_ext_iff_of_nodup n1 (nodupY_ok c6)).2 fun k => by
        rw [← hks']
        constructor
        · intro hk
          obtain ⟨x, hx, rfl⟩ := List.mem_map.1 hk
          obtain ⟨e, he, e1, _⟩ := n4 x hx
          obtain ⟨k', hk', e2⟩ := keysOf_mem (E := E) hks e he
          rw [e1] at e2
          simp only [Option.some.injEq] at e2
          rw [e2]; exact hk'
        · intro hk
          obtain ⟨e, he, e2⟩ := keysOf_back (E := E) hks k hk
          obtain ⟨x, hx, e1, _⟩ := n5 e he
          rw [e1] at e2
          simp only [Option.some.injEq] at e2
          exact List.mem_map.2 ⟨x, hx, e2⟩
      exact ⟨bm, b, clock, l, hbm, hcell, h2, hperm, n1, n2, n3, c1⟩
  · cases h
theorem summSorted_ok {fS fI : Nat} {K : TypeId} (hC : SortedAt P fS fI K) : SummOK B G w0 P (summSorted fS fI K) := by
  obtain ⟨hent, hK, hC⟩ := hC
  intro f args S rs hpan h
  unfold summSorted at h
  cases ef : Nat.beq f fS with
  | false => rw [ef] at h; cases h
  | true =>
    have ef := Nat.eq_of_beq_eq_true ef
    subst ef
    simp only [Nat.beq_refl, cond_true] at h
    refine ⟨fun as w => entersOf_ok hent as w, fun E vs w R hr hvs hR _ _ => ?_⟩
    split at h
    · rename_i g id
      cases eg : Nat.beq g fI with
      | false => rw [eg] at h; cases h
      | true =>
        rw [eg] at h
        have eg := Nat.eq_of_beq_eq_true eg
        subst eg
        simp only [cond_true] at h
        split at h
        · rename_i bs hbs
          simp only [Option.some.injEq] at h; subst h
          obtain ⟨bm, b, clock, l, hbm, hcell, hheap, hkeys, nk, nbn, nlt, hsm⟩ := sortedKeys_src hr hbs
          simp only [Bool.and_eq_true, small, List.all_eq_true] at hsm
          obtain ⟨c1, c2, c3⟩ := hsm
          have c1 := Nat.le_of_ble_eq_true c1
          have c2 := Nat.le_of_ble_eq_true c2
          have hargs : vs = [.func (.func g) #[] #[.pointer (some ⟨bm, 0, none⟩)]] := by
            obtain ⟨v, l', h1, h2, rfl⟩ := denL_cons hvs
            simp only [SV.denL, Option.some.injEq] at h2
            subst h2
            simp only [SV.den, SV.denL, hbm, Option.some.injEq] at h1
            rw [← h1]
          subst hargs
          let R0 : Value → Option (DataW Unit × List MemPlace) := fun _ => some (.nil, [])
          have hlen : l.length = bs.length := by have := hkeys.length_eq; simpa using this
          have hread : ∀ x ∈ l, ∃ b ∈ bs, x.key = .string b ∧ rd P K R0 x = some (.string b.data.toList, .nil) := fun x hx => by
            have : x.key ∈ bs.map Value.string := hkeys.mem_iff.1 (List.mem_map.2 ⟨x, hx, rfl⟩)
            obtain ⟨y, hy, hxy⟩ := List.mem_map.1 this
            refine ⟨y, hy, hxy.symm, ?_⟩
            have hsz : y.size ≤ maxLen := by
              have := Nat.le_of_ble_eq_true (c3 y hy)
              have e : y.size = y.data.toList.length := by rw [Array.length_toList]; rfl
              rw [e]
              exact Nat.le_trans this (by unfold maxLen; omega)
            simp only [rd, ← hxy, keyOf, hK, mapKey, hsz, if_true, Option.bind_some, R0, Option.map_some]
          have hown : w.ownsMap P K R0 b l.length (.map ((l.map (rg P K R0)).foldr DataW.insert [])) := by
            refine ⟨l.toArray, clock, hheap, ⟨?_, ⟨?_, ?_, ?_⟩, fun x hx => ?_⟩, by simp, by simp⟩
            · simp only [List.size_toArray, hlen]
              exact Nat.le_trans c2 (by unfold maxLen; omega)
            · intro x hx
              exact nlt x (by simpa using hx)
            · exact nbn
            · exact nk
            · obtain ⟨y, _, _, h⟩ := hread x (by simpa using hx); exact ⟨_, h⟩
          have hrg : (l.map (rg P K R0)).map (fun p => _root_.Go.strOf p.1) = (l.map (·.key)).map keyBytes := by
            rw [List.map_map, List.map_map]
            refine List.map_congr_left fun x hx => ?_
            obtain ⟨y, _, h1, h2⟩ := hread x hx
            simp only [Function.comp, rg_of h2, h1, keyBytes]
            rfl
          have hperm : (strKeys (DataW.map ((l.map (rg P K R0)).foldr DataW.insert []) : DataW Unit)).Perm (bs.map fun b => b.data.toList) := by
            have := (sorted_perm (l.map (rg P K R0))).map fun p => _root_.Go.strOf p.1
            refine this.trans ?_
            rw [hrg]
            refine (hkeys.map keyBytes).trans ?_
            rw [List.map_map]
            exact .refl _
          have hsize : Maps.size (DataW.map ((l.map (rg P K R0)).foldr DataW.insert []) : DataW Unit) = l.length := by
            rw [size_eq, (sorted_perm _).length_eq, List.length_map]
          refine (hC b l.length _ R0 w bm hown (by rw [hsize, hlen]; exact Nat.le_trans c2 (by unfold maxLen; omega)) (by rw [hsize, hlen]; omega) hcell).mono fun e w' ⟨v, ss, he, hp, hrow', hnil, hbel⟩ => ?_
          subst he
          have hss := hp.trans hperm
          have hn : ss.length = bs.length := by rw [hss.length_eq, List.length_map]
          have hsorted : ss.mergeSort (fun x y => decide (x ≤ y)) = sortB (bs.map fun b => b.data.toList) := (sortB_eq hss).symm
          rw [hsorted, hn] at hrow'
          have hne : v ≠ .slice none 0 0 := fun e => by
            have := hnil.1 e
            rw [this] at hn
            simp at hn; omega
          obtain ⟨F, f1, f2, f3⟩ := hr.adoptRow hbel hrow' hne (denL_vals _)
          exact hR _ List.mem_cons_self hpan F v w' f1 f2 f3
        · cases h
    · cases h
end
end Go.Ev
