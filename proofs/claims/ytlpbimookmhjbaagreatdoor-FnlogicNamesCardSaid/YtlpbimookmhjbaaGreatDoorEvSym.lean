/- Comparisons of unknown texts and numbers. -/
import Derived.Test.YtlpbimookmhjbaaGreatDoorEvAll
namespace Go.Ev
open Go.RowKit (Below)

inductive StrV where
  | lit (b : ByteArray)
  | isnt (n : Nat) (l : List ByteArray)

/-- What is known of a text. -/
def strOf (S : St) : SV → Option StrV
  | .val (.string b) => some (.lit b)
  | .sym n => match find n S.sorts with
    | some (.is (.string b)) => some (.lit b)
    | some .str => some (.isnt n [])
    | some (.strNot l) => some (.isnt n l)
    | _ => none
  | _ => none

section
variable {B G : Nat} {w0 : Start} {E : Env} {S : St} {w : World} {P : Program}

def StrV.fits (E : Env) (x : SV) (v : Value) : StrV → Prop
  | .lit b => v = .string b
  | .isnt n l => x = .sym n ∧ E.σ n = some v ∧ ∃ s, v = .string s ∧ ∀ y ∈ l, s.toList ≠ y.toList

theorem strOf_ok (hr : ERel E S) {x : SV} {k : StrV} {v : Value} (h : strOf S x = some k) (hx : x.den E = some v) : k.fits E x v := by
  unfold strOf at h
  split at h
  · simp only [Option.some.injEq] at h; subst h
    simp only [SV.den, Option.some.injEq] at hx; exact hx.symm
  · rename_i n
    simp only [SV.den] at hx
    split at h
    · rename_i b hb
      simp only [Option.some.injEq] at h; subst h
      obtain ⟨u, hu, hf⟩ := hr.sorts _ _ hb
      rw [hu] at hx; cases hx; exact hf
    · rename_i hb
      simp only [Option.some.injEq] at h; subst h
      obtain ⟨u, hu, s, rfl⟩ := hr.sorts _ _ hb
      rw [hu] at hx; cases hx
      exact ⟨rfl, hu, s, rfl, fun _ h => by cases h⟩
    · rename_i l hb
      simp only [Option.some.injEq] at h; subst h
      obtain ⟨u, hu, s, rfl, hl⟩ := hr.sorts _ _ hb
      rw [hu] at hx; cases hx
      exact ⟨rfl, hu, s, rfl, hl⟩
    · cases h
  · cases h

/-- 'Equal' or 'different', answered. -/
def eqAns (op : BinOp) (b : Bool) : Option SV :=
  match op with
  | .eql => some (.val (.bool b))
  | .neq => some (.val (.bool (!b)))
  | _ => none

def isIn (b : ByteArray) : List ByteArray → Bool
  | [] => false
  | x :: r => bif x.toList == b.toList then true else isIn b r

theorem isIn_mem {b : ByteArray} : ∀ {l : List ByteArray}, isIn b l = true → ∃ x ∈ l, x.toList = b.toList
  | [], h => by cases h
  | x :: r, h => by
    simp only [isIn] at h
    cases e : x.toList == b.toList with
    | true => exact ⟨x, List.mem_cons_self, by simpa using e⟩
    | false =>
      rw [e] at h
      obtain ⟨y, hy, h'⟩ := isIn_mem (l := r) h
      exact ⟨y, List.mem_cons_of_mem _ hy, h'⟩

def evStrCmp (S : St) (op : BinOp) (x y : SV) : Option SV :=
  match strOf S x, strOf S y with
  | some (.isnt n _), some (.isnt m _) => bif Nat.beq n m then eqAns op true else none
  | some (.lit a), some (.lit b) => eqAns op (a.toList == b.toList)
  | some (.isnt _ l), some (.lit b) => bif isIn b l then eqAns op false else none
  | some (.lit b), some (.isnt _ l) => bif isIn b l then eqAns op false else none
  | _, _ => none

theorem eqAns_str {op : BinOp} {b : Bool} {sv : SV} (h : eqAns op b = some sv) {t : TypeId} {s u : ByteArray} {ox oy : Operand} (hb : b = (s.toList == u.toList)) :
    Quiet P E sv (do eqGuard op t ox oy (.string s) (.string u); binOp op t (.string s) (.string u)) := by
  subst hb
  cases op <;> simp only [eqAns, Option.some.injEq, reduceCtorEq] at h <;> subst h
  · exact .mk (v := .bool (s.toList == u.toList)) (by simp only [SV.den]) fun w => by simp [eqGuard, binOp_string_eql]
  · exact .mk (v := .bool (!(s.toList == u.toList))) (by simp only [SV.den]) fun w => by simp [eqGuard, binOp_string_neq]

theorem evStrCmp_ok (hr : ERel E S) {op : BinOp} {t : TypeId} {x y sv : SV} {ox oy : Operand} {vx vy : Value} (h : evStrCmp S op x y = some sv) (hx : x.den E = some vx) (hy : y.den E = some vy) :
    Quiet P E sv (do eqGuard op t ox oy vx vy; binOp op t vx vy) := by
  unfold evStrCmp at h
  split at h
  · rename_i n l m l' h1 h2
    obtain ⟨rfl, hn, s, rfl, _⟩ := strOf_ok hr h1 hx
    obtain ⟨rfl, hm, u, rfl, _⟩ := strOf_ok hr h2 hy
    cases e : Nat.beq n m with
    | false => rw [e] at h; cases h
    | true =>
      have := Nat.eq_of_beq_eq_true e
      subst this
      rw [hn] at hm
      cases hm
      rw [e] at h
      exact eqAns_str h (by simp)
  · rename_i a b h1 h2
    have h1 := strOf_ok hr h1 hx
    have h2 := strOf_ok hr h2 hy
    simp only [StrV.fits] at h1 h2
    subst h1 h2
    exact eqAns_str h rfl
  · rename_i n l b h1 h2
    obtain ⟨-, -, s, rfl, hl⟩ := strOf_ok hr h1 hx
    have h2 := strOf_ok hr h2 hy
    simp only [StrV.fits] at h2
    subst h2
    cases e : isIn b l with
    | false => rw [e] at h; cases h
    | true =>
      rw [e] at h
      obtain ⟨z, hz, hzb⟩ := isIn_mem e
      have := hl z hz
      rw [hzb] at this
      exact eqAns_str h (by simpa using this)
  · rename_i b n l h1 h2
    obtain ⟨-, -, s, rfl, hl⟩ := strOf_ok hr h2 hy
    have h1 := strOf_ok hr h1 hx
    simp only [StrV.fits] at h1
    subst h1
    cases e : isIn b l with
    | false => rw [e] at h; cases h
    | true =>
      rw [e] at h
      obtain ⟨z, hz, hzb⟩ := isIn_mem e
      have := hl z hz
      rw [hzb] at this
      exact eqAns_str h (by simpa using fun e => this e.symm)
  · cases h

/-! ### Numbers -/
def ltO (a b : Option Int) : Bool := match a, b with
  | some x, some y => decide (x < y)
  | _, _ => false
def leO (a b : Option Int) : Bool := match a, b with
  | some x, some y => decide (x ≤ y)
  | _, _ => false

theorem ltO_ok {a b : Option Int} (h : ltO a b = true) : ∃ x y, a = some x ∧ b = some y ∧ x < y := by
  unfold ltO at h; split at h
  · exact ⟨_, _, rfl, rfl, by simpa using h⟩
  · cases h
theorem leO_ok {a b : Option Int} (h : leO a b = true) : ∃ x y, a = some x ∧ b = some y ∧ x ≤ y := by
  unfold leO at h; split at h
  · exact ⟨_, _, rfl, rfl, by simpa using h⟩
  · cases h

def twoWays (a b : Bool) : Option Bool := bif a then some true else bif b then some false else none

def ordAns (op : BinOp) (lx hx ly hy : Option Int) : Option Bool :=
  match op with
  | .lss => twoWays (ltO hx ly) (leO hy lx)
  | .leq => twoWays (leO hx ly) (ltO hy lx)
  | .gtr => twoWays (ltO hy lx) (leO hx ly)
  | .geq => twoWays (leO hy lx) (ltO hx ly)
  | .eql => twoWays false (ltO hx ly || ltO hy lx)
  | .neq => twoWays (ltO hx ly || ltO hy lx) false
  | _ => none

theorem twoWays_ok {a b r : Bool} (h : twoWays a b = some r) : (r = true ∧ a = true) ∨ (r = false ∧ b = true) := by
  unfold twoWays at h
  cases a <;> cases b <;> simp at h <;> subst h <;> simp

def evIntCmp (S : St) (op : BinOp) (x y : SV) : Option SV :=
  match intOf S x, intOf S y with
  | some (k, lx, hx), some (k', ly, hy) => bif decide (k = k') then (match ordAns op lx hx ly hy with
    | some b => some (.val (.bool b))
    | none => none) else none
  | _, _ => none

theorem evIntCmp_ok (hr : ERel E S) {op : BinOp} {t : TypeId} {x y sv : SV} {ox oy : Operand} {vx vy : Value} (h : evIntCmp S op x y = some sv) (hx : x.den E = some vx) (hy : y.den E = some vy) :
    Quiet P E sv (do eqGuard op t ox oy vx vy; binOp op t vx vy) := by
  unfold evIntCmp at h
  split at h
  · rename_i k lx ux k' ly uy h1 h2
    obtain ⟨n, rfl, hn1, hn2⟩ := intOf_ok hr h1 hx
    obtain ⟨m, rfl, hm1, hm2⟩ := intOf_ok hr h2 hy
    simp only at hn1 hn2 hm1 hm2
    cases e : decide (k = k') with
    | false => rw [e] at h; cases h
    | true =>
      have : k = k' := by simpa using e
      subst this
      rw [e] at h
      simp only [cond_true] at h
      split at h
      · rename_i b hb
        simp only [Option.some.injEq] at h; subst h
        have lt1 : ltO ux ly = true → n < m := fun h => by
          obtain ⟨p, q, rfl, rfl, hpq⟩ := ltO_ok h
          have := hn2 _ rfl; have := hm1 _ rfl; omega
        have lt2 : ltO uy lx = true → m < n := fun h => by
          obtain ⟨p, q, rfl, rfl, hpq⟩ := ltO_ok h
          have := hm2 _ rfl; have := hn1 _ rfl; omega
        have le1 : leO ux ly = true → n ≤ m := fun h => by
          obtain ⟨p, q, rfl, rfl, hpq⟩ := leO_ok h
          have := hn2 _ rfl; have := hm1 _ rfl; omega
        have le2 : leO uy lx = true → m ≤ n := fun h => by
          obtain ⟨p, q, rfl, rfl, hpq⟩ := leO_ok h
          have := hm2 _ rfl; have := hn1 _ rfl; omega
        refine .mk (v := .bool b) (by simp only [SV.den]) fun w => ?_
        cases op <;> simp only [ordAns, reduceCtorEq] at hb
        case eql =>
          rcases twoWays_ok hb with ⟨rfl, h'⟩ | ⟨rfl, h'⟩
          · cases h'
          · simp only [Bool.or_eq_true] at h'
            have : n ≠ m := by rcases h' with h' | h'
                               · have := lt1 h'; omega
                               · have := lt2 h'; omega
            simp [eqGuard, binOp_eql, this]
        case neq =>
          rcases twoWays_ok hb with ⟨rfl, h'⟩ | ⟨rfl, h'⟩
          · simp only [Bool.or_eq_true] at h'
            have : n ≠ m := by rcases h' with h' | h'
                               · have := lt1 h'; omega
                               · have := lt2 h'; omega
            simp [eqGuard, binOp_neq, this]
          · cases h'
        case lss =>
          rcases twoWays_ok hb with ⟨rfl, h'⟩ | ⟨rfl, h'⟩
          · have := lt1 h'; simp [eqGuard, binOp_lss, this]
          · have := le2 h'; have : ¬ n < m := by omega
            simp [eqGuard, binOp_lss, this]
        case leq =>
          rcases twoWays_ok hb with ⟨rfl, h'⟩ | ⟨rfl, h'⟩
          · have := le1 h'; simp [eqGuard, binOp_leq, this]
          · have := lt2 h'; have : ¬ n ≤ m := by omega
            simp [eqGuard, binOp_leq, this]
        case gtr =>
          rcases twoWays_ok hb with ⟨rfl, h'⟩ | ⟨rfl, h'⟩
          · have := lt2 h'; simp [eqGuard, binOp_gtr, this]
          · have := le1 h'; have : ¬ m < n := by omega
            simp [eqGuard, binOp_gtr, this]
        case geq =>
          rcases twoWays_ok hb with ⟨rfl, h'⟩ | ⟨rfl, h'⟩
          · have := le2 h'; simp [eqGuard, binOp_geq, this]
          · have := lt1 h'; have : ¬ m ≤ n := by omega
            simp [eqGuard, binOp_geq, this]
      · cases h
  · cases h

/-! ### The same unknown -/
def sameSort (P : Program) (t : TypeId) : Option Sort_ → Bool
  | some (.int _) | some (.intIn _ _ _) | some .str | some (.strNot _) => true
  | some (.is (.int _ _)) | some (.is (.string _)) => true
  | some .bool | some (.is (.bool _)) => match P.underlying t with
    | some .bool => true
    | _ => false
  | _ => false

def evSame (P : Program) (S : St) (op : BinOp) (t : TypeId) (x y : SV) : Option SV :=
  match x, y with
  | .sym n, .sym m => bif Nat.beq n m && sameSort P t (find n S.sorts) then eqAns op true else none
  | _, _ => none

theorem eqAns_int {op : BinOp} {sv : SV} (h : eqAns op true = some sv) {t : TypeId} {k : IntKind} {n : Int} {ox oy : Operand} :
    Quiet P E sv (do eqGuard op t ox oy (.int k n) (.int k n); binOp op t (.int k n) (.int k n)) := by
  cases op <;> simp only [eqAns, Option.some.injEq, reduceCtorEq] at h <;> subst h
  · exact .mk (v := .bool true) (by simp only [SV.den]) fun w => by simp [eqGuard, binOp_eql]
  · exact .mk (v := .bool false) (by simp only [SV.den, Bool.not_true]) fun w => by simp [eqGuard, binOp_neq]

theorem eqIn_bool (d : Nat) {t : TypeId} (a : Bool) (hu : P.underlying t = some TypeDesc.bool) (w : World) : (Op.equalIn (d + 1) t (.bool a) (.bool a)).run P w = .ok true w := by simp [Op.equalIn, run_underlying hu]

theorem eqAns_bool {op : BinOp} {sv : SV} (h : eqAns op true = some sv) {t : TypeId} {b : Bool} {ox oy : Operand} (hu : P.underlying t = some .bool) :
    Quiet P E sv (do eqGuard op t ox oy (.bool b) (.bool b); binOp op t (.bool b) (.bool b)) := by
  have hq : ∀ w, (Op.equal t (.bool b) (.bool b)).run P w = .ok true w := fun w => eqIn_bool 9999 b hu w
  cases op <;> simp only [eqAns, Option.some.injEq, reduceCtorEq] at h <;> subst h
  · exact .mk (v := .bool true) (by simp only [SV.den]) fun w => by simp [eqGuard, binOp, hq w]
  · exact .mk (v := .bool false) (by simp only [SV.den, Bool.not_true]) fun w => by simp [eqGuard, binOp, hq w]

theorem evSame_ok (hr : ERel E S) {op : BinOp} {t : TypeId} {x y sv : SV} {ox oy : Operand} {vx vy : Value} (h : evSame P S op t x y = some sv) (hx : x.den E = some vx) (hy : y.den E = some vy) :
    Quiet P E sv (do eqGuard op t ox oy vx vy; binOp op t vx vy) := by
  unfold evSame at h
  split at h
  · rename_i n m
    cases e : Nat.beq n m && sameSort P t (find n S.sorts) with
    | false => rw [e] at h; cases h
    | true =>
      rw [e] at h
      simp only [cond_true] at h
      simp only [Bool.and_eq_true] at e
      have := Nat.eq_of_beq_eq_true e.1
      subst this
      simp only [SV.den] at hx hy
      rw [hx] at hy; cases hy
      have hs := e.2
      unfold sameSort at hs
      have str : ∀ s, Quiet P E sv (do eqGuard op t ox oy (.string s) (.string s); binOp op t (.string s) (.string s)) := fun s => eqAns_str h (by simp)
      split at hs
      · rename_i hf; obtain ⟨u, hu, m, rfl⟩ := hr.sorts _ _ hf; rw [hu] at hx; cases hx; exact eqAns_int h
      · rename_i hf; obtain ⟨u, hu, m, rfl, _⟩ := hr.sorts _ _ hf; rw [hu] at hx; cases hx; exact eqAns_int h
      · rename_i hf; obtain ⟨u, hu, m, rfl⟩ := hr.sorts _ _ hf; rw [hu] at hx; cases hx; exact str _
      · rename_i hf; obtain ⟨u, hu, m, rfl, _⟩ := hr.sorts _ _ hf; rw [hu] at hx; cases hx; exact str _
      · rename_i hf; obtain ⟨u, hu, m⟩ := hr.sorts _ _ hf; rw [hu] at hx; cases hx; cases m; exact eqAns_int h
      · rename_i hf; obtain ⟨u, hu, m⟩ := hr.sorts _ _ hf; rw [hu] at hx; cases hx; cases m; exact str _
      · rename_i hf; obtain ⟨u, hu, m, rfl⟩ := hr.sorts _ _ hf; rw [hu] at hx; cases hx
        split at hs
        · rename_i ht; exact eqAns_bool h ht
        · cases hs
      · rename_i hf; obtain ⟨u, hu, m⟩ := hr.sorts _ _ hf; rw [hu] at hx; cases hx; cases m
        split at hs
        · rename_i ht; exact eqAns_bool h ht
        · cases hs
      · cases hs
  · cases h

def evCmp (P : Program) (S : St) (op : BinOp) (t : TypeId) (x y : SV) : Option SV :=
  match evSame P S op t x y with
  | some v => some v
  | none => match evStrCmp S op x y with
    | some v => some v
    | none => evIntCmp S op x y

theorem evCmp_ok (hr : ERel E S) {op : BinOp} {t : TypeId} {x y sv : SV} {ox oy : Operand} {vx vy : Value} (h : evCmp P S op t x y = some sv) (hx : x.den E = some vx) (hy : y.den E = some vy) :
    Quiet P E sv (do eqGuard op t ox oy vx vy; binOp op t vx vy) := by
  unfold evCmp at h
  split at h
  · rename_i v hv
    simp only [Option.some.injEq] at h; subst h
    exact evSame_ok hr hv hx hy
  · split at h
    · rename_i v hv
      simp only [Option.some.injEq] at h; subst h
      exact evStrCmp_ok hr hv hx hy
    · exact evIntCmp_ok hr h hx hy

/-! ### Both ways -/
def strFork (S : St) (op : BinOp) (n : Nat) (l : List ByteArray) (b : ByteArray) : Option (List (SV × St)) :=
  match eqAns op true, eqAns op false with
  | some t, some f => some [(t, setSort S n (.is (.string b))), (f, setSort S n (.strNot (b :: l)))]
  | _, _ => none

def evFork (S : St) (op : BinOp) (x y : SV) : Option (List (SV × St)) :=
  match strOf S x, strOf S y with
  | some (.isnt n l), some (.lit b) => strFork S op n l b
  | some (.lit b), some (.isnt n l) => strFork S op n l b
  | _, _ => none

theorem strOf_found {x : SV} {n : Nat} {l : List ByteArray} (h : strOf S x = some (.isnt n l)) : ∃ s0, find n S.sorts = some s0 := by
  unfold strOf at h
  split at h
  · cases h
  · split at h
    · cases h
    · rename_i hb; simp only [Option.some.injEq, StrV.isnt.injEq] at h; obtain ⟨rfl, _⟩ := h; exact ⟨_, hb⟩
    · rename_i hb; simp only [Option.some.injEq, StrV.isnt.injEq] at h; obtain ⟨rfl, _⟩ := h; exact ⟨_, hb⟩
    · cases h
  · cases h

theorem bytes_ext {a b : ByteArray} (h : a.toList = b.toList) : a = b := by
  have := congrArg List.toArray h
  simp only [ByteArray.toList_eq] at this
  cases a; cases b; simpa using this

theorem strFork_ok (hr : Rel B G w0 E S w) {op : BinOp} {n : Nat} {l : List ByteArray} {b s : ByteArray} {rs : List (SV × St)} (h : strFork S op n l b = some rs) {s0 : Sort_} (hf : find n S.sorts = some s0)
    (hn : E.σ n = some (.string s)) (hl : ∀ y ∈ l, s.toList ≠ y.toList) :
    ∃ p ∈ rs, Rel B G w0 E p.2 w ∧ eqAns op (s.toList == b.toList) = some p.1 := by
  unfold strFork at h
  split at h
  · rename_i t f ht hff
    simp only [Option.some.injEq] at h; subst h
    by_cases e : s.toList = b.toList
    · have := bytes_ext e
      subst this
      exact ⟨_, List.mem_cons_self, hr.setSort hf hn rfl, by simpa using ht⟩
    · refine ⟨_, List.mem_cons_of_mem _ List.mem_cons_self, hr.setSort hf hn ⟨s, rfl, fun y hy => ?_⟩, ?_⟩
      · cases hy with
        | head => exact e
        | tail _ hy => exact hl y hy
      · have : (s.toList == b.toList) = false := by simpa using e
        rw [this]; exact hff
  · cases h

theorem evFork_ok (hr : Rel B G w0 E S w) {op : BinOp} {t : TypeId} {x y : SV} {rs : List (SV × St)} {ox oy : Operand} {vx vy : Value} (h : evFork S op x y = some rs) (hx : x.den E = some vx) (hy : y.den E = some vy) :
    ∃ p ∈ rs, Rel B G w0 E p.2 w ∧ Quiet P E p.1 (do eqGuard op t ox oy vx vy; binOp op t vx vy) := by
  unfold evFork at h
  split at h
  · rename_i n l b h1 h2
    obtain ⟨s0, hs0⟩ := strOf_found h1
    obtain ⟨rfl, hn, s, rfl, hl⟩ := strOf_ok hr.env h1 hx
    have h2 := strOf_ok hr.env h2 hy
    simp only [StrV.fits] at h2; subst h2
    obtain ⟨p, hp, hrel, hq⟩ := strFork_ok hr h hs0 hn hl
    exact ⟨p, hp, hrel, eqAns_str hq rfl⟩
  · rename_i b n l h1 h2
    obtain ⟨s0, hs0⟩ := strOf_found h2
    obtain ⟨rfl, hn, s, rfl, hl⟩ := strOf_ok hr.env h2 hy
    have h1 := strOf_ok hr.env h1 hx
    simp only [StrV.fits] at h1; subst h1
    obtain ⟨p, hp, hrel, hq⟩ := strFork_ok hr h hs0 hn hl
    exact ⟨p, hp, hrel, eqAns_str hq (by apply Bool.eq_iff_iff.2; simp only [beq_iff_eq]; exact eq_comm)⟩
  · cases h
end
end Go.Ev
