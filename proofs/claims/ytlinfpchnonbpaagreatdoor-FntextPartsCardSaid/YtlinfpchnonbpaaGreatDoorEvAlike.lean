/- Outcomes that are alike but for the numbers of new blocks, and for what became known on the way: one outcome. -/
import Derived.Test.YtlinfpchnonbpaaGreatDoorEvCut
namespace Go.Ev
open Go.RowKit (Below)
def mSort : Sort_ → Sort_ → Bool
  | .bool, .bool => true
  | .int a, .int b => decide (a = b)
  | .float a, .float b => decide (a = b)
  | .str, .str => true
  | .any, .any => true
  | .cell, .cell => true
  | .intIn k a b, .intIn j c d => decide (k = j) && (decide (a = c) && decide (b = d))
  | _, _ => false
theorem mSort_eq {x y : Sort_} (h : mSort x y = true) : x = y := by
  unfold mSort at h
  split at h
  all_goals first
    | rfl
    | (simp only [decide_eq_true_eq] at h; rw [h])
    | (simp only [Bool.and_eq_true, decide_eq_true_eq] at h; rw [h.1, h.2.1, h.2.2])
    | cases h
def eqL {α : Type} (f : α → α → Bool) : List α → List α → Bool
  | [], [] => true
  | x :: xs, y :: ys => f x y && eqL f xs ys
  | _, _ => false
theorem eqL_eq {α : Type} {f : α → α → Bool} (hf : ∀ x y, f x y = true → x = y) : ∀ {x y : List α}, eqL f x y = true → x = y
  | [], [], _ => rfl
  | x :: xs, y :: ys, h => by
    simp only [eqL, Bool.and_eq_true] at h
    rw [hf x y h.1, eqL_eq hf h.2]
  | [], _ :: _, h => by cases h
  | _ :: _, [], h => by cases h
theorem nb (x y : Nat) (h : Nat.beq x y = true) : x = y := Nat.eq_of_beq_eq_true h
def mList (x y : LEnt) : Bool := Nat.beq x.s y.s && (Nat.beq x.x y.x && (Nat.beq x.e y.e && (x.own == y.own && eqL mSort x.lay y.lay)))
theorem mList_eq (x y : LEnt) (h : mList x y = true) : x = y := by
  obtain ⟨a, b, c, d, e⟩ := x; obtain ⟨f, g, i, j, k⟩ := y
  simp only [mList, Bool.and_eq_true, beq_iff_eq] at h
  obtain ⟨h1, h2, h3, rfl, h5⟩ := h
  rw [nb _ _ h1, nb _ _ h2, nb _ _ h3, eqL_eq (fun _ _ => mSort_eq) h5]
mutual
def prs : SV → SV → List (Nat × Nat × Bool)
  | .ptr a _, .ptr b _ => [(a, b, false)]
  | .slice a _ _ c, .slice b _ _ d => (a, b, false) :: (match c, d with
    | .v i, .v j => [(i, j, true)]
    | _, _ => [])
  | .map a, .map b => [(a, b, false)]
  | .func _ x y, .func _ u v => prsL x u ++ prsL y v
  | .iface _ x, .iface _ y => prs x y
  | .agg x, .agg y => prsL x y
  | .tuple x, .tuple y => prsL x y
  | _, _ => []
def prsL : List SV → List SV → List (Nat × Nat × Bool)
  | x :: xs, y :: ys => prs x y ++ prsL xs ys
  | _, _ => []
end
def prsE : List (SV × SV × Nat) → List (SV × SV × Nat) → List (Nat × Nat × Bool)
  | x :: xs, y :: ys => prs x.1 y.1 ++ (prs x.2.1 y.2.1 ++ prsE xs ys)
  | _, _ => []
def prsO : SObj → SObj → List (Nat × Nat × Bool)
  | .row a _ _ x, .row b _ _ y => (match x, y with
    | some p, some q => [(p.1, q.1, true)]
    | _, _ => []) ++ prsL a b
  | .map a _, .map b _ => prsE a b
  | .bag a, .bag b => prsE a b
  | .miter (some a) _ _ _, .miter (some b) _ _ _ => [(a, b, false)]
  | _, _ => []
def isKey (i : Nat) (L : List (Nat × Nat)) : Bool := match find i L with
  | some _ => true
  | none => false
def buildP (n m : Nat) (hx hy : List (Nat × SObj)) : Nat → List (Nat × Nat × Bool) → List (Nat × Nat) → List (Nat × Nat) → List (Nat × Nat) × List (Nat × Nat)
  | 0, _, L, C => (L, C)
  | _, [], L, C => (L, C)
  | k + 1, (a, b, true) :: r, L, C => bif Nat.blt a m || isKey a C then buildP n m hx hy k r L C else buildP n m hx hy k r L ((a, b) :: C)
  | k + 1, (a, b, false) :: r, L, C => bif Nat.blt a n || isKey a L then buildP n m hx hy k r L C else
    buildP n m hx hy k (match find a hx, find b hy with
      | some o, some o' => prsO o o' ++ r
      | _, _ => r) ((a, b) :: L) C
def prsOld (n : Nat) (hy : List (Nat × SObj)) : List (Nat × SObj) → List (Nat × Nat × Bool)
  | [] => []
  | (i, o) :: r => (bif Nat.blt i n then (match find i hy with
    | some o' => prsO o o'
    | none => []) else []) ++ prsOld n hy r
def tau (L : List (Nat × Nat)) (i : Nat) : Nat := match find i L with
  | some j => j
  | none => i
def mCap (C : List (Nat × Nat)) : Cap → Cap → Bool
  | .k a, .k b => Nat.beq a b
  | .v i, .v j => Nat.beq (tau C i) j
  | _, _ => false
mutual
def mVl : Value → Value → Bool
  | .int j a, .int k b => decide (j = k) && decide (a = b)
  | .bool a, .bool b => a == b
  | .float j a, .float k b => decide (j = k) && Nat.beq a b
  | .pointer none, .pointer none => true
  | .pointer (some a), .pointer (some b) => decide (a = b)
  | .map none, .map none => true
  | .nilFunc, .nilFunc => true
  | .nilIface, .nilIface => true
  | .func (.func f) a b, .func (.func g) c d => Nat.beq f g && (Nat.beq a.size 0 && (Nat.beq b.size 0 && (Nat.beq c.size 0 && Nat.beq d.size 0)))
  | .slice none a b, .slice none c d => Nat.beq a c && Nat.beq b d
  | .string a, .string b => a.data.toList == b.data.toList
  | .tuple ⟨a⟩, .tuple ⟨b⟩ => mVls a b
  | .agg ⟨a⟩, .agg ⟨b⟩ => mVls a b
  | _, _ => false
def mVls : List Value → List Value → Bool
  | [], [] => true
  | x :: xs, y :: ys => mVl x y && mVls xs ys
  | _, _ => false
end
theorem arr00 {α : Type} {a : Array α} (h : Nat.beq a.size 0 = true) : a = #[] := Array.eq_empty_of_size_eq_zero (Nat.eq_of_beq_eq_true h)
mutual
theorem mVl_eq : ∀ (x y : Value), mVl x y = true → x = y := by
  intro x y h
  unfold mVl at h
  split at h
  · simp only [Bool.and_eq_true, decide_eq_true_eq] at h; rw [h.1, h.2]
  · simp only [beq_iff_eq] at h; rw [h]
  · simp only [Bool.and_eq_true, decide_eq_true_eq] at h; rw [h.1, nb _ _ h.2]
  · rfl
  · simp only [decide_eq_true_eq] at h; rw [h]
  · rfl
  · rfl
  · rfl
  · simp only [Bool.and_eq_true] at h
    rw [nb _ _ h.1, arr00 h.2.1, arr00 h.2.2.1, arr00 h.2.2.2.1, arr00 h.2.2.2.2]
  · simp only [Bool.and_eq_true] at h; rw [nb _ _ h.1, nb _ _ h.2]
  · rename_i a b
    simp only [beq_iff_eq] at h
    have : a = b := by cases a; cases b; simp only [ByteArray.mk.injEq]; exact Array.ext' h
    rw [this]
  · rename_i a b; rw [mVls_eq a b h]
  · rename_i a b; rw [mVls_eq a b h]
  · cases h
theorem mVls_eq : ∀ (x y : List Value), mVls x y = true → x = y
  | [], [], _ => rfl
  | x :: xs, y :: ys, h => by
    simp only [mVls, Bool.and_eq_true] at h
    rw [mVl_eq _ _ h.1, mVls_eq _ _ h.2]
  | [], _ :: _, h => by cases h
  | _ :: _, [], h => by cases h
end
def numFact (a : Nat) : List Fact_ → Option Nat
  | [] => none
  | q :: r => match q with
    | ⟨.i2f .f64, [.sym n], .sym b⟩ => bif Nat.beq a b then some n else numFact a r
    | _ => numFact a r
theorem numFact_mem {a n : Nat} : ∀ {l : List Fact_}, numFact a l = some n → (⟨.i2f .f64, [.sym n], .sym a⟩ : Fact_) ∈ l
  | [], h => by cases h
  | q :: r, h => by
    unfold numFact at h
    split at h
    · rename_i m b
      cases e : Nat.beq a b with
      | true =>
        have := nb _ _ e
        subst this
        rw [e] at h
        simp only [cond_true, Option.some.injEq] at h; subst h
        exact List.mem_cons_self
      | false => rw [e] at h; exact List.mem_cons_of_mem _ (numFact_mem h)
    · exact List.mem_cons_of_mem _ (numFact_mem h)
def ptInt (U : St) (n : Nat) : Option (IntKind × Int) := match find n U.sorts with
  | some (.intIn k (some a) (some b)) => bif decide (a = b) then some (k, a) else none
  | _ => none
def ptAt (U : St) (a : Nat) : Value → Bool
  | .int k c => match ptInt U a with
    | some (k', c') => decide (k = k') && decide (c = c')
    | none => false
  | .float .f64 b => match numFact a U.facts with
    | some n => match ptInt U n with
      | some (_, c) => Nat.beq b (FloatKind.f64.nearest c)
      | none => false
    | none => false
  | _ => false
mutual
def mat (U : St) (L C : List (Nat × Nat)) (N : Nat) : SV → SV → Bool
  | .val a, .val b => mVl a b
  | .sym a, .val b => Nat.blt a N && ptAt U a b
  | .sym a, .sym b => Nat.beq a b && Nat.blt a N
  | .ptr a o, .ptr b p => Nat.beq (tau L a) b && Nat.beq o p
  | .slice a o l c, .slice b p k d => Nat.beq (tau L a) b && (Nat.beq o p && (Nat.beq l k && mCap C c d))
  | .map a, .map b => Nat.beq (tau L a) b
  | .func (.func f) x y, .func (.func g) u v => Nat.beq f g && (matL U L C N x u && matL U L C N y v)
  | .iface t x, .iface u y => Nat.beq t u && mat U L C N x y
  | .agg x, .agg y => matL U L C N x y
  | .tuple x, .tuple y => matL U L C N x y
  | _, _ => false
def matL (U : St) (L C : List (Nat × Nat)) (N : Nat) : List SV → List SV → Bool
  | [], [] => true
  | x :: xs, y :: ys => mat U L C N x y && matL U L C N xs ys
  | _, _ => false
end
def matE (U : St) (L C : List (Nat × Nat)) (N : Nat) : List (SV × SV × Nat) → List (SV × SV × Nat) → Bool
  | [], [] => true
  | x :: xs, y :: ys => mat U L C N x.1 y.1 && (mat U L C N x.2.1 y.2.1 && (Nat.beq x.2.2 y.2.2 && matE U L C N xs ys))
  | _, _ => false
def matO (U : St) (L C : List (Nat × Nat)) (N : Nat) : SObj → SObj → Bool
  | .row a e w none, .row b f v none => Nat.beq e f && (w == v && matL U L C N a b)
  | .row a e w (some p), .row b f v (some q) => Nat.beq e f && (w == v && (Nat.beq (tau C p.1) q.1 && (Nat.beq p.2 q.2 && matL U L C N a b)))
  | .map a c, .map b d => Nat.beq c d && matE U L C N a b
  | .bag a, .bag b => matE U L C N a b
  | .siter s p, .siter t q => s.data.toList == t.data.toList && Nat.beq p q
  | .miter none b c d, .miter none f g h => Nat.beq b f && (eqL Nat.beq c g && Nat.beq d h)
  | .miter (some a) b c d, .miter (some e) f g h => Nat.beq (tau L a) e && (Nat.beq b f && (eqL Nat.beq c g && Nat.beq d h))
  | _, _ => false
def heapK (n : Nat) (L : List (Nat × Nat)) (h : List (Nat × SObj)) : List (Nat × SObj) := keepH (fun i => Nat.blt i n || isKey i L) h
def matH (U : St) (L C : List (Nat × Nat)) (N : Nat) (hy : List (Nat × SObj)) : List (Nat × SObj) → Bool
  | [] => true
  | (i, o) :: r => (match find (tau L i) hy with
    | some o' => matO U L C N o o'
    | none => false) && matH U L C N hy r
def matW (C : List (Nat × Nat)) (ly : List (Nat × Nat)) : List (Nat × Nat) → Bool
  | [] => true
  | (i, n) :: r => (match find (tau C i) ly with
    | some m => Nat.beq m n
    | none => false) && matW C ly r
def okPairs (n m : Nat) : List (Nat × Nat) → Bool
  | [] => true
  | (a, b) :: r => Nat.ble n a && (Nat.ble n b && (Nat.blt a m && (r.all (fun p => !(Nat.beq p.2 b)) && okPairs n m r)))
def symsL (N : Nat) : List LEnt → Bool
  | [] => true
  | l :: r => Nat.blt l.s N && (Nat.blt l.x N && symsL N r)
def alikeR (S : St) (L C : List (Nat × Nat)) (x : List SV) (T : St) (y : List SV) (U : St) : Bool :=
  okPairs S.next T.next L && (okPairs S.ncap T.ncap C && (Nat.beq T.next U.next && (Nat.beq T.ncap U.ncap && (matL U L C S.nsym x y && (matH U L C S.nsym U.heap (heapK S.next L T.heap) && (matW C U.lows T.lows && (eqL mList T.lists U.lists && symsL S.nsym T.lists)))))))
def pairsOf (S : St) (x : List SV) (T : St) (y : List SV) (U : St) : List (Nat × Nat) × List (Nat × Nat) :=
  buildP S.next S.ncap T.heap U.heap 4000 (prsL x y ++ prsOld S.next U.heap T.heap) [] []
def overR (S : St) (L : List (Nat × Nat)) (T : St) : St := { S with heap := heapK S.next L T.heap, next := T.next, ncap := T.ncap, lows := T.lows, lists := T.lists, pan := none, bad := false }
section
variable {B G : Nat} {w0 : Start} {E F : Env} {S T U : St} {w w' : World} {L C : List (Nat × Nat)}
def Env.tau (F : Env) (L C : List (Nat × Nat)) (N : Nat) : Env := { ρ := fun i => F.ρ (Ev.tau L i), σ := fun i => bif Nat.blt i N then F.σ i else none, κ := fun i => F.κ (Ev.tau C i) }
def PtOK (F : Env) (U : St) : Prop := ∀ (a : Nat) (b : Value), ptAt U a b = true → F.σ a = some b
theorem ptOK (h : Rel B G w0 F U w') : PtOK F U := fun a b hb => by
  have pt : ∀ {n : Nat} {k : IntKind} {c : Int}, ptInt U n = some (k, c) → F.σ n = some (.int k c) := fun {n k c} hn => by
    unfold ptInt at hn
    split at hn
    · rename_i k' x y hs
      cases hc : decide (x = y) with
      | false => rw [hc] at hn; cases hn
      | true =>
        rw [hc] at hn
        simp only [cond_true, Option.some.injEq, Prod.mk.injEq] at hn
        obtain ⟨rfl, rfl⟩ := hn
        have e := of_decide_eq_true hc
        subst e
        obtain ⟨v, h1, m, rfl, h2, h3⟩ := h.sorts _ _ hs
        have := h2 x rfl
        have := h3 x rfl
        have : m = x := by omega
        subst this
        exact h1
    · cases hn
  unfold ptAt at hb
  split at hb
  · split at hb
    · rename_i k c k' c' hn
      simp only [Bool.and_eq_true, decide_eq_true_eq] at hb
      obtain ⟨rfl, rfl⟩ := hb
      exact pt hn
    · cases hb
  · split at hb
    · rename_i b' n hn
      split at hb
      · rename_i k c hc
        have hb := nb _ _ hb
        subst hb
        obtain ⟨vs, v, h1, h2, h3⟩ := h.facts _ (numFact_mem hn)
        obtain ⟨u, l, h4, h5, rfl⟩ := denL_cons h1
        simp only [SV.denL, Option.some.injEq] at h5; subst h5
        simp only [SV.den] at h2 h4
        rw [pt hc] at h4; cases h4
        have h3 : sopFun (.i2f .f64) [.int k c] = some v := h3
        simp only [sopFun, Option.some.injEq] at h3
        rw [h2, ← h3]
      · cases hb
    · cases hb
  · cases hb
theorem mCap_den {N : Nat} {c d : Cap} {n : Nat} (h : mCap C c d = true) (hd : d.den F = some n) : c.den (F.tau L C N) = some n := by
  unfold mCap at h
  split at h
  · rw [nb _ _ h]; exact hd
  · have := nb _ _ h
    subst this
    exact hd
  · cases h
mutual
theorem mat_den (hp : PtOK F U) {N : Nat} : ∀ (x y : SV) (v : Value), mat U L C N x y = true → y.den F = some v → x.den (F.tau L C N) = some v := by
  intro x y v h hy
  unfold mat at h
  split at h
  · rw [mVl_eq _ _ h]; simpa only [SV.den] using hy
  · rename_i a b
    simp only [Bool.and_eq_true] at h
    simp only [SV.den] at hy ⊢
    simp only [Env.tau, h.1, cond_true]
    rw [← hy]
    exact hp a b h.2
  · rename_i a b
    simp only [Bool.and_eq_true] at h
    have e := nb _ _ h.1
    subst e
    simp only [SV.den] at hy ⊢
    simp only [Env.tau, h.2, cond_true]
    exact hy
  · simp only [Bool.and_eq_true] at h
    have := nb _ _ h.1
    subst this
    have := nb _ _ h.2
    subst this
    simpa only [SV.den, Env.tau] using hy
  · rename_i a o l c b p k d
    simp only [Bool.and_eq_true] at h
    have e1 := nb _ _ h.1
    have e2 := nb _ _ h.2.1
    have e3 := nb _ _ h.2.2.1
    subst e1 e2 e3
    simp only [SV.den] at hy ⊢
    split at hy
    · rename_i b' n hb hn
      have hc := mCap_den (L := L) (N := N) h.2.2.2 hn
      rw [show (F.tau L C N).ρ a = some b' from hb, hc]
      exact hy
    · cases hy
  · have := nb _ _ h
    subst this
    simpa only [SV.den, Env.tau] using hy
  · rename_i f x1 y1 g u1 v1
    simp only [Bool.and_eq_true] at h
    have e1 := nb _ _ h.1
    subst e1
    simp only [SV.den] at hy ⊢
    split at hy
    · rename_i p q hp1 hq1
      rw [matL_den hp x1 u1 p h.2.1 hp1, matL_den hp y1 v1 q h.2.2 hq1]
      exact hy
    · cases hy
  · rename_i t x1 u y1
    simp only [Bool.and_eq_true] at h
    have e1 := nb _ _ h.1
    subst e1
    simp only [SV.den] at hy ⊢
    split at hy
    · rename_i p hp1
      rw [mat_den hp x1 y1 p h.2 hp1]
      exact hy
    · cases hy
  · rename_i x1 y1
    simp only [SV.den] at hy ⊢
    split at hy
    · rename_i p hp1
      rw [matL_den hp x1 y1 p h hp1]
      exact hy
    · cases hy
  · rename_i x1 y1
    simp only [SV.den] at hy ⊢
    split at hy
    · rename_i p hp1
      rw [matL_den hp x1 y1 p h hp1]
      exact hy
    · cases hy
  · cases h
theorem matL_den (hp : PtOK F U) {N : Nat} : ∀ (x y : List SV) (l : List Value), matL U L C N x y = true → SV.denL F y = some l → SV.denL (F.tau L C N) x = some l
  | [], [], l, _, hy => by simpa only [SV.denL] using hy
  | x :: xs, y :: ys, l, h, hy => by
    simp only [matL, Bool.and_eq_true] at h
    obtain ⟨v, l', h1, h2, rfl⟩ := denL_cons hy
    exact denL_mk (mat_den hp x y v h.1 h1) (matL_den hp xs ys l' h.2 h2)
  | [], _ :: _, _, h, _ => by simp [matL] at h
  | _ :: _, [], _, h, _ => by simp [matL] at h
end
theorem matE_rel (hp : PtOK F U) {N : Nat} : ∀ {x y : List (SV × SV × Nat)} {l : List MapEntry}, matE U L C N x y = true → MRel F y l → MRel (F.tau L C N) x l
  | [], [], [], _, _ => trivial
  | x :: xs, y :: ys, m :: ms, h, ⟨a, b, c, d⟩ => by
    simp only [matE, Bool.and_eq_true] at h
    exact ⟨mat_den hp _ _ _ h.1 a, mat_den hp _ _ _ h.2.1 b, by rw [nb _ _ h.2.2.1]; exact c, matE_rel hp h.2.2.2 d⟩
  | [], _ :: _, _, h, _ => by simp [matE] at h
  | _ :: _, [], _, h, _ => by simp [matE] at h
  | [], [], _ :: _, _, h => h.elim
  | _ :: _, _ :: _, [], _, h => h.elim
theorem matE_left {N : Nat} : ∀ {x y : List (SV × SV × Nat)}, matE U L C N x y = true → ∀ e ∈ x, ∃ e' ∈ y, mat U L C N e.1 e'.1 = true ∧ mat U L C N e.2.1 e'.2.1 = true
  | x :: xs, y :: ys, h, e, he => by
    simp only [matE, Bool.and_eq_true] at h
    cases he with
    | head => exact ⟨y, List.mem_cons_self, h.1, h.2.1⟩
    | tail _ he => obtain ⟨e', h1, h2⟩ := matE_left h.2.2.2 e he; exact ⟨e', List.mem_cons_of_mem _ h1, h2⟩
  | _ :: _, [], h, _, _ => by simp [matE] at h
theorem matE_right {N : Nat} : ∀ {x y : List (SV × SV × Nat)}, matE U L C N x y = true → ∀ e ∈ y, ∃ e' ∈ x, mat U L C N e'.1 e.1 = true ∧ mat U L C N e'.2.1 e.2.1 = true
  | x :: xs, y :: ys, h, e, he => by
    simp only [matE, Bool.and_eq_true] at h
    cases he with
    | head => exact ⟨x, List.mem_cons_self, h.1, h.2.1⟩
    | tail _ he => obtain ⟨e', h1, h2⟩ := matE_right h.2.2.2 e he; exact ⟨e', List.mem_cons_of_mem _ h1, h2⟩
  | [], _ :: _, h, _, _ => by simp [matE] at h
theorem matO_rel (hp : PtOK F U) {N : Nat} {o o' : SObj} {x : Obj} (h : matO U L C N o o' = true) (hx : ORel F o' x) : ORel (F.tau L C N) o x := by
  unfold matO at h
  split at h
  · simp only [Bool.and_eq_true, beq_iff_eq] at h
    obtain ⟨h1, rfl, h3⟩ := h
    have := nb _ _ h1
    subst this
    obtain ⟨l, fz, k1, k2⟩ := hx
    exact ⟨l, fz, matL_den hp _ _ _ h3 k1, k2⟩
  · rename_i a e w p b f v q
    simp only [Bool.and_eq_true, beq_iff_eq] at h
    obtain ⟨h1, rfl, h3, h4, h5⟩ := h
    obtain ⟨p1, p2⟩ := p; obtain ⟨q1, q2⟩ := q
    have e1 := nb _ _ h1; have e3 := nb _ _ h3; have e4 := nb _ _ h4
    simp only at e3 e4
    subst e1 e3 e4
    obtain ⟨l, r, n, fz, k1, k2, k3⟩ := hx
    exact ⟨l, r, n, fz, matL_den hp _ _ _ h5 k1, k2, k3⟩
  · simp only [Bool.and_eq_true] at h
    have := nb _ _ h.1
    subst this
    obtain ⟨l, k1, k2⟩ := hx
    exact ⟨l, k1, matE_rel hp h.2 k2⟩
  · obtain ⟨l, c, k1, q1, q2, q3, q4, q5⟩ := hx
    refine ⟨l, c, k1, q1, q2, q3, fun m hm => ?_, fun e he => ?_⟩
    · obtain ⟨e, h1, h2, h3⟩ := q4 m hm
      obtain ⟨e', g1, g2, g3⟩ := matE_right h e h1
      exact ⟨e', g1, mat_den hp _ _ _ g2 h2, mat_den hp _ _ _ g3 h3⟩
    · obtain ⟨e', g1, g2, g3⟩ := matE_left h e he
      obtain ⟨m, h1, h2, h3⟩ := q5 e' g1
      exact ⟨m, h1, mat_den hp _ _ _ g2 h2, mat_den hp _ _ _ g3 h3⟩
  · rename_i s p t q
    simp only [Bool.and_eq_true, beq_iff_eq] at h
    have : s = t := by cases s; cases t; simp only [ByteArray.mk.injEq]; exact Array.ext' h.1
    subst this
    have := nb _ _ h.2
    subst this
    exact hx
  · simp only [Bool.and_eq_true] at h
    have e1 := nb _ _ h.1; have e2 := eqL_eq nb h.2.1; have e3 := nb _ _ h.2.2
    subst e1 e2 e3
    exact hx
  · simp only [Bool.and_eq_true] at h
    have e0 := nb _ _ h.1
    have e1 := nb _ _ h.2.1; have e2 := eqL_eq nb h.2.2.1; have e3 := nb _ _ h.2.2.2
    subst e0 e1 e2 e3
    obtain ⟨b, k1, k2⟩ := hx
    exact ⟨b, k1, k2⟩
  · cases h
theorem okPairs_mem {n m : Nat} : ∀ {l : List (Nat × Nat)}, okPairs n m l = true → ∀ {a b : Nat}, find a l = some b → n ≤ a ∧ n ≤ b ∧ a < m
  | [], _, _, _, hf => by cases hf
  | (c, d) :: r, h, a, b, hf => by
    simp only [okPairs, Bool.and_eq_true] at h
    by_cases e : a = c
    · subst e
      rw [find_cons_self] at hf; cases hf
      exact ⟨Nat.le_of_ble_eq_true h.1, Nat.le_of_ble_eq_true h.2.1, Nat.le_of_ble_eq_true h.2.2.1⟩
    · rw [find_cons_ne e] at hf
      exact okPairs_mem h.2.2.2.2 hf
theorem find_in {α : Type} {i : Nat} {x : α} : ∀ {l : List (Nat × α)}, find i l = some x → (i, x) ∈ l
  | (j, y) :: r, h => by
    by_cases e : i = j
    · subst e; rw [find_cons_self] at h; cases h; exact List.mem_cons_self
    · rw [find_cons_ne e] at h; exact List.mem_cons_of_mem _ (find_in h)
theorem okPairs_inj {n m : Nat} : ∀ {l : List (Nat × Nat)}, okPairs n m l = true → ∀ {a c b : Nat}, find a l = some b → find c l = some b → a = c
  | [], _, _, _, _, hf, _ => by cases hf
  | (p, q) :: r, h, a, c, b, h1, h2 => by
    simp only [okPairs, Bool.and_eq_true] at h
    have hn : ∀ {i : Nat}, find i r = some q → False := fun {i} hi => by
      have := List.all_eq_true.1 h.2.2.2.1 (i, q) (find_in hi)
      simp at this
    by_cases e1 : a = p <;> by_cases e2 : c = p
    · rw [e1, e2]
    · subst e1
      rw [find_cons_self] at h1; cases h1
      rw [find_cons_ne e2] at h2
      exact (hn h2).elim
    · subst e2
      rw [find_cons_self] at h2; cases h2
      rw [find_cons_ne e1] at h1
      exact (hn h1).elim
    · rw [find_cons_ne e1] at h1; rw [find_cons_ne e2] at h2
      exact okPairs_inj h.2.2.2.2 h1 h2
theorem matH_find {N : Nat} {hy : List (Nat × SObj)} : ∀ {h : List (Nat × SObj)}, matH U L C N hy h = true → ∀ {i : Nat} {o : SObj}, find i h = some o → ∃ o', find (tau L i) hy = some o' ∧ matO U L C N o o' = true
  | [], _, _, _, hf => by cases hf
  | (j, x) :: r, h, i, o, hf => by
    simp only [matH, Bool.and_eq_true] at h
    by_cases e : i = j
    · subst e
      rw [find_cons_self] at hf; cases hf
      have h1 := h.1
      split at h1
      · rename_i o' ho; exact ⟨o', ho, h1⟩
      · cases h1
    · rw [find_cons_ne e] at hf; exact matH_find h.2 hf
theorem matW_find {ly : List (Nat × Nat)} : ∀ {l : List (Nat × Nat)}, matW C ly l = true → ∀ {i n : Nat}, find i l = some n → find (tau C i) ly = some n
  | [], _, _, _, hf => by cases hf
  | (j, x) :: r, h, i, n, hf => by
    simp only [matW, Bool.and_eq_true] at h
    by_cases e : i = j
    · subst e
      rw [find_cons_self] at hf; cases hf
      have h1 := h.1
      split at h1
      · rename_i m hm; rw [nb _ _ h1] at hm; exact hm
      · cases h1
    · rw [find_cons_ne e] at hf; exact matW_find h.2 hf
theorem symsL_mem {N : Nat} : ∀ {l : List LEnt}, symsL N l = true → ∀ x ∈ l, Nat.blt x.s N = true ∧ Nat.blt x.x N = true
  | _ :: _, h, x, hx => by
    simp only [symsL, Bool.and_eq_true] at h
    cases hx with
    | head => exact ⟨h.1, h.2.1⟩
    | tail _ hx => exact symsL_mem h.2.2 x hx
theorem alikeR_rel (hr : Rel B G w0 E S w) (hE : E.le F) {x y : List SV} (h : alikeR S L C x T y U = true) (hU : Rel B G w0 F U w') :
    E.le (F.tau L C S.nsym) ∧ Rel B G w0 (F.tau L C S.nsym) (overR S L T) w' := by
  simp only [alikeR, Bool.and_eq_true] at h
  obtain ⟨c1, c2, c3, c4, c5, c6, c7, c8, c9⟩ := h
  have c3 := nb _ _ c3
  have c4 := nb _ _ c4
  have c8 := eqL_eq mList_eq c8
  have tl : ∀ i, i < S.next → tau L i = i := fun i hi => by
    unfold tau
    split
    · rename_i j hj
      have := (okPairs_mem c1 hj).1
      omega
    · rfl
  have tg : ∀ i, T.next ≤ i → tau L i = i := fun i hi => by
    unfold tau
    split
    · rename_i j hj
      have := (okPairs_mem c1 hj).2.2
      omega
    · rfl
  have cl : ∀ i, i < S.ncap → tau C i = i := fun i hi => by
    unfold tau
    split
    · rename_i j hj
      have := (okPairs_mem c2 hj).1
      omega
    · rfl
  have cg : ∀ i, T.ncap ≤ i → tau C i = i := fun i hi => by
    unfold tau
    split
    · rename_i j hj
      have := (okPairs_mem c2 hj).2.2
      omega
    · rfl
  have hle : E.le (F.tau L C S.nsym) :=
    { ρ := fun i b hb => by
        have : i < S.next := by
          rcases Nat.lt_or_ge i S.next with h | h
          · exact h
          · rw [hr.newρ i h] at hb; cases hb
        show F.ρ (tau L i) = some b
        rw [tl i this]; exact hE.ρ _ _ hb
      σ := fun i b hb => by
        have : i < S.nsym := by
          rcases Nat.lt_or_ge i S.nsym with h | h
          · exact h
          · rw [hr.newσ i h] at hb; cases hb
        simp only [Env.tau, blt_mk this, cond_true]
        exact hE.σ _ _ hb
      κ := fun i b hb => by
        have : i < S.ncap := by
          rcases Nat.lt_or_ge i S.ncap with h | h
          · exact h
          · rw [hr.newκ i h] at hb; cases hb
        show F.κ (tau C i) = some b
        rw [cl i this]; exact hE.κ _ _ hb }
  -- a block of the new state
  have ids : ∀ {i : Nat} {o : SObj}, find i (heapK S.next L T.heap) = some o → (∃ o', find (tau L i) U.heap = some o' ∧ matO U L C S.nsym o o' = true) ∧ (i < S.next ∨ ∃ j, find i L = some j) := fun {i o} hf => by
    refine ⟨matH_find c6 hf, ?_⟩
    obtain ⟨k1, _⟩ := find_keep hf
    simp only [Bool.or_eq_true] at k1
    rcases k1 with k | k
    · exact .inl (blt_of k)
    · unfold isKey at k
      split at k
      · rename_i j hj; exact .inr ⟨j, hj⟩
      · cases k
  have ge : ∀ {i : Nat}, G ≤ i → (i < S.next ∨ ∃ j, find i L = some j) → G ≤ tau L i := fun {i} hg hc => by
    rcases hc with h | ⟨j, hj⟩
    · rw [tl i h]; exact hg
    · have := (okPairs_mem c1 hj).2.1
      have := hr.next
      unfold tau
      rw [hj]
      simp only
      omega
  refine ⟨hle, ?_⟩
  exact
  { heap := fun i o hf => by
      obtain ⟨⟨o', h1, h2⟩, _⟩ := ids hf
      obtain ⟨b, z, k1, k2, k3⟩ := hU.heap _ _ h1
      exact ⟨b, z, k1, k2, matO_rel (ptOK hU) h2 k3⟩
    inj := fun i j a b c hi hj h1 h2 gi gj => by
      obtain ⟨⟨o1, p1, _⟩, q1⟩ := ids hi
      obtain ⟨⟨o2, p2, _⟩, q2⟩ := ids hj
      have e := hU.inj _ _ o1 o2 c p1 p2 h1 h2 (ge gi q1) (ge gj q2)
      unfold tau at e
      rcases q1 with q1 | ⟨u, hu⟩ <;> rcases q2 with q2 | ⟨v, hv⟩
      · have a1 := tl i q1; have a2 := tl j q2
        unfold tau at a1 a2
        rw [a1, a2] at e; exact e
      · have a1 := tl i q1
        unfold tau at a1
        rw [a1, hv] at e
        simp only at e
        have := (okPairs_mem c1 hv).2.1
        omega
      · have a2 := tl j q2
        unfold tau at a2
        rw [a2, hu] at e
        simp only at e
        have := (okPairs_mem c1 hu).2.1
        omega
      · rw [hu, hv] at e
        simp only at e
        subst e
        exact okPairs_inj c1 hu hv
    low := fun i o b hf hg hb => by
      obtain ⟨⟨o', h1, _⟩, _⟩ := ids hf
      have hi : i < S.next := by have := hr.next; omega
      have e := tl i hi
      rw [e] at h1
      have hb' : F.ρ (tau L i) = some b := hb
      rw [e] at hb'
      exact hU.low i o' b h1 hg hb'
    next := by show G ≤ T.next; rw [c3]; exact hU.next
    newρ := fun i hi => by
      have hi : T.next ≤ i := hi
      show F.ρ (tau L i) = none
      rw [tg i hi]; exact hU.newρ i (by omega)
    newσ := fun i hi => by
      have hi : S.nsym ≤ i := hi
      have : Nat.blt i S.nsym = false := by rw [← Bool.not_eq_true]; exact fun e => by have := blt_of e; omega
      simp only [Env.tau, this, cond_false]
    newκ := fun i hi => by
      have hi : T.ncap ≤ i := hi
      show F.κ (tau C i) = none
      rw [cg i hi]; exact hU.newκ i (by omega)
    dom := fun i b hb => hU.dom _ b hb
    own := fun i o b hf hg hb => by
      obtain ⟨⟨o', h1, _⟩, q⟩ := ids hf
      exact hU.own _ o' b h1 (ge hg q) hb
    base := hU.base
    below := hU.below
    lows := fun i n hf => by
      have := matW_find c7 hf
      exact hU.lows _ n this
    sorts := fun i t hi => by obtain ⟨v, a, b⟩ := hr.sorts i t hi; exact ⟨v, hle.σ _ _ a, b⟩
    pc := fun i b hi => hle.σ _ _ (hr.pc i b hi)
    glob := fun i hi => hle.ρ _ _ (hr.glob i hi)
    pins := fun p hp => hle.σ _ _ (hr.pins p hp)
    ro := fun i xs hi => by obtain ⟨a, cap, x, y⟩ := hr.ro i xs hi; exact ⟨a, cap, hle.σ _ _ x, y⟩
    ra := fun i u hi => by obtain ⟨a, x, y⟩ := hr.ra i u hi; exact ⟨a, hle.σ _ _ x, y⟩
    deeps := fun d hd => by obtain ⟨v, x, a, b, c⟩ := hr.deeps d hd; exact ⟨v, x, hle.σ _ _ a, hle.σ _ _ b, c⟩
    facts := fun q hq => by obtain ⟨vs, v, a, b, c⟩ := hr.facts q hq; exact ⟨vs, v, SV.denL_mono hle _ _ a, SV.den_mono hle _ _ b, c⟩
    lists := fun l hl => by
      have hl : l ∈ T.lists := hl
      obtain ⟨s1, s2⟩ := symsL_mem c9 l hl
      rw [c8] at hl
      obtain ⟨v, cells, hL⟩ := hU.lists l hl
      exact ⟨v, cells, { hL with s := by simp only [Env.tau, s1, cond_true]; exact hL.s, x := by simp only [Env.tau, s2, cond_true]; exact hL.x }⟩
    apart := fun l hl ho v hv b hb => by
      have hl : l ∈ T.lists := hl
      obtain ⟨s1, _⟩ := symsL_mem c9 l hl
      rw [c8] at hl
      have hv' : F.σ l.s = some v := by simpa only [Env.tau, s1, cond_true] using hv
      obtain ⟨a1, a2⟩ := hU.apart l hl ho v hv' b hb
      refine ⟨fun i o hf e => ?_, fun m hm hmo u hu hub => ?_⟩
      · obtain ⟨⟨o', h1, _⟩, _⟩ := ids hf
        exact a1 _ o' h1 e
      · have hm : m ∈ T.lists := hm
        obtain ⟨m1, _⟩ := symsL_mem c9 m hm
        rw [c8] at hm
        exact a2 m hm hmo u (by simpa only [Env.tau, m1, cond_true] using hu) hub }
theorem alikeR_ok (hr : Rel B G w0 E S w) (hE : E.le F) {x y : List SV} (h : alikeR S L C x T y U = true) (hU : Rel B G w0 F U w') {l : List Value} (hy : SV.denL F y = some l) :
    E.le (F.tau L C S.nsym) ∧ Rel B G w0 (F.tau L C S.nsym) (overR S L T) w' ∧ SV.denL (F.tau L C S.nsym) x = some l := by
  obtain ⟨h1, h2⟩ := alikeR_rel hr hE h hU
  simp only [alikeR, Bool.and_eq_true] at h
  exact ⟨h1, h2, matL_den (ptOK hU) _ _ _ h.2.2.2.2.1 hy⟩
def St.ends (S : St) : Bool := S.bad || S.pan.isSome
def isIn2 (L M : List (Nat × Nat)) : Bool := L.all fun p => isKey p.1 M
def alike1 (S : St) (p : SV × St) (L0 : List (Nat × Nat)) (z : SV × St) : Bool :=
  match pairsOf S [p.1] p.2 [z.1] z.2 with
  | (L, C) => alikeR S L C [p.1] p.2 [z.1] z.2 && (isIn2 L0 L && isIn2 L L0)
def mergeT (S : St) (l : List (SV × St)) : Option (SV × St) :=
  match l with
  | p :: q :: r => match pairsOf S [p.1] p.2 [p.1] p.2 with
    | (L, _) => bif (p :: q :: r).all (alike1 S p L) then some (p.1, overR S L p.2) else none
  | _ => none
def mergeV (S : St) (l : List (SV × St)) : List (SV × St) :=
  match mergeT S (l.filter (fun p => !p.2.ends)) with
  | some q => q :: l.filter (fun p => p.2.ends)
  | none => match mergeT S (l.filter (fun p => !p.2.ends)).reverse with
    | some q => q :: l.filter (fun p => p.2.ends)
    | none => l
theorem keepH_congr {f g : Nat → Bool} (h : ∀ i, f i = g i) (l : List (Nat × SObj)) : keepH f l = keepH g l := by
  have : f = g := funext h
  rw [this]
theorem isIn2_key {L M : List (Nat × Nat)} (h : isIn2 L M = true) {i : Nat} (hi : isKey i L = true) : isKey i M = true := by
  unfold isKey at hi
  split at hi
  · rename_i j hj
    exact List.all_eq_true.1 h (i, j) (find_in hj)
  · cases hi
theorem mergeV_ends {l : List (SV × St)} {p : SV × St} (hp : p ∈ l) (he : p.2.ends = true) : p ∈ mergeV S l := by
  have hf : p ∈ l.filter (fun p => p.2.ends) := List.mem_filter.2 ⟨hp, he⟩
  unfold mergeV
  split
  · exact List.mem_cons_of_mem _ hf
  · split
    · exact List.mem_cons_of_mem _ hf
    · exact hp
theorem mergeT_ok (hr : Rel B G w0 E S w) {l : List (SV × St)} {q : SV × St} (h : mergeT S l = some q) {p : SV × St} (hp : p ∈ l) (hE : E.le F) (hrel : Rel B G w0 F p.2 w') {v : Value} (hden : p.1.den F = some v) :
    q.2.ends = false ∧ q.2.ds = S.ds ∧ ∃ F', E.le F' ∧ Rel B G w0 F' q.2 w' ∧ q.1.den F' = some v := by
  unfold mergeT at h
  split at h
  · rename_i p' q' r'
    generalize pairsOf S [p'.1] p'.2 [p'.1] p'.2 = z at h
    obtain ⟨L0, C0⟩ := z
    simp only at h
    cases hall : (p' :: q' :: r').all (alike1 S p' L0) with
    | false => rw [hall] at h; cases h
    | true =>
      rw [hall] at h
      simp only [cond_true, Option.some.injEq] at h; subst h
      have h := List.all_eq_true.1 hall p hp
      unfold alike1 at h
      generalize pairsOf S [p'.1] p'.2 [p.1] p.2 = z at h
      obtain ⟨L, C⟩ := z
      simp only [Bool.and_eq_true] at h
      obtain ⟨h1, h2, h3⟩ := h
      obtain ⟨k1, k2, k3⟩ := alikeR_ok hr hE h1 hrel (denL_mk hden (r := []) rfl)
      obtain ⟨u, l', d1, d2, d3⟩ := denL_cons k3
      have e : overR S L p'.2 = overR S L0 p'.2 := by
        unfold overR heapK
        rw [keepH_congr (g := fun i => Nat.blt i S.next || isKey i L0) fun i => by
          congr 1
          rw [Bool.eq_iff_iff]
          exact ⟨isIn2_key h3, isIn2_key h2⟩]
      rw [e] at k2
      have : v = u := by simp only [List.cons.injEq] at d3; exact d3.1
      subst this
      exact ⟨rfl, rfl, _, k1, k2, d1⟩
  · cases h
theorem mergeV_ok (hr : Rel B G w0 E S w) {l : List (SV × St)} {p : SV × St} (hp : p ∈ l) (he : p.2.ends = false) (hE : E.le F) (hrel : Rel B G w0 F p.2 w') {v : Value} (hden : p.1.den F = some v) :
    p ∈ mergeV S l ∨ ∃ q ∈ mergeV S l, q.2.ends = false ∧ q.2.ds = S.ds ∧ ∃ F', E.le F' ∧ Rel B G w0 F' q.2 w' ∧ q.1.den F' = some v := by
  have hm : p ∈ l.filter (fun p => !p.2.ends) := List.mem_filter.2 ⟨hp, by simp [he]⟩
  unfold mergeV
  split
  · rename_i q hq
    exact .inr ⟨q, List.mem_cons_self, mergeT_ok hr hq hm hE hrel hden⟩
  · split
    · rename_i q hq
      exact .inr ⟨q, List.mem_cons_self, mergeT_ok hr hq (List.mem_reverse.2 hm) hE hrel hden⟩
    · exact .inl hp
end
end Go.Ev
