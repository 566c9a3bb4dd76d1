/- Some calls of the law: a day's year, month and day make that day; a year on and a year back is the day, or the end of February. -/
import Derived.Test.YtlpbimookmhjbaaGreatDoorBackY
import Derived.Test.YtlpbimookmhjbaaGreatDoorBackD
import Derived.Test.YtlpbimookmhjbaaGreatDoorBackE
import Derived.Test.YtlpbimookmhjbaaGreatDoorEvBool
namespace Go.Proofs.Back
open Go.Ev Go.Dates Go.RowKit Go.Proofs.YtlpbimookmhjbaaGreatDoor
set_option maxRecDepth 1000000
def isTrue (l : List Value) : Prop := l = [.bool true]
def chkR (_ : List Value) : Prop := True
def backR : List Value → Prop | [_, b] => bv b = true | _ => False
def begunC : Con := { f := 9, ins := [], out := .sc .bool, id := "isTrue", rel := isTrue }
def chkC : Con := { f := 54, ins := [.agg [int0 1, int0 1, .row 37 5 1 [int0 1, .whole true (-9000000) 9000000, noT, yes false, int0 0]]], out := int0 0, id := "chkR", rel := chkR, mrg := [56] }
def reckR (l : List Value) : Prop := g l 3 = g l 0
def reckC : Con := { f := 19, ins := [.whole true (-9000000) 9000000], out := numV (.whole true (-9000000) 9000000), id := "reckR", rel := reckR }
def sameR (l : List Value) : Prop := bv (l.getD 12 (.tuple #[])) = decide (g l 1 = g l 7)
def sameC : Con := { f := 16, ins := [numV (.whole true (-9000000) 9000000), numV (.whole true (-9000000) 9000000)], out := .sc .bool, id := "sameR", rel := sameR }
def lawC : Con := { f := 5, ins := [i64S], out := .sc .bool, id := "backR", rel := backR }
theorem bits_36526 : FloatKind.f64.nearest 36526 = 4675252908797722624 := by kernel_rfl
theorem bits_0 : FloatKind.f64.nearest 0 = 0 := by kernel_rfl
def isTrue_L0 : Prop := ∀ σ : Nat → Value,
 σ 0 = vO →
 σ 1 = .int .i64 (iv (σ 1)) →
 (-693593) ≤ iv (σ 1) →
 iv (σ 1) ≤ 2958465 →
 σ 2 = .float .f64 (fv (σ 2)) →
 σ 3 = vE →
 σ 4 = vF →
 σ 5 = vZ →
 σ 6 = vT →
 σ 7 = .int .u64 (iv (σ 7)) →
 σ 8 = .bool (bv (σ 8)) →
 fv (σ 2) = FloatKind.f64.nearest (iv (σ 1)) →
 callDateR [(vS #[68,65,84,69]), vU, vF, vF, vO, vO, vU, vZ, vZ, vO, (vI 2000), (vG 4656510908468559872), vE, vF, vZ, vF, vF, vO, vO, vU, vZ, vZ, vO, vO, (vG 4607182418800017408), vE, vF, vZ, vF, vF, vO, vO, vU, vZ, vZ, vO, vO, (vG 4607182418800017408), vE, vF, vZ, vO, σ 1, σ 2, vE, vF, vZ, vT] →
 extRel .fbits [σ 2] (σ 7) →
 bv (σ 8) = decide (iv (σ 7) = 4675252908797722624) →
    isTrue [σ 8]
def isTrue_L1 : Prop := ∀ _ : Nat → Value,
 ¬ callDateRPre [(vS #[68,65,84,69]), vU, vF, vF, vO, vO, vU, vZ, vZ, vO, (vI 2000), (vG 4656510908468559872), vE, vF, vZ, vF, vF, vO, vO, vU, vZ, vZ, vO, vO, (vG 4607182418800017408), vE, vF, vZ, vF, vF, vO, vO, vU, vZ, vZ, vO, vO, (vG 4607182418800017408), vE, vF, vZ] →
    False
theorem isTrue_tie : begunC.goals (cfgB begunC.base [mkC]) [] 2000 = (isTrue_L0 ∧ isTrue_L1 ∧ True) := by kernel_rfl
theorem begun_L0_ok : isTrue_L0 := by
  intro σ; intros
  have h0 := ‹callDateR _›
  have h1 : iv (σ 1) = dayI 2000 1 1 - 693593 := h0
  have e : dayI 2000 1 1 = 730119 := by decide
  have h2 : iv (σ 1) = 36526 := by omega
  have k := bits ‹σ 2 = .float .f64 (fv (σ 2))› ‹extRel .fbits [σ 2] (σ 7)›
  have f := ‹fv (σ 2) = FloatKind.f64.nearest (iv (σ 1))›
  rw [h2, bits_36526] at f
  have d := ‹bv (σ 8) = decide _›
  rw [k, f] at d
  have s := ‹σ 8 = .bool (bv (σ 8))›
  rw [d] at s
  unfold isTrue
  rw [s]
  rfl
theorem begun_L1_ok : isTrue_L1 := by
  intro σ; intros
  have h0 := ‹¬ callDateRPre _›
  have e : (1 : Int) ≤ 1 ∧ (1 : Int) ≤ monI 2000 1 := by decide
  exact h0 e
theorem begun_ok : begunC.ok Tryz.prog All :=
  by_tie isTrue_tie (by kernel_rfl) (all_cons mk_ok all_nil) ⟨begun_L0_ok, begun_L1_ok, trivial⟩
def chkR_L0 : Prop := ∀ σ : Nat → Value,
 σ 0 = vO →
 σ 1 = vO →
 σ 3 = vO →
 σ 4 = .int .i64 (iv (σ 4)) →
 (-9000000) ≤ iv (σ 4) →
 iv (σ 4) ≤ 9000000 →
 σ 5 = .float .f64 (fv (σ 5)) →
 σ 6 = vE →
 σ 7 = vF →
 σ 8 = vZ →
 fv (σ 5) = FloatKind.f64.nearest (iv (σ 4)) →
    chkR [vO, vO, vU, vO, σ 4, σ 5, vE, vF, vZ, vZ]
theorem chkR_tie : chkC.goals (cfgB chkC.base []) [] 2000 = (chkR_L0 ∧ True) := by kernel_rfl
theorem chk_ok : chkC.ok Tryz.prog All :=
  by_tie chkR_tie (by kernel_rfl) all_nil ⟨by intro σ; intros; trivial, trivial⟩
def reckR_L0 : Prop := ∀ σ : Nat → Value,
 σ 0 = .int .i64 (iv (σ 0)) →
 0 ≤ iv (σ 0) →
 iv (σ 0) ≤ 0 →
 σ 1 = .float .f64 (fv (σ 1)) →
 fv (σ 1) = FloatKind.f64.nearest (iv (σ 0)) →
 iv (σ 0) = 0 →
    reckR [σ 0, σ 1, vO, vZ, (vG 0), vE, vF, vZ]
def reckR_L1 : Prop := ∀ σ : Nat → Value,
 σ 0 = .int .i64 (iv (σ 0)) →
 (-9000000) ≤ iv (σ 0) →
 iv (σ 0) ≤ 9000000 →
 σ 1 = .float .f64 (fv (σ 1)) →
 fv (σ 1) = FloatKind.f64.nearest (iv (σ 0)) →
 iv (σ 0) ≠ 0 →
    reckR [σ 0, σ 1, vO, σ 0, σ 1, vE, vF, vZ]
theorem reckR_tie : reckC.goals (cfgB reckC.base []) [] 2000 = (reckR_L0 ∧ reckR_L1 ∧ True) := by kernel_rfl
theorem reck_ok : reckC.ok Tryz.prog All := by
  refine by_tie reckR_tie (by kernel_rfl) all_nil ⟨?_, ?_, trivial⟩
  · intro σ; intros
    have e : (0 : Int) = iv (σ 0) := by omega
    exact e
  · intro σ; intros; rfl
theorem nearest_same {a b : Int} (h1 : -9000000 ≤ a) (h2 : a ≤ 9000000) (h3 : -9000000 ≤ b) (h4 : b ≤ 9000000) : ((FloatKind.f64.nearest a : Int) = (FloatKind.f64.nearest b : Int)) ↔ a = b := by
  constructor
  · intro h
    have h : FloatKind.f64.nearest a = FloatKind.f64.nearest b := by omega
    have ea := (nearest_int (n := a) (by omega) (by omega)).2
    have eb := (nearest_int (n := b) (by omega) (by omega)).2
    rw [h, eb] at ea
    have := KK_pos
    exact (Int.eq_of_mul_eq_mul_right (by omega) ea).symm
  · rintro rfl; rfl
def sameR_L0 : Prop := ∀ σ : Nat → Value,
 σ 0 = vO →
 σ 1 = .int .i64 (iv (σ 1)) →
 (-9000000) ≤ iv (σ 1) →
 iv (σ 1) ≤ 9000000 →
 σ 2 = .float .f64 (fv (σ 2)) →
 σ 3 = vE →
 σ 4 = vF →
 σ 5 = vZ →
 σ 6 = vO →
 σ 7 = .int .i64 (iv (σ 7)) →
 (-9000000) ≤ iv (σ 7) →
 iv (σ 7) ≤ 9000000 →
 σ 8 = .float .f64 (fv (σ 8)) →
 σ 9 = vE →
 σ 10 = vF →
 σ 11 = vZ →
 σ 12 = .int .u64 (iv (σ 12)) →
 σ 13 = .int .u64 (iv (σ 13)) →
 σ 14 = .bool (bv (σ 14)) →
 fv (σ 8) = FloatKind.f64.nearest (iv (σ 7)) →
 fv (σ 2) = FloatKind.f64.nearest (iv (σ 1)) →
 extRel .fbits [σ 2] (σ 12) →
 extRel .fbits [σ 8] (σ 13) →
 bv (σ 14) = decide (iv (σ 12) = iv (σ 13)) →
    sameR [vO, σ 1, σ 2, vE, vF, vZ, vO, σ 7, σ 8, vE, vF, vZ, σ 14]
theorem sameR_tie : sameC.goals (cfgB sameC.base []) [] 2000 = (sameR_L0 ∧ True) := by kernel_rfl
theorem same_ok : sameC.ok Tryz.prog All := by
  refine by_tie sameR_tie (by kernel_rfl) all_nil ⟨?_, trivial⟩
  intro σ; intros
  have k1 := bits ‹σ 2 = .float .f64 (fv (σ 2))› ‹extRel .fbits [σ 2] (σ 12)›
  have k2 := bits ‹σ 8 = .float .f64 (fv (σ 8))› ‹extRel .fbits [σ 8] (σ 13)›
  have f1 := ‹fv (σ 2) = FloatKind.f64.nearest (iv (σ 1))›
  have f2 := ‹fv (σ 8) = FloatKind.f64.nearest (iv (σ 7))›
  have d := ‹bv (σ 14) = decide _›
  rw [k1, k2, f1, f2] at d
  have e : bv (σ 14) = decide (iv (σ 1) = iv (σ 7)) := d.trans (decide_eq_decide.2 (nearest_same ‹_› ‹_› ‹_› ‹_›))
  exact e
theorem isTrue_bv {v : Value} (h : isTrue [v]) : bv v = true := by
  unfold isTrue at h
  rw [(List.cons.inj h).1]
  rfl
def begunR (_ : List Value) : Prop := True
def begunK : Con := { f := 9, ins := [], out := yes true, id := "begunR", rel := begunR }
theorem begunK_ok : begunK.ok Tryz.prog All := by
  refine ⟨begun_ok.1, fun w vs fl hw hin _ => ?_⟩
  refine (con_bool begun_ok hw rfl rfl rfl hin (fun b h => ?_)).mono fun e w' ⟨h1, h2⟩ => .inl ⟨.bool true, [.bool true], h1, ⟨rfl, rfl⟩, trivial, h2⟩
  have hin' : relL (inR w) [] vs fl := hin
  simp only [relL] at hin'
  obtain ⟨rfl, rfl⟩ := hin'
  exact isTrue_bv h
theorem goalsL_cut {c : Con} : ∀ (k : Nat) (l : List Out), goalsL c (l.take k) → goalsL c (l.drop k) → goalsL c l
  | 0, _, _, h => h
  | _ + 1, [], _, _ => trivial
  | k + 1, _ :: r, h, g => ⟨h.1, goalsL_cut k r h.2 g⟩
def goalsAt (c : Con) (C : Cfg) (n i k : Nat) : Prop :=
  match evaluateK C [] n (.call c.f c.args c.st) with
  | some outs => goalsL c ((outs.drop i).take k)
  | none => False
theorem by_goals {c : Con} {cons : List Con} {K : List (Nat × Nat × LSpec)} {n : Nat} (h : c.goals (cfgB c.base cons) K n) (he : entersOf Tryz.prog c.f = true) (hc : ∀ c ∈ cons, c.ok Tryz.prog All) : c.ok Tryz.prog All :=
  by_tie (Q := c.goals (cfgB c.base cons) K n) rfl he hc h
def goalsFrom (c : Con) (C : Cfg) (n i : Nat) : Prop :=
  match evaluateK C [] n (.call c.f c.args c.st) with
  | some outs => goalsL c (outs.drop i)
  | none => False
theorem goalsFrom_cut {c : Con} {C : Cfg} {n i k : Nat} (h : goalsAt c C n i k) (g : goalsFrom c C n (i + k)) : goalsFrom c C n i := by
  unfold goalsAt at h
  unfold goalsFrom at *
  split at h
  · rename_i outs ho
    simp only [ho] at g ⊢
    refine goalsL_cut k _ h ?_
    rw [List.drop_drop]; exact g
  · exact h.elim
theorem goals_of {c : Con} {C : Cfg} {n : Nat} (g : goalsFrom c C n 0) : c.goals C [] n := by
  unfold goalsFrom at g
  unfold Con.goals
  split at g
  · rename_i outs ho
    simp only [ho]
    exact g
  · exact g.elim
theorem same3 {n y m d a1 a2 b1 b2 c1 c2 : Int} (h : IsDate n y a1 a2) (k : IsDate n b1 m b2) (l : IsDate n c1 c2 d) : IsDate n y m d := by
  obtain ⟨rfl, rfl, rfl⟩ := h.unique k
  obtain ⟨_, _, rfl⟩ := h.unique l
  exact h
theorem date_back {n y m d x : Int} (h : IsDate (n + 693593) y m d) (e : x = dayI y m d - 693593) : x = n := by have := h.day; omega
theorem of12 {m : Int} (h1 : 1 ≤ m) (h2 : m ≤ 12) (y : Int) : yOf y (m + 12) = y + 1 ∧ mOf (m + 12) = m ∧ yOf y (m + (-12)) = y - 1 ∧ mOf (m + (-12)) = m := by unfold yOf mOf; omega
theorem ed_pre12 {n y m d : Int} (h : IsDate n y m d) (h2 : y ≤ 9998) : edPre 12 n := fun y' m' d' k => by
  obtain ⟨rfl, rfl, rfl⟩ := h.unique k
  have e := of12 h.m1 h.m2 y
  have := h.y1
  rw [e.1]; omega
theorem ed12 {n x y m d : Int} (h : IsDate n y m d) (h2 : y ≤ 9998) (r : edR 12 n x) : IsDate x (y + 1) m (mn d (monI (y + 1) m)) := by
  obtain ⟨y', m', d', k, e⟩ := r
  obtain ⟨rfl, rfl, rfl⟩ := h.unique k
  have e2 := of12 h.m1 h.m2 y
  rw [e2.1, e2.2.1] at e
  have q := monI_pos (y + 1) m
  have d1 := h.d1
  have y1 := h.y1
  subst e
  exact dayI_top ⟨by omega, by omega, h.m1, h.m2, by unfold mn; split <;> omega, by unfold mn; split <;> omega⟩
theorem ed_prem12 {n y m d : Int} (h : IsDate n (y + 1) m d) (h1 : 1 ≤ y) : edPre (-12) n := fun y' m' d' k => by
  obtain ⟨rfl, rfl, rfl⟩ := h.unique k
  have e := of12 h.m1 h.m2 (y + 1)
  have := h.y2
  rw [e.2.2.1]; omega
theorem edm12 {n x b y m d : Int} (h : IsDate n y m d) (k : IsDate x (y + 1) m (mn d (monI (y + 1) m))) (r : edR (-12) x b) : (m = 2 ∧ d = 29 → b = n - 1) ∧ (¬ (m = 2 ∧ d = 29) → b = n) := by
  obtain ⟨y', m', d', l, e⟩ := r
  obtain ⟨rfl, rfl, rfl⟩ := k.unique l
  have e2 := of12 h.m1 h.m2 (y + 1)
  rw [e2.2.2.1, e2.2.2.2, Int.add_sub_cancel] at e
  have d1 := h.d1
  have d2 := h.d2
  have e3 : mn (mn d (monI (y + 1) m)) (monI y m) = if m = 2 ∧ d = 29 then d - 1 else d := by
    unfold mn monI lp leapI at *
    repeat' split <;> try omega
  have e4 := h.day
  rw [e3] at e
  unfold dayI at e e4
  split at e <;> omega
end Go.Proofs.Back
