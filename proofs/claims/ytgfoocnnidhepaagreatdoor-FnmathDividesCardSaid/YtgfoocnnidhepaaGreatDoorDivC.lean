/- Quotients, as they are called. -/
import Derived.Test.YtgfoocnnidhepaaGreatDoorDivB
namespace Go.Proofs.Dv
open Go.Ev Go.RowKit Ieee Go.Proofs.YtgfoocnnidhepaaGreatDoor
set_option maxRecDepth 1000000
def reckRPre (l : List Value) : Prop := Fin64 (fv (gv l 0))
def reckR (l : List Value) : Prop := fv (gv l 2) = if sv (fv (gv l 0)) = 0 then 0 else fv (gv l 0)
def reckWR (l : List Value) : Prop := iv (gv l 3) = iv (gv l 0)
def quoR (l : List Value) : Prop := iv (gv l 29) = (iv (gv l 10)).tdiv (iv (gv l 23))
def mdR (l : List Value) : Prop := fv (gv l 29) = nr ((iv (gv l 10)).toNat % (iv (gv l 23)).toNat)
def md0R (_ : List Value) : Prop := True
def gR (l : List Value) : Prop := fv (gv l 29) = nr (Nat.gcd (iv (gv l 10)).toNat (iv (gv l 23)).toNat)
def lR (l : List Value) : Prop := Nat.lcm (iv (gv l 10)).toNat (iv (gv l 23)).toNat ≤ 9007199254740992 → fv (gv l 29) = nr (Nat.lcm (iv (gv l 10)).toNat (iv (gv l 23)).toNat)
def divR (l : List Value) : Prop := bv (gv l 2) = true
def w32 : Sh := .whole true 0 4294967295
def w32p : Sh := .whole true 1 4294967295
def reckC : Con := { f := 75, ins := [fl], out := numV fl, id := "reckR", pre := reckRPre, asks := true, rel := reckR }
def reckWC : Con := { f := 75, ins := [w32], out := numV w32, id := "reckWR", rel := reckWR }
def callC (b : Array UInt8) (out : Sh) (id : String) (rel : List Value → Prop) : Con := { f := 7, ins := [str b, .row 30 5 2 (argC w32 ++ argC w32p)], out := .tup [out, yes true], id := id, exd := [26], rel := rel }
def qC : Con := callC #[81, 85, 79, 84, 73, 69, 78, 84] (numV w32) "quoR" quoR
def mdC : Con := callC #[77, 79, 68] (numV fl) "mdR" mdR
def gC : Con := callC #[71, 67, 68] (numV fl) "gR" gR
def lC : Con := callC #[76, 67, 77] (.agg [i64S, fl, noT, yes false, i64S]) "lR" lR
def md0C : Con := { f := 7, ins := [str #[77, 79, 68], .row 30 5 2 (argC w32 ++ argC (.sc (.is (.float .f64 0))))], out := .tup [.agg [int0 4, .sc (.is (.float .f64 0)), noT, yes false, int0 2], yes true], id := "md0R", rel := md0R }
def lawC : Con := { f := 3, ins := [.sc (.intIn .u32 (some 0) (some 4294967295)), .sc (.intIn .u32 (some 0) (some 4294967295))], out := .sc .bool, id := "divR", rel := divR }
theorem near_nr {a : Int} (h : 0 ≤ a) : FloatKind.f64.nearest a = nr a.toNat := by
  obtain ⟨n, rfl⟩ : ∃ n : Nat, a = n := ⟨a.toNat, by omega⟩
  rfl
theorem far_nr_mul {a b r : Nat} (ha : a ≤ 2 ^ 53) (hb : b ≤ 2 ^ 53) (h : a * b ≤ 2 ^ 53) (hr : farV .mul .f64 (nr a) (nr b) = some (some r) ∨ farV .mul .f64 (nr a) (nr b) = some none ∧ Nan64 r) : r = nr (a * b) := by
  have hc : (a : Int) * b = ((a * b : Nat) : Int) := (Int.natCast_mul a b).symm
  have e := mul_exact (a := (a : Int)) (b := (b : Int)) (x := nr a) (y := nr b) rfl rfl (by omega) (by omega) (by omega) (by omega) (by rw [hc]; omega)
  rw [hc] at e
  exact far_is hr (congrArg some e)
theorem md_core {x y p d : Nat} (hx : x < 4294967296) (hy : y < 4294967296) (hp : farV .mul .f64 (nr y) (nr (x / y)) = some (some p) ∨ farV .mul .f64 (nr y) (nr (x / y)) = some none ∧ Nan64 p)
    (hd : farV .sub .f64 (nr x) p = some (some d) ∨ farV .sub .f64 (nr x) p = some none ∧ Nan64 d) : d = nr (x % y) := by
  have hm := Nat.mul_div_le x y
  have hq := Nat.div_le_self x y
  have e := far_nr_mul (show y ≤ 2 ^ 53 by omega) (show x / y ≤ 2 ^ 53 by omega) (by omega) hp
  rw [e] at hd
  rw [nr_sub hm (by omega) hd]
  congr 1
  have := Nat.div_add_mod x y
  omega
theorem reck_nr {v r n : Nat} (h : v = nr n) (hn : n ≤ 2 ^ 53) (hr : r = if sv v = 0 then 0 else v) : r = nr n := by
  rw [hr, h]
  split
  · rename_i e
    rw [(nr_sv hn).2.1] at e
    have : (n : Int) = 0 := by
      rcases Int.mul_eq_zero.1 e with c | c
      · exact c
      · have := KK_pos; omega
    have : n = 0 := by omega
    rw [this, nr_zero]
  · rfl
def isTrue_L0 : Prop := ∀ _ : Nat → Value,
    isTrue [vT]
theorem isTrue_tie : liveC.goals (cfgB liveC.base []) [] 2000 = (isTrue_L0 ∧ True) := by kernel_rfl
theorem live_ok : liveC.ok Tryz.prog All := by_tie isTrue_tie (by kernel_rfl) all_nil ⟨fun _ => rfl, trivial⟩
def reckWR_L0 : Prop := ∀ σ : Nat → Value,
 tI (σ 0) →
 0 ≤ iv (σ 0) →
 iv (σ 0) ≤ 0 →
 tF (σ 1) →
 σ 2 = .int .u64 (iv (σ 2)) →
 σ 3 = .int .u64 (iv (σ 3)) →
 fv (σ 1) = FloatKind.f64.nearest (iv (σ 0)) →
 extRel .fbits [σ 1] (σ 2) →
 ibin .andNot IntKind.u64 (iv (σ 2)) (9223372036854775808) = some (.int IntKind.u64 (iv (σ 3))) →
 iv (σ 0) = 0 →
    reckWR [σ 0, σ 1, vO, vZ, (vG 0), vE, vF, vZ]
def reckWR_L1 : Prop := ∀ σ : Nat → Value,
 tI (σ 0) →
 1 ≤ iv (σ 0) →
 iv (σ 0) ≤ 4294967295 →
 tF (σ 1) →
 σ 2 = .int .u64 (iv (σ 2)) →
 σ 3 = .int .u64 (iv (σ 3)) →
 fv (σ 1) = FloatKind.f64.nearest (iv (σ 0)) →
 extRel .fbits [σ 1] (σ 2) →
 ibin .andNot IntKind.u64 (iv (σ 2)) (9223372036854775808) = some (.int IntKind.u64 (iv (σ 3))) →
 iv (σ 0) ≠ 0 →
    reckWR [σ 0, σ 1, vO, σ 0, σ 1, vE, vF, vZ]
theorem reckWR_tie : reckWC.goals (cfgB reckWC.base []) [] 2000 = (reckWR_L0 ∧ reckWR_L1 ∧ True) := by kernel_rfl
theorem reckW_ok : reckWC.ok Tryz.prog All := by
  refine by_tie reckWR_tie (by kernel_rfl) all_nil ⟨?_, ?_, trivial⟩
  · intro σ; intros
    have e := ‹iv (σ 0) = 0›
    show iv (.int .i64 0) = iv (σ 0)
    rw [e]; rfl
  · intro σ; intros; exact rfl
def reckR_L0 : Prop := ∀ σ : Nat → Value,
 tF (σ 0) →
 tF (σ 3) →
 reckRPre [σ 0] →
 absR [σ 0, σ 3] →
 ford (fv (σ 3)) (9218868437227405311) = some .gt →
 bv (σ 4) = !false →
 bv (σ 5) = !true →
 ford (fv (σ 0)) (fv (σ 0)) = some .eq →
 bv (σ 1) = !true →
    False
def reckR_L1 : Prop := ∀ σ : Nat → Value,
 tF (σ 0) →
 tF (σ 3) →
 reckRPre [σ 0] →
 absR [σ 0, σ 3] →
 ford (fv (σ 0)) (0) = some .eq →
 ford (fv (σ 3)) (9218868437227405311) ≠ some .gt →
 bv (σ 4) = !true →
 bv (σ 5) = !false →
 ford (fv (σ 0)) (fv (σ 0)) = some .eq →
 bv (σ 1) = !true →
    reckR [σ 0, vO, (vG 0), vE, vF, vZ]
def reckR_L2 : Prop := ∀ σ : Nat → Value,
 tF (σ 0) →
 tF (σ 3) →
 reckRPre [σ 0] →
 absR [σ 0, σ 3] →
 ford (fv (σ 0)) (0) ≠ some .eq →
 ford (fv (σ 3)) (9218868437227405311) ≠ some .gt →
 bv (σ 4) = !true →
 bv (σ 5) = !false →
 ford (fv (σ 0)) (fv (σ 0)) = some .eq →
 bv (σ 1) = !true →
    reckR [σ 0, vO, σ 0, vE, vF, vZ]
def reckR_L3 : Prop := ∀ σ : Nat → Value,
 tF (σ 0) →
 reckRPre [σ 0] →
 ford (fv (σ 0)) (fv (σ 0)) ≠ some .eq →
 bv (σ 1) = !false →
    False
theorem reckR_tie : reckC.goals (cfgB reckC.base [absC]) [] 2000 = (reckR_L0 ∧ reckR_L1 ∧ reckR_L2 ∧ reckR_L3 ∧ True) := by kernel_rfl
theorem reck_bad {x y : Nat} (h : Fin64 x) (e : y = x % 2 ^ 63) (g : ford y 9218868437227405311 = some .gt) : False := by
  subst e; exact ford_big h g
theorem reck_ok : reckC.ok Tryz.prog All := by
  refine by_tie reckR_tie (by kernel_rfl) (all_cons abs_ok all_nil) ⟨?_, ?_, ?_, ?_, trivial⟩
  · intro σ; intros
    have p_ := ‹reckRPre _›
    have p : Fin64 (fv (σ 0)) := p_
    have a0_ := ‹absR [σ 0, σ 3]›
    have a0 : fv (σ 3) = fv (σ 0) % 2 ^ 63 := a0_
    exact reck_bad p a0 ‹ford (fv (σ 3)) _ = some .gt›
  · intro σ; intros
    have p_ := ‹reckRPre _›
    have p : Fin64 (fv (σ 0)) := p_
    show fv (.float .f64 0) = if sv (fv (σ 0)) = 0 then 0 else fv (σ 0)
    rw [if_pos ((ford_zero p).1 ‹_›)]; rfl
  · intro σ; intros
    have p_ := ‹reckRPre _›
    have p : Fin64 (fv (σ 0)) := p_
    show fv (σ 0) = if sv (fv (σ 0)) = 0 then 0 else fv (σ 0)
    rw [if_neg (fun e => ‹ford (fv (σ 0)) 0 ≠ some .eq› ((ford_zero p).2 e))]
  · intro σ; intros
    have p_ := ‹reckRPre _›
    have p : Fin64 (fv (σ 0)) := p_
    exact ‹ford (fv (σ 0)) (fv (σ 0)) ≠ some .eq› (ford_self p)
end Go.Proofs.Dv
