/- BIN2DEC, OCT2DEC, HEX2DEC. -/
import Derived.Test.YtlinfpchnonbpaaGreatDoorFxbB
namespace Go.Proofs.Bs
open Go.Ev Go.RowKit Ieee
set_option maxRecDepth 1000000
def bkR_L0 (p : Par) : Prop := ∀ σ : Nat → Value,
 σ 0 = (Value.string ⟨p.nm2⟩) →
 σ 2 = vF →
 σ 3 = vF →
 σ 4 = vO →
 σ 5 = vO →
 σ 7 = vZ →
 σ 8 = vZ →
 σ 9 = (vI 2) →
 σ 10 = (vG 0) →
 tS (σ 11) →
 σ 12 = vF →
 σ 13 = vZ →
 bkRPre p [(Value.string ⟨p.nm2⟩),vU, vF, vF, vO, vO,vU,vZ,vZ, (vI 2), (vG 0),σ 11, vF,vZ] →
 ¬ vldRPre [σ 11] →
    False
def bkR_L1 (p : Par) : Prop := ∀ σ : Nat → Value,
 σ 0 = (Value.string ⟨p.nm2⟩) →
 σ 2 = vF →
 σ 3 = vF →
 σ 4 = vO →
 σ 5 = vO →
 σ 7 = vZ →
 σ 8 = vZ →
 σ 9 = (vI 2) →
 σ 10 = (vG 0) →
 tS (σ 11) →
 σ 12 = vF →
 σ 13 = vZ →
 tI (σ 15) →
 32769 ≤ iv (σ 15) →
 bkRPre p [(Value.string ⟨p.nm2⟩),vU, vF, vF, vO, vO,vU,vZ,vZ, (vI 2), (vG 0),σ 11, vF,vZ] →
 vldR [σ 11,σ 14] →
 iv (σ 15) = ((tv (σ 11)).size : Nat) →
 32768 < iv (σ 15) →
 bv (σ 14) = true →
    False
def bkR_L2 (p : Par) : Prop := ∀ σ : Nat → Value,
 σ 0 = (Value.string ⟨p.nm2⟩) →
 σ 2 = vF →
 σ 3 = vF →
 σ 4 = vO →
 σ 5 = vO →
 σ 7 = vZ →
 σ 8 = vZ →
 σ 9 = (vI 2) →
 σ 10 = (vG 0) →
 tS (σ 11) →
 σ 12 = vF →
 σ 13 = vZ →
 tI (σ 15) →
 0 ≤ iv (σ 15) →
 iv (σ 15) ≤ 32768 →
 σ 17 = (vI 3) →
 tI (σ 19) →
 tF (σ 20) →
 tU (σ 23) →
 tU (σ 24) →
 tF (σ 25) →
 bkRPre p [(Value.string ⟨p.nm2⟩),vU, vF, vF, vO, vO,vU,vZ,vZ, (vI 2), (vG 0),σ 11, vF,vZ] →
 vldR [σ 11,σ 14] →
 iv (σ 15) = ((tv (σ 11)).size : Nat) →
 ixR [(Value.string ⟨p.nm2⟩), (Value.int .u8 50), (vI 3)] →
 vldR [σ 11,σ 18] →
 dgtR p [(Value.string ⟨p.bn⟩),σ 11,σ 19] →
 fv (σ 20) = nE (iv (σ 19)) →
 extRel .fbits [σ 20] (σ 23) →
 aN (σ 23) (σ 24) →
 extRel .ffrom [σ 24] (σ 25) →
 ford (fv (σ 25)) (9218868437227405311) = some .gt →
 bv (σ 26) = !false →
 bv (σ 27) = !true →
 ford (fv (σ 20)) (fv (σ 20)) = some .eq →
 bv (σ 21) = !true →
 bv (σ 18) = true →
 iv (σ 15) ≤ 32768 →
 bv (σ 14) = true →
    False
def bkR_L3 (p : Par) : Prop := ∀ σ : Nat → Value,
 σ 0 = (Value.string ⟨p.nm2⟩) →
 σ 2 = vF →
 σ 3 = vF →
 σ 4 = vO →
 σ 5 = vO →
 σ 7 = vZ →
 σ 8 = vZ →
 σ 9 = (vI 2) →
 σ 10 = (vG 0) →
 tS (σ 11) →
 σ 12 = vF →
 σ 13 = vZ →
 tI (σ 15) →
 0 ≤ iv (σ 15) →
 iv (σ 15) ≤ 32768 →
 σ 17 = (vI 3) →
 tI (σ 19) →
 tF (σ 20) →
 tU (σ 23) →
 tU (σ 24) →
 tF (σ 25) →
 bkRPre p [(Value.string ⟨p.nm2⟩),vU, vF, vF, vO, vO,vU,vZ,vZ, (vI 2), (vG 0),σ 11, vF,vZ] →
 vldR [σ 11,σ 14] →
 iv (σ 15) = ((tv (σ 11)).size : Nat) →
 ixR [(Value.string ⟨p.nm2⟩), (Value.int .u8 50), (vI 3)] →
 vldR [σ 11,σ 18] →
 dgtR p [(Value.string ⟨p.bn⟩),σ 11,σ 19] →
 fv (σ 20) = nE (iv (σ 19)) →
 extRel .fbits [σ 20] (σ 23) →
 aN (σ 23) (σ 24) →
 extRel .ffrom [σ 24] (σ 25) →
 ford (fv (σ 20)) (0) = some .eq →
 ford (fv (σ 25)) (9218868437227405311) ≠ some .gt →
 bv (σ 26) = !true →
 bv (σ 27) = !false →
 ford (fv (σ 20)) (fv (σ 20)) = some .eq →
 bv (σ 21) = !true →
 bv (σ 18) = true →
 iv (σ 15) ≤ 32768 →
 bv (σ 14) = true →
    bkR p [(Value.string ⟨p.nm2⟩),vU, vF, vF, vO, vO,vU,vZ,vZ, (vI 2), (vG 0),σ 11, vF,vZ, vO, (vG 0), vE, vF,vZ, vT]
def bkR_L4 (p : Par) : Prop := ∀ σ : Nat → Value,
 σ 0 = (Value.string ⟨p.nm2⟩) →
 σ 2 = vF →
 σ 3 = vF →
 σ 4 = vO →
 σ 5 = vO →
 σ 7 = vZ →
 σ 8 = vZ →
 σ 9 = (vI 2) →
 σ 10 = (vG 0) →
 tS (σ 11) →
 σ 12 = vF →
 σ 13 = vZ →
 tI (σ 15) →
 0 ≤ iv (σ 15) →
 iv (σ 15) ≤ 32768 →
 σ 17 = (vI 3) →
 tI (σ 19) →
 tF (σ 20) →
 tU (σ 23) →
 tU (σ 24) →
 tF (σ 25) →
 bkRPre p [(Value.string ⟨p.nm2⟩),vU, vF, vF, vO, vO,vU,vZ,vZ, (vI 2), (vG 0),σ 11, vF,vZ] →
 vldR [σ 11,σ 14] →
 iv (σ 15) = ((tv (σ 11)).size : Nat) →
 ixR [(Value.string ⟨p.nm2⟩), (Value.int .u8 50), (vI 3)] →
 vldR [σ 11,σ 18] →
 dgtR p [(Value.string ⟨p.bn⟩),σ 11,σ 19] →
 fv (σ 20) = nE (iv (σ 19)) →
 extRel .fbits [σ 20] (σ 23) →
 aN (σ 23) (σ 24) →
 extRel .ffrom [σ 24] (σ 25) →
 ford (fv (σ 20)) (0) ≠ some .eq →
 ford (fv (σ 25)) (9218868437227405311) ≠ some .gt →
 bv (σ 26) = !true →
 bv (σ 27) = !false →
 ford (fv (σ 20)) (fv (σ 20)) = some .eq →
 bv (σ 21) = !true →
 bv (σ 18) = true →
 iv (σ 15) ≤ 32768 →
 bv (σ 14) = true →
    bkR p [(Value.string ⟨p.nm2⟩),vU, vF, vF, vO, vO,vU,vZ,vZ, (vI 2), (vG 0),σ 11, vF,vZ, vO,σ 20, vE, vF,vZ, vT]
def bkR_L5 (p : Par) : Prop := ∀ σ : Nat → Value,
 σ 0 = (Value.string ⟨p.nm2⟩) →
 σ 2 = vF →
 σ 3 = vF →
 σ 4 = vO →
 σ 5 = vO →
 σ 7 = vZ →
 σ 8 = vZ →
 σ 9 = (vI 2) →
 σ 10 = (vG 0) →
 tS (σ 11) →
 σ 12 = vF →
 σ 13 = vZ →
 tI (σ 15) →
 0 ≤ iv (σ 15) →
 iv (σ 15) ≤ 32768 →
 σ 17 = (vI 3) →
 tI (σ 19) →
 tF (σ 20) →
 bkRPre p [(Value.string ⟨p.nm2⟩),vU, vF, vF, vO, vO,vU,vZ,vZ, (vI 2), (vG 0),σ 11, vF,vZ] →
 vldR [σ 11,σ 14] →
 iv (σ 15) = ((tv (σ 11)).size : Nat) →
 ixR [(Value.string ⟨p.nm2⟩), (Value.int .u8 50), (vI 3)] →
 vldR [σ 11,σ 18] →
 dgtR p [(Value.string ⟨p.bn⟩),σ 11,σ 19] →
 fv (σ 20) = nE (iv (σ 19)) →
 ford (fv (σ 20)) (fv (σ 20)) ≠ some .eq →
 bv (σ 21) = !false →
 bv (σ 18) = true →
 iv (σ 15) ≤ 32768 →
 bv (σ 14) = true →
    False
def bkR_L6 (p : Par) : Prop := ∀ σ : Nat → Value,
 σ 0 = (Value.string ⟨p.nm2⟩) →
 σ 2 = vF →
 σ 3 = vF →
 σ 4 = vO →
 σ 5 = vO →
 σ 7 = vZ →
 σ 8 = vZ →
 σ 9 = (vI 2) →
 σ 10 = (vG 0) →
 tS (σ 11) →
 σ 12 = vF →
 σ 13 = vZ →
 tI (σ 15) →
 0 ≤ iv (σ 15) →
 iv (σ 15) ≤ 32768 →
 σ 17 = (vI 3) →
 bkRPre p [(Value.string ⟨p.nm2⟩),vU, vF, vF, vO, vO,vU,vZ,vZ, (vI 2), (vG 0),σ 11, vF,vZ] →
 vldR [σ 11,σ 14] →
 iv (σ 15) = ((tv (σ 11)).size : Nat) →
 ixR [(Value.string ⟨p.nm2⟩), (Value.int .u8 50), (vI 3)] →
 vldR [σ 11,σ 18] →
 ¬ dgtRPre p [(Value.string ⟨p.bn⟩),σ 11] →
 bv (σ 18) = true →
 iv (σ 15) ≤ 32768 →
 bv (σ 14) = true →
    False
def bkR_L7 (p : Par) : Prop := ∀ σ : Nat → Value,
 σ 0 = (Value.string ⟨p.nm2⟩) →
 σ 2 = vF →
 σ 3 = vF →
 σ 4 = vO →
 σ 5 = vO →
 σ 7 = vZ →
 σ 8 = vZ →
 σ 9 = (vI 2) →
 σ 10 = (vG 0) →
 tS (σ 11) →
 σ 12 = vF →
 σ 13 = vZ →
 tI (σ 15) →
 0 ≤ iv (σ 15) →
 iv (σ 15) ≤ 32768 →
 σ 17 = (vI 3) →
 bkRPre p [(Value.string ⟨p.nm2⟩),vU, vF, vF, vO, vO,vU,vZ,vZ, (vI 2), (vG 0),σ 11, vF,vZ] →
 vldR [σ 11,σ 14] →
 iv (σ 15) = ((tv (σ 11)).size : Nat) →
 ixR [(Value.string ⟨p.nm2⟩), (Value.int .u8 50), (vI 3)] →
 vldR [σ 11,σ 18] →
 bv (σ 18) = false →
 iv (σ 15) ≤ 32768 →
 bv (σ 14) = true →
    False
def bkR_L8 (p : Par) : Prop := ∀ σ : Nat → Value,
 σ 0 = (Value.string ⟨p.nm2⟩) →
 σ 2 = vF →
 σ 3 = vF →
 σ 4 = vO →
 σ 5 = vO →
 σ 7 = vZ →
 σ 8 = vZ →
 σ 9 = (vI 2) →
 σ 10 = (vG 0) →
 tS (σ 11) →
 σ 12 = vF →
 σ 13 = vZ →
 tI (σ 15) →
 0 ≤ iv (σ 15) →
 iv (σ 15) ≤ 32768 →
 σ 17 = (vI 3) →
 bkRPre p [(Value.string ⟨p.nm2⟩),vU, vF, vF, vO, vO,vU,vZ,vZ, (vI 2), (vG 0),σ 11, vF,vZ] →
 vldR [σ 11,σ 14] →
 iv (σ 15) = ((tv (σ 11)).size : Nat) →
 ixR [(Value.string ⟨p.nm2⟩), (Value.int .u8 50), (vI 3)] →
 ¬ vldRPre [σ 11] →
 iv (σ 15) ≤ 32768 →
 bv (σ 14) = true →
    False
def bkR_L9 (p : Par) : Prop := ∀ σ : Nat → Value,
 σ 0 = (Value.string ⟨p.nm2⟩) →
 σ 2 = vF →
 σ 3 = vF →
 σ 4 = vO →
 σ 5 = vO →
 σ 7 = vZ →
 σ 8 = vZ →
 σ 9 = (vI 2) →
 σ 10 = (vG 0) →
 tS (σ 11) →
 σ 12 = vF →
 σ 13 = vZ →
 bkRPre p [(Value.string ⟨p.nm2⟩),vU, vF, vF, vO, vO,vU,vZ,vZ, (vI 2), (vG 0),σ 11, vF,vZ] →
 vldR [σ 11,σ 14] →
 bv (σ 14) = false →
    False
theorem bkR_tieB : (bkC pB).goals (cfgB (bkC pB).base (cons pB)) [] 2000 = (bkR_L0 pB ∧ bkR_L1 pB ∧ bkR_L2 pB ∧ bkR_L3 pB ∧ bkR_L4 pB ∧ bkR_L5 pB ∧ bkR_L6 pB ∧ bkR_L7 pB ∧ bkR_L8 pB ∧ bkR_L9 pB ∧ True) := by kernel_rfl
theorem bkR_tieO : (bkC pO).goals (cfgB (bkC pO).base (cons pO)) [] 2000 = (bkR_L0 pO ∧ bkR_L1 pO ∧ bkR_L2 pO ∧ bkR_L3 pO ∧ bkR_L4 pO ∧ bkR_L5 pO ∧ bkR_L6 pO ∧ bkR_L7 pO ∧ bkR_L8 pO ∧ bkR_L9 pO ∧ True) := by kernel_rfl
theorem bkR_tieX : (bkC pX).goals (cfgB (bkC pX).base (cons pX)) [] 2000 = (bkR_L0 pX ∧ bkR_L1 pX ∧ bkR_L2 pX ∧ bkR_L3 pX ∧ bkR_L4 pX ∧ bkR_L5 pX ∧ bkR_L6 pX ∧ bkR_L7 pX ∧ bkR_L8 pX ∧ bkR_L9 pX ∧ True) := by kernel_rfl
theorem bkR_L0_ok {p : Par} (hp : Good p) : bkR_L0 p := by
  intro σ; intros
  have g1 := hp.hF; have g2 := hp.hH; have g3 := hp.h0; have g4 := hp.hL
  obtain ⟨x, x1, x2, ht⟩ : ∃ x : Int, -p.H ≤ x ∧ x ≤ p.H ∧ tl (σ 11) = dg p.kn (enc p x) := (by have h := ‹bkRPre p _›; exact h)
  obtain ⟨l1, l2, l3⟩ := enc_lt hp x1 x2
  have dl := dg_lenK hp.k2 10 (enc p x) (by decide) l2
  have lw := low_dg (N := enc p x) hp.k2 (Nat.le_trans hp.k16 (by decide))
  have lw2 : ∀ c ∈ tl (σ 11), c.toNat < 128 := fun c hc => by rw [ht] at hc; have := lw c hc; omega
  have n_ := ‹¬ vldRPre _›
  exact n_ (vld_pre (by rw [ht]; omega))
theorem bkR_L1_ok {p : Par} (hp : Good p) : bkR_L1 p := by
  intro σ; intros
  have g1 := hp.hF; have g2 := hp.hH; have g3 := hp.h0; have g4 := hp.hL
  obtain ⟨x, x1, x2, ht⟩ : ∃ x : Int, -p.H ≤ x ∧ x ≤ p.H ∧ tl (σ 11) = dg p.kn (enc p x) := (by have h := ‹bkRPre p _›; exact h)
  obtain ⟨l1, l2, l3⟩ := enc_lt hp x1 x2
  have dl := dg_lenK hp.k2 10 (enc p x) (by decide) l2
  have lw := low_dg (N := enc p x) hp.k2 (Nat.le_trans hp.k16 (by decide))
  have lw2 : ∀ c ∈ tl (σ 11), c.toNat < 128 := fun c hc => by rw [ht] at hc; have := lw c hc; omega
  have hq := ‹iv (σ 15) = ((tv (σ 11)).size : Nat)›
  rw [← tl_len, ht] at hq
  omega
theorem bkR_L2_ok {p : Par} (hp : Good p) : bkR_L2 p := by
  intro σ; intros
  have g1 := hp.hF; have g2 := hp.hH; have g3 := hp.h0; have g4 := hp.hL
  obtain ⟨x, x1, x2, ht⟩ : ∃ x : Int, -p.H ≤ x ∧ x ≤ p.H ∧ tl (σ 11) = dg p.kn (enc p x) := (by have h := ‹bkRPre p _›; exact h)
  obtain ⟨l1, l2, l3⟩ := enc_lt hp x1 x2
  have dl := dg_lenK hp.k2 10 (enc p x) (by decide) l2
  have lw := low_dg (N := enc p x) hp.k2 (Nat.le_trans hp.k16 (by decide))
  have lw2 : ∀ c ∈ tl (σ 11), c.toNat < 128 := fun c hc => by rw [ht] at hc; have := lw c hc; omega
  have hr0 := ‹dgtR p _›
  have hr : iv (σ 19) = x := hr0 x x1 x2 ht
  have hf := ‹fv (σ 20) = nE (iv (σ 19))›
  rw [hr] at hf
  have fin := near_fin (x := x) (by omega) (by omega)
  have ab := abs_x (x := σ 20) (a := σ 23) (b := σ 24) (r := σ 25) ‹_› ‹_› ‹_› ‹_› ‹_›
  have c := ‹ford (fv (σ 25)) 9218868437227405311 = some .gt›
  rw [ab, hf] at c
  exact ford_big fin c
theorem bkR_L3_ok {p : Par} (hp : Good p) : bkR_L3 p := by
  intro σ; intros
  have g1 := hp.hF; have g2 := hp.hH; have g3 := hp.h0; have g4 := hp.hL
  obtain ⟨x, x1, x2, ht⟩ : ∃ x : Int, -p.H ≤ x ∧ x ≤ p.H ∧ tl (σ 11) = dg p.kn (enc p x) := (by have h := ‹bkRPre p _›; exact h)
  obtain ⟨l1, l2, l3⟩ := enc_lt hp x1 x2
  have dl := dg_lenK hp.k2 10 (enc p x) (by decide) l2
  have lw := low_dg (N := enc p x) hp.k2 (Nat.le_trans hp.k16 (by decide))
  have lw2 : ∀ c ∈ tl (σ 11), c.toNat < 128 := fun c hc => by rw [ht] at hc; have := lw c hc; omega
  have hr0 := ‹dgtR p _›
  have hr : iv (σ 19) = x := hr0 x x1 x2 ht
  have hf := ‹fv (σ 20) = nE (iv (σ 19))›
  rw [hr] at hf
  have fin := near_fin (x := x) (by omega) (by omega)
  intro y y1 y2 ty
  have ty : tl (σ 11) = dg p.kn (enc p y) := ty
  have q := dg_enc hp x1 x2 y1 y2 (ht.symm.trans ty)
  rw [← q]
  have z := ‹ford (fv (σ 20)) 0 = some .eq›
  rw [hf] at z
  show (0 : Nat) = nE x
  rw [near_nought (by omega) (by omega) z]
  exact near_zero.symm
theorem bkR_L4_ok {p : Par} (hp : Good p) : bkR_L4 p := by
  intro σ; intros
  have g1 := hp.hF; have g2 := hp.hH; have g3 := hp.h0; have g4 := hp.hL
  obtain ⟨x, x1, x2, ht⟩ : ∃ x : Int, -p.H ≤ x ∧ x ≤ p.H ∧ tl (σ 11) = dg p.kn (enc p x) := (by have h := ‹bkRPre p _›; exact h)
  obtain ⟨l1, l2, l3⟩ := enc_lt hp x1 x2
  have dl := dg_lenK hp.k2 10 (enc p x) (by decide) l2
  have lw := low_dg (N := enc p x) hp.k2 (Nat.le_trans hp.k16 (by decide))
  have lw2 : ∀ c ∈ tl (σ 11), c.toNat < 128 := fun c hc => by rw [ht] at hc; have := lw c hc; omega
  have hr0 := ‹dgtR p _›
  have hr : iv (σ 19) = x := hr0 x x1 x2 ht
  have hf := ‹fv (σ 20) = nE (iv (σ 19))›
  rw [hr] at hf
  have fin := near_fin (x := x) (by omega) (by omega)
  intro y y1 y2 ty
  have ty : tl (σ 11) = dg p.kn (enc p y) := ty
  have q := dg_enc hp x1 x2 y1 y2 (ht.symm.trans ty)
  rw [← q]
  exact hf
theorem bkR_L5_ok {p : Par} (hp : Good p) : bkR_L5 p := by
  intro σ; intros
  have g1 := hp.hF; have g2 := hp.hH; have g3 := hp.h0; have g4 := hp.hL
  obtain ⟨x, x1, x2, ht⟩ : ∃ x : Int, -p.H ≤ x ∧ x ≤ p.H ∧ tl (σ 11) = dg p.kn (enc p x) := (by have h := ‹bkRPre p _›; exact h)
  obtain ⟨l1, l2, l3⟩ := enc_lt hp x1 x2
  have dl := dg_lenK hp.k2 10 (enc p x) (by decide) l2
  have lw := low_dg (N := enc p x) hp.k2 (Nat.le_trans hp.k16 (by decide))
  have lw2 : ∀ c ∈ tl (σ 11), c.toNat < 128 := fun c hc => by rw [ht] at hc; have := lw c hc; omega
  have hr0 := ‹dgtR p _›
  have hr : iv (σ 19) = x := hr0 x x1 x2 ht
  have hf := ‹fv (σ 20) = nE (iv (σ 19))›
  rw [hr] at hf
  have fin := near_fin (x := x) (by omega) (by omega)
  have c := ‹ford (fv (σ 20)) (fv (σ 20)) ≠ some .eq›
  rw [hf] at c
  exact c (ford_self fin)
theorem bkR_L6_ok {p : Par} (hp : Good p) : bkR_L6 p := by
  intro σ; intros
  have g1 := hp.hF; have g2 := hp.hH; have g3 := hp.h0; have g4 := hp.hL
  obtain ⟨x, x1, x2, ht⟩ : ∃ x : Int, -p.H ≤ x ∧ x ≤ p.H ∧ tl (σ 11) = dg p.kn (enc p x) := (by have h := ‹bkRPre p _›; exact h)
  obtain ⟨l1, l2, l3⟩ := enc_lt hp x1 x2
  have dl := dg_lenK hp.k2 10 (enc p x) (by decide) l2
  have lw := low_dg (N := enc p x) hp.k2 (Nat.le_trans hp.k16 (by decide))
  have lw2 : ∀ c ∈ tl (σ 11), c.toNat < 128 := fun c hc => by rw [ht] at hc; have := lw c hc; omega
  have n_ := ‹¬ dgtRPre p _›
  exact n_ ⟨x, x1, x2, ht⟩
theorem bkR_L7_ok {p : Par} (hp : Good p) : bkR_L7 p := by
  intro σ; intros
  have g1 := hp.hF; have g2 := hp.hH; have g3 := hp.h0; have g4 := hp.hL
  obtain ⟨x, x1, x2, ht⟩ : ∃ x : Int, -p.H ≤ x ∧ x ≤ p.H ∧ tl (σ 11) = dg p.kn (enc p x) := (by have h := ‹bkRPre p _›; exact h)
  obtain ⟨l1, l2, l3⟩ := enc_lt hp x1 x2
  have dl := dg_lenK hp.k2 10 (enc p x) (by decide) l2
  have lw := low_dg (N := enc p x) hp.k2 (Nat.le_trans hp.k16 (by decide))
  have lw2 : ∀ c ∈ tl (σ 11), c.toNat < 128 := fun c hc => by rw [ht] at hc; have := lw c hc; omega
  have v := ‹vldR [σ 11,σ 18]›
  exact vld_low v lw2 ‹bv (σ 18) = false›
theorem bkR_L8_ok {p : Par} (hp : Good p) : bkR_L8 p := by
  intro σ; intros
  have g1 := hp.hF; have g2 := hp.hH; have g3 := hp.h0; have g4 := hp.hL
  obtain ⟨x, x1, x2, ht⟩ : ∃ x : Int, -p.H ≤ x ∧ x ≤ p.H ∧ tl (σ 11) = dg p.kn (enc p x) := (by have h := ‹bkRPre p _›; exact h)
  obtain ⟨l1, l2, l3⟩ := enc_lt hp x1 x2
  have dl := dg_lenK hp.k2 10 (enc p x) (by decide) l2
  have lw := low_dg (N := enc p x) hp.k2 (Nat.le_trans hp.k16 (by decide))
  have lw2 : ∀ c ∈ tl (σ 11), c.toNat < 128 := fun c hc => by rw [ht] at hc; have := lw c hc; omega
  have n_ := ‹¬ vldRPre _›
  exact n_ (vld_pre (by rw [ht]; omega))
theorem bkR_L9_ok {p : Par} (hp : Good p) : bkR_L9 p := by
  intro σ; intros
  have g1 := hp.hF; have g2 := hp.hH; have g3 := hp.h0; have g4 := hp.hL
  obtain ⟨x, x1, x2, ht⟩ : ∃ x : Int, -p.H ≤ x ∧ x ≤ p.H ∧ tl (σ 11) = dg p.kn (enc p x) := (by have h := ‹bkRPre p _›; exact h)
  obtain ⟨l1, l2, l3⟩ := enc_lt hp x1 x2
  have dl := dg_lenK hp.k2 10 (enc p x) (by decide) l2
  have lw := low_dg (N := enc p x) hp.k2 (Nat.le_trans hp.k16 (by decide))
  have lw2 : ∀ c ∈ tl (σ 11), c.toNat < 128 := fun c hc => by rw [ht] at hc; have := lw c hc; omega
  have v := ‹vldR [σ 11,σ 14]›
  exact vld_low v lw2 ‹bv (σ 14) = false›
theorem bk_okB : (bkC pB).ok Tryz.prog Tabs := by_tie bkR_tieB (by kernel_rfl) (cons_okB) ⟨bkR_L0_ok goodB, bkR_L1_ok goodB, bkR_L2_ok goodB, bkR_L3_ok goodB, bkR_L4_ok goodB, bkR_L5_ok goodB, bkR_L6_ok goodB, bkR_L7_ok goodB, bkR_L8_ok goodB, bkR_L9_ok goodB, trivial⟩
theorem bk_okO : (bkC pO).ok Tryz.prog Tabs := by_tie bkR_tieO (by kernel_rfl) (cons_okO) ⟨bkR_L0_ok goodO, bkR_L1_ok goodO, bkR_L2_ok goodO, bkR_L3_ok goodO, bkR_L4_ok goodO, bkR_L5_ok goodO, bkR_L6_ok goodO, bkR_L7_ok goodO, bkR_L8_ok goodO, bkR_L9_ok goodO, trivial⟩
theorem bk_okX : (bkC pX).ok Tryz.prog Tabs := by_tie bkR_tieX (by kernel_rfl) (cons_okX) ⟨bkR_L0_ok goodX, bkR_L1_ok goodX, bkR_L2_ok goodX, bkR_L3_ok goodX, bkR_L4_ok goodX, bkR_L5_ok goodX, bkR_L6_ok goodX, bkR_L7_ok goodX, bkR_L8_ok goodX, bkR_L9_ok goodX, trivial⟩
end Go.Proofs.Bs
