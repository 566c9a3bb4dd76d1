/- copy, make, len, conversions, nil, functions, interfaces. -/
import Derived.Test.YtlpbimookmhjbaaGreatDoorEvAppend
namespace Go.Ev
open Go.RowKit (Below)

section
variable {B G : Nat} {w0 : Start} {E : Env} {S : St} {w : World} {P : Program}

/-! ### copy -/
def evCopy (P : Program) (G : Nat) (S : St) (t : TypeId) (d x : SV) : Option (SV × St) :=
  match P.underlying t with
  | some (.slice e) => match (P.info? e).map (·.size) with
    | none => none
    | some sz => match srcCells S sz x with
      | none => none
      | some (n, new) => match d with
        | .slice id off dl _ => match find id S.heap with
          | some (.row cs e' true ext) =>
            let k := bif Nat.ble n dl then n else dl
            let new := new.take (k * sz)
            bif Nat.ble G id && (allOne S new && Nat.ble (off + k * sz) cs.length) then
              some (.val (goInt k), { S with heap := upd id (.row (splice off new cs) e' true ext) S.heap })
            else none
          | _ => none
        | .val (.slice none 0 _) => some (.val (goInt 0), S)
        | _ => none
  | _ => none

/-- The first cells of what is copied. -/
theorem srcCells_take (hr : Rel B G w0 E S w) {sz : Nat} {x : SV} {n : Nat} {cs : List SV} {vx : Value} (h : srcCells S sz x = some (n, cs)) (hx : x.den E = some vx) {k : Nat} (hk : k ≤ n) :
    ∃ l, SV.denL E cs = some l ∧ l.length = n * sz ∧ (Builtin.lenOf vx).run P w = .ok n w ∧ (Builtin.firstCells sz k vx).run P w = .ok (l.take (k * sz)).toArray w := by
  obtain ⟨l, h1, h2, h3, h4⟩ := srcCells_ok (P := P) hr h hx
  refine ⟨l, h1, h2, h3 w, ?_⟩
  have hkn : k * sz ≤ n * sz := Nat.mul_le_mul_right _ hk
  unfold srcCells at h
  split at h
  · rename_i id off len c
    split at h
    · rename_i cells e wr ext hf
      cases hle : Nat.ble (off + len * sz) cells.length with
      | false => rw [hle] at h; cases h
      | true =>
        have hle' := Nat.le_of_ble_eq_true hle
        rw [hle] at h
        simp only [cond_true, Option.some.injEq, Prod.mk.injEq] at h
        obtain ⟨rfl, rfl⟩ := h
        obtain ⟨b, m, hb, -, rfl⟩ := slice_den hx
        obtain ⟨l', r, fz, hh, hl, -, -, -⟩ := row_at hr hf hb
        have hlen := denL_length hl
        have hl2 := denL_take (len * sz) (denL_drop off hl)
        rw [h1] at hl2; cases hl2
        have hrun := loads_run (P := P) hh (off := off) (n := k * sz) (by simp; omega)
        have e2 : ((l' ++ r).drop off).take (k * sz) = ((l'.drop off).take (len * sz)).take (k * sz) := by
          rw [List.drop_append_of_le_length (by omega), List.take_append_of_le_length (by simp; omega), List.take_take, Nat.min_eq_left hkn]
        rw [e2] at hrun
        simp only [Builtin.firstCells, hrun]
    · cases h
  · rename_i len c
    cases h0 : Nat.beq len 0 with
    | false => rw [h0] at h; cases h
    | true =>
      rw [h0] at h
      simp only [cond_true, Option.some.injEq, Prod.mk.injEq] at h
      obtain ⟨rfl, rfl⟩ := h
      simp only [SV.denL, Option.some.injEq] at h1; subst h1
      simp only [SV.den, Option.some.injEq] at hx; subst hx
      simp [Builtin.firstCells]
  · rename_i s
    cases h0 : Nat.beq sz 1 with
    | false => rw [h0] at h; cases h
    | true =>
      have h0' := Nat.eq_of_beq_eq_true h0
      rw [h0] at h
      simp only [cond_true, Option.some.injEq, Prod.mk.injEq] at h
      obtain ⟨rfl, rfl⟩ := h
      simp only [SV.den, Option.some.injEq] at hx; subst hx
      rw [denL_vals] at h1; cases h1
      simp only [Builtin.firstCells, Sem.run_pure, bytesL]
      congr 1
      apply Array.ext'
      simp [h0']
  · cases h

theorem evCopy_ok (hr : Rel B G w0 E S w) {t ty xt : TypeId} {d x sv : SV} {S' : St} {vd vx : Value} (h : evCopy P G S t d x = some (sv, S')) (hd : d.den E = some vd) (hx : x.den E = some vx) :
    Does B G w0 P E sv S' (Builtin.copy_ #[t, xt] ty #[vd, vx]) w := by
  unfold evCopy at h
  split at h
  case h_2 => cases h
  rename_i e ht
  split at h
  · cases h
  rename_i sz hsz
  split at h
  · cases h
  rename_i n new hsrc
  split at h
  · rename_i id off dl c
    obtain ⟨b, m, hb, -, rfl⟩ := slice_den hd
    split at h
    · rename_i cs e' ext hf
      obtain ⟨k, hk⟩ : ∃ k, k = (bif Nat.ble n dl then n else dl) := ⟨_, rfl⟩
      simp only [← hk] at h
      have hkmin : k = Nat.min n dl := by
        cases hle : Nat.ble n dl with
        | true => rw [hle] at hk; have := Nat.le_of_ble_eq_true hle; simp at hk; rw [hk]; exact (Nat.min_eq_left this).symm
        | false =>
          rw [hle] at hk
          have : dl ≤ n := by
            rcases Nat.le_total n dl with h' | h'
            · rw [Nat.ble_eq.mpr h'] at hle; cases hle
            · exact h'
          simp at hk; rw [hk]; exact (Nat.min_eq_right this).symm
      have hkn : k ≤ n := by rw [hkmin]; exact Nat.min_le_left _ _
      cases hok : (Nat.ble G id && (allOne S (new.take (k * sz)) && Nat.ble (off + k * sz) cs.length)) with
      | false => rw [hok] at h; cases h
      | true =>
        rw [hok] at h
        simp only [cond_true, Option.some.injEq, Prod.mk.injEq] at h
        obtain ⟨rfl, rfl⟩ := h
        simp only [Bool.and_eq_true] at hok
        obtain ⟨hG, h1, hfit⟩ := hok
        have hfit := Nat.le_of_ble_eq_true hfit
        obtain ⟨ln, hln, hlnl, hlx, hfx⟩ := srcCells_take (P := P) hr hsrc hx hkn
        obtain ⟨l, r, fz, hh, hl, hz, hx0, hx1⟩ := row_at hr hf hb
        have hlen := denL_length hl
        have hlt := denL_take (k * sz) hln
        have hone := allOne_ok hr.env h1 hlt
        have hltl : (ln.take (k * sz)).length = k * sz := by
          have := Nat.mul_le_mul_right sz hkn
          simp; omega
        have hntl : (new.take (k * sz)).length = k * sz := by rw [← denL_length hlt]; exact hltl
        obtain ⟨w', k1, k2, k3, k4, k5, k6, k7⟩ := stores_run (P := P) (off := off) (ln.take (k * sz)) 0 (l ++ r) w hh (hz rfl) (by simp; omega) hone
        simp only [Nat.add_zero] at k2
        have hsp : (l ++ r).take off ++ ln.take (k * sz) ++ (l ++ r).drop (off + (ln.take (k * sz)).length) = (l.take off ++ ln.take (k * sz) ++ l.drop (off + (new.take (k * sz)).length)) ++ r := by
          rw [hltl, hntl, List.take_append_of_le_length (by omega), List.drop_append_of_le_length (by omega)]
          simp
        rw [hsp] at k2
        have hsame : ((l.take off ++ ln.take (k * sz) ++ l.drop (off + (new.take (k * sz)).length)) ++ r).length = (l ++ r).length := by
          rw [hntl]; simp only [List.length_append, List.length_take, List.length_drop] at hltl ⊢; omega
        refine ⟨E, goInt k, w', E.le_refl, hr.wrote hf hb (Nat.le_of_ble_eq_true hG) k3 k4 k2 ?_ k5 k6 k7, by simp only [SV.den], ?_⟩
        · cases ext with
          | none =>
            have := hx0 rfl
            subst this
            exact ⟨_, fz, splice_den hlt hl, by simp, fun _ => by
              have := hz rfl
              rw [← hsame] at this
              simpa using this⟩
          | some p =>
            obtain ⟨i, u⟩ := p
            obtain ⟨q, hq, hqu⟩ := hx1 i u rfl
            exact ⟨_, r, q, fz, splice_den hlt hl, hq, by rw [hsame]; exact hqu, rfl, fun _ => by rw [hsame]; exact hz rfl⟩
        · simp only [Builtin.copy_, List.getElem?_toArray, List.getElem?_cons_zero, List.getElem?_cons_succ, Sem.run_bind, run_underlying ht, Result.andThen_ok, hlx, ← hkmin, run_sizeOf' hsz, hfx, k1, Sem.run_pure]
    · cases h
  · rename_i c
    simp only [Option.some.injEq, Prod.mk.injEq] at h
    obtain ⟨rfl, rfl⟩ := h
    simp only [SV.den, Option.some.injEq] at hd; subst hd
    obtain ⟨ln, hln, hlnl, hlx, hfx⟩ := srcCells_take (P := P) hr hsrc hx (Nat.zero_le _)
    refine .here hr (v := goInt 0) (by simp only [SV.den]) ?_
    have : Nat.min n 0 = 0 := Nat.min_zero n
    simp only [Builtin.copy_, List.getElem?_toArray, List.getElem?_cons_zero, List.getElem?_cons_succ, Sem.run_bind, run_underlying ht, Result.andThen_ok, hlx, this, run_sizeOf' hsz, hfx, Sem.run_pure]
    rfl
  · cases h

/-! ### len of a slice, of a map -/
def evLen (P : Program) (S : St) (t : TypeId) (x : SV) : Option SV :=
  match P.underlying t, x with
  | some (.slice _), .slice _ _ len _ => some (.val (goInt len))
  | some (.map _ _), .map id => match find id S.heap with
    | some (.map es _) => some (.val (goInt es.length))
    | _ => none
  | some (.array n _), _ => some (.val (goInt n))
  | _, _ => none

theorem map_den {id : Nat} {v : Value} (h : (SV.map id).den E = some v) : ∃ b, E.ρ id = some b ∧ v = .map (some b) := by
  simp only [SV.den] at h
  split at h
  · rename_i b hb; simp only [Option.some.injEq] at h; exact ⟨b, hb, h.symm⟩
  · cases h

theorem map_at (h : Rel B G w0 E S w) {id b : Nat} {es : List (SV × SV × Nat)} {clock : Nat} (hf : find id S.heap = some (.map es clock)) (hb : E.ρ id = some b) :
    ∃ l : List MapEntry, w.heap[b]? = some (.map l.toArray clock) ∧ MRel E es l := by
  obtain ⟨b', x, h1, h2, l, rfl, h3⟩ := h.heap id _ hf
  rw [hb] at h1; cases h1
  exact ⟨l, h2, h3⟩

theorem MRel.length : ∀ {xs : List (SV × SV × Nat)} {ms : List MapEntry}, MRel E xs ms → ms.length = xs.length
  | [], [], _ => rfl
  | _ :: _, _ :: _, ⟨_, _, _, d⟩ => by simp [MRel.length d]
  | [], _ :: _, k => k.elim
  | _ :: _, [], k => k.elim

theorem run_getObj_map {b : Nat} {l : Array MapEntry} {c : Nat} (h : w.heap[b]? = some (.map l c)) : (getObj b).run P w = .ok (.map l c) w := by
  simp only [getObj, Sem.run, h]

theorem evLen_ok (hr : Rel B G w0 E S w) {t ty : TypeId} {x sv : SV} {vx : Value} (h : evLen P S t x = some sv) (hx : x.den E = some vx) : Does B G w0 P E sv S (Builtin.len_ #[t] ty #[vx]) w := by
  unfold evLen at h
  split at h
  · rename_i e id off len c hu
    simp only [Option.some.injEq] at h; subst h
    obtain ⟨b, m, hb, -, rfl⟩ := slice_den hx
    exact .here hr (v := goInt len) (by simp only [SV.den]) (by simp [Builtin.len_, run_underlying hu])
  · rename_i k e id hu
    split at h
    · rename_i es clock hf
      simp only [Option.some.injEq] at h; subst h
      obtain ⟨b, hb, rfl⟩ := map_den hx
      obtain ⟨l, h1, h2⟩ := map_at hr hf hb
      have h2 := h2.length
      refine .here hr (v := goInt es.length) (by simp only [SV.den]) ?_
      simp [Builtin.len_, run_underlying hu, run_getObj_map h1, h2]
    · cases h
  · rename_i _ n _ hu
    simp only [Option.some.injEq] at h; subst h
    exact .here hr (v := goInt n) (by simp only [SV.den]) (by simp [Builtin.len_, run_underlying hu])
  · cases h

/-! ### make of a slice -/
def evMakeSlice (P : Program) (S : St) (t : TypeId) (l c : SV) : Option (SV × St) :=
  match P.underlying t, natOf l, natOf c with
  | some (.slice e), some l, some c => match P.info? e with
    | some inf => match inf.zero with
      | some z =>
        bif Nat.ble l c && (Nat.ble c 4611686018427387904 && Nat.ble (inf.bytes * c) 281474976710656) then
          some (.slice S.next 0 l (.k c), newRowS S e (zerosOf (bif Nat.beq (c * inf.size) 0 then [] else z.cells.toList) (c * inf.size)))
        else none
      | none => none
    | none => none
  | _, _, _ => none

theorem wrap_small {n : Nat} (h : n ≤ 4611686018427387904) : IntKind.i64.wrap (n : Int) = n := by
  have : IntKind.i64.wrap (n : Int) = (((n : Int) + 9223372036854775808) % 18446744073709551616) - 9223372036854775808 := by
    simp [IntKind.wrap, IntKind.signed, IntKind.bits]
    try omega
  omega

theorem evMakeSlice_ok (hr : Rel B G w0 E S w) {t : TypeId} {l c sv : SV} {S' : St} {vl vc : Value} (h : evMakeSlice P S t l c = some (sv, S')) (hl : l.den E = some vl) (hc : c.den E = some vc) :
    Does B G w0 P E sv S' (Instr.makeSlice t vl vc) w := by
  unfold evMakeSlice at h
  split at h
  case h_2 => cases h
  rename_i e nl nc hu hnl hnc
  obtain ⟨k1, rfl⟩ := natOf_ok hnl hl
  obtain ⟨k2, rfl⟩ := natOf_ok hnc hc
  split at h
  · rename_i inf hi
    split at h
    · rename_i z hz
      cases hok : (Nat.ble nl nc && (Nat.ble nc 4611686018427387904 && Nat.ble (inf.bytes * nc) 281474976710656)) with
      | false => rw [hok] at h; cases h
      | true =>
        rw [hok] at h
        simp only [cond_true, Option.some.injEq, Prod.mk.injEq] at h
        obtain ⟨rfl, rfl⟩ := h
        simp only [Bool.and_eq_true] at hok
        have h1 := Nat.le_of_ble_eq_true hok.1
        have h2 := Nat.le_of_ble_eq_true hok.2.1
        have h3 := Nat.le_of_ble_eq_true hok.2.2
        have hsz : (P.info? e).map (·.size) = some inf.size := by rw [hi]; rfl
        have hzz : (P.info? e).bind (·.zero) = some z := by rw [hi]; exact hz
        obtain ⟨zz, hzz1, hzz2, hzz3⟩ : ∃ zz : Array Value, zz.toList = (bif Nat.beq (nc * inf.size) 0 then [] else z.cells.toList) ∧ (nc * inf.size = 0 → zz = #[]) ∧ (¬ nc * inf.size = 0 → zz = z.cells) := by
          by_cases h0 : nc * inf.size = 0
          · exact ⟨#[], by simp [h0], fun _ => rfl, fun h => absurd h0 h⟩
          · refine ⟨z.cells, ?_, fun h => absurd h h0, fun _ => rfl⟩
            have : Nat.beq (nc * inf.size) 0 = false := by rw [← Bool.not_eq_true]; exact fun e => h0 (Nat.eq_of_beq_eq_true e)
            simp [this]
        have hden : SV.denL E (zerosOf (bif Nat.beq (nc * inf.size) 0 then [] else z.cells.toList) (nc * inf.size)) = some ((Array.range (nc * inf.size)).map (fun i => zz[i % zz.size]!)).toList := by
          rw [← hzz1]; exact zerosOf_den zz _
        obtain ⟨F, g1, g2, g3, g4⟩ := newRow_ok (P := P) hr (e := e) hden
        simp only [Array.toArray_toList] at g4
        refine ⟨F, .slice (some ⟨w.heap.size, 0, none⟩) nl nc, _, g1, g3, by simp only [SV.den, g2, Cap.den], ?_⟩
        have w1 := wrap_small h2
        have w2 := wrap_small (n := nl) (by omega)
        have t1 : (decide ((nc : Int) < 0) || decide ((inf.bytes : Int) * (nc : Int) > 2 ^ 48)) = false := by
          have a1 : ((inf.bytes * nc : Nat) : Int) ≤ 281474976710656 := by omega
          rw [Int.natCast_mul] at a1
          rw [Bool.or_eq_false_iff, decide_eq_false_iff_not, decide_eq_false_iff_not]
          exact ⟨by omega, by omega⟩
        have t2 : ¬ ((nl : Int) < 0) := by omega
        have t3 : ¬ ((nl : Int) > (nc : Int)) := by omega
        simp only [Instr.makeSlice, Sem.run_bind, run_underlying hu, Result.andThen_ok, asInt, asIntOf, Sem.run_pure, typeInfo, run_program, hi, w1, w2, t1, Bool.false_or, t2, t3, decide_false, Bool.or_false, Bool.false_eq_true, if_false,
          run_askRoom, run_sizeOf' hsz, Int.toNat_natCast]
        by_cases h0 : nc * inf.size = 0
        · rw [if_pos h0]
          have := hzz2 h0; subst this
          simp only [Sem.run_bind, Sem.run_pure, Result.andThen_ok, g4]
        · rw [if_neg h0]
          have := hzz3 h0; subst this
          simp only [Sem.run_bind, run_zero' hzz, Sem.run_pure, Result.andThen_ok, g4]
    · cases h
  · cases h
end
end Go.Ev
