/- Conversions, nil, functions, interfaces; the operations all together. -/
import Derived.Test.YtlpbimookmhjbaaGreatDoorEvRest
namespace Go.Ev
open Go.RowKit (Below)

section
variable {B G : Nat} {w0 : Start} {E : Env} {S : St} {w : World} {P : Program}

/-! ### Bytes and strings -/
def isU8 : Option TypeDesc → Bool
  | some (.int .u8) => true
  | _ => false

theorem isU8_eq {d : Option TypeDesc} (h : isU8 d = true) : d = some (.int .u8) := by
  unfold isU8 at h; split at h
  · rfl
  · cases h

def byteOf : SV → Option UInt8
  | .val (.int .u8 (.ofNat n)) => some (UInt8.ofNat n)
  | _ => none

def bytesOf : List SV → Option (List UInt8)
  | [] => some []
  | x :: r => match byteOf x, bytesOf r with
    | some b, some l => some (b :: l)
    | _, _ => none

theorem bytes_loop {xs : List SV} {l : List Value} {bs : List UInt8} (h : bytesOf xs = some bs) (hl : SV.denL E xs = some l) (w : World) : ∀ s : ByteArray,
    ((forIn (m := Sem) l s fun c s => do
      match c with
      | .int .u8 n => pure (.yield (s.push (UInt8.ofNat n.toNat)))
      | _ => do
        stuck "bytesToString: byte expected"
        pure (.yield s)) : Sem ByteArray).run P w = .ok ⟨(s.data.toList ++ bs).toArray⟩ w := by
  induction xs generalizing l bs with
  | nil =>
    intro s
    simp only [SV.denL, Option.some.injEq] at hl; subst hl
    simp only [bytesOf, Option.some.injEq] at h; subst h
    simp
  | cons x r ih =>
    intro s
    obtain ⟨v, l', h1, h2, rfl⟩ := denL_cons hl
    simp only [bytesOf] at h
    split at h
    · rename_i b bl hb hbl
      simp only [Option.some.injEq] at h; subst h
      unfold byteOf at hb
      split at hb
      · rename_i n
        simp only [Option.some.injEq] at hb; subst hb
        simp only [SV.den, Option.some.injEq] at h1; subst h1
        rw [List.forIn_cons]
        simp only [Sem.run_bind, Sem.run_pure, Result.andThen_ok]
        rw [ih hbl h2]
        congr 2
        apply Array.ext'
        simp [ByteArray.push]
      · cases hb
    · cases h

def evConvert (P : Program) (S : St) (src dst : TypeId) (x : SV) : Option (SV × St) :=
  match P.underlying src, P.underlying dst, x with
  | some .string, some (.slice e), .val (.string s) =>
    bif isU8 (P.underlying e) && Nat.ble s.size 4611686018427387904 then
      some (.slice S.next 0 s.size (.v S.ncap), newGrownS S e ((bytesL s).map .val) 1 s.size)
    else none
  | some (.slice e), some .string, .slice id off len _ =>
    bif isU8 (P.underlying e) then
      match find id S.heap with
      | some (.row cs _ _ _) => bif Nat.ble (off + len) cs.length then
          match bytesOf ((cs.drop off).take len) with
          | some bs => some (.val (.string ⟨bs.toArray⟩), S)
          | none => none
        else none
      | _ => none
    else none
  | some (.slice e), some .string, .val (.slice none _ _) => bif isU8 (P.underlying e) then some (.val (.string .empty), S) else none
  | _, _, _ => none

theorem evConvert_ok (hr : Rel B G w0 E S w) {src dst : TypeId} {x sv : SV} {S' : St} {vx : Value} (h : evConvert P S src dst x = some (sv, S')) (hx : x.den E = some vx) :
    Does B G w0 P E sv S' (convert src dst vx) w := by
  unfold evConvert at h
  split at h
  · rename_i e s hs hd
    cases hok : isU8 (P.underlying e) && Nat.ble s.size 4611686018427387904 with
    | false => rw [hok] at h; cases h
    | true =>
      rw [hok] at h
      simp only [cond_true, Option.some.injEq, Prod.mk.injEq] at h
      obtain ⟨rfl, rfl⟩ := h
      simp only [Bool.and_eq_true] at hok
      have hu := isU8_eq hok.1
      simp only [SV.den, Option.some.injEq] at hx; subst hx
      obtain ⟨c, hc1, hc2⟩ : ∃ c, s.size ≤ c ∧ c = (Question.appendCap s.size 0 e).cut (w.tape w.drawn (.appendCap s.size 0 e)) := ⟨_, by simp [Question.cut], rfl⟩
      have hsz : s.data.size = s.size := rfl
      have hlen : (bytesL s).length = s.size := by simp [bytesL, hsz]
      obtain ⟨k1, k2⟩ := newCap_ok hr (low := s.size) (n := c) hc1
      have hle := (E.cap S.ncap c).place_le w.heap.size (k2.newρ S.next (Nat.le_refl _))
      obtain ⟨h1, h2⟩ := k2.pushed (o := .row ((bytesL s).map .val) e true (some (S.ncap, 1))) (x := .cells (bytesL s ++ List.replicate (c - s.size) (Value.int .u8 0)).toArray e (c, c + 1))
        (w' := { w with drawn := w.drawn + 1, heap := w.heap.push (.cells (bytesL s ++ List.replicate (c - s.size) (Value.int .u8 0)).toArray e (c, c + 1)) }) rfl rfl rfl rfl
        ⟨_, List.replicate (c - s.size) (Value.int .u8 0), c, (c, c + 1), denL_vals _, hle.κ _ _ (Env.cap_self E _ c), by simp [hlen]; omega, rfl, fun _ i hi => by
          simp [hlen] at hi ⊢; omega⟩
      refine ⟨_, .slice (some ⟨w.heap.size, 0, none⟩) s.size c, _, Env.le_trans k1 h1, h2, ?_, ?_⟩
      · have p1 := Env.place_self (E.cap S.ncap c) S.next w.heap.size
        have p2 := hle.κ _ _ (Env.cap_self E S.ncap c)
        simp only [SV.den, Cap.den]
        rw [show (newCapS S s.size).next = S.next from rfl, p1, p2]
      · simp only [convert, Sem.run_bind, run_underlying hs, run_underlying hd, run_underlying hu, Result.andThen_ok, Conv.stringToBytes, run_choose, Question.forced, Bool.false_eq_true, if_false, ← hc2, newRow, run_newObj, Sem.run_pure, markStringish, run_shape]
        have hsh : ({ w with drawn := w.drawn + 1, heap := w.heap.push (.cells (Array.map (fun b => Value.int IntKind.u8 (b.toNat : Int)) s.data ++ Array.replicate (c - s.size) (Value.int .u8 0)) e) } : World).shape? w.heap.size = some (e, c) := by
          simp [World.shape?, hsz]; omega
        simp only [hsh, run_freeze, Result.andThen_ok]
        congr 1
        simp only [World.freeze, Nat.one_ne_zero, if_false]
        congr 1
        have : (Array.map (fun b => Value.int IntKind.u8 (b.toNat : Int)) s.data ++ Array.replicate (c - s.size) (Value.int .u8 0)) = (bytesL s ++ List.replicate (c - s.size) (Value.int .u8 0)).toArray := by
          apply Array.ext'; simp [bytesL]
        rw [this]
        apply Array.ext_getElem?
        intro i
        simp only [Array.getElem?_modify, Array.getElem?_push]
        by_cases hi : w.heap.size = i
        · subst hi; simp
        · have hi' : ¬ i = w.heap.size := fun e => hi e.symm
          simp [hi, hi']
  · rename_i e id off len cp hs hd
    cases hu : isU8 (P.underlying e) with
    | false => rw [hu] at h; cases h
    | true =>
      rw [hu] at h
      simp only [cond_true] at h
      have hu := isU8_eq hu
      split at h
      · rename_i cs e' wr ext hf
        cases hle : Nat.ble (off + len) cs.length with
        | false => rw [hle] at h; cases h
        | true =>
          rw [hle] at h
          simp only [cond_true] at h
          split at h
          · rename_i bs hbs
            simp only [Option.some.injEq, Prod.mk.injEq] at h
            obtain ⟨rfl, rfl⟩ := h
            have hle := Nat.le_of_ble_eq_true hle
            obtain ⟨b, m, hb, -, rfl⟩ := slice_den hx
            obtain ⟨l, r, fz, hh, hl, -, -, -⟩ := row_at hr hf hb
            have hlen := denL_length hl
            have hrun := loads_run (P := P) hh (off := off) (n := len) (by simp; omega)
            rw [show ((l ++ r).drop off).take len = (l.drop off).take len by rw [List.drop_append_of_le_length (by omega), List.take_append_of_le_length (by simp; omega)]] at hrun
            have hloop := bytes_loop (P := P) hbs (denL_take len (denL_drop off hl)) w .empty
            refine .here hr (v := .string ⟨bs.toArray⟩) (by simp only [SV.den]) ?_
            simp only [convert, Sem.run_bind, run_underlying hs, run_underlying hd, run_underlying hu, Result.andThen_ok, Conv.bytesToString, hrun, List.forIn_toArray]
            refine (congrArg (fun r => Result.andThen r _) hloop).trans ?_
            simp
          · cases h
      · cases h
  · rename_i e len c hs hd
    cases hu : isU8 (P.underlying e) with
    | false => rw [hu] at h; cases h
    | true =>
      rw [hu] at h
      simp only [cond_true, Option.some.injEq, Prod.mk.injEq] at h
      obtain ⟨rfl, rfl⟩ := h
      have hu := isU8_eq hu
      simp only [SV.den, Option.some.injEq] at hx; subst hx
      refine .here hr (v := .string .empty) (by simp only [SV.den]) ?_
      simp only [convert, Sem.run_bind, run_underlying hs, run_underlying hd, run_underlying hu, Result.andThen_ok, Conv.bytesToString, Sem.run_pure]
  · cases h

/-! ### Against nil -/
def nilAns (P : Program) (t : TypeId) (x y : SV) : Bool :=
  match P.underlying t, x, y with
  | some (.pointer _), .ptr _ _, .val (.pointer none) => true
  | some (.pointer _), .val (.pointer none), .ptr _ _ => true
  | some (.slice _), .slice _ _ _ _, .val (.slice none _ _) => true
  | some (.slice _), .val (.slice none _ _), .slice _ _ _ _ => true
  | some (.map _ _), .map _, .val (.map none) => true
  | some (.map _ _), .val (.map none), .map _ => true
  | some (.func _ _ _), .func _ _ _, .val .nilFunc => true
  | some (.func _ _ _), .val .nilFunc, .func _ _ _ => true
  | some (.interface _), .iface _ _, .val .nilIface => true
  | some (.interface _), .val .nilIface, .iface _ _ => true
  | _, _, _ => false

def evNil (P : Program) (op : BinOp) (t : TypeId) (x y : SV) : Option SV :=
  bif nilAns P t x y then
    match op with
    | .eql => some (.val (.bool false))
    | .neq => some (.val (.bool true))
    | _ => none
  else none

theorem func_den {fn : Fn} {a b : List SV} {v : Value} (h : (SV.func fn a b).den E = some v) : ∃ x y, v = .func fn x y := by
  simp only [SV.den] at h; split at h
  · simp only [Option.some.injEq] at h; exact ⟨_, _, h.symm⟩
  · cases h

theorem iface_den {t : TypeId} {x : SV} {v : Value} (h : (SV.iface t x).den E = some v) : ∃ u, x.den E = some u ∧ v = .iface t u := by
  simp only [SV.den] at h; split at h
  · rename_i u hu; simp only [Option.some.injEq] at h; exact ⟨u, hu, h.symm⟩
  · cases h

theorem eqIn_ptrL (d : Nat) {t : TypeId} {e : TypeId} (a : Addr) (hu : P.underlying t = some (TypeDesc.pointer e)) (w : World) : (Op.equalIn (d + 1) t (.pointer (some a)) (.pointer none)).run P w = .ok false w := by simp [Op.equalIn, run_underlying hu]
theorem eqIn_ptrR (d : Nat) {t : TypeId} {e : TypeId} (a : Addr) (hu : P.underlying t = some (TypeDesc.pointer e)) (w : World) : (Op.equalIn (d + 1) t (.pointer none) (.pointer (some a))).run P w = .ok false w := by simp [Op.equalIn, run_underlying hu]
theorem eqIn_sliceL (d : Nat) {t : TypeId} {e : TypeId} (a : Addr) (n c m k : Nat) (hu : P.underlying t = some (TypeDesc.slice e)) (w : World) : (Op.equalIn (d + 1) t (.slice (some a) n c) (.slice none m k)).run P w = .ok false w := by simp [Op.equalIn, run_underlying hu]
theorem eqIn_sliceR (d : Nat) {t : TypeId} {e : TypeId} (a : Addr) (n c m k : Nat) (hu : P.underlying t = some (TypeDesc.slice e)) (w : World) : (Op.equalIn (d + 1) t (.slice none m k) (.slice (some a) n c)).run P w = .ok false w := by simp [Op.equalIn, run_underlying hu]
theorem eqIn_mapL (d : Nat) {t : TypeId} {q e : TypeId} (a : Nat) (hu : P.underlying t = some (TypeDesc.map q e)) (w : World) : (Op.equalIn (d + 1) t (.map (some a)) (.map none)).run P w = .ok false w := by simp [Op.equalIn, run_underlying hu]
theorem eqIn_mapR (d : Nat) {t : TypeId} {q e : TypeId} (a : Nat) (hu : P.underlying t = some (TypeDesc.map q e)) (w : World) : (Op.equalIn (d + 1) t (.map none) (.map (some a))).run P w = .ok false w := by simp [Op.equalIn, run_underlying hu]
theorem eqIn_funcL (d : Nat) {t : TypeId} {q r : Array TypeId} {z : Bool} (f : Fn) (a b : Array Value) (hu : P.underlying t = some (TypeDesc.func q r z)) (w : World) : (Op.equalIn (d + 1) t (.func f a b) .nilFunc).run P w = .ok false w := by simp [Op.equalIn, run_underlying hu]
theorem eqIn_funcR (d : Nat) {t : TypeId} {q r : Array TypeId} {z : Bool} (f : Fn) (a b : Array Value) (hu : P.underlying t = some (TypeDesc.func q r z)) (w : World) : (Op.equalIn (d + 1) t .nilFunc (.func f a b)).run P w = .ok false w := by simp [Op.equalIn, run_underlying hu]
theorem eqIn_ifaceL (d : Nat) {t : TypeId} {q : Array (String × TypeId)} (u : TypeId) (a : Value) (hu : P.underlying t = some (TypeDesc.interface q)) (w : World) : (Op.equalIn (d + 1) t (.iface u a) .nilIface).run P w = .ok false w := by simp [Op.equalIn, run_underlying hu]
theorem eqIn_ifaceR (d : Nat) {t : TypeId} {q : Array (String × TypeId)} (u : TypeId) (a : Value) (hu : P.underlying t = some (TypeDesc.interface q)) (w : World) : (Op.equalIn (d + 1) t .nilIface (.iface u a)).run P w = .ok false w := by simp [Op.equalIn, run_underlying hu]

theorem nilAns_ok {t : TypeId} {x y : SV} {ox oy : Operand} {vx vy : Value} (h : nilAns P t x y = true) (hx : x.den E = some vx) (hy : y.den E = some vy) :
    (∀ w : World, (Op.equal t vx vy).run P w = .ok false w) ∧ (eqGuard .eql t ox oy vx vy = pure () ∧ eqGuard .neq t ox oy vx vy = pure ()) ∧
    (binOp .eql t vx vy = do pure (.bool (← Op.equal t vx vy))) ∧ (binOp .neq t vx vy = do pure (.bool (!(← Op.equal t vx vy)))) := by
  unfold nilAns at h
  split at h
  · rename_i hu
    obtain ⟨b, _, rfl⟩ := ptr_den hx
    simp only [SV.den, Option.some.injEq] at hy; subst hy
    exact ⟨fun w => eqIn_ptrL 9999 _ hu w, ⟨rfl, rfl⟩, rfl, rfl⟩
  · rename_i hu
    obtain ⟨b, _, rfl⟩ := ptr_den hy
    simp only [SV.den, Option.some.injEq] at hx; subst hx
    exact ⟨fun w => eqIn_ptrR 9999 _ hu w, ⟨rfl, rfl⟩, rfl, rfl⟩
  · rename_i hu
    obtain ⟨b, q, _, _, rfl⟩ := slice_den hx
    simp only [SV.den, Option.some.injEq] at hy; subst hy
    exact ⟨fun w => eqIn_sliceL 9999 _ _ _ _ _ hu w, ⟨rfl, rfl⟩, rfl, rfl⟩
  · rename_i hu
    obtain ⟨b, q, _, _, rfl⟩ := slice_den hy
    simp only [SV.den, Option.some.injEq] at hx; subst hx
    exact ⟨fun w => eqIn_sliceR 9999 _ _ _ _ _ hu w, ⟨rfl, rfl⟩, rfl, rfl⟩
  · rename_i hu
    obtain ⟨b, _, rfl⟩ := map_den hx
    simp only [SV.den, Option.some.injEq] at hy; subst hy
    exact ⟨fun w => eqIn_mapL 9999 _ hu w, ⟨rfl, rfl⟩, rfl, rfl⟩
  · rename_i hu
    obtain ⟨b, _, rfl⟩ := map_den hy
    simp only [SV.den, Option.some.injEq] at hx; subst hx
    exact ⟨fun w => eqIn_mapR 9999 _ hu w, ⟨rfl, rfl⟩, rfl, rfl⟩
  · rename_i hu
    obtain ⟨a, b, rfl⟩ := func_den hx
    simp only [SV.den, Option.some.injEq] at hy; subst hy
    exact ⟨fun w => eqIn_funcL 9999 _ _ _ hu w, ⟨rfl, rfl⟩, rfl, rfl⟩
  · rename_i hu
    obtain ⟨a, b, rfl⟩ := func_den hy
    simp only [SV.den, Option.some.injEq] at hx; subst hx
    exact ⟨fun w => eqIn_funcR 9999 _ _ _ hu w, ⟨rfl, rfl⟩, rfl, rfl⟩
  · rename_i hu
    obtain ⟨a, _, rfl⟩ := iface_den hx
    simp only [SV.den, Option.some.injEq] at hy; subst hy
    exact ⟨fun w => eqIn_ifaceL 9999 _ _ hu w, ⟨rfl, rfl⟩, rfl, rfl⟩
  · rename_i hu
    obtain ⟨a, _, rfl⟩ := iface_den hy
    simp only [SV.den, Option.some.injEq] at hx; subst hx
    exact ⟨fun w => eqIn_ifaceR 9999 _ _ hu w, ⟨rfl, rfl⟩, rfl, rfl⟩
  · cases h

theorem evNil_ok {op : BinOp} {t : TypeId} {x y sv : SV} {ox oy : Operand} {vx vy : Value} (h : evNil P op t x y = some sv) (hx : x.den E = some vx) (hy : y.den E = some vy) :
    Quiet P E sv (do eqGuard op t ox oy vx vy; binOp op t vx vy) := by
  unfold evNil at h
  cases hn : nilAns P t x y with
  | false => rw [hn] at h; cases h
  | true =>
    rw [hn] at h
    simp only [cond_true] at h
    obtain ⟨h1, ⟨h2, h3⟩, h4, h5⟩ := nilAns_ok (P := P) (ox := ox) (oy := oy) hn hx hy
    split at h
    · simp only [Option.some.injEq] at h; subst h
      exact .mk (v := .bool false) (by simp only [SV.den]) fun w => by simp only [h2, h4, Sem.run_bind, Sem.run_pure, Result.andThen_ok, h1]
    · simp only [Option.some.injEq] at h; subst h
      exact .mk (v := .bool true) (by simp only [SV.den]) fun w => by simp only [h3, h5, Sem.run_bind, Sem.run_pure, Result.andThen_ok, h1, Bool.not_false]
    · cases h
end
end Go.Ev
