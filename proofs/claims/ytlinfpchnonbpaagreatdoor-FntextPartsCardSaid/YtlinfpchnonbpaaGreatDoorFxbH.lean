/- Numbers written in a base and read again; Roman digits. -/
import Derived.Lib.Bytealg
import Derived.Lib.Repeat
import Derived.Lib.ValidAsc
import Derived.KernelRfl
import Derived.Test.YtlinfpchnonbpaaGreatDoorProg
import Derived.WalkKit
import Derived.WalkMore
import Derived.Below
import Derived.Deep.LoopGhost
import Derived.Laws.IdiomStrings
import Derived.Test.YtlinfpchnonbpaaGreatDoorFxbLay
import Derived.Test.YtlinfpchnonbpaaGreatDoorEvBool
import Derived.Test.YtlinfpchnonbpaaGreatDoorFMod2
namespace Go.Proofs.Bs
set_option maxRecDepth 1000000
def sgT : List UInt8 := [48, 49, 50, 51, 52, 53, 54, 55, 56, 57, 65, 66, 67, 68, 69, 70, 71, 72, 73, 74, 75, 76, 77, 78, 79, 80, 81, 82, 83, 84, 85, 86, 87, 88, 89, 90]
def sgA (d : Nat) : UInt8 := sgT.getD d 0
def dg (k n : Nat) : List UInt8 := if _h : n < k ∨ k < 2 then [sgA n] else dg k (n / k) ++ [sgA (n % k)]
termination_by n
decreasing_by exact Nat.div_lt_self (by omega) (by omega)
theorem dg_lt {k n : Nat} (h : n < k) : dg k n = [sgA n] := by rw [dg, dif_pos (.inl h)]
theorem dg_ge {k n : Nat} (hk : 2 ≤ k) (h : k ≤ n) : dg k n = dg k (n / k) ++ [sgA (n % k)] := by rw [dg, dif_neg (by omega)]
theorem sgA_ix : ∀ d : Fin 36, sgT.idxOf (sgA d.val) = d.val := by decide
theorem sgA_byte : ∀ d : Fin 36, 48 ≤ (sgA d.val).toNat ∧ (sgA d.val).toNat ≤ 90 := by decide
theorem sgA_find : ((List.range 37).all fun k => (List.range 36).all fun d => !decide (d < k) || Lib.indexByte (sgT.take k) (sgA d) == (d : Int)) = true := by kernel_rfl
theorem find_sgA {k d : Nat} (hk : k ≤ 36) (hd : d < k) : Lib.indexByte (sgT.take k) (sgA d) = (d : Int) := by
  have h := List.all_eq_true.1 (List.all_eq_true.1 sgA_find k (List.mem_range.2 (by omega))) d (List.mem_range.2 (by omega))
  simpa [hd] using h
def dv (k : Nat) (l : List UInt8) : Nat := l.foldl (fun a c => a * k + sgT.idxOf c) 0
theorem dv_snoc (k : Nat) (l : List UInt8) (c : UInt8) : dv k (l ++ [c]) = dv k l * k + sgT.idxOf c := by simp [dv]
theorem dv_dg {k : Nat} (hk : 2 ≤ k) (hk' : k ≤ 36) (n : Nat) : dv k (dg k n) = n := by
  induction n using Nat.strongRecOn with
  | _ n ih =>
    rcases Nat.lt_or_ge n k with h | h
    · rw [dg_lt h]
      have := sgA_ix ⟨n, by omega⟩
      simp only at this
      simp [dv, this]
    · rw [dg_ge hk h, dv_snoc, ih (n / k) (Nat.div_lt_self (by omega) (by omega))]
      have hlt : n % k < k := Nat.mod_lt _ (by omega)
      have := sgA_ix ⟨n % k, by omega⟩
      simp only at this
      rw [this, Nat.mul_comm]
      exact Nat.div_add_mod n k
theorem dg_mem {k : Nat} (hk : 2 ≤ k) (n : Nat) : ∀ c ∈ dg k n, ∃ d, d < k ∧ c = sgA d := by
  induction n using Nat.strongRecOn with
  | _ n ih =>
    intro c hc
    rcases Nat.lt_or_ge n k with h | h
    · rw [dg_lt h, List.mem_singleton] at hc
      exact ⟨n, h, hc⟩
    · rw [dg_ge hk h, List.mem_append, List.mem_singleton] at hc
      rcases hc with hc | hc
      · exact ih _ (Nat.div_lt_self (by omega) (by omega)) c hc
      · exact ⟨n % k, Nat.mod_lt _ (by omega), hc⟩
theorem dg_len {k : Nat} (hk : 2 ≤ k) : ∀ (L n : Nat), 0 < L → n < 2 ^ L → (dg k n).length ≤ L
  | 0, _, h, _ => absurd h (by omega)
  | L + 1, n, _, hn => by
    rcases Nat.lt_or_ge n k with h | h
    · rw [dg_lt h]; simp
    · have h2 : n / k ≤ n / 2 := Nat.div_le_div_left hk (by omega)
      have h3 : n / 2 < 2 ^ L := by rw [Nat.pow_succ] at hn; omega
      have hL : 0 < L := by
        rcases Nat.eq_zero_or_pos L with rfl | h
        · simp at hn; omega
        · exact h
      rw [dg_ge hk h, List.length_append, List.length_singleton]
      have := dg_len hk L (n / k) hL (by omega)
      omega
theorem dg_ne {k : Nat} (hk : 2 ≤ k) (n : Nat) : dg k n ≠ [] := by
  rcases Nat.lt_or_ge n k with h | h
  · rw [dg_lt h]; simp
  · rw [dg_ge hk h]; simp
theorem fold_ge {k : Nat} (hk : 1 ≤ k) : ∀ (l : List UInt8) (a : Nat), a ≤ l.foldl (fun a c => a * k + sgT.idxOf c) a
  | [], a => Nat.le_refl _
  | c :: l, a => by
    have h1 : a * 1 ≤ a * k := Nat.mul_le_mul_left a hk
    have h2 := fold_ge hk l (a * k + sgT.idxOf c)
    simp only [List.foldl_cons]
    omega
theorem dv_take {k : Nat} (hk : 1 ≤ k) (l : List UInt8) (i : Nat) : dv k (l.take i) ≤ dv k l := by
  have h := fold_ge hk (l.drop i) (dv k (l.take i))
  have e : dv k l = (l.drop i).foldl (fun a c => a * k + sgT.idxOf c) (dv k (l.take i)) := by
    unfold dv
    rw [← List.foldl_append, List.take_append_drop]
  omega
theorem dv_take_succ {k : Nat} {l : List UInt8} {i : Nat} {c : UInt8} (h : l[i]? = some c) : dv k (l.take (i + 1)) = dv k (l.take i) * k + sgT.idxOf c := by
  rw [List.take_add_one, h]
  exact dv_snoc k _ c
def Writes (k n x : Nat) (s : List UInt8) : Prop := s.length + x ≤ n + 1 ∧ ((s = [] ∧ x = n) ∨ (s ≠ [] ∧ (x = 0 → s = dg k n) ∧ (x ≠ 0 → dg k x ++ s = dg k n)))
theorem Writes.start (k n : Nat) : Writes k n n [] := ⟨by simp, .inl ⟨rfl, rfl⟩⟩
theorem Writes.step {k n x : Nat} {s : List UInt8} (hk : 2 ≤ k) (h : Writes k n x s) (hc : x ≠ 0 ∨ s = []) : Writes k n (x / k) (sgA (x % k) :: s) := by
  obtain ⟨hl, h⟩ := h
  have hd : x / k ≤ x / 2 := Nat.div_le_div_left hk (by omega)
  refine ⟨?_, .inr ⟨by simp, ?_⟩⟩
  · rcases hc with hc | rfl
    · simp only [List.length_cons]; omega
    · simp only [List.length_cons, List.length_nil] at *; omega
  · rcases h with ⟨rfl, rfl⟩ | ⟨hs, _, h2⟩
    · refine ⟨fun h0 => ?_, fun h0 => ?_⟩
      · have hx : x < k := by rw [Nat.div_eq_zero_iff] at h0; omega
        rw [dg_lt hx, Nat.mod_eq_of_lt hx]
      · have hx : k ≤ x := by
          rcases Nat.lt_or_ge x k with h | h
          · exact absurd (Nat.div_eq_of_lt h) h0
          · exact h
        rw [dg_ge hk hx]
    · have hx0 : x ≠ 0 := by
        rcases hc with hc | hc
        · exact hc
        · exact absurd hc hs
      have h2 := h2 hx0
      refine ⟨fun h0 => ?_, fun h0 => ?_⟩
      · have hx : x < k := by rw [Nat.div_eq_zero_iff] at h0; omega
        rw [← h2, dg_lt hx, Nat.mod_eq_of_lt hx]
        rfl
      · have hx : k ≤ x := by
          rcases Nat.lt_or_ge x k with h | h
          · exact absurd (Nat.div_eq_of_lt h) h0
          · exact h
        rw [← h2, dg_ge hk hx, List.append_assoc]
        rfl
theorem Writes.done {k n x : Nat} {s : List UInt8} (h : Writes k n x s) (h0 : x = 0) (hs : s ≠ []) : s = dg k n := by
  rcases h.2 with ⟨h1, _⟩ | ⟨_, h1, _⟩
  · exact absurd h1 hs
  · exact h1 h0
def rOnes : List (Nat × List UInt8) := [(1000, [77]), (900, [67, 77]), (500, [68]), (400, [67, 68]), (100, [67]), (90, [88, 67]), (50, [76]), (40, [88, 76]), (10, [88]), (9, [73, 88]), (5, [86]), (4, [73, 86]), (1, [73])]
def rStep : List (Nat × List UInt8) → Nat → List UInt8
  | [], _ => []
  | p :: r, n => Lib.repeatL p.2 (n / p.1) ++ rStep r (n % p.1)
def roman (n : Nat) : List UInt8 := rStep rOnes n
def rv (c : UInt8) : Nat := match c.toNat with
  | 77 => 1000 | 68 => 500 | 67 => 100 | 76 => 50 | 88 => 10 | 86 => 5 | 73 => 1 | _ => 0
def unroman : List UInt8 → Nat
  | [] => 0
  | [c] => rv c
  | c :: d :: r => bif Nat.blt (rv c) (rv d) then unroman (d :: r) - rv c else rv c + unroman (d :: r)
theorem roman_all : ((List.range 4000).all fun m => Nat.beq (unroman (roman m)) m && (Nat.ble (roman m).length 20 && (roman m).all fun c => Nat.ble 65 c.toNat && Nat.ble c.toNat 90)) = true := by kernel_rfl
theorem roman_at {m : Nat} (h : m < 4000) : unroman (roman m) = m ∧ (roman m).length ≤ 20 ∧ ∀ c ∈ roman m, 65 ≤ c.toNat ∧ c.toNat ≤ 90 := by
  have h := List.all_eq_true.1 roman_all m (List.mem_range.2 h)
  simp only [Bool.and_eq_true, List.all_eq_true] at h
  exact ⟨Nat.eq_of_beq_eq_true h.1, Nat.le_of_ble_eq_true h.2.1, fun c hc => ⟨Nat.le_of_ble_eq_true (h.2.2 c hc).1, Nat.le_of_ble_eq_true (h.2.2 c hc).2⟩⟩
theorem roman_inj {a b : Nat} (ha : a < 4000) (hb : b < 4000) (h : roman a = roman b) : a = b := by
  rw [← (roman_at ha).1, ← (roman_at hb).1, h]
theorem valid_low {t : ByteArray} (h : ∀ c ∈ t.data.toList, c.toNat < 128) : Lib.validD t.data.toList = true := by
  have ha : Lib.Asc t t.size := fun b hb => h b (List.mem_of_mem_take hb)
  have := Lib.valid_skip t t.size ha
  rw [← this]
  have e : (t.extract t.size t.size).data.toList = [] := by
    rw [Lib.ext_list]
    exact List.drop_of_length_le (by rw [Array.length_toList]; exact Nat.le_refl _)
  rw [e]; rfl
theorem encode_low : ∀ n : Fin 128, Utf8.encode (n.val : Int) = ⟨#[n.val.toUInt8]⟩ := by decide +kernel
end Go.Proofs.Bs
namespace Go.Proofs.Bs
open Go.RowKit
set_option maxRecDepth 1000000
set_option maxHeartbeats 4000000 in
theorem turned_low (s : ByteArray) (hs : s.size ≤ 140737488355328) (hlow : ∀ c ∈ s.data.toList, ¬ (97 ≤ c.toNat ∧ c.toNat ≤ 122)) (w : World) :
    Calls Tryz.prog 94 #[.string s, .int .u8 97, .int .u8 122, .int .i64 (-32)] w fun e w' => e = .returned (.string s) ∧ Below w.heap.size w w' := by
  have mixed : Tryz.prog.follows .mixedOrders = true := by kernel_rfl
  have hcv := fun w => run_bytes_of_string (P := Tryz.prog) w 9 97 5 s Tryz.underlying9 Tryz.underlying97 Tryz.underlying5
  go_enter Tryz.func94, Tryz.ntmps94
  go_wp2_with fail
  generalize grownCap w s.size 0 5 = cap at *
  obtain ⟨W, hW⟩ : ∃ W, (w.alloc (Obj.cells (bytesRow s cap) 5 ((bytesRow s cap).size, (bytesRow s cap).size + 1))).drew = W := ⟨_, rfl⟩
  have hcell : ∀ (j : Nat) (hj : j < s.data.size), W.cell? ⟨w.heap.size, j, none⟩ = some (.int .u8 (s.data[j].toNat : Int)) := fun j hj => by
    rw [← hW]
    have := World.cell?_alloc_mark w (bytesRow s cap) 5 ((bytesRow s cap).size, (bytesRow s cap).size + 1) j
    exact this.trans (bytesRow_at s cap j hj)
  have hbel : Below w.heap.size w W := by rw [← hW]; exact ((Below.refl _ w).alloc (Nat.le_refl _) _).drew
  rw [hW]
  go_loopg [10, 11, 16] (s.size + 1) (fun gk s10 s11 s16 wx => wx = W ∧ ∃ k : Nat, s16 = .int .i64 k ∧ k ≤ s.size ∧ s.size - k < gk)
  case atStart => exact ⟨rfl, 0, rfl, by omega, by omega⟩
  case round =>
    obtain ⟨hwr, k, rfl, hk, hg⟩ := hrel
    subst hwr
    by_cases hlt : k < s.size
    · have hltz : (k : Int) < (s.size : Int) := by omega
      obtain ⟨g', rfl⟩ : ∃ g', gk = g' + 1 := ⟨gk - 1, by omega⟩
      have hc := hcell k hlt
      have hl := hlow (s.data[k]'hlt) (by simp)
      obtain ⟨x, hx⟩ : ∃ x, (s.data[k]'hlt).toNat = x := ⟨_, rfl⟩
      rw [hx] at hc hl
      by_cases h1 : 97 ≤ x
      · have h1z : (97 : Int) ≤ (x : Int) := by omega
        have h2z : ¬ ((x : Int) ≤ 122) := by omega
        go_wp2
        go_roundg g'
        case measure => omega
        case rel => exact ⟨rfl, k + 1, by rw [Int.natCast_add]; rfl, by omega, by omega⟩
      · have h1z : ¬ ((97 : Int) ≤ (x : Int)) := by omega
        go_wp2
        go_roundg g'
        case measure => omega
        case rel => exact ⟨rfl, k + 1, by rw [Int.natCast_add]; rfl, by omega, by omega⟩
    · have hltz : ¬ ((k : Int) < (s.size : Int)) := by omega
      have hlen : s.data.toList.length = s.size := by rw [Array.length_toList]; rfl
      have hback := run_convert_bytes_back (P := Tryz.prog) wr 97 9 5 ⟨w.heap.size, 0, none⟩ cap s.data.toList Tryz.underlying97 Tryz.underlying5 Tryz.underlying9 (fun j hj => by
        have hj' : j < s.data.size := by rw [Array.length_toList] at hj; exact hj
        have := hcell j hj'
        rw [Addr.add_lit, Nat.zero_add, this]
        simp)
      rw [hlen, Array.toArray_toList] at hback
      clear hcell hcv hlow
      go_wp2
      go_ret
      exact ⟨rfl, hbel⟩
end Go.Proofs.Bs
namespace Go.Proofs.Bs
open Go.Ev Go.RowKit Ieee Go.Shelf
set_option maxRecDepth 1000000
def gv (l : List Value) (n : Nat) : Value := l.getD n (.tuple #[])
def tl (v : Value) : List UInt8 := (tv v).data.toList
def Tabs (w : World) : Prop := Lib.Utf8Tabs (Tryz.laysValid_ren.g 3) (Tryz.laysValid_ren.g 4) w
theorem tabs_keep (w w' : World) (h : Tabs w) (hb : Below w.heap.size w w') : Tabs w' := Utf8Tabs_below h hb
theorem con1 {P : Program} {cond : World → Prop} {f : Nat} {s t : Sort_} {id : String} {pre rel : List Value → Prop} (he : entersOf P f = true)
    (h : ∀ (w : World) (x : Value), cond w → s.fits x → pre [x] → Calls P f #[x] w fun e w' => ∃ v, e = .returned v ∧ t.fits v ∧ rel [x, v] ∧ Below w.heap.size w w') :
    ({ f := f, ins := [.sc s], out := .sc t, id := id, pre := pre, asks := true, rel := rel } : Con).ok P cond := by
  refine ⟨he, fun w vs fl hw hin hp => ?_⟩
  simp only [relL, Sh.rel] at hin
  obtain ⟨v, vs', f1, f2, rfl, rfl, ⟨hf, rfl⟩, rfl, rfl⟩ := hin
  exact (h w v hw hf (hp rfl)).mono fun e w' ⟨u, h1, h2, h3, h4⟩ => .inl ⟨u, [u], h1, by simp only [Sh.rel]; exact ⟨h2, trivial⟩, h3, h4⟩
theorem con2 {P : Program} {cond : World → Prop} {f : Nat} {s s2 t : Sort_} {id : String} {pre rel : List Value → Prop} (he : entersOf P f = true)
    (h : ∀ (w : World) (x y : Value), cond w → s.fits x → s2.fits y → pre [x, y] → Calls P f #[x, y] w fun e w' => ∃ v, e = .returned v ∧ t.fits v ∧ rel [x, y, v] ∧ Below w.heap.size w w') :
    ({ f := f, ins := [.sc s, .sc s2], out := .sc t, id := id, pre := pre, asks := true, rel := rel } : Con).ok P cond := by
  refine ⟨he, fun w vs fl hw hin hp => ?_⟩
  simp only [relL, Sh.rel] at hin
  obtain ⟨v, vs', f1, f2, rfl, rfl, ⟨hf, rfl⟩, v2, vs2, f3, f4, rfl, rfl, ⟨hf2, rfl⟩, rfl, rfl⟩ := hin
  exact (h w v v2 hw hf hf2 (hp rfl)).mono fun e w' ⟨u, h1, h2, h3, h4⟩ => .inl ⟨u, [u], h1, by simp only [Sh.rel]; exact ⟨h2, trivial⟩, h3, h4⟩
def vldRPre (l : List Value) : Prop := (tv (gv l 0)).size ≤ 9223372036854775807
def vldR (l : List Value) : Prop := bv (gv l 1) = Lib.validD (tl (gv l 0))
def vldC : Con := { f := 9, ins := [.sc .str], out := .sc .bool, id := "vldR", pre := vldRPre, asks := true, rel := vldR }
theorem vld_ok : vldC.ok Tryz.prog Tabs := con1 (by kernel_rfl) fun w x hw hx hp => by
  obtain ⟨s, rfl⟩ := hx
  exact (Any.utf8_ValidString Tryz.laysValid s w hp hw).mono fun e w' ⟨h1, h2⟩ => ⟨_, h1, ⟨_, rfl⟩, rfl, h2⟩
def ixbRPre (_ : List Value) : Prop := True
def ixbR (l : List Value) : Prop := iv (gv l 2) = Lib.indexByte (tl (gv l 0)) (iv (gv l 1)).toNat.toUInt8
def ixbC : Con := { f := 89, ins := [.sc .str, .sc (.intIn .u8 (some 0) (some 255))], out := .sc (.int .i64), id := "ixbR", pre := ixbRPre, asks := true, rel := ixbR }
theorem ixb_ok : ixbC.ok Tryz.prog Tabs := con2 (by kernel_rfl) fun w x y hw hx hy _ => by
  obtain ⟨s, rfl⟩ := hx
  obtain ⟨c, rfl, _⟩ := hy
  exact (Any.strings_IndexByte Tryz.laysIndex s c w).mono fun e w' ⟨h1, h2⟩ => ⟨_, h1, ⟨_, rfl⟩, rfl, h2 ▸ Below.refl _ _⟩
theorem repeat_extra : Builder.Extra Tryz.prog Tryz.laysRepeat_ren where
  sizeBuilder := by kernel_rfl
  liesBuilder := by kernel_rfl
  t5 := Tryz.laysRepeat.t5
  a5 := Tryz.laysRepeat.a5
  z5 := Tryz.laysRepeat.z5
  v5 := Tryz.laysRepeat.v5
  infoByte := by kernel_rfl
  cellsByte := by kernel_rfl
  sizeByte := by kernel_rfl
  neB5 := by decide
def rptRPre (l : List Value) : Prop := 0 ≤ iv (gv l 1) ∧ iv (gv l 1) ≤ 9223372036854775807 ∧ (tl (gv l 0)).length * (iv (gv l 1)).toNat ≤ 140737488355328
def rptR (l : List Value) : Prop := tl (gv l 2) = Lib.repeatL (tl (gv l 0)) (iv (gv l 1)).toNat
def rptC : Con := { f := 48, ins := [.sc .str, .sc (.int .i64)], out := .sc .str, id := "rptR", pre := rptRPre, asks := true, rel := rptR }
theorem rpt_ok : rptC.ok Tryz.prog Tabs := con2 (by kernel_rfl) fun w x y hw hx hy hp => by
  obtain ⟨s, rfl⟩ := hx
  obtain ⟨c, rfl⟩ := hy
  obtain ⟨h1, h2, h3⟩ := hp
  obtain ⟨n, rfl⟩ : ∃ n : Nat, c = n := ⟨c.toNat, (Int.toNat_of_nonneg h1).symm⟩
  have h2 : (n : Int) ≤ 9223372036854775807 := h2
  have h3 : s.data.toList.length * n ≤ 140737488355328 := h3
  rw [Array.length_toList] at h3
  exact (Any.strings_Repeat Tryz.laysRepeat repeat_extra s n w (by omega) h3).mono fun e w' ⟨h1, h2⟩ => ⟨_, h1, ⟨_, rfl⟩, rfl, h2⟩
theorem upper_low (s : ByteArray) (hs : s.size ≤ 140737488355328) (hlow : ∀ c ∈ s.data.toList, ¬ (97 ≤ c.toNat ∧ c.toNat ≤ 122)) (w : World) :
    Calls Tryz.prog 50 #[.string s] w fun e w' => e = .returned (.string s) ∧ Below w.heap.size w w' := by
  have mixed : Tryz.prog.follows .mixedOrders = true := by kernel_rfl
  have ent : ∀ args w, (callFunc 94 args).run Tryz.prog w = .ok (.enter 94 args) w := enters_of Tryz.func94 (by kernel_rfl) rfl
  go_enter Tryz.func50, Tryz.ntmps50
  go_wp2_with (go_at_call 94; refine (turned_low s hs hlow _).mono ?_; rintro e w' ⟨rfl, hb⟩)
  go_ret
  exact ⟨rfl, hb⟩
def uppRPre (l : List Value) : Prop := (tl (gv l 0)).length ≤ 140737488355328 ∧ ∀ c ∈ tl (gv l 0), ¬ (97 ≤ c.toNat ∧ c.toNat ≤ 122)
def uppR (l : List Value) : Prop := tv (gv l 1) = tv (gv l 0)
def uppC : Con := { f := 50, ins := [.sc .str], out := .sc .str, id := "uppR", pre := uppRPre, asks := true, rel := uppR }
theorem upp_ok : uppC.ok Tryz.prog Tabs := con1 (by kernel_rfl) fun w x hw hx hp => by
  obtain ⟨s, rfl⟩ := hx
  obtain ⟨h1, h2⟩ := hp
  have h1 : s.data.toList.length ≤ 140737488355328 := h1
  rw [Array.length_toList] at h1
  exact (upper_low s h1 h2 w).mono fun e w' ⟨h3, h4⟩ => ⟨_, h3, ⟨_, rfl⟩, rfl, h4⟩
end Go.Proofs.Bs
