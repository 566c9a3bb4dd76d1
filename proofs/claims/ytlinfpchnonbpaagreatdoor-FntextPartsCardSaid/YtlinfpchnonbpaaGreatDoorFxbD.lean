/- fntext.digits, walked. -/
import Derived.Test.YtlinfpchnonbpaaGreatDoorFxbH
namespace Go.Proofs.Bs
open Go.Ev Go.RowKit Ieee Go.Shelf
set_option maxRecDepth 1000000
theorem mixed : Tryz.prog.follows .mixedOrders = true := by kernel_rfl
theorem must_true (c : Int) (w : World) : Calls Tryz.prog 35 #[.bool true, .int .i64 c] w fun e w' => e = .returned (.tuple #[]) ∧ w' = w := by
  have mixed := mixed
  go_enter Tryz.func35, Tryz.ntmps35
  go_wp2
  go_end0
  exact ⟨rfl, rfl⟩
theorem bits_BIN (w : World) : Calls Tryz.prog 47 #[.string ⟨#[66, 73, 78]⟩] w fun e w' => e = .returned (.tuple #[.int .i64 1, .int .i64 9]) ∧ w' = w := by
  have mixed := mixed
  go_enter Tryz.func47, Tryz.ntmps47
  go_wp2
  go_ret2
  exact ⟨rfl, rfl⟩
theorem bits_OCT (w : World) : Calls Tryz.prog 47 #[.string ⟨#[79, 67, 84]⟩] w fun e w' => e = .returned (.tuple #[.int .i64 3, .int .i64 29]) ∧ w' = w := by
  have mixed := mixed
  go_enter Tryz.func47, Tryz.ntmps47
  go_wp2
  go_ret2
  exact ⟨rfl, rfl⟩
theorem bits_HEX (w : World) : Calls Tryz.prog 47 #[.string ⟨#[72, 69, 88]⟩] w fun e w' => e = .returned (.tuple #[.int .i64 4, .int .i64 39]) ∧ w' = w := by
  have mixed := mixed
  go_enter Tryz.func47, Tryz.ntmps47
  go_wp2
  go_ret2
  exact ⟨rfl, rfl⟩
theorem find_at {K d : Nat} (s : ByteArray) (hs : s.data.toList = sgT.take K) (hd : d < K) (hK : K ≤ 36) (w : World) : Calls Tryz.prog 89 #[.string s, .int .u8 ((sgA d).toNat : Int)] w fun e w' => e = .returned (.int .i64 (d : Int)) ∧ w' = w := by
  refine (Any.strings_IndexByte Tryz.laysIndex s ((sgA d).toNat : Int) w).mono fun e w' ⟨h1, h2⟩ => ⟨?_, h2⟩
  have e : (sgA d).toNat.toUInt8 = sgA d := UInt8.ofNat_toNat
  rw [h1, hs, Int.toNat_natCast, e, find_sgA hK hd]
theorem find_BIN (d : Nat) (hd : d < 2) (w : World) : Calls Tryz.prog 89 #[.string ((⟨#[48, 49, 50, 51, 52, 53, 54, 55, 56, 57, 65, 66, 67, 68, 69, 70]⟩ : ByteArray).extract 0 2), .int .u8 ((sgA d).toNat : Int)] w fun e w' => e = .returned (.int .i64 (d : Int)) ∧ w' = w := find_at (K := 2) _ (by decide) hd (by decide) w
set_option maxHeartbeats 4000000 in
theorem digits_BIN (t : ByteArray) (n : Nat) (ht : t.data.toList = dg 2 n) (h10 : t.size ≤ 10) (hn : n < 1024) (w : World) :
    Calls Tryz.prog 44 #[.string ⟨#[66, 73, 78]⟩, .string t] w fun e w' => e = .returned (.int .i64 (if 512 ≤ n ∧ t.size = 10 then (n : Int) - 1024 else n)) ∧ Below w.heap.size w w' := by
  have mixed := mixed
  have e47 : ∀ args w, (callFunc 47 args).run Tryz.prog w = .ok (.enter 47 args) w := enters_of Tryz.func47 (by kernel_rfl) rfl
  have e35 : ∀ args w, (callFunc 35 args).run Tryz.prog w = .ok (.enter 35 args) w := enters_of Tryz.func35 (by kernel_rfl) rfl
  have e50 : ∀ args w, (callFunc 50 args).run Tryz.prog w = .ok (.enter 50 args) w := enters_of Tryz.func50 (by kernel_rfl) rfl
  have e89 : ∀ args w, (callFunc 89 args).run Tryz.prog w = .ok (.enter 89 args) w := enters_of Tryz.func89 (by kernel_rfl) rfl
  have h10z : (t.size : Int) ≤ 10 := by omega
  have hcv := fun w => run_bytes_of_string (P := Tryz.prog) w 9 97 5 t Tryz.underlying9 Tryz.underlying97 Tryz.underlying5
  have low : ∀ c ∈ t.data.toList, ¬ (97 ≤ c.toNat ∧ c.toNat ≤ 122) := fun c hc => by
    rw [ht] at hc
    obtain ⟨d, hd, rfl⟩ := dg_mem (by decide) n c hc
    have := sgA_byte ⟨d, by omega⟩
    simp only at this
    omega
  obtain ⟨A, hA⟩ : ∃ A : Int, (if 512 ≤ n ∧ t.size = 10 then (n : Int) - 1024 else n) = A := ⟨_, rfl⟩
  rw [hA]
  have HA : Hid ((if 512 ≤ n ∧ t.size = 10 then (n : Int) - 1024 else n) = A) := hA
  have HT : Hid (t.data.toList = dg 2 n) := ht
  clear hA
  go_enter Tryz.func44, Tryz.ntmps44
  go_wp2_with (first
    | (go_at_call 47; go_must (refine (bits_BIN _).mono ?_; rintro e w' ⟨rfl, rfl⟩))
    | (go_at_call 35; go_must (refine (must_true _ _).mono ?_; rintro e w' ⟨rfl, rfl⟩))
    | (go_at_call 50; go_must (refine (upper_low t (by omega) low _).mono ?_; rintro e w1 ⟨rfl, hb1⟩)))
  generalize grownCap w1 t.size 0 5 = cap at *
  obtain ⟨W, hW⟩ : ∃ W, (w1.alloc (Obj.cells (bytesRow t cap) 5 ((bytesRow t cap).size, (bytesRow t cap).size + 1))).drew = W := ⟨_, rfl⟩
  have hcell : ∀ (j : Nat) (hj : j < t.data.size), W.cell? ⟨w1.heap.size, j, none⟩ = some (.int .u8 (t.data[j].toNat : Int)) := fun j hj => by
    rw [← hW]
    have := World.cell?_alloc_mark w1 (bytesRow t cap) 5 ((bytesRow t cap).size, (bytesRow t cap).size + 1) j
    exact this.trans (bytesRow_at t cap j hj)
  have hbel : Below w'.heap.size w' W := by rw [← hW]; exact (hb1.alloc hb1.size _).drew
  rw [hW]
  clear ht low hcv hW
  go_loopg [7, 9, 10, 24] (t.size + 1) (fun gk s7 s9 s10 s24 wx => wx = W ∧ ∃ k : Nat, s24 = .int .i64 k ∧ k ≤ t.size ∧ t.size - k < gk ∧ ∃ v : Nat, s7 = .int .i64 v ∧ Hid (v = dv 2 (t.data.toList.take k)))
  case atStart => exact ⟨rfl, 0, rfl, by omega, by omega, 0, rfl, by rw [List.take_zero]; rfl⟩
  case round =>
    obtain ⟨hwr, k, rfl, hk, hg, v, rfl, hv⟩ := hrel
    subst hwr
    by_cases hlt : k < t.size
    · have hltz : (k : Int) < (t.size : Int) := by omega
      obtain ⟨g', rfl⟩ : ∃ g', gk = g' + 1 := ⟨gk - 1, by omega⟩
      have hc := hcell k hlt
      have hmem : t.data.toList[k]? = some (t.data[k]'hlt) := by rw [Array.getElem?_toList]; exact Array.getElem?_eq_getElem hlt
      obtain ⟨d, hd, hx⟩ := dg_mem (k := 2) (by decide) n (t.data[k]'hlt) (by rw [← HT.out]; exact List.mem_of_getElem? hmem)
      have hsucc := dv_take_succ (k := 2) hmem
      have ix := sgA_ix ⟨d, by omega⟩
      simp only at ix
      rw [hx, ix] at hsucc
      rw [hx] at hc
      rw [← hv.out] at hsucc
      have HS : Hid (dv 2 (t.data.toList.take (k + 1)) = v * 2 + d) := hsucc
      have HM : Hid (dv 2 (t.data.toList.take (k + 1)) ≤ n) := by
        have := dv_take (k := 2) (by decide) t.data.toList (k + 1)
        rw [HT.out, dv_dg (by decide) (by decide)] at this
        rw [HT.out]; exact this
      clear hsucc hx ix hmem hcell hv
      have dz : (0 : Int) ≤ (d : Int) := by omega
      go_wp2_with (first
        | (go_at_call 89; go_must (refine (find_BIN d hd _).mono ?_; rintro e w' ⟨rfl, rfl⟩))
        | (go_at_call 35; go_must (refine (must_true _ _).mono ?_; rintro e w' ⟨rfl, rfl⟩)))
      have hw : wrap64 (wrap64 ((v : Int) * 2) + (d : Int)) = ((v * 2 + d : Nat) : Int) := by
        have h1 := HS.out
        have h2 := HM.out
        rw [h1] at h2
        unfold wrap64
        omega
      rw [hw]
      go_roundg g'
      case measure => omega
      case rel => exact ⟨rfl, k + 1, by rw [Int.natCast_add]; rfl, by omega, by omega, v * 2 + d, rfl, HS.out.symm⟩
    · have hltz : ¬ ((k : Int) < (t.size : Int)) := by omega
      have hvn : v = n := by
        rw [hv.out, List.take_of_length_le (by rw [Array.length_toList]; show t.size ≤ k; omega), HT.out]
        exact dv_dg (by decide) (by decide) n
      have HV : Hid (v = n) := hvn
      have v0 : (0 : Int) ≤ (v : Int) := by omega
      have hvz : (v : Int) < 1024 := by omega
      clear hv hvn hcell
      by_cases c : 512 ≤ v ∧ t.size = 10
      · have c1 : (512 : Int) ≤ (v : Int) := by omega
        have c3 : ((t.size : Int) == 10) = true := by simp; omega
        have HC : Hid (512 ≤ v ∧ t.size = 10) := c
        clear c
        go_wp2
        go_ret
        refine ⟨?_, hbel⟩
        have e := HA.out
        rw [← HV.out, if_pos HC.out] at e
        have w1 : wrap64 ((v : Int) - 1024) = (v : Int) - 1024 := by unfold wrap64; omega
        first | (rw [← e]; rfl) | (rw [← e, w1]; rfl)
      · have HC : Hid (¬ (512 ≤ v ∧ t.size = 10)) := c
        have e := HA.out
        rw [← HV.out, if_neg HC.out] at e
        have HE : Hid ((v : Int) = A) := e
        clear e
        by_cases c1 : (512 : Int) ≤ (v : Int)
        · have c3 : ((t.size : Int) == 10) = false := by simp; omega
          clear c
          go_wp2
          go_ret
          exact ⟨by rw [HE.out]; rfl, hbel⟩
        · clear c
          go_wp2
          go_ret
          exact ⟨by rw [HE.out]; rfl, hbel⟩
theorem find_OCT (d : Nat) (hd : d < 8) (w : World) : Calls Tryz.prog 89 #[.string ((⟨#[48, 49, 50, 51, 52, 53, 54, 55, 56, 57, 65, 66, 67, 68, 69, 70]⟩ : ByteArray).extract 0 8), .int .u8 ((sgA d).toNat : Int)] w fun e w' => e = .returned (.int .i64 (d : Int)) ∧ w' = w := find_at (K := 8) _ (by decide) hd (by decide) w
set_option maxHeartbeats 4000000 in
theorem digits_OCT (t : ByteArray) (n : Nat) (ht : t.data.toList = dg 8 n) (h10 : t.size ≤ 10) (hn : n < 1073741824) (w : World) :
    Calls Tryz.prog 44 #[.string ⟨#[79, 67, 84]⟩, .string t] w fun e w' => e = .returned (.int .i64 (if 536870912 ≤ n ∧ t.size = 10 then (n : Int) - 1073741824 else n)) ∧ Below w.heap.size w w' := by
  have mixed := mixed
  have e47 : ∀ args w, (callFunc 47 args).run Tryz.prog w = .ok (.enter 47 args) w := enters_of Tryz.func47 (by kernel_rfl) rfl
  have e35 : ∀ args w, (callFunc 35 args).run Tryz.prog w = .ok (.enter 35 args) w := enters_of Tryz.func35 (by kernel_rfl) rfl
  have e50 : ∀ args w, (callFunc 50 args).run Tryz.prog w = .ok (.enter 50 args) w := enters_of Tryz.func50 (by kernel_rfl) rfl
  have e89 : ∀ args w, (callFunc 89 args).run Tryz.prog w = .ok (.enter 89 args) w := enters_of Tryz.func89 (by kernel_rfl) rfl
  have h10z : (t.size : Int) ≤ 10 := by omega
  have hcv := fun w => run_bytes_of_string (P := Tryz.prog) w 9 97 5 t Tryz.underlying9 Tryz.underlying97 Tryz.underlying5
  have low : ∀ c ∈ t.data.toList, ¬ (97 ≤ c.toNat ∧ c.toNat ≤ 122) := fun c hc => by
    rw [ht] at hc
    obtain ⟨d, hd, rfl⟩ := dg_mem (by decide) n c hc
    have := sgA_byte ⟨d, by omega⟩
    simp only at this
    omega
  obtain ⟨A, hA⟩ : ∃ A : Int, (if 536870912 ≤ n ∧ t.size = 10 then (n : Int) - 1073741824 else n) = A := ⟨_, rfl⟩
  rw [hA]
  have HA : Hid ((if 536870912 ≤ n ∧ t.size = 10 then (n : Int) - 1073741824 else n) = A) := hA
  have HT : Hid (t.data.toList = dg 8 n) := ht
  clear hA
  go_enter Tryz.func44, Tryz.ntmps44
  go_wp2_with (first
    | (go_at_call 47; go_must (refine (bits_OCT _).mono ?_; rintro e w' ⟨rfl, rfl⟩))
    | (go_at_call 35; go_must (refine (must_true _ _).mono ?_; rintro e w' ⟨rfl, rfl⟩))
    | (go_at_call 50; go_must (refine (upper_low t (by omega) low _).mono ?_; rintro e w1 ⟨rfl, hb1⟩)))
  generalize grownCap w1 t.size 0 5 = cap at *
  obtain ⟨W, hW⟩ : ∃ W, (w1.alloc (Obj.cells (bytesRow t cap) 5 ((bytesRow t cap).size, (bytesRow t cap).size + 1))).drew = W := ⟨_, rfl⟩
  have hcell : ∀ (j : Nat) (hj : j < t.data.size), W.cell? ⟨w1.heap.size, j, none⟩ = some (.int .u8 (t.data[j].toNat : Int)) := fun j hj => by
    rw [← hW]
    have := World.cell?_alloc_mark w1 (bytesRow t cap) 5 ((bytesRow t cap).size, (bytesRow t cap).size + 1) j
    exact this.trans (bytesRow_at t cap j hj)
  have hbel : Below w'.heap.size w' W := by rw [← hW]; exact (hb1.alloc hb1.size _).drew
  rw [hW]
  clear ht low hcv hW
  go_loopg [7, 9, 10, 24] (t.size + 1) (fun gk s7 s9 s10 s24 wx => wx = W ∧ ∃ k : Nat, s24 = .int .i64 k ∧ k ≤ t.size ∧ t.size - k < gk ∧ ∃ v : Nat, s7 = .int .i64 v ∧ Hid (v = dv 8 (t.data.toList.take k)))
  case atStart => exact ⟨rfl, 0, rfl, by omega, by omega, 0, rfl, by rw [List.take_zero]; rfl⟩
  case round =>
    obtain ⟨hwr, k, rfl, hk, hg, v, rfl, hv⟩ := hrel
    subst hwr
    by_cases hlt : k < t.size
    · have hltz : (k : Int) < (t.size : Int) := by omega
      obtain ⟨g', rfl⟩ : ∃ g', gk = g' + 1 := ⟨gk - 1, by omega⟩
      have hc := hcell k hlt
      have hmem : t.data.toList[k]? = some (t.data[k]'hlt) := by rw [Array.getElem?_toList]; exact Array.getElem?_eq_getElem hlt
      obtain ⟨d, hd, hx⟩ := dg_mem (k := 8) (by decide) n (t.data[k]'hlt) (by rw [← HT.out]; exact List.mem_of_getElem? hmem)
      have hsucc := dv_take_succ (k := 8) hmem
      have ix := sgA_ix ⟨d, by omega⟩
      simp only at ix
      rw [hx, ix] at hsucc
      rw [hx] at hc
      rw [← hv.out] at hsucc
      have HS : Hid (dv 8 (t.data.toList.take (k + 1)) = v * 8 + d) := hsucc
      have HM : Hid (dv 8 (t.data.toList.take (k + 1)) ≤ n) := by
        have := dv_take (k := 8) (by decide) t.data.toList (k + 1)
        rw [HT.out, dv_dg (by decide) (by decide)] at this
        rw [HT.out]; exact this
      clear hsucc hx ix hmem hcell hv
      have dz : (0 : Int) ≤ (d : Int) := by omega
      go_wp2_with (first
        | (go_at_call 89; go_must (refine (find_OCT d hd _).mono ?_; rintro e w' ⟨rfl, rfl⟩))
        | (go_at_call 35; go_must (refine (must_true _ _).mono ?_; rintro e w' ⟨rfl, rfl⟩)))
      have hw : wrap64 (wrap64 ((v : Int) * 8) + (d : Int)) = ((v * 8 + d : Nat) : Int) := by
        have h1 := HS.out
        have h2 := HM.out
        rw [h1] at h2
        unfold wrap64
        omega
      rw [hw]
      go_roundg g'
      case measure => omega
      case rel => exact ⟨rfl, k + 1, by rw [Int.natCast_add]; rfl, by omega, by omega, v * 8 + d, rfl, HS.out.symm⟩
    · have hltz : ¬ ((k : Int) < (t.size : Int)) := by omega
      have hvn : v = n := by
        rw [hv.out, List.take_of_length_le (by rw [Array.length_toList]; show t.size ≤ k; omega), HT.out]
        exact dv_dg (by decide) (by decide) n
      have HV : Hid (v = n) := hvn
      have v0 : (0 : Int) ≤ (v : Int) := by omega
      have hvz : (v : Int) < 1073741824 := by omega
      clear hv hvn hcell
      by_cases c : 536870912 ≤ v ∧ t.size = 10
      · have c1 : (536870912 : Int) ≤ (v : Int) := by omega
        have c3 : ((t.size : Int) == 10) = true := by simp; omega
        have HC : Hid (536870912 ≤ v ∧ t.size = 10) := c
        clear c
        go_wp2
        go_ret
        refine ⟨?_, hbel⟩
        have e := HA.out
        rw [← HV.out, if_pos HC.out] at e
        have w1 : wrap64 ((v : Int) - 1073741824) = (v : Int) - 1073741824 := by unfold wrap64; omega
        first | (rw [← e]; rfl) | (rw [← e, w1]; rfl)
      · have HC : Hid (¬ (536870912 ≤ v ∧ t.size = 10)) := c
        have e := HA.out
        rw [← HV.out, if_neg HC.out] at e
        have HE : Hid ((v : Int) = A) := e
        clear e
        by_cases c1 : (536870912 : Int) ≤ (v : Int)
        · have c3 : ((t.size : Int) == 10) = false := by simp; omega
          clear c
          go_wp2
          go_ret
          exact ⟨by rw [HE.out]; rfl, hbel⟩
        · clear c
          go_wp2
          go_ret
          exact ⟨by rw [HE.out]; rfl, hbel⟩
theorem find_HEX (d : Nat) (hd : d < 16) (w : World) : Calls Tryz.prog 89 #[.string ((⟨#[48, 49, 50, 51, 52, 53, 54, 55, 56, 57, 65, 66, 67, 68, 69, 70]⟩ : ByteArray).extract 0 16), .int .u8 ((sgA d).toNat : Int)] w fun e w' => e = .returned (.int .i64 (d : Int)) ∧ w' = w := find_at (K := 16) _ (by decide) hd (by decide) w
set_option maxHeartbeats 4000000 in
theorem digits_HEX (t : ByteArray) (n : Nat) (ht : t.data.toList = dg 16 n) (h10 : t.size ≤ 10) (hn : n < 1099511627776) (w : World) :
    Calls Tryz.prog 44 #[.string ⟨#[72, 69, 88]⟩, .string t] w fun e w' => e = .returned (.int .i64 (if 549755813888 ≤ n ∧ t.size = 10 then (n : Int) - 1099511627776 else n)) ∧ Below w.heap.size w w' := by
  have mixed := mixed
  have e47 : ∀ args w, (callFunc 47 args).run Tryz.prog w = .ok (.enter 47 args) w := enters_of Tryz.func47 (by kernel_rfl) rfl
  have e35 : ∀ args w, (callFunc 35 args).run Tryz.prog w = .ok (.enter 35 args) w := enters_of Tryz.func35 (by kernel_rfl) rfl
  have e50 : ∀ args w, (callFunc 50 args).run Tryz.prog w = .ok (.enter 50 args) w := enters_of Tryz.func50 (by kernel_rfl) rfl
  have e89 : ∀ args w, (callFunc 89 args).run Tryz.prog w = .ok (.enter 89 args) w := enters_of Tryz.func89 (by kernel_rfl) rfl
  have h10z : (t.size : Int) ≤ 10 := by omega
  have hcv := fun w => run_bytes_of_string (P := Tryz.prog) w 9 97 5 t Tryz.underlying9 Tryz.underlying97 Tryz.underlying5
  have low : ∀ c ∈ t.data.toList, ¬ (97 ≤ c.toNat ∧ c.toNat ≤ 122) := fun c hc => by
    rw [ht] at hc
    obtain ⟨d, hd, rfl⟩ := dg_mem (by decide) n c hc
    have := sgA_byte ⟨d, by omega⟩
    simp only at this
    omega
  obtain ⟨A, hA⟩ : ∃ A : Int, (if 549755813888 ≤ n ∧ t.size = 10 then (n : Int) - 1099511627776 else n) = A := ⟨_, rfl⟩
  rw [hA]
  have HA : Hid ((if 549755813888 ≤ n ∧ t.size = 10 then (n : Int) - 1099511627776 else n) = A) := hA
  have HT : Hid (t.data.toList = dg 16 n) := ht
  clear hA
  go_enter Tryz.func44, Tryz.ntmps44
  go_wp2_with (first
    | (go_at_call 47; go_must (refine (bits_HEX _).mono ?_; rintro e w' ⟨rfl, rfl⟩))
    | (go_at_call 35; go_must (refine (must_true _ _).mono ?_; rintro e w' ⟨rfl, rfl⟩))
    | (go_at_call 50; go_must (refine (upper_low t (by omega) low _).mono ?_; rintro e w1 ⟨rfl, hb1⟩)))
  generalize grownCap w1 t.size 0 5 = cap at *
  obtain ⟨W, hW⟩ : ∃ W, (w1.alloc (Obj.cells (bytesRow t cap) 5 ((bytesRow t cap).size, (bytesRow t cap).size + 1))).drew = W := ⟨_, rfl⟩
  have hcell : ∀ (j : Nat) (hj : j < t.data.size), W.cell? ⟨w1.heap.size, j, none⟩ = some (.int .u8 (t.data[j].toNat : Int)) := fun j hj => by
    rw [← hW]
    have := World.cell?_alloc_mark w1 (bytesRow t cap) 5 ((bytesRow t cap).size, (bytesRow t cap).size + 1) j
    exact this.trans (bytesRow_at t cap j hj)
  have hbel : Below w'.heap.size w' W := by rw [← hW]; exact (hb1.alloc hb1.size _).drew
  rw [hW]
  clear ht low hcv hW
  go_loopg [7, 9, 10, 24] (t.size + 1) (fun gk s7 s9 s10 s24 wx => wx = W ∧ ∃ k : Nat, s24 = .int .i64 k ∧ k ≤ t.size ∧ t.size - k < gk ∧ ∃ v : Nat, s7 = .int .i64 v ∧ Hid (v = dv 16 (t.data.toList.take k)))
  case atStart => exact ⟨rfl, 0, rfl, by omega, by omega, 0, rfl, by rw [List.take_zero]; rfl⟩
  case round =>
    obtain ⟨hwr, k, rfl, hk, hg, v, rfl, hv⟩ := hrel
    subst hwr
    by_cases hlt : k < t.size
    · have hltz : (k : Int) < (t.size : Int) := by omega
      obtain ⟨g', rfl⟩ : ∃ g', gk = g' + 1 := ⟨gk - 1, by omega⟩
      have hc := hcell k hlt
      have hmem : t.data.toList[k]? = some (t.data[k]'hlt) := by rw [Array.getElem?_toList]; exact Array.getElem?_eq_getElem hlt
      obtain ⟨d, hd, hx⟩ := dg_mem (k := 16) (by decide) n (t.data[k]'hlt) (by rw [← HT.out]; exact List.mem_of_getElem? hmem)
      have hsucc := dv_take_succ (k := 16) hmem
      have ix := sgA_ix ⟨d, by omega⟩
      simp only at ix
      rw [hx, ix] at hsucc
      rw [hx] at hc
      rw [← hv.out] at hsucc
      have HS : Hid (dv 16 (t.data.toList.take (k + 1)) = v * 16 + d) := hsucc
      have HM : Hid (dv 16 (t.data.toList.take (k + 1)) ≤ n) := by
        have := dv_take (k := 16) (by decide) t.data.toList (k + 1)
        rw [HT.out, dv_dg (by decide) (by decide)] at this
        rw [HT.out]; exact this
      clear hsucc hx ix hmem hcell hv
      have dz : (0 : Int) ≤ (d : Int) := by omega
      go_wp2_with (first
        | (go_at_call 89; go_must (refine (find_HEX d hd _).mono ?_; rintro e w' ⟨rfl, rfl⟩))
        | (go_at_call 35; go_must (refine (must_true _ _).mono ?_; rintro e w' ⟨rfl, rfl⟩)))
      have hw : wrap64 (wrap64 ((v : Int) * 16) + (d : Int)) = ((v * 16 + d : Nat) : Int) := by
        have h1 := HS.out
        have h2 := HM.out
        rw [h1] at h2
        unfold wrap64
        omega
      rw [hw]
      go_roundg g'
      case measure => omega
      case rel => exact ⟨rfl, k + 1, by rw [Int.natCast_add]; rfl, by omega, by omega, v * 16 + d, rfl, HS.out.symm⟩
    · have hltz : ¬ ((k : Int) < (t.size : Int)) := by omega
      have hvn : v = n := by
        rw [hv.out, List.take_of_length_le (by rw [Array.length_toList]; show t.size ≤ k; omega), HT.out]
        exact dv_dg (by decide) (by decide) n
      have HV : Hid (v = n) := hvn
      have v0 : (0 : Int) ≤ (v : Int) := by omega
      have hvz : (v : Int) < 1099511627776 := by omega
      clear hv hvn hcell
      by_cases c : 549755813888 ≤ v ∧ t.size = 10
      · have c1 : (549755813888 : Int) ≤ (v : Int) := by omega
        have c3 : ((t.size : Int) == 10) = true := by simp; omega
        have HC : Hid (549755813888 ≤ v ∧ t.size = 10) := c
        clear c
        go_wp2
        go_ret
        refine ⟨?_, hbel⟩
        have e := HA.out
        rw [← HV.out, if_pos HC.out] at e
        have w1 : wrap64 ((v : Int) - 1099511627776) = (v : Int) - 1099511627776 := by unfold wrap64; omega
        first | (rw [← e]; rfl) | (rw [← e, w1]; rfl)
      · have HC : Hid (¬ (549755813888 ≤ v ∧ t.size = 10)) := c
        have e := HA.out
        rw [← HV.out, if_neg HC.out] at e
        have HE : Hid ((v : Int) = A) := e
        clear e
        by_cases c1 : (549755813888 : Int) ≤ (v : Int)
        · have c3 : ((t.size : Int) == 10) = false := by simp; omega
          clear c
          go_wp2
          go_ret
          exact ⟨by rw [HE.out]; rfl, hbel⟩
        · clear c
          go_wp2
          go_ret
          exact ⟨by rw [HE.out]; rfl, hbel⟩
end Go.Proofs.Bs
