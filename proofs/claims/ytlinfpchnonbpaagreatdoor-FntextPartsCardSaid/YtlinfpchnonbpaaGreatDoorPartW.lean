/- chars.Cut, walked. -/
import Derived.Test.YtlinfpchnonbpaaGreatDoorFxbD
import Derived.Test.YtlinfpchnonbpaaGreatDoorPartM
import Derived.Laws.RangeAny
import Derived.LoopTactic
namespace Go.Proofs.Bs
open Go.Ev Go.RowKit Go.Shelf
set_option maxRecDepth 1000000
theorem cut_pos (s : ByteArray) (pos : Nat) : Lib.decodeL (s.data.toList.drop pos) = Utf8.decode s pos := Lib.decodeL_drop s pos
theorem cut_go {s : ByteArray} {pos m : Nat} (h : pos < s.size) : cutL (m + 1) (s.data.toList.drop pos) = (Utf8.decode s pos).2 + cutL m (s.data.toList.drop (pos + (Utf8.decode s pos).2)) := by
  have hne : s.data.toList.drop pos ≠ [] := by
    intro e
    have := congrArg List.length e
    rw [List.length_drop, Array.length_toList, List.length_nil] at this
    have h : pos < s.data.size := h
    omega
  rw [cutL_step hne, cut_pos, List.drop_drop]
theorem cut_end {s : ByteArray} {pos m : Nat} (h : ¬ pos < s.size) : cutL m (s.data.toList.drop pos) = 0 := by
  rw [List.drop_of_length_le (by rw [Array.length_toList]; show s.size ≤ pos; omega), cutL_nil]
theorem width_le {s : ByteArray} {pos : Nat} (h : pos < s.size) : pos + (Utf8.decode s pos).2 ≤ s.size := by
  have hne : s.data.toList.drop pos ≠ [] := by
    intro e
    have := congrArg List.length e
    rw [List.length_drop, Array.length_toList, List.length_nil] at this
    have h : pos < s.data.size := h
    omega
  have := Lib.decodeL_le _ hne
  rw [cut_pos, List.length_drop, Array.length_toList] at this
  have e : s.data.size = s.size := rfl
  omega
set_option maxHeartbeats 4000000 in
theorem cut_walk (s : ByteArray) (f n : Nat) (hs : s.size < 4611686018427387904) (hf : f < 4611686018427387904) (hn : n < 4611686018427387904) (w : World) :
    Calls Tryz.prog 59 #[.string s, .int .i64 f, .int .i64 n] w fun e w' => e = .returned (.string (s.extract (cutL f s.data.toList) (cutL f s.data.toList + cutL n (s.data.toList.drop (cutL f s.data.toList))))) ∧ Below w.heap.size w w' := by
  have mixed := mixed
  have fz : (0 : Int) ≤ (f : Int) := by omega
  have nz : (0 : Int) ≤ (n : Int) := by omega
  obtain ⟨B, hB⟩ : ∃ B, cutL f s.data.toList = B := ⟨_, rfl⟩
  obtain ⟨D, hD⟩ : ∃ D, cutL n (s.data.toList.drop B) = D := ⟨_, rfl⟩
  rw [hB, hD]
  have HB : Hid (cutL f s.data.toList = B) := hB
  have HD : Hid (cutL n (s.data.toList.drop B) = D) := hD
  clear hB hD
  go_enter Tryz.func59, Tryz.ntmps59
  go_wp2
  go_loopg [7, 8, 9] (s.size + 1) (fun gk s7 s8 s9 wx => ∃ pos k : Nat, wx = w.iter s pos ∧ s7 = .int .i64 s.size ∧ s8 = .int .i64 k ∧ k ≤ f ∧ Hid (pos + cutL (f - k) (s.data.toList.drop pos) = B) ∧ pos ≤ s.size ∧ s.size - pos < gk)
  case atStart => exact ⟨0, 0, rfl, rfl, rfl, Nat.zero_le _, by rw [Nat.sub_zero, List.drop_zero, Nat.zero_add]; exact HB, Nat.zero_le _, by omega⟩
  case round =>
    obtain ⟨pos, k, rfl, rfl, rfl, hk, hc, hps, hg⟩ := hrel
    by_cases hp : pos < s.size
    · have hnx : ∀ ty, (Instr.next (.pointer (some ⟨w.heap.size, 0, none⟩)) true ty).run Tryz.prog (w.iter s pos) = _ := fun ty => run_next_any w s pos ty hp
      have hwd := Lib.decode_width_pos s pos hp
      by_cases hkf : k = f
      · have hkz : ((k : Int) == (f : Int)) = true := by simp; omega
        have hcb : Hid (pos = B) := by
          have := hc.out
          rw [hkf, Nat.sub_self] at this
          exact this
        have hpz : (pos : Int) ≤ (s.size : Int) := by omega
        clear hkf
        go_wp2
        obtain ⟨r, hr⟩ : ∃ r, s.extract pos s.size = r := ⟨_, rfl⟩
        obtain ⟨W, hW⟩ : ∃ W, w.iter s (pos + (Utf8.decode s pos).2) = W := ⟨_, rfl⟩
        have hbW : Below w.heap.size w W := by rw [← hW]; exact (Below.refl _ w).alloc (Nat.le_refl _) _
        have HR : Hid (r.data.toList = s.data.toList.drop pos) := by rw [← hr]; exact Lib.ext_list s pos
        have HS : Hid (r.size = s.size - pos) := by rw [← hr]; exact Lib.ext_size s pos
        rw [hr, hW]
        clear hr hW hnx hwd hc hg hk
        go_loopg [8, 10, 11] (r.size + 1) (fun gk s8 s10 s11 wx => ∃ p2 k2 : Nat, wx = W.iter r p2 ∧ s10 = .int .i64 s.size ∧ s8 = .int .i64 k2 ∧ k2 ≤ n ∧ Hid (p2 + cutL (n - k2) (r.data.toList.drop p2) = D) ∧ p2 ≤ r.size ∧ r.size - p2 < gk)
        case atStart => exact ⟨0, 0, rfl, rfl, rfl, Nat.zero_le _, by show _ = _; rw [Nat.sub_zero, List.drop_zero, Nat.zero_add, HR.out, hcb.out]; exact HD.out, Nat.zero_le _, by omega⟩
        case round =>
          obtain ⟨p2, k2, rfl, rfl, rfl, hk, hc, hps2, hg⟩ := hrel
          by_cases hp2 : p2 < r.size
          · have hnx : ∀ ty, (Instr.next (.pointer (some ⟨W.heap.size, 0, none⟩)) true ty).run Tryz.prog (W.iter r p2) = _ := fun ty => run_next_any W r p2 ty hp2
            have hwd := Lib.decode_width_pos r p2 hp2
            by_cases hkf : k2 = n
            · have hkz : ((k2 : Int) == (n : Int)) = true := by simp; omega
              have hcd : Hid (p2 = D) := by
                have := hc.out
                rw [hkf, Nat.sub_self] at this
                exact this
              have h9 := HS.out
              have q1 : (pos : Int) + (p2 : Int) ≤ (s.size : Int) := by omega
              have q2 : (pos : Int) ≤ (pos : Int) + (p2 : Int) := by omega
              have q3 : (0 : Int) ≤ (pos : Int) + (p2 : Int) := by omega
              clear hkf h9
              go_wp2
              go_ret
              refine ⟨?_, ?_⟩
              · rw [← hcb.out, ← hcd.out]; rfl
              · exact hbW.alloc hbW.size _
            · have hkz : ((k2 : Int) == (n : Int)) = false := by simp; omega
              obtain ⟨g', rfl⟩ : ∃ g', gk = g' + 1 := ⟨gk - 1, by omega⟩
              go_wp2
              go_roundg g'
              case measure => omega
              case rel =>
                have hc' := hc.out
                obtain ⟨m, hm⟩ : ∃ m, n - k2 = m + 1 := ⟨n - k2 - 1, by omega⟩
                rw [hm, cut_go hp2] at hc'
                exact ⟨p2 + (Utf8.decode r p2).2, k2 + 1, rfl, rfl, by rw [Int.natCast_add]; rfl, by omega, by show _ = _; rw [show n - (k2 + 1) = m by omega, Nat.add_assoc]; exact hc', width_le hp2, by omega⟩
          · have hnx : ∀ ty, (Instr.next (.pointer (some ⟨W.heap.size, 0, none⟩)) true ty).run Tryz.prog (W.iter r p2) = _ := fun ty => run_next_end W r p2 ty hp2
            have hcd : Hid (p2 = D) := by
              have := hc.out
              rw [cut_end hp2] at this
              exact this
            have HP : Hid (p2 = s.size - pos) := by
              have h9 := HS.out
              show p2 = _
              omega
            have q2 : (pos : Int) ≤ (s.size : Int) := by omega
            go_wp2
            go_ret
            refine ⟨?_, ?_⟩
            · have e1 := hcb.out
              have e2 := hcd.out
              have e3 := HP.out
              rw [← e1, ← e2, show pos + p2 = s.size by omega]; rfl
            · exact hbW.alloc hbW.size _
      · have hkz : ((k : Int) == (f : Int)) = false := by simp; omega
        obtain ⟨g', rfl⟩ : ∃ g', gk = g' + 1 := ⟨gk - 1, by omega⟩
        go_wp2
        go_roundg g'
        case measure => omega
        case rel =>
          have hc' := hc.out
          obtain ⟨m, hm⟩ : ∃ m, f - k = m + 1 := ⟨f - k - 1, by omega⟩
          rw [hm, cut_go hp] at hc'
          exact ⟨pos + (Utf8.decode s pos).2, k + 1, rfl, rfl, by rw [Int.natCast_add]; rfl, by omega, by show _ = _; rw [show f - (k + 1) = m by omega, Nat.add_assoc]; exact hc', width_le hp, by omega⟩
    · have hnx : ∀ ty, (Instr.next (.pointer (some ⟨w.heap.size, 0, none⟩)) true ty).run Tryz.prog (w.iter s pos) = _ := fun ty => run_next_end w s pos ty hp
      go_wp2
      have hcb : Hid (pos = B) := by
        have := hc.out
        rw [cut_end hp] at this
        exact this
      have HP : Hid (pos = s.size) := by show pos = _; omega
      obtain ⟨W, hW⟩ : ∃ W, w.iter s pos = W := ⟨_, rfl⟩
      have hbW : Below w.heap.size w W := by rw [← hW]; exact (Below.refl _ w).alloc (Nat.le_refl _) _
      rw [hW]
      clear hW hnx hc hg hk hp hps
      have hnx : ∀ ty, (Instr.next (.pointer (some ⟨W.heap.size, 0, none⟩)) true ty).run Tryz.prog (W.iter ByteArray.empty 0) = _ := fun ty => run_next_end W ByteArray.empty 0 ty (by decide)
      go_loopg [8, 10, 11] 1 (fun gk s8 s10 s11 wx => wx = W.iter ByteArray.empty 0 ∧ s10 = .int .i64 s.size ∧ s8 = .int .i64 0)
      case atStart => exact ⟨rfl, rfl, rfl⟩
      case round =>
        obtain ⟨rfl, rfl, rfl⟩ := hrel
        have q2 : (s.size : Int) ≤ (s.size : Int) := by omega
        go_wp2
        go_ret
        refine ⟨?_, ?_⟩
        · have e1 := hcb.out
          have e2 := HP.out
          have e3 := HD.out
          have e4 : cutL n (s.data.toList.drop B) = 0 := by rw [← e1]; exact cut_end (by omega)
          rw [e4] at e3
          have e5 : s.extract s.size s.size = ByteArray.empty := by simp
          rw [← e1, ← e3, e2, Nat.add_zero, e5]; rfl
        · exact hbW.alloc hbW.size _
end Go.Proofs.Bs
