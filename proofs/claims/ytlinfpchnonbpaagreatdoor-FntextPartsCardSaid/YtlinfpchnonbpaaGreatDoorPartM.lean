/- A text cut at a character: both parts are well formed, and their characters are the text's. -/
import Derived.Lib.MapLaws
import Derived.Lib.ValidLaws
import Derived.Lib.TrimUEq
import Derived.Lib.RuneCountTail
import Derived.Lib.ValidAsc
namespace Go.Proofs.Bs
open Go.Lib
def cutL : Nat → List UInt8 → Nat
  | 0, _ => 0
  | n + 1, l => if l = [] then 0 else (decodeL l).2 + cutL n (l.drop (decodeL l).2)
theorem cutL_nil (n : Nat) : cutL n [] = 0 := by cases n <;> simp [cutL]
theorem cutL_step {n : Nat} {l : List UInt8} (h : l ≠ []) : cutL (n + 1) l = (decodeL l).2 + cutL n (l.drop (decodeL l).2) := by simp [cutL, h]
theorem cutL_le : ∀ (n : Nat) (l : List UInt8), cutL n l ≤ l.length
  | 0, _ => Nat.zero_le _
  | n + 1, l => by
    by_cases h : l = []
    · subst h; rw [cutL_nil]; exact Nat.zero_le _
    · rw [cutL_step h]
      have h1 := decodeL_le l h
      have h2 := cutL_le n (l.drop (decodeL l).2)
      rw [List.length_drop] at h2
      omega
theorem cutL_all : ∀ (n : Nat) (l : List UInt8), l.length ≤ n → cutL n l = l.length
  | 0, l, h => by
    have e : l = [] := List.eq_nil_of_length_eq_zero (by omega)
    rw [e]; rfl
  | n + 1, l, h => by
    by_cases h0 : l = []
    · subst h0; rw [cutL_nil]; rfl
    · rw [cutL_step h0]
      have h1 := decodeL_le l h0
      have h2 := decodeL_width l
      have h3 := cutL_all n (l.drop (decodeL l).2) (by rw [List.length_drop]; omega)
      rw [h3, List.length_drop]
      omega
theorem decodeN_take {n m b0 b1 b2 b3 c1 c2 c3 : Nat} (hv : ¬ ((decodeN n b0 b1 b2 b3).1 = 65533 ∧ (decodeN n b0 b1 b2 b3).2 = 1)) (hm : (decodeN n b0 b1 b2 b3).2 ≤ m) (_ : m ≤ n)
    (h1 : 1 < m → c1 = b1) (h2 : 2 < m → c2 = b2) (h3 : 3 < m → c3 = b3) : decodeN m b0 c1 c2 c3 = decodeN n b0 b1 b2 b3 := by
  unfold decodeN at hv hm ⊢
  by_cases k0 : b0 < 128
  · rw [if_pos k0, if_pos k0]
  · rw [if_neg k0] at hv hm
    rw [if_neg k0, if_neg k0]
    by_cases k1 : b0 / 32 = 6 ∧ (1 < n ∧ b1 / 64 = 2)
    · rw [if_pos k1] at hv hm
      by_cases q : b0 % 32 * 64 + b1 % 64 ≥ 128
      · rw [if_pos q] at hm
        have hm : 2 ≤ m := hm
        have e1 := h1 (by omega)
        rw [if_pos k1, e1, if_pos ⟨k1.1, by omega, k1.2.2⟩]
      · rw [if_neg q] at hv; exact absurd ⟨rfl, rfl⟩ hv
    · rw [if_neg k1] at hv hm
      by_cases k2 : b0 / 16 = 14 ∧ (1 < n ∧ b1 / 64 = 2) ∧ (2 < n ∧ b2 / 64 = 2)
      · rw [if_pos k2] at hv hm
        split at hm
        · rename_i q
          have hm : 3 ≤ m := hm
          have e1 := h1 (by omega)
          have e2 := h2 (by omega)
          have e32 : ¬ (b0 / 32 = 6) := by omega
          rw [if_neg k1, if_pos k2, e1, e2, if_neg (fun h => e32 h.1), if_pos ⟨k2.1, ⟨by omega, k2.2.1.2⟩, by omega, k2.2.2.2⟩]
        · rename_i q
          rw [if_neg q] at hv; exact absurd ⟨rfl, rfl⟩ hv
      · rw [if_neg k2] at hv hm
        by_cases k3 : b0 / 8 = 30 ∧ (1 < n ∧ b1 / 64 = 2) ∧ (2 < n ∧ b2 / 64 = 2) ∧ (3 < n ∧ b3 / 64 = 2)
        · rw [if_pos k3] at hv hm
          split at hm
          · rename_i q
            have hm : 4 ≤ m := hm
            have e1 := h1 (by omega)
            have e2 := h2 (by omega)
            have e3 := h3 (by omega)
            have e32 : ¬ (b0 / 32 = 6) := by omega
            have e16 : ¬ (b0 / 16 = 14) := by omega
            rw [if_neg k1, if_neg k2, if_pos k3, e1, e2, e3, if_neg (fun h => e32 h.1), if_neg (fun h => e16 h.1), if_pos ⟨k3.1, ⟨by omega, k3.2.1.2⟩, ⟨by omega, k3.2.2.1.2⟩, by omega, k3.2.2.2.2⟩]
          · rename_i q
            rw [if_neg q] at hv; exact absurd ⟨rfl, rfl⟩ hv
        · rw [if_neg k3] at hv; exact absurd ⟨rfl, rfl⟩ hv
theorem getD_take {l : List UInt8} {q i : Nat} (h : i < q) : (l.take q).getD i 0 = l.getD i 0 := by
  simp [List.getD, h]
theorem decodeL_take {l : List UInt8} {q : Nat} (_ : l ≠ []) (hv : ¬ ((decodeL l).1 = 65533 ∧ (decodeL l).2 = 1)) (hq : (decodeL l).2 ≤ q) (hl : q ≤ l.length) : decodeL (l.take q) = decodeL l := by
  have w := decodeL_width l
  rw [decodeL_N] at hv hq w
  rw [decodeL_N, decodeL_N, List.length_take, Nat.min_eq_left hl, getD_take (by omega : 0 < q)]
  exact decodeN_take hv hq hl (fun h => by rw [getD_take h]) (fun h => by rw [getD_take h]) (fun h => by rw [getD_take h])
theorem valid_at {l : List UInt8} (hne : l ≠ []) (h : validD l = true) : ¬ ((decodeL l).1 = 65533 ∧ (decodeL l).2 = 1) ∧ validD (l.drop (decodeL l).2) = true := by
  rw [validD_step l hne] at h
  split at h
  · cases h
  · rename_i k; exact ⟨k, h⟩
theorem valid_cut : ∀ (n : Nat) (l : List UInt8), validD l = true → validD (l.take (cutL n l)) = true ∧ validD (l.drop (cutL n l)) = true
  | 0, l, h => ⟨by simp [cutL, validD_nil], by simpa [cutL] using h⟩
  | n + 1, l, h => by
    by_cases h0 : l = []
    · subst h0; rw [cutL_nil]; exact ⟨rfl, rfl⟩
    · obtain ⟨hv, hd⟩ := valid_at h0 h
      obtain ⟨i1, i2⟩ := valid_cut n _ hd
      have w := decodeL_width l
      have le := cutL_le (n + 1) l
      rw [cutL_step h0] at le ⊢
      have hne : l.take ((decodeL l).2 + cutL n (l.drop (decodeL l).2)) ≠ [] := by
        intro e
        have := congrArg List.length e
        rw [List.length_take, List.length_nil] at this
        omega
      constructor
      · rw [validD_step _ hne, decodeL_take h0 hv (by omega) le, if_neg hv, List.drop_take, Nat.add_sub_cancel_left]
        exact i1
      · rw [← List.drop_drop]
        exact i2
def cntL (l : List UInt8) : Nat := runeCountL l
theorem cntL_nil : cntL [] = 0 := rfl
theorem cntL_step {l : List UInt8} (h : l ≠ []) : cntL l = 1 + cntL (l.drop (decodeL l).2) := by
  obtain ⟨s, rfl⟩ : ∃ s : ByteArray, s.data.toList = l := ⟨⟨l.toArray⟩, by simp⟩
  have hs : 0 < s.size := by
    rcases Nat.eq_zero_or_pos s.size with e | e
    · exact absurd (List.eq_nil_of_length_eq_zero (by rw [Array.length_toList]; exact e)) h
    · exact e
  unfold cntL
  rw [runeCountL_eq]
  obtain ⟨w, hw⟩ : ∃ w, (decodeL s.data.toList).2 = w := ⟨_, rfl⟩
  have hd := decodeL_drop s 0
  rw [List.drop_zero] at hd
  have e1 : s.data.toList.drop w = (s.extract w s.size).data.toList := (ext_list s w).symm
  rw [hw, e1, runeCountL_eq]
  unfold runeCount
  obtain ⟨f, hf⟩ : ∃ f, s.size = f + 1 := ⟨s.size - 1, by omega⟩
  rw [tail_count, hf]
  have w1 := decodeL_width s.data.toList
  rw [show runeCountFrom s (f + 1) 0 = 1 + runeCountFrom s f (0 + (Utf8.decode s 0).2) by rw [runeCountFrom, if_pos hs], ← hd, hw, Nat.zero_add]
  rw [fuel_enough s f (s.extract w (f + 1)).size w (by omega) (by rw [← hf, tail_size]; exact Nat.le_refl _)]
  rfl
theorem cnt_cut : ∀ (n : Nat) (l : List UInt8), validD l = true → cntL l = cntL (l.take (cutL n l)) + cntL (l.drop (cutL n l))
  | 0, l, _ => by simp [cutL, cntL_nil]
  | n + 1, l, h => by
    by_cases h0 : l = []
    · subst h0; rw [cutL_nil]; rfl
    · obtain ⟨hv, hd⟩ := valid_at h0 h
      have ih := cnt_cut n _ hd
      have w := decodeL_width l
      have le := cutL_le (n + 1) l
      rw [cutL_step h0] at le ⊢
      have hne : l.take ((decodeL l).2 + cutL n (l.drop (decodeL l).2)) ≠ [] := by
        intro e
        have := congrArg List.length e
        rw [List.length_take, List.length_nil] at this
        omega
      rw [cntL_step h0, ih, cntL_step hne, decodeL_take h0 hv (by omega) le, List.drop_take, Nat.add_sub_cancel_left, ← List.drop_drop]
      omega
theorem cntL_le (l : List UInt8) : cntL l ≤ l.length := by
  have := runeCount_le ⟨l.toArray⟩
  exact this
end Go.Proofs.Bs
