/- 2^53 + 1 is no product of two numbers below 2^32. -/
import Derived.Test.YtgfoocnnidhepaaGreatDoorFMod3
namespace Go.Ev
def blk (d : Nat) : Nat := Nat.mul d (Nat.mul (Nat.add d 2) (Nat.mul (Nat.add d 4) (Nat.mul (Nat.add d 6) (Nat.mul (Nat.add d 8) (Nat.mul (Nat.add d 10) (Nat.mul (Nat.add d 12) (Nat.mul (Nat.add d 14) (Nat.mul (Nat.add d 16) (Nat.mul (Nat.add d 18) (Nat.mul (Nat.add d 20) (Nat.mul (Nat.add d 22) (Nat.mul (Nat.add d 24) (Nat.mul (Nat.add d 26) (Nat.mul (Nat.add d 28) (Nat.mul (Nat.add d 30) (Nat.mul (Nat.add d 32) (Nat.mul (Nat.add d 34) (Nat.mul (Nat.add d 36) (Nat.mul (Nat.add d 38) (Nat.mul (Nat.add d 40) (Nat.mul (Nat.add d 42) (Nat.mul (Nat.add d 44) (Nat.mul (Nat.add d 46) (Nat.mul (Nat.add d 48) (Nat.mul (Nat.add d 50) (Nat.mul (Nat.add d 52) (Nat.mul (Nat.add d 54) (Nat.mul (Nat.add d 56) (Nat.mul (Nat.add d 58) (Nat.mul (Nat.add d 60) (Nat.add d 62)))))))))))))))))))))))))))))))
theorem dm {a e b : Nat} (h : e ∣ b) : e ∣ Nat.mul a b := Nat.dvd_trans h (Nat.dvd_mul_left b a)
theorem dl {e b : Nat} : e ∣ Nat.mul e b := Nat.dvd_mul_right e b
theorem blk_dvd {d e : Nat} (h1 : d ≤ e) (h2 : e < d + 64) (h3 : e % 2 = d % 2) : e ∣ blk d := by
  obtain ⟨i, hi, rfl⟩ : ∃ i : Nat, i < 32 ∧ e = Nat.add d (2 * i) := ⟨(e - d) / 2, by omega, by show e = d + 2 * ((e - d) / 2); omega⟩
  clear h1 h2 h3
  unfold blk
  by_cases c0_32 : i < 16
  · by_cases c0_16 : i < 8
    · by_cases c0_8 : i < 4
      · by_cases c0_4 : i < 2
        · by_cases c0_2 : i < 1
          · have e : i = 0 := by omega
            subst e
            exact dl
          · have e : i = 1 := by omega
            subst e
            exact dm dl
        · by_cases c2_4 : i < 3
          · have e : i = 2 := by omega
            subst e
            exact dm (dm dl)
          · have e : i = 3 := by omega
            subst e
            exact dm (dm (dm dl))
      · by_cases c4_8 : i < 6
        · by_cases c4_6 : i < 5
          · have e : i = 4 := by omega
            subst e
            exact dm (dm (dm (dm dl)))
          · have e : i = 5 := by omega
            subst e
            exact dm (dm (dm (dm (dm dl))))
        · by_cases c6_8 : i < 7
          · have e : i = 6 := by omega
            subst e
            exact dm (dm (dm (dm (dm (dm dl)))))
          · have e : i = 7 := by omega
            subst e
            exact dm (dm (dm (dm (dm (dm (dm dl))))))
    · by_cases c8_16 : i < 12
      · by_cases c8_12 : i < 10
        · by_cases c8_10 : i < 9
          · have e : i = 8 := by omega
            subst e
            exact dm (dm (dm (dm (dm (dm (dm (dm dl)))))))
          · have e : i = 9 := by omega
            subst e
            exact dm (dm (dm (dm (dm (dm (dm (dm (dm dl))))))))
        · by_cases c10_12 : i < 11
          · have e : i = 10 := by omega
            subst e
            exact dm (dm (dm (dm (dm (dm (dm (dm (dm (dm dl)))))))))
          · have e : i = 11 := by omega
            subst e
            exact dm (dm (dm (dm (dm (dm (dm (dm (dm (dm (dm dl))))))))))
      · by_cases c12_16 : i < 14
        · by_cases c12_14 : i < 13
          · have e : i = 12 := by omega
            subst e
            exact dm (dm (dm (dm (dm (dm (dm (dm (dm (dm (dm (dm dl)))))))))))
          · have e : i = 13 := by omega
            subst e
            exact dm (dm (dm (dm (dm (dm (dm (dm (dm (dm (dm (dm (dm dl))))))))))))
        · by_cases c14_16 : i < 15
          · have e : i = 14 := by omega
            subst e
            exact dm (dm (dm (dm (dm (dm (dm (dm (dm (dm (dm (dm (dm (dm dl)))))))))))))
          · have e : i = 15 := by omega
            subst e
            exact dm (dm (dm (dm (dm (dm (dm (dm (dm (dm (dm (dm (dm (dm (dm dl))))))))))))))
  · by_cases c16_32 : i < 24
    · by_cases c16_24 : i < 20
      · by_cases c16_20 : i < 18
        · by_cases c16_18 : i < 17
          · have e : i = 16 := by omega
            subst e
            exact dm (dm (dm (dm (dm (dm (dm (dm (dm (dm (dm (dm (dm (dm (dm (dm dl)))))))))))))))
          · have e : i = 17 := by omega
            subst e
            exact dm (dm (dm (dm (dm (dm (dm (dm (dm (dm (dm (dm (dm (dm (dm (dm (dm dl))))))))))))))))
        · by_cases c18_20 : i < 19
          · have e : i = 18 := by omega
            subst e
            exact dm (dm (dm (dm (dm (dm (dm (dm (dm (dm (dm (dm (dm (dm (dm (dm (dm (dm dl)))))))))))))))))
          · have e : i = 19 := by omega
            subst e
            exact dm (dm (dm (dm (dm (dm (dm (dm (dm (dm (dm (dm (dm (dm (dm (dm (dm (dm (dm dl))))))))))))))))))
      · by_cases c20_24 : i < 22
        · by_cases c20_22 : i < 21
          · have e : i = 20 := by omega
            subst e
            exact dm (dm (dm (dm (dm (dm (dm (dm (dm (dm (dm (dm (dm (dm (dm (dm (dm (dm (dm (dm dl)))))))))))))))))))
          · have e : i = 21 := by omega
            subst e
            exact dm (dm (dm (dm (dm (dm (dm (dm (dm (dm (dm (dm (dm (dm (dm (dm (dm (dm (dm (dm (dm dl))))))))))))))))))))
        · by_cases c22_24 : i < 23
          · have e : i = 22 := by omega
            subst e
            exact dm (dm (dm (dm (dm (dm (dm (dm (dm (dm (dm (dm (dm (dm (dm (dm (dm (dm (dm (dm (dm (dm dl)))))))))))))))))))))
          · have e : i = 23 := by omega
            subst e
            exact dm (dm (dm (dm (dm (dm (dm (dm (dm (dm (dm (dm (dm (dm (dm (dm (dm (dm (dm (dm (dm (dm (dm dl))))))))))))))))))))))
    · by_cases c24_32 : i < 28
      · by_cases c24_28 : i < 26
        · by_cases c24_26 : i < 25
          · have e : i = 24 := by omega
            subst e
            exact dm (dm (dm (dm (dm (dm (dm (dm (dm (dm (dm (dm (dm (dm (dm (dm (dm (dm (dm (dm (dm (dm (dm (dm dl)))))))))))))))))))))))
          · have e : i = 25 := by omega
            subst e
            exact dm (dm (dm (dm (dm (dm (dm (dm (dm (dm (dm (dm (dm (dm (dm (dm (dm (dm (dm (dm (dm (dm (dm (dm (dm dl))))))))))))))))))))))))
        · by_cases c26_28 : i < 27
          · have e : i = 26 := by omega
            subst e
            exact dm (dm (dm (dm (dm (dm (dm (dm (dm (dm (dm (dm (dm (dm (dm (dm (dm (dm (dm (dm (dm (dm (dm (dm (dm (dm dl)))))))))))))))))))))))))
          · have e : i = 27 := by omega
            subst e
            exact dm (dm (dm (dm (dm (dm (dm (dm (dm (dm (dm (dm (dm (dm (dm (dm (dm (dm (dm (dm (dm (dm (dm (dm (dm (dm (dm dl))))))))))))))))))))))))))
      · by_cases c28_32 : i < 30
        · by_cases c28_30 : i < 29
          · have e : i = 28 := by omega
            subst e
            exact dm (dm (dm (dm (dm (dm (dm (dm (dm (dm (dm (dm (dm (dm (dm (dm (dm (dm (dm (dm (dm (dm (dm (dm (dm (dm (dm (dm dl)))))))))))))))))))))))))))
          · have e : i = 29 := by omega
            subst e
            exact dm (dm (dm (dm (dm (dm (dm (dm (dm (dm (dm (dm (dm (dm (dm (dm (dm (dm (dm (dm (dm (dm (dm (dm (dm (dm (dm (dm (dm dl))))))))))))))))))))))))))))
        · by_cases c30_32 : i < 31
          · have e : i = 30 := by omega
            subst e
            exact dm (dm (dm (dm (dm (dm (dm (dm (dm (dm (dm (dm (dm (dm (dm (dm (dm (dm (dm (dm (dm (dm (dm (dm (dm (dm (dm (dm (dm (dm dl)))))))))))))))))))))))))))))
          · have e : i = 31 := by omega
            subst e
            exact dm (dm (dm (dm (dm (dm (dm (dm (dm (dm (dm (dm (dm (dm (dm (dm (dm (dm (dm (dm (dm (dm (dm (dm (dm (dm (dm (dm (dm (dm (dm (Nat.dvd_refl _)))))))))))))))))))))))))))))))
noncomputable def noDiv (p : Nat) (n : Nat) : Nat → Bool := Nat.rec (motive := fun _ => Nat → Bool) (fun d => Nat.beq (Nat.gcd p (blk d)) 1) (fun k ih d => Bool.rec false (ih (Nat.add d (Nat.shiftLeft 64 k))) (ih d)) n
theorem noDiv_ok {p : Nat} : ∀ (n d : Nat), noDiv p n d = true → ∀ e, d ≤ e → e < d + 64 * 2 ^ n → e % 2 = d % 2 → Nat.gcd p e = 1
  | 0, d, h, e, h1, h2, h3 => by
    have h : Nat.gcd p (blk d) = 1 := Nat.eq_of_beq_eq_true h
    have hd := blk_dvd h1 (by omega) h3
    have k : Nat.gcd p e ∣ Nat.gcd p (blk d) := Nat.dvd_gcd (Nat.gcd_dvd_left p e) (Nat.dvd_trans (Nat.gcd_dvd_right p e) hd)
    rw [h] at k
    exact Nat.eq_one_of_dvd_one k
  | n + 1, d, h, e, h1, h2, h3 => by
    have h : (Bool.rec false (noDiv p n (d + 64 <<< n)) (noDiv p n d) : Bool) = true := h
    have hs : 64 <<< n = 64 * 2 ^ n := Nat.shiftLeft_eq 64 n
    cases ha : noDiv p n d with
    | false => rw [ha] at h; cases h
    | true =>
      rw [ha] at h
      have hb : noDiv p n (d + 64 <<< n) = true := h
      rw [hs] at hb
      rw [Nat.pow_succ] at h2
      have pe : (64 * 2 ^ n) % 2 = 0 := by omega
      by_cases c : e < d + 64 * 2 ^ n
      · exact noDiv_ok n d ha e h1 c h3
      · exact noDiv_ok n _ hb e (by omega) (by omega) (by omega)
theorem tried : noDiv 28059810762433 17 3 = true := by kernel_rfl
theorem prime_p {g : Nat} (h : g ∣ 28059810762433) : g = 1 ∨ g = 28059810762433 := by
  obtain ⟨k, hk⟩ := h
  have odd : ∀ a b : Nat, 28059810762433 = a * b → a % 2 = 1 := fun a b e => by
    rcases Nat.mod_two_eq_zero_or_one a with c | c
    · exfalso
      have : (a * b) % 2 = 0 := by rw [Nat.mul_mod, c]; simp
      omega
    · exact c
  have small : ∀ a b : Nat, 28059810762433 = a * b → a = 1 ∨ 8388611 ≤ a := fun a b e => by
    have o := odd a b e
    by_cases c : a < 8388611
    · by_cases c1 : a = 1
      · exact .inl c1
      · have := noDiv_ok 17 3 tried a (by omega) (by omega) (by omega)
        rw [e, Nat.gcd_eq_right (Nat.dvd_mul_right a b)] at this
        exact .inl this
    · exact .inr (by omega)
  rcases small g k hk with c | c
  · exact .inl c
  · rcases small k g (by rw [Nat.mul_comm]; exact hk) with d | d
    · rw [d, Nat.mul_one] at hk; exact .inr hk.symm
    · exfalso
      have : 8388611 * 8388611 ≤ g * k := Nat.mul_le_mul c d
      omega
theorem no_two {x y : Nat} (hx : x < 4294967296) (hy : y < 4294967296) : x * y ≠ 9007199254740993 := fun e => by
  have hd : 28059810762433 ∣ x * y := ⟨321, by rw [e]⟩
  have big : ∀ a : Nat, a < 4294967296 → 28059810762433 ∣ a → a = 0 := fun a ha ⟨k, hk⟩ => by
    rcases Nat.eq_zero_or_pos k with c | c
    · rw [hk, c]
    · omega
  rcases prime_p (Nat.gcd_dvd_left 28059810762433 x) with c | c
  · have := big y hy (Nat.Coprime.dvd_of_dvd_mul_left c hd)
    rw [this, Nat.mul_zero] at e
    omega
  · have hx2 : 28059810762433 ∣ x := by
      have := Nat.gcd_dvd_right 28059810762433 x
      rwa [c] at this
    have := big x hx hx2
    rw [this, Nat.zero_mul] at e
    omega
end Go.Ev
