/- Days and dates, in whole numbers. -/

namespace Go.Dates
def leapI (y : Int) : Prop := y % 4 = 0 ∧ (y % 100 ≠ 0 ∨ y % 400 = 0)
instance (y : Int) : Decidable (leapI y) := by unfold leapI; exact inferInstance
def lp (y : Int) : Int := if leapI y then 1 else 0
def monI (y m : Int) : Int := if m = 4 ∨ m = 6 ∨ m = 9 ∨ m = 11 then 30 else if m = 2 then 28 + lp y else 31
def cum (y m : Int) : Int :=
  if m ≤ 1 then 0 else if m = 2 then 31 else if m = 3 then 59 + lp y else if m = 4 then 90 + lp y else if m = 5 then 120 + lp y else if m = 6 then 151 + lp y
  else if m = 7 then 181 + lp y else if m = 8 then 212 + lp y else if m = 9 then 243 + lp y else if m = 10 then 273 + lp y else if m = 11 then 304 + lp y else if m = 12 then 334 + lp y else 365 + lp y
def yr (y : Int) : Int := (y - 1) * 365 + (y - 1) / 4 - (y - 1) / 100 + (y - 1) / 400
def dayI (y m d : Int) : Int := yr y + cum y m + d - 1
theorem lp_01 (y : Int) : 0 ≤ lp y ∧ lp y ≤ 1 := by unfold lp; split <;> omega
theorem yr_succ (y : Int) : yr (y + 1) = yr y + 365 + lp y := by
  by_cases h : leapI y
  · have e : lp y = 1 := by simp [lp, h]
    rw [e]
    unfold leapI at h
    unfold yr
    omega
  · have e : lp y = 0 := by simp [lp, h]
    rw [e]
    unfold leapI at h
    unfold yr
    omega
theorem cum_succ (y m : Int) (h1 : 1 ≤ m) (h2 : m ≤ 12) : cum y (m + 1) = cum y m + monI y m := by
  have : m = 1 ∨ m = 2 ∨ m = 3 ∨ m = 4 ∨ m = 5 ∨ m = 6 ∨ m = 7 ∨ m = 8 ∨ m = 9 ∨ m = 10 ∨ m = 11 ∨ m = 12 := by omega
  rcases this with rfl | rfl | rfl | rfl | rfl | rfl | rfl | rfl | rfl | rfl | rfl | rfl <;> simp [cum, monI] <;> omega
theorem cum_one (y : Int) : cum y 1 = 0 := by simp [cum]
theorem cum_13 (y : Int) : cum y 13 = 365 + lp y := by simp [cum]
theorem monI_pos (y m : Int) : 28 ≤ monI y m ∧ monI y m ≤ 31 := by
  have := lp_01 y
  unfold monI
  split
  · omega
  · split <;> omega
theorem cum_bd (y m : Int) : 0 ≤ cum y m ∧ cum y m ≤ 366 := by
  have := lp_01 y
  have h : m ≤ 1 ∨ m = 2 ∨ m = 3 ∨ m = 4 ∨ m = 5 ∨ m = 6 ∨ m = 7 ∨ m = 8 ∨ m = 9 ∨ m = 10 ∨ m = 11 ∨ m = 12 ∨ 13 ≤ m := by omega
  rcases h with h | rfl | rfl | rfl | rfl | rfl | rfl | rfl | rfl | rfl | rfl | rfl | h
  · simp [cum, h]
  · simp [cum]
  all_goals first | (simp [cum]; omega) | skip
theorem yr_mono {a b : Int} (h : a ≤ b) : yr a ≤ yr b := by unfold yr; omega
theorem yr_bd {y : Int} (h1 : 0 ≤ y) (h2 : y ≤ 100000) : -366 ≤ yr y ∧ yr y ≤ 40000000 := by unfold yr; omega
structure IsDate (n y m d : Int) : Prop where
  y1 : 1 ≤ y
  y2 : y ≤ 9999
  m1 : 1 ≤ m
  m2 : m ≤ 12
  d1 : 1 ≤ d
  d2 : d ≤ monI y m
  day : dayI y m d = n
theorem cum_mono {y a b : Int} (h1 : 1 ≤ a) (h : a ≤ b) (h2 : b ≤ 13) : cum y a ≤ cum y b := by
  have := lp_01 y
  have ha : a = 1 ∨ a = 2 ∨ a = 3 ∨ a = 4 ∨ a = 5 ∨ a = 6 ∨ a = 7 ∨ a = 8 ∨ a = 9 ∨ a = 10 ∨ a = 11 ∨ a = 12 ∨ a = 13 := by omega
  have hb : b = 1 ∨ b = 2 ∨ b = 3 ∨ b = 4 ∨ b = 5 ∨ b = 6 ∨ b = 7 ∨ b = 8 ∨ b = 9 ∨ b = 10 ∨ b = 11 ∨ b = 12 ∨ b = 13 := by omega
  rcases ha with rfl | rfl | rfl | rfl | rfl | rfl | rfl | rfl | rfl | rfl | rfl | rfl | rfl <;> rcases hb with rfl | rfl | rfl | rfl | rfl | rfl | rfl | rfl | rfl | rfl | rfl | rfl | rfl <;> first | omega | (simp [cum]; omega) | simp [cum]
theorem IsDate.bounds {n y m d : Int} (h : IsDate n y m d) : yr y ≤ n ∧ n < yr (y + 1) ∧ yr y + cum y m ≤ n ∧ n < yr y + cum y (m + 1) := by
  have h1 := h.day
  unfold dayI at h1
  have h2 := cum_succ y m h.m1 h.m2
  have h3 := cum_bd y m
  have h4 := yr_succ y
  have h5 := cum_mono (y := y) (a := m + 1) (b := 13) (by have := h.m1; omega) (by have := h.m2; omega) (by omega)
  have h6 := cum_13 y
  have := h.d1
  have := h.d2
  omega
theorem IsDate.unique {n y m d y' m' d' : Int} (h : IsDate n y m d) (k : IsDate n y' m' d') : y = y' ∧ m = m' ∧ d = d' := by
  obtain ⟨a1, a2, a3, a4⟩ := h.bounds
  obtain ⟨b1, b2, b3, b4⟩ := k.bounds
  have hy : y = y' := by
    rcases Int.lt_trichotomy y y' with c | c | c
    · have := yr_mono (a := y + 1) (b := y') (by omega); omega
    · exact c
    · have := yr_mono (a := y' + 1) (b := y) (by omega); omega
  subst hy
  have hm : m = m' := by
    have := h.m1; have := h.m2; have := k.m1; have := k.m2
    rcases Int.lt_trichotomy m m' with c | c | c
    · have := cum_mono (y := y) (a := m + 1) (b := m') (by omega) (by omega) (by omega); omega
    · exact c
    · have := cum_mono (y := y) (a := m' + 1) (b := m) (by omega) (by omega) (by omega); omega
  subst hm
  have := h.day; have := k.day
  unfold dayI at *
  exact ⟨rfl, rfl, by omega⟩
theorem IsDate.range {n y m d : Int} (h : IsDate n y m d) : 0 ≤ n ∧ n ≤ 3652058 := by
  obtain ⟨a1, a2, _⟩ := h.bounds
  have := yr_mono (a := 1) (b := y) h.y1
  have := yr_mono (a := y + 1) (b := 10000) (by have := h.y2; omega)
  have e1 : yr 1 = 0 := by decide
  have e2 : yr 10000 = 3652059 := by decide
  omega
theorem IsDate.next {n y m d y2 m2 d2 : Int} (h : IsDate n y m d) (k : IsDate (n + 1) y2 m2 d2) : (y2 = y ∧ m2 = m ∧ d2 = d + 1) ∨ (y2 = y ∧ m2 = m + 1 ∧ d2 = 1) ∨ (y2 = y + 1 ∧ m = 12 ∧ m2 = 1 ∧ d2 = 1) := by
  by_cases h1 : d < monI y m
  · have : IsDate (n + 1) y m (d + 1) := { h with d1 := by have := h.d1; omega, d2 := by omega, day := by have := h.day; unfold dayI at *; omega }
    obtain ⟨rfl, rfl, rfl⟩ := k.unique this
    exact .inl ⟨rfl, rfl, rfl⟩
  · have hd : d = monI y m := by have := h.d2; omega
    have hday := h.day
    unfold dayI at hday
    by_cases h2 : m < 12
    · have c := cum_succ y m h.m1 h.m2
      have hp := monI_pos y (m + 1)
      have : IsDate (n + 1) y (m + 1) 1 := { y1 := h.y1, y2 := h.y2, m1 := by have := h.m1; omega, m2 := by omega, d1 := by omega, d2 := by omega, day := by unfold dayI; omega }
      obtain ⟨rfl, rfl, rfl⟩ := k.unique this
      exact .inr (.inl ⟨rfl, rfl, rfl⟩)
    · have hm : m = 12 := by have := h.m2; omega
      subst hm
      have c := cum_succ y 12 (by omega) (by omega)
      have c13 : cum y (12 + 1) = 365 + lp y := cum_13 y
      have hy := yr_succ y
      have hy2 : y < 9999 := by
        rcases Int.lt_or_le y 9999 with h' | h'
        · exact h'
        · have e : y = 9999 := by have := h.y2; omega
          subst e
          have := k.range
          have e2 : yr (9999 + 1) = 3652059 := by decide
          omega
      have hp := monI_pos (y + 1) 1
      have c1 := cum_one (y + 1)
      have : IsDate (n + 1) (y + 1) 1 1 := { y1 := by have := h.y1; omega, y2 := by omega, m1 := by omega, m2 := by omega, d1 := by omega, d2 := by omega, day := by unfold dayI; omega }
      obtain ⟨rfl, rfl, rfl⟩ := k.unique this
      exact .inr (.inr ⟨rfl, rfl, rfl, rfl⟩)
end Go.Dates
