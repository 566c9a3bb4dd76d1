/- A block that a contract hands over: it is taken into what is told. -/
import Derived.Test.YtlpbimookmhjbaaGreatDoorEvLaw
namespace Go.Ev
open Go.RowKit (Below)
section
variable {B G : Nat} {w0 : Start} {E : Env} {S : St} {w : World} {P : Program}
theorem Rel.adopt (h : Rel B G w0 E S w) {w' : World} (k : Below w.heap.size w w') {g : Nat} {x : Obj} {o : SObj} (hg : w.heap.size ≤ g) (hx : w'.heap[g]? = some x) (ho : ORel (E.place S.next g) o x) :
    E.le (E.place S.next g) ∧ Rel B G w0 (E.place S.next g) { S with heap := (S.next, o) :: S.heap, next := S.next + 1 } w' := by
  have h' := h.after k
  have hn := h.newρ S.next (Nat.le_refl _)
  have hle := E.place_le g hn
  have hlt : g < w'.heap.size := by
    rcases Nat.lt_or_ge g w'.heap.size with c | c
    · exact c
    · simp [Array.getElem?_eq_none c] at hx
  refine ⟨hle, ?_⟩
  exact
  { heap := fun i y hi => by
      by_cases e : i = S.next
      · subst e
        rw [find_cons_self] at hi; cases hi
        exact ⟨g, x, E.place_self _ _, hx, ho⟩
      · rw [find_cons_ne e] at hi
        obtain ⟨c, z, h1, h2, h3⟩ := h'.heap i y hi
        exact ⟨c, z, hle.ρ _ _ h1, h2, h3.mono hle⟩
    low := fun i y b hi hg' hb => by
      by_cases e : i = S.next
      · subst e; have := h.next; omega
      · rw [find_cons_ne e] at hi; rw [E.place_ne _ e] at hb; exact h.low i y b hi hg' hb
    next := Nat.le_succ_of_le h.next
    inj := fun i j a c d hi hj hi' hj' gi gj => by
      have fr : ∀ k y, find k ((S.next, o) :: S.heap) = some y → (E.place S.next g).ρ k = some d → (k = S.next ∧ d = g) ∨ (k ≠ S.next ∧ d < w.heap.size ∧ E.ρ k = some d ∧ find k S.heap = some y) := fun k y hk hk' => by
        by_cases e : k = S.next
        · subst e; rw [E.place_self] at hk'; cases hk'; exact .inl ⟨rfl, rfl⟩
        · rw [find_cons_ne e] at hk; rw [E.place_ne _ e] at hk'; exact .inr ⟨e, h.dom _ _ hk', hk', hk⟩
      rcases fr i a hi hi' with ⟨e1, e2⟩ | ⟨e1, e2, e3, e4⟩ <;> rcases fr j c hj hj' with ⟨f1, f2⟩ | ⟨f1, f2, f3, f4⟩
      · rw [e1, f1]
      · omega
      · omega
      · exact h.inj i j a c d e4 f4 e3 f3 gi gj
    newρ := fun i hi => by
      have hi : S.next + 1 ≤ i := hi
      rw [E.place_ne _ (by omega)]; exact h.newρ i (by omega)
    newσ := h.newσ
    newκ := h.newκ
    dom := fun i b hb => by
      by_cases e : i = S.next
      · subst e; rw [E.place_self] at hb; cases hb; exact hlt
      · rw [E.place_ne _ e] at hb; exact h'.dom i b hb
    own := fun i y b hi hg' hb => by
      by_cases e : i = S.next
      · subst e; rw [E.place_self] at hb; cases hb; have := h.base; omega
      · rw [find_cons_ne e] at hi; rw [E.place_ne _ e] at hb; exact h.own i y b hi hg' hb
    base := h'.base
    below := h'.below
    lows := h.lows
    sorts := h.sorts
    pc := h.pc
    glob := fun i hi => hle.ρ _ _ (h.glob i hi)
    pins := h.pins
    ro := h.ro
    ra := h.ra
    deeps := h.deeps
    facts := fun q hq => by obtain ⟨vs, v, h1, h2, h3⟩ := h.facts q hq; exact ⟨vs, v, SV.denL_mono hle _ _ h1, SV.den_mono hle _ _ h2, h3⟩
    lists := h'.listsKeep hle fun _ _ _ _ _ _ _ _ => rfl
    apart := fun l hl ho v hv c hc => by
      have hv := h.listAt hl hle hv
      obtain ⟨h1, h2⟩ := h.apart l hl ho v hv c hc
      refine ⟨fun i y hi => ?_, fun m hm hmo u hu => h2 m hm hmo u (h.listAt hm hle hu)⟩
      obtain ⟨u, cells, hr⟩ := h.lists l hl
      have hs := hr.s
      rw [hv] at hs; cases hs
      have hlt := (hr.lt ho hc).2
      by_cases e : i = S.next
      · subst e; rw [Env.place_self]; intro e; cases e; omega
      · rw [find_cons_ne e] at hi; rw [Env.place_ne _ _ e]; exact h1 i y hi }
theorem Rel.adoptRow (h : Rel B G w0 E S w) {w' : World} (k : Below w.heap.size w w') {e : TypeId} {v : Value} {n : Nat} {cs : List SV} {xs : List Value} (ho : w'.ownsRow w.heap.size e 1 v n xs) (hv : v ≠ .slice none 0 0) (hcs : SV.denL E cs = some xs) :
    ∃ F, E.le F ∧ Rel B G w0 F (newGrownS S e cs 1 n) w' ∧ (SV.slice S.next 0 n (.v S.ncap)).den F = some v := by
  obtain ⟨hlen, hcase⟩ := ho
  rcases hcase with ⟨e1, _⟩ | ⟨g, cap, cur, rfl, hg, hx, h1, _, h3, h4⟩
  · exact absurd e1 hv
  · obtain ⟨k1, k2⟩ := newCap_ok h h1
    have hle := (E.cap S.ncap cap).place_le g (k2.newρ S.next (Nat.le_refl _))
    have hcur : xs ++ cur.toList.drop n = cur.toList := by rw [← h4, Nat.mul_one, List.take_append_drop]
    obtain ⟨m1, m2⟩ := k2.adopt (o := .row cs e true (some (S.ncap, 1))) k hg hx
      ⟨xs, cur.toList.drop n, cap, (0, 0), SV.denL_mono (Env.le_trans k1 hle) _ _ hcs, hle.κ _ _ (Env.cap_self E _ cap), by rw [hcur]; simp [h3], by rw [hcur], fun _ => .zero _⟩
    refine ⟨(E.cap S.ncap cap).place S.next g, Env.le_trans k1 m1, m2, ?_⟩
    have hp : ((E.cap S.ncap cap).place S.next g).ρ S.next = some g := Env.place_self _ _ _
    have hk : ((E.cap S.ncap cap).place S.next g).κ S.ncap = some cap := hle.κ _ _ (Env.cap_self E _ cap)
    simp only [SV.den, Cap.den, hp, hk]
end
end Go.Ev
