/- Lists of unknown length: an element written in place; a list made, of so many elements alike. -/
import Derived.Test.YtlinfpchnonbpaaGreatDoorEvSplit
import Derived.Test.YtlinfpchnonbpaaGreatDoorEvWhole
import Derived.Laws.StructEq
namespace Go.Ev
open Go.RowKit (Below)
theorem take_splice {c vs : List Value} {o N : Nat} (h1 : o + vs.length ≤ N) (h2 : N ≤ c.length) :
    (c.take o ++ vs ++ c.drop (o + vs.length)).take N = (c.take N).take o ++ vs ++ (c.take N).drop (o + vs.length) := by
  have hl : (c.take o ++ vs).length = o + vs.length := by simp; omega
  rw [List.take_append, hl, List.take_of_length_le (by omega), List.take_take, Nat.min_eq_left (by omega), List.drop_take]
theorem spliceV_list (cells : Array Value) (k : Nat) (news : List Value) : (spliceV cells k news).toList = cells.toList.take k ++ news ++ cells.toList.drop (k + news.length) := by simp [spliceV]
theorem spliceV_size {cells : Array Value} {k : Nat} {news : List Value} (h : k + news.length ≤ cells.size) : (spliceV cells k news).size = cells.size := by
  unfold spliceV; simp; omega
theorem spliceV_get {cells : Array Value} {k : Nat} {news : List Value} (h : k + news.length ≤ cells.size) {j : Nat} {c : Value} (hc : (spliceV cells k news)[j]? = some c) :
    (cells[j]? = some c) ∨ ∃ i, news[i]? = some c ∧ j = k + i := by
  have hc : (cells.toList.take k ++ news ++ cells.toList.drop (k + news.length))[j]? = some c := by
    rw [← spliceV_list]; simpa using hc
  have hk : (cells.toList.take k).length = k := by simp; omega
  rw [List.append_assoc, List.getElem?_append] at hc
  split at hc
  · rename_i h1
    rw [List.getElem?_take] at hc
    split at hc
    · exact .inl (by simpa using hc)
    · cases hc
  · rename_i h1
    rw [hk] at h1 hc
    rw [List.getElem?_append] at hc
    split at hc
    · exact .inr ⟨j - k, hc, by omega⟩
    · rename_i h2
      rw [List.getElem?_drop] at hc
      rw [show k + news.length + (j - k - news.length) = j by omega] at hc
      exact .inl (by simpa using hc)
theorem repV_size (zs : List Value) (n : Nat) : (repV zs n).size = n * zs.length := by simp [repV]
section
variable {B G : Nat} {w0 : Start} {E : Env} {S : St} {w : World} {P : Program}
theorem Rel.addList (h : Rel B G w0 E S w) {l : LEnt} {v : Value} {cells : Array Value} (hL : LRel B w0 E w l v cells) (_ho : l.own = true) {D : Nat} (hD : ∀ b, v.ownBlock = some b → D ≤ b)
    (hρ : ∀ i b, E.ρ i = some b → b < D) (hls : ∀ m ∈ S.lists, m.own = true → ∀ u, E.σ m.s = some u → ∀ b, u.ownBlock = some b → b < D) : Rel B G w0 E { S with lists := l :: S.lists } w :=
  { h with
    lists := fun m hm => by
      simp only [List.mem_cons] at hm
      rcases hm with rfl | hm
      · exact ⟨v, cells, hL⟩
      · exact h.lists m hm
    apart := fun m hm hmo x hx b hb => by
      simp only [List.mem_cons] at hm
      rcases hm with rfl | hm
      · have := hL.s; rw [hx] at this; cases this
        have hbD := hD b hb
        refine ⟨fun id o _ he => by have := hρ id b he; omega, fun k hk hko u hu hub => ?_⟩
        simp only [List.mem_cons] at hk
        rcases hk with rfl | hk
        · rfl
        · have := hls k hk hko u hu b hub; omega
      · obtain ⟨h1, h2⟩ := h.apart m hm hmo x hx b hb
        refine ⟨h1, fun k hk hko u hu hub => ?_⟩
        simp only [List.mem_cons] at hk
        rcases hk with rfl | hk
        · have := hL.s; rw [hu] at this; cases this
          have := hls m hm hmo x hx b hb
          have := hD b hub
          omega
        · exact h2 k hk hko u hu hub }
theorem Rel.moreFact (h : Rel B G w0 E S w) {q : Fact_} {vs : List Value} {v : Value} (h1 : SV.denL E q.args = some vs) (h2 : q.res.den E = some v) (h3 : q.op.rel w0 vs v) : Rel B G w0 E { S with facts := q :: S.facts } w :=
  { h with
    facts := fun p hp => by
      simp only [List.mem_cons] at hp
      rcases hp with rfl | hp
      · exact ⟨vs, v, h1, h2, h3⟩
      · exact h.facts p hp }
def lenFact (sz x y : Nat) (fs : List Fact_) : List Fact_ := match lookFact (.len sz) [.sym x] fs with
  | some ln => [⟨.len sz, [.sym y], ln⟩]
  | none => []
def evLStore (P : Program) (S : St) (t : TypeId) (a v : SV) : Option St :=
  match a with
  | .sym p => match placeOf p S.facts with
    | some (sz, s, i, off) => match listAt s S.lists with
      | some l => match lookFact (.inb sz) [.sym l.x, i] S.facts, (P.info? t).map (·.size) with
        | some _, some n =>
          bif l.own && (Nat.beq sz l.lay.length && (Nat.beq v.cells.length n && (Nat.ble (off + n) sz && (allOne S v.cells && fitsRows S l.lay off v.cells)))) then
            some { (freshS S .any (.set sz off) (.sym l.x :: i :: v.cells)).2 with
              lists := { l with x := S.nsym } :: dropList l.s S.lists
              facts := ⟨.inb sz, [.sym S.nsym, i], .val (.bool true)⟩ :: (lenFact sz l.x S.nsym S.facts ++ (freshS S .any (.set sz off) (.sym l.x :: i :: v.cells)).2.facts) }
          else none
        | _, _ => none
      | none => none
    | none => none
  | _ => none
theorem evLStore_ok (hr : Rel B G w0 E S w) {t : TypeId} {a v : SV} {S' : St} {va vv : Value} (h : evLStore P S t a v = some S') (ha : a.den E = some va) (hv : v.den E = some vv) :
    ∃ F w', E.le F ∧ (Instr.storeAt t va vv).run P w = .ok () w' ∧ Rel B G w0 F S' w' := by
  unfold evLStore at h
  split at h
  case h_2 => cases h
  rename_i p
  split at h
  case h_2 => cases h
  rename_i sz s i off hp
  split at h
  case h_2 => cases h
  rename_i l hl
  split at h
  case h_2 => cases h
  rename_i z n hz hsz
  cases hc : l.own && (Nat.beq sz l.lay.length && (Nat.beq v.cells.length n && (Nat.ble (off + n) sz && (allOne S v.cells && fitsRows S l.lay off v.cells)))) with
  | false => rw [hc] at h; cases h
  | true =>
  rw [hc] at h
  simp only [cond_true, Option.some.injEq] at h
  simp only [Bool.and_eq_true] at hc
  obtain ⟨ho, c1, c2, c3, c4, c5⟩ := hc
  have c1 := Nat.eq_of_beq_eq_true c1
  have c2 := Nat.eq_of_beq_eq_true c2
  have c3 := Nat.le_of_ble_eq_true c3
  subst c1
  simp only [SV.den] at ha
  obtain ⟨a, n', cap, kd, k, e1, e2, rfl⟩ := place_at hr hp ha
  obtain ⟨hm, rfl⟩ := listAt_mem hl
  obtain ⟨vl, cells, hL⟩ := hr.lists l hm
  have hX : (SV.sym l.x).den E = some (.agg cells) := by simp only [SV.den]; exact hL.x
  obtain ⟨u, hu1, hu2⟩ := fact_at hr hz (denL_mk hX (denL_mk e2 (r := []) rfl))
  obtain ⟨hk0, hk1⟩ := inb_of hu2
  have hs := hL.s
  rw [e1] at hs; cases hs
  have hpos := hL.some_
  have hwhole : k.toNat * l.lay.length + l.lay.length ≤ cells.size := by
    have h1 : (k.toNat + 1) * l.lay.length ≤ cells.size / l.lay.length * l.lay.length := Nat.mul_le_mul_right _ hk1
    rw [Nat.add_mul, Nat.one_mul] at h1
    have := hL.whole; omega
  have hcd := cells_den hr.env hv c4
  have hclen : vv.cells.toList.length = n := by rw [denL_length hcd, c2]
  have hone := allOne_ok hr.env c4 hcd
  have hfit := fitsRows_ok hr.env off c5 hcd
  have hin : k.toNat * l.lay.length + off + vv.cells.toList.length ≤ cells.size := by omega
  rcases (hL.own ho) with ⟨hsz0, ⟨e, _⟩ | ⟨g, cap', cur, e, hg, hcur, hn, hcap, hcs, htk⟩⟩
  · cases e
  cases e
  have hcur' : w.heap[g]? = some (.cells cur.toList.toArray l.e (0, 0)) := by simpa using hcur
  have hlc : cells.size ≤ cur.toList.length := by
    have := congrArg List.length htk
    simp at this
    simp
    omega
  have hNc : cells.size / l.lay.length * l.lay.length = cells.size := hL.whole.symm
  obtain ⟨w', k1, k2, k3, k4, k5, k6, k7⟩ := stores_run (P := P) (off := k.toNat * l.lay.length + off) vv.cells.toList 0 cur.toList w hcur' (.zero _) (by omega) hone
  have hgrow : w.grownBy w' (some g) := ⟨k6, k5, k7, by omega, fun j _ hj => k4 j fun e => hj (by rw [e])⟩
  obtain ⟨f1, f2, f3⟩ := fresh_ok hr (srt := .any) (op := .set l.lay.length off) (args := .sym l.x :: i :: v.cells) (vs := .agg cells :: .int kd k :: vv.cells.toList) (v := .agg (spliceV cells (k.toNat * l.lay.length + off) vv.cells.toList))
    (denL_mk hX (denL_mk e2 hcd)) trivial rfl
  have hss := spliceV_size (cells := cells) hin
  have hS1 : (E.unk S.nsym (.agg (spliceV cells (k.toNat * l.lay.length + off) vv.cells.toList))).σ S.nsym = some (.agg (spliceV cells (k.toNat * l.lay.length + off) vv.cells.toList)) := Env.unk_self _ _ _
  have hL' : LRel B w0 (E.unk S.nsym (.agg (spliceV cells (k.toNat * l.lay.length + off) vv.cells.toList))) w' { l with x := S.nsym } (.slice (some ⟨g, 0, none⟩) (cells.size / l.lay.length) cap) (spliceV cells (k.toNat * l.lay.length + off) vv.cells.toList) :=
    { s := f1.σ _ _ hL.s
      x := hS1
      some_ := hpos
      few := by show _ / l.lay.length ≤ _; rw [hss]; exact hL.few
      whole := by show _ = _ / l.lay.length * l.lay.length; rw [hss]; exact hL.whole
      lay := fun j c hj => by
        rcases spliceV_get hin hj with hj | ⟨x, hx, rfl⟩
        · exact hL.lay j c hj
        · obtain ⟨_, t, h1, h2⟩ := hfit x c hx
          refine ⟨t, ?_, h2⟩
          rw [← h1]
          show l.lay[_ % l.lay.length]? = _
          congr 1
          rw [Nat.add_assoc, Nat.mul_comm, Nat.mul_add_mod]
      own := fun _ => by
        show w'.ownsRow B l.e l.lay.length _ _ _
        rw [hss]
        refine ⟨by simp only [Array.length_toList]; rw [hss]; omega, .inr ⟨g, cap, _, rfl, hg, k2, hn, hcap, ?_, ?_⟩⟩
        · simp only [Nat.add_zero, List.size_toArray, List.length_append, List.length_take, List.length_drop]
          have : cur.toList.length = cap * l.lay.length := by simpa using hcs
          omega
        · rw [spliceV_list]
          simp only [Nat.add_zero]
          rw [take_splice (by omega) (by omega), htk]
      old := fun h => by simp only at h; rw [ho] at h; cases h }
  have hlists : (freshS S .any (.set l.lay.length off) (.sym l.x :: i :: v.cells)).2.lists = S.lists := rfl
  have hfin := f2.relist (l := l) (l' := { l with x := S.nsym }) hm ho (f1.σ _ _ hL.s) hgrow (.inl rfl) ho hL' (fun q _ hq => hq)
  have run : (Instr.storeAt t (.pointer (some ((⟨g, 0, none⟩ : Addr).add (k.toNat * l.lay.length + off)))) vv).run P w = .ok () w' := by
    rw [add_at, Nat.zero_add]
    simp only [Instr.storeAt, Instr.sureAddr, storeVar, Sem.run_bind, Sem.run_pure, Result.andThen_ok, run_sizeOf' hsz]
    have : ¬ (vv.cells.size ≠ n) := by simp at hclen; omega
    simp only [this, if_false]
    simpa using k1
  refine ⟨_, w', f1, run, ?_⟩
  subst h
  have hX' : (SV.sym S.nsym).den (E.unk S.nsym (.agg (spliceV cells (k.toNat * l.lay.length + off) vv.cells.toList))) = some (.agg (spliceV cells (k.toNat * l.lay.length + off) vv.cells.toList)) := by simp only [SV.den]; exact hS1
  have hinb : SOp.rel w0 (.inb l.lay.length) [.agg (spliceV cells (k.toNat * l.lay.length + off) vv.cells.toList), .int kd k] (.bool true) := by
    show sopFun _ _ = _
    simp only [sopFun, hss]
    rw [if_pos ⟨hk0, hk1⟩]
  have fin : ∀ fs : List Fact_, (∀ q ∈ fs, ∃ vs u, SV.denL (E.unk S.nsym (.agg (spliceV cells (k.toNat * l.lay.length + off) vv.cells.toList))) q.args = some vs ∧ q.res.den (E.unk S.nsym (.agg (spliceV cells (k.toNat * l.lay.length + off) vv.cells.toList))) = some u ∧ q.op.rel w0 vs u) →
      Rel B G w0 (E.unk S.nsym (.agg (spliceV cells (k.toNat * l.lay.length + off) vv.cells.toList))) { (freshS S .any (.set l.lay.length off) (.sym l.x :: i :: v.cells)).2 with lists := { l with x := S.nsym } :: dropList l.s S.lists, facts := fs ++ (freshS S .any (.set l.lay.length off) (.sym l.x :: i :: v.cells)).2.facts } w' := fun fs hfs =>
    { hfin with
      facts := fun q hq => by
        simp only [List.mem_append] at hq
        rcases hq with hq | hq
        · exact hfs q hq
        · exact hfin.facts q hq }
  have := fin (⟨.inb l.lay.length, [.sym S.nsym, i], .val (.bool true)⟩ :: lenFact l.lay.length l.x S.nsym S.facts) (fun q hq => by
    simp only [List.mem_cons] at hq
    rcases hq with rfl | hq
    · exact ⟨_, .bool true, denL_mk hX' (denL_mk (SV.den_mono f1 _ _ e2) (r := []) rfl), by simp only [SV.den], hinb⟩
    · unfold lenFact at hq
      split at hq
      · rename_i ln hln
        simp only [List.mem_singleton] at hq; subst hq
        obtain ⟨u, h1, h2⟩ := fact_at hr hln (denL_mk hX (r := []) rfl)
        refine ⟨_, u, denL_mk hX' (r := []) rfl, SV.den_mono f1 _ _ h1, ?_⟩
        have h2' : sopFun (.len l.lay.length) [.agg cells] = some u := h2
        show sopFun (.len l.lay.length) _ = _
        simp only [sopFun] at h2' ⊢
        rw [hss]; exact h2'
      · cases hq)
  exact this
def askCmp (S : St) (op : BinOp) (x y : SV) : SV × St := match evIntCmp S op x y with
  | some v => (v, S)
  | none => known S .bool (.int op .i64) [x, y]
def sortVal : Value → Sort_
  | .int k _ => .int k
  | .float k _ => .float k
  | .string _ => .str
  | .bool _ => .bool
  | _ => .cell
theorem sortVal_fits {v : Value} (h : v.oneCell' = true) : (sortVal v).fits v := by
  cases v <;> first | exact ⟨_, rfl⟩ | exact h
def symSame : SV → SV → Bool
  | .sym a, .sym b => Nat.beq a b
  | _, _ => false
theorem symSame_eq {x y : SV} (h : symSame x y = true) : x = y := by
  unfold symSame at h
  split at h
  · rw [Nat.eq_of_beq_eq_true h]
  · cases h
def evLMake (P : Program) (S : St) (t : TypeId) (l c : SV) : Option (List (SV × St)) :=
  match P.underlying t, intOf S l with
  | some (.slice e), some (.i64, _, _) => match P.info? e with
    | some inf => match inf.zero with
      | some z =>
        bif symSame l c && (Nat.blt 0 inf.size && (Nat.blt 0 inf.bytes && (Nat.beq z.cells.size inf.size && z.cells.toList.all (·.oneCell')))) then
          match notNeg S l with
          | none => none
          | some (S1, b1) =>
            let q := askCmp S1 .leq l (.val (.int .i64 ((140737488355328 / inf.bytes : Nat) : Int)))
            match need q.2 q.1 true with
            | none => none
            | some (S2, b2) =>
              let y := (freshS S2 .any (.rep z.cells.toList) [l]).2
              some ((.sym (S2.nsym + 1), { y with nsym := S2.nsym + 2, sorts := (S2.nsym + 1, .cell) :: y.sorts, lists := { s := S2.nsym + 1, x := S2.nsym, e := e, lay := z.cells.toList.map sortVal, own := true } :: y.lists, facts := ⟨.len inf.size, [.sym S2.nsym], l⟩ :: y.facts }) :: bads (b1 ++ b2))
        else none
      | none => none
    | none => none
  | _, _ => none
theorem askCmp_leq (hr : Rel B G w0 E S w) {x y : SV} {a b : Int} (hx : x.den E = some (.int .i64 a)) (hy : y.den E = some (.int .i64 b)) :
    ∃ F, E.le F ∧ Rel B G w0 F (askCmp S .leq x y).2 w ∧ (askCmp S .leq x y).1.den F = some (.bool (a ≤ b)) := by
  unfold askCmp
  split
  · rename_i v hv
    obtain ⟨c, rfl, e⟩ := evIntCmp_val hr.env hv hx hy
    simp only [ibin, Option.some.injEq, Value.bool.injEq] at e
    exact ⟨E, E.le_refl, hr, by simp only [SV.den, e]⟩
  · exact known_ok hr (srt := .bool) (op := .int .leq .i64) (bound_int _ _) (denL_mk hx (denL_mk hy (r := []) rfl)) ⟨_, rfl⟩ (rel_int (by simp only [intV, if_true, ibin]))
theorem evLMake_ok (hr : Rel B G w0 E S w) {t : TypeId} {l c : SV} {rs : List (SV × St)} {vl vc : Value} (h : evLMake P S t l c = some rs) (hl : l.den E = some vl) (hc : c.den E = some vc) :
    DoesB B G w0 P E rs (Instr.makeSlice t vl vc) w := by
  unfold evLMake at h
  split at h
  case h_2 => cases h
  rename_i e lo hi hu hio
  split at h
  case h_2 => cases h
  rename_i inf hinf
  split at h
  case h_2 => cases h
  rename_i z hz
  cases hcc : symSame l c && (Nat.blt 0 inf.size && (Nat.blt 0 inf.bytes && (Nat.beq z.cells.size inf.size && z.cells.toList.all (·.oneCell')))) with
  | false => rw [hcc] at h; cases h
  | true =>
  rw [hcc] at h
  simp only [cond_true] at h
  simp only [Bool.and_eq_true] at hcc
  obtain ⟨c1, c2, c3, c4, c5⟩ := hcc
  have c1 := symSame_eq c1
  have c2 : 0 < inf.size := Nat.le_of_ble_eq_true c2
  have c3 : 0 < inf.bytes := Nat.le_of_ble_eq_true c3
  have c4 := Nat.eq_of_beq_eq_true c4
  subst c1
  rw [hl] at hc; cases hc
  obtain ⟨k, rfl, _, _⟩ := intOf_ok hr.env hio hl
  split at h
  · cases h
  rename_i S1 b1 hn
  split at h
  · cases h
  rename_i S2 b2 hn2
  simp only [Option.some.injEq] at h; subst h
  obtain ⟨F, f1, f2⟩ := notNeg_ok hr hl hn
  rcases f2 with ⟨hk, hr1⟩ | hbad
  case inr => exact doesB_more f1 hbad fun T hT => List.mem_append_left _ hT
  have hl1 := SV.den_mono f1 _ _ hl
  obtain ⟨F2, g1, g2, g3⟩ := askCmp_leq hr1 hl1 (y := .val (.int .i64 ((140737488355328 / inf.bytes : Nat) : Int))) (b := ((140737488355328 / inf.bytes : Nat) : Int)) (by simp only [SV.den])
  rcases need_ok g2 hn2 g3 with ⟨e1, hr2⟩ | hbad
  case inr => exact doesB_more (Env.le_trans f1 g1) hbad fun T hT => List.mem_append_right _ hT
  have hle : k ≤ ((140737488355328 / inf.bytes : Nat) : Int) := by simpa using e1
  obtain ⟨n, rfl⟩ : ∃ n : Nat, k = n := ⟨k.toNat, by omega⟩
  have hn1 : n ≤ 140737488355328 / inf.bytes := by exact_mod_cast hle
  have hn2' : n * inf.bytes ≤ 140737488355328 := Nat.le_trans (Nat.mul_le_mul_right _ hn1) (Nat.div_mul_le_self _ _)
  have hn3 : n ≤ 140737488355328 := Nat.le_trans hn1 (Nat.div_le_self _ _)
  have hE2 := Env.le_trans f1 g1
  have hl2 := SV.den_mono hE2 _ _ hl
  obtain ⟨m1, m2, m3⟩ := fresh_ok hr2 (srt := .any) (op := .rep z.cells.toList) (args := [l]) (vs := [.int .i64 (n : Int)]) (v := .agg (repV z.cells.toList n)) (denL_mk hl2 (r := []) rfl) trivial rfl
  have hzl : z.cells.toList.length = inf.size := by simpa using c4
  have hrs : (repV z.cells.toList n).size = n * inf.size := by rw [repV_size, hzl]
  -- the new block
  let w' : World := { w with heap := w.heap.push (.cells (repV z.cells.toList n) e) }
  have hbel : Below w.heap.size w w' := ⟨rfl, rfl, rfl, by simp [w'], fun i hi => by show (w.heap.push _)[i]? = _; rw [Array.getElem?_push, if_neg (by omega)]⟩
  have hr3 := m2.after hbel
  obtain ⟨n1, n2⟩ := hr3.newCell (v := .slice (some ⟨w.heap.size, 0, none⟩) n n) rfl
  have hE3 := Env.le_trans m1 n1
  have hpz : 0 < (z.cells.toList.map sortVal).length := by simp; omega
  have hln : (z.cells.toList.map sortVal).length = inf.size := by rw [List.length_map, hzl]
  have hdiv : (repV z.cells.toList n).size / inf.size = n := by rw [hrs]; exact Nat.mul_div_cancel _ c2
  have hL : LRel B w0 ((F2.unk S2.nsym (.agg (repV z.cells.toList n))).unk (S2.nsym + 1) (.slice (some ⟨w.heap.size, 0, none⟩) n n)) w' { s := S2.nsym + 1, x := S2.nsym, e := e, lay := z.cells.toList.map sortVal, own := true } (.slice (some ⟨w.heap.size, 0, none⟩) n n) (repV z.cells.toList n) :=
    { s := Env.unk_self _ _ _
      x := n1.σ _ _ (Env.unk_self _ _ _)
      some_ := hpz
      few := by show _ / (List.map _ _).length ≤ _; rw [hln, hdiv]; exact hn3
      whole := by show _ = _ / (List.map _ _).length * (List.map _ _).length; rw [hln, hdiv, hrs]
      lay := fun j c hj => by
        show ∃ t, (List.map _ _)[j % (List.map _ _).length]? = some t ∧ _
        rw [hln]
        have hj' : j < n * inf.size := by
          have := (Array.getElem?_eq_some_iff.1 hj).1
          rw [hrs] at this; exact this
        have hmod : j % inf.size < z.cells.toList.length := by rw [hzl]; exact Nat.mod_lt _ c2
        have hce : c = z.cells.toList[j % inf.size] := by
          have hj2 := hj
          unfold repV at hj2
          simp only [Array.getElem?_map, Option.map_eq_some_iff] at hj2
          obtain ⟨i, hi, rfl⟩ := hj2
          have : i = j := by
            rw [Array.getElem?_range] at hi
            split at hi
            · exact (Option.some.inj hi).symm
            · cases hi
          subst this
          have e2 : z.cells.toList.toArray.size = inf.size := by simp [c4]
          rw [e2]
          rw [getElem!_pos _ _ (by rw [e2]; exact Nat.mod_lt _ c2)]
          simp
        refine ⟨sortVal c, ?_, sortVal_fits ?_⟩
        · rw [List.getElem?_map, List.getElem?_eq_getElem hmod, hce]; rfl
        · rw [hce]; exact List.all_eq_true.1 c5 _ (List.getElem_mem hmod)
      own := fun _ => by
        show w'.ownsRow B e (List.map _ _).length _ _ _
        rw [hln, hdiv]
        refine ⟨by simp [hrs], .inr ⟨w.heap.size, n, _, rfl, hr.base, by simp [w'], Nat.le_refl _, by simp only [maxLen]; omega, hrs, ?_⟩⟩
        rw [List.take_of_length_le (by simp [hrs])]
      old := fun h => by cases h }
  have hρ2 : ∀ i b, ((F2.unk S2.nsym (.agg (repV z.cells.toList n))).unk (S2.nsym + 1) (.slice (some ⟨w.heap.size, 0, none⟩) n n)).ρ i = some b → b < w.heap.size := fun i b hb => hr2.dom i b hb
  have hls2 : ∀ m ∈ S2.lists, m.own = true → ∀ u, ((F2.unk S2.nsym (.agg (repV z.cells.toList n))).unk (S2.nsym + 1) (.slice (some ⟨w.heap.size, 0, none⟩) n n)).σ m.s = some u → ∀ b, u.ownBlock = some b → b < w.heap.size := fun m hm mo u hu b hb => by
    have hu2 := hr2.listAt hm hE3 hu
    obtain ⟨x, cs, hx⟩ := hr2.lists m hm
    have := hx.s; rw [hu2] at this; cases this
    exact (hx.lt mo hb).2
  have n3 := n2.addList hL rfl (D := w.heap.size) (fun b hb => by simp [Value.ownBlock] at hb; omega) hρ2 hls2
  have hfin := n3.moreFact (q := ⟨.len inf.size, [.sym S2.nsym], l⟩) (vs := [.agg (repV z.cells.toList n)]) (v := .int .i64 (n : Int)) (denL_mk (by simp only [SV.den]; exact n1.σ _ _ (Env.unk_self _ _ _)) (r := []) rfl) (SV.den_mono hE3 _ _ hl2) (by
    show sopFun (.len inf.size) _ = _
    simp only [sopFun, hdiv])
  refine ⟨_, List.mem_cons_self, .inr ⟨_, .slice (some ⟨w.heap.size, 0, none⟩) n n, w', Env.le_trans hE2 hE3, hfin, by simp only [SV.den]; exact Env.unk_self _ _ _, ?_⟩⟩
  have w1 : IntKind.i64.wrap (n : Int) = n := wrap_small (by omega)
  have t1 : ¬ ((inf.bytes : Int) * (n : Int) > 2 ^ 48) := by
    have a1 : ((inf.bytes * n : Nat) : Int) ≤ 140737488355328 := by rw [Nat.mul_comm]; omega
    rw [Int.natCast_mul] at a1
    omega
  have t2 : ¬ ((n : Int) < 0) := by omega
  have t3 : ¬ ((n : Int) > (n : Int)) := by omega
  have hsz : (P.info? e).map (·.size) = some inf.size := by rw [hinf]; rfl
  have hzz : (P.info? e).bind (·.zero) = some z := by rw [hinf]; exact hz
  simp only [Instr.makeSlice, Sem.run_bind, run_underlying hu, Result.andThen_ok, asInt, asIntOf, Sem.run_pure, typeInfo, run_program, hinf, w1, t1, Bool.false_or, t2, t3, decide_false, Bool.or_false, Bool.false_eq_true, if_false,
    run_askRoom, run_sizeOf' hsz, Int.toNat_natCast]
  have hrow : ∀ zz : Array Value, (n * inf.size = 0 ∨ zz = z.cells) → (newRow e ((Array.range (n * inf.size)).map (fun i => zz[i % zz.size]!))).run P w = .ok ⟨w.heap.size, 0, none⟩ w' := fun zz hzz' => by
    have : (Array.range (n * inf.size)).map (fun i => zz[i % zz.size]!) = repV z.cells.toList n := by
      rcases hzz' with h0 | rfl
      · have h1 : n * z.cells.toList.length = 0 := by rw [hzl]; exact h0
        unfold repV
        rw [h0, h1]; simp
      · unfold repV
        rw [hzl]
    rw [this]
    simp [newRow, w']
  by_cases h0 : n * inf.size = 0
  · rw [if_pos h0]
    simp only [Sem.run_bind, Sem.run_pure, Result.andThen_ok, hrow #[] (.inl h0)]
  · rw [if_neg h0]
    simp only [Sem.run_bind, run_zero' hzz, Sem.run_pure, Result.andThen_ok, hrow z.cells (.inr rfl)]
end
end Go.Ev
namespace Go.Ev
open Go.RowKit (Below)
section
variable {B G : Nat} {w0 : Start} {E : Env} {S : St} {w : World} {P : Program}
theorem bound_ssub : Bound .ssub := bound_fun fun _ _ _ => rfl
theorem askCmp_lss (hr : Rel B G w0 E S w) {x y : SV} {a b : Int} (hx : x.den E = some (.int .i64 a)) (hy : y.den E = some (.int .i64 b)) :
    ∃ F, E.le F ∧ Rel B G w0 F (askCmp S .lss x y).2 w ∧ (askCmp S .lss x y).1.den F = some (.bool (a < b)) := by
  unfold askCmp
  split
  · rename_i v hv
    obtain ⟨c, rfl, e⟩ := evIntCmp_val hr.env hv hx hy
    simp only [ibin, Option.some.injEq, Value.bool.injEq] at e
    exact ⟨E, E.le_refl, hr, by simp only [SV.den, e]⟩
  · exact known_ok hr (srt := .bool) (op := .int .lss .i64) (bound_int _ _) (denL_mk hx (denL_mk hy (r := []) rfl)) ⟨_, rfl⟩ (rel_int (by simp only [intV, if_true, ibin]))
def sLen (S : St) (x : SV) : SV × St := match x with
  | .val (.string s) => (.val (.int .i64 s.size), S)
  | x => known S (.intIn .i64 (some 0) none) .slen [x]
theorem sLen_ok (hr : Rel B G w0 E S w) {x : SV} {s : ByteArray} (hx : x.den E = some (.string s)) :
    ∃ F, E.le F ∧ Rel B G w0 F (sLen S x).2 w ∧ (sLen S x).1.den F = some (.int .i64 s.size) := by
  unfold sLen
  split
  · simp only [SV.den, Option.some.injEq, Value.string.injEq] at hx; subst hx
    exact ⟨E, E.le_refl, hr, by simp only [SV.den]⟩
  · exact known_ok hr bound_slen (denL_mk hx (r := []) rfl) (srt := .intIn .i64 (some 0) none) (v := .int .i64 s.size) ⟨_, rfl, fun a e => by cases e; omega, fun b e => by cases e⟩ rfl
def askLe (S : St) (x y : SV) : Option (St × List St) :=
  let q := askCmp S .leq x y
  need q.2 q.1 true
theorem askLe_ok (hr : Rel B G w0 E S w) {x y : SV} {a b : Int} (hx : x.den E = some (.int .i64 a)) (hy : y.den E = some (.int .i64 b)) {S' : St} {l : List St} (h : askLe S x y = some (S', l)) :
    ∃ F, E.le F ∧ ((a ≤ b ∧ Rel B G w0 F S' w) ∨ ∃ T ∈ l, T.bad = true ∧ Rel B G w0 F T w) := by
  obtain ⟨F, f1, f2, f3⟩ := askCmp_leq hr hx hy
  rcases need_ok f2 h f3 with ⟨e, hr'⟩ | hb
  · exact ⟨F, f1, .inl ⟨by simpa using e, hr'⟩⟩
  · exact ⟨F, f1, .inr hb⟩
def evSIdx (P : Program) (S : St) (t : TypeId) (x i : SV) : Option (List (SV × St)) :=
  match P.underlying t, kindS S x, intOf S i with
  | some .string, some .str, some (.i64, _, _) =>
    match notNeg S i with
    | none => none
    | some (S1, b1) =>
      let len := sLen S1 x
      let q := askCmp len.2 .lss i len.1
      match need q.2 q.1 true with
      | none => none
      | some (S2, b2) => some (known S2 (.intIn .u8 (some 0) (some 255)) .sidx [x, i] :: bads (b1 ++ b2))
  | _, _, _ => none
theorem str_at {s : ByteArray} {n : Nat} (h : n < s.size) : ∃ b, s[n]? = some b := ⟨s[n], by simp [h]⟩
theorem evSIdx_ok (hr : Rel B G w0 E S w) {t : TypeId} {x i : SV} {rs : List (SV × St)} {vx vi : Value} (h : evSIdx P S t x i = some rs) (hx : x.den E = some vx) (hi : i.den E = some vi) :
    DoesB B G w0 P E rs (Instr.index t vx vi) w := by
  unfold evSIdx at h
  split at h
  case h_2 => cases h
  rename_i lo hi' hu hk hio
  obtain ⟨s, rfl⟩ := kindS_ok hr.env hk hx
  obtain ⟨k, rfl, _, _⟩ := intOf_ok hr.env hio hi
  split at h
  · cases h
  rename_i S1 b1 hn
  simp only at h
  split at h
  · cases h
  rename_i S2 b2 hn2
  simp only [Option.some.injEq] at h; subst h
  obtain ⟨F, f1, f2⟩ := notNeg_ok hr hi hn
  rcases f2 with ⟨hk0, hr1⟩ | hbad
  case inr => exact doesB_more f1 hbad fun T hT => List.mem_append_left _ hT
  obtain ⟨F2, g1, g2, g3⟩ := sLen_ok hr1 (SV.den_mono f1 _ _ hx)
  have hE2 := Env.le_trans f1 g1
  obtain ⟨F3, m1, m2, m3⟩ := askCmp_lss g2 (SV.den_mono hE2 _ _ hi) g3
  have hE3 := Env.le_trans hE2 m1
  rcases need_ok m2 hn2 m3 with ⟨e1, hr2⟩ | hbad
  case inr => exact doesB_more hE3 hbad fun T hT => List.mem_append_right _ hT
  have hlt : k < (s.size : Int) := by simpa using e1
  obtain ⟨b, hb⟩ := str_at (s := s) (n := k.toNat) (by omega)
  have hb255 : b.toNat < 256 := b.toNat_lt
  obtain ⟨H, p1, p2, p3⟩ := known_ok hr2 bound_sidx (srt := .intIn .u8 (some 0) (some 255)) (op := .sidx) (v := .int .u8 (b.toNat : Int)) (denL_mk (SV.den_mono hE3 _ _ hx) (denL_mk (SV.den_mono hE3 _ _ hi) (r := []) rfl))
    ⟨_, rfl, fun a e => by cases e; omega, fun a e => by cases e; omega⟩ (by show sopFun .sidx _ = _; simp only [sopFun, hk0, if_true, hb, Option.map_some])
  refine ⟨_, List.mem_cons_self, .inr ⟨H, .int .u8 (b.toNat : Int), w, Env.le_trans hE3 p1, p2, p3, ?_⟩⟩
  simp [Instr.index, asIntOf, run_underlying hu, hk0, hb]
def evSSub (P : Program) (S : St) (t : TypeId) (x : SV) (lo hi mx : Option SV) : Option (List (SV × St)) :=
  match P.underlying t, kindS S x, mx with
  | some .string, some .str, none =>
    let len := sLen S x
    let a := lo.getD (.val (.int .i64 0))
    let b := hi.getD len.1
    match intOf len.2 a, intOf len.2 b with
    | some (.i64, _, _), some (.i64, _, _) =>
      match askLe len.2 (.val (.int .i64 0)) b with
      | none => none
      | some (S1, b1) => match askLe S1 b len.1 with
        | none => none
        | some (S2, b2) => match askLe S2 (.val (.int .i64 0)) a with
          | none => none
          | some (S3, b3) => match askLe S3 a b with
            | none => none
            | some (S4, b4) => some (known S4 .str .ssub [x, a, b] :: bads (b1 ++ (b2 ++ (b3 ++ b4))))
    | _, _ => none
  | _, _, _ => none
theorem evSSub_ok (hr : Rel B G w0 E S w) {t : TypeId} {x : SV} {lo hi mx : Option SV} {rs : List (SV × St)} {vx : Value} {vlo vhi vmx : Option Value} (h : evSSub P S t x lo hi mx = some rs) (hx : x.den E = some vx)
    (hlo : ∀ y, lo = some y → ∃ v, vlo = some v ∧ y.den E = some v) (hlo' : lo = none → vlo = none) (hhi : ∀ y, hi = some y → ∃ v, vhi = some v ∧ y.den E = some v) (hhi' : hi = none → vhi = none) (hmx : mx = none → vmx = none) :
    DoesB B G w0 P E rs (Instr.sliceAt t vx vlo vhi vmx) w := by
  unfold evSSub at h
  split at h
  case h_2 => cases h
  rename_i hu hk
  obtain ⟨s, rfl⟩ := kindS_ok hr.env hk hx
  have hmx := hmx rfl
  subst hmx
  simp only at h
  split at h
  case h_2 => cases h
  rename_i la ha lb hb hia hib
  split at h
  · cases h
  rename_i S1 b1 h1
  split at h
  · cases h
  rename_i S2 b2 h2
  split at h
  · cases h
  rename_i S3 b3 h3
  split at h
  · cases h
  rename_i S4 b4 h4
  simp only [Option.some.injEq] at h; subst h
  obtain ⟨F0, f1, f2, f3⟩ := sLen_ok hr hx
  have hz : ∀ F : Env, (SV.val (.int .i64 0)).den F = some (.int .i64 0) := fun F => by simp only [SV.den]
  -- the two bounds
  obtain ⟨va, hva, ea⟩ : ∃ va, (lo.getD (.val (.int .i64 0))).den F0 = some va ∧ (∀ n k, va = .int k n → ((vlo = some va) ∨ (vlo = none ∧ n = 0))) := by
    cases lo with
    | none => exact ⟨_, hz F0, fun n k e => by cases e; exact .inr ⟨hlo' rfl, rfl⟩⟩
    | some y => obtain ⟨v, e1, e2⟩ := hlo y rfl; exact ⟨v, SV.den_mono f1 _ _ e2, fun n k e => .inl e1⟩
  obtain ⟨vb, hvb, eb⟩ : ∃ vb, (hi.getD (sLen S x).1).den F0 = some vb ∧ (∀ n k, vb = .int k n → ((vhi = some vb) ∨ (vhi = none ∧ n = (s.size : Int)))) := by
    cases hi with
    | none => exact ⟨_, f3, fun n k e => by cases e; exact .inr ⟨hhi' rfl, rfl⟩⟩
    | some y => obtain ⟨v, e1, e2⟩ := hhi y rfl; exact ⟨v, SV.den_mono f1 _ _ e2, fun n k e => .inl e1⟩
  obtain ⟨a, rfl, _, _⟩ := intOf_ok f2.env hia hva
  obtain ⟨b, rfl, _, _⟩ := intOf_ok f2.env hib hvb
  have ea := ea _ _ rfl
  have eb := eb _ _ rfl
  obtain ⟨F1, g1, g2⟩ := askLe_ok f2 (hz F0) hvb h1
  have e1 := Env.le_trans f1 g1
  rcases g2 with ⟨c1, r1⟩ | hbad
  case inr => exact doesB_more e1 hbad fun T hT => List.mem_append_left _ hT
  obtain ⟨F2, g3, g4⟩ := askLe_ok r1 (SV.den_mono g1 _ _ hvb) (SV.den_mono g1 _ _ f3) h2
  have e2 := Env.le_trans e1 g3
  rcases g4 with ⟨c2, r2⟩ | hbad
  case inr => exact doesB_more e2 hbad fun T hT => List.mem_append_right _ (List.mem_append_left _ hT)
  have l2 := Env.le_trans g1 g3
  obtain ⟨F3, g5, g6⟩ := askLe_ok r2 (hz F2) (SV.den_mono l2 _ _ hva) h3
  have e3 := Env.le_trans e2 g5
  rcases g6 with ⟨c3, r3⟩ | hbad
  case inr => exact doesB_more e3 hbad fun T hT => List.mem_append_right _ (List.mem_append_right _ (List.mem_append_left _ hT))
  have l3 := Env.le_trans l2 g5
  obtain ⟨F4, g7, g8⟩ := askLe_ok r3 (SV.den_mono l3 _ _ hva) (SV.den_mono l3 _ _ hvb) h4
  have e4 := Env.le_trans e3 g7
  rcases g8 with ⟨c4, r4⟩ | hbad
  case inr => exact doesB_more e4 hbad fun T hT => List.mem_append_right _ (List.mem_append_right _ (List.mem_append_right _ hT))
  have l4 := Env.le_trans l3 g7
  obtain ⟨H, p1, p2, p3⟩ := known_ok r4 bound_ssub (srt := .str) (op := .ssub) (v := .string (s.extract a.toNat b.toNat)) (denL_mk (SV.den_mono e4 _ _ hx) (denL_mk (SV.den_mono l4 _ _ hva) (denL_mk (SV.den_mono l4 _ _ hvb) (r := []) rfl)))
    ⟨_, rfl⟩ (by show sopFun .ssub _ = _; simp only [sopFun, c3, c4, c2, and_self, if_true])
  refine ⟨_, List.mem_cons_self, .inr ⟨H, .string (s.extract a.toNat b.toNat), w, Env.le_trans e4 p1, p2, p3, ?_⟩⟩
  have hh : (match vhi with
      | some v => Instr.sliceBound v s.size .sliceAlen
      | none => (pure s.size : Sem Nat)).run P w = .ok b.toNat w := by
    rcases eb with rfl | ⟨rfl, rfl⟩
    · simp [Instr.sliceBound, asIntOf, c1, c2]
    · simp
  have hl : (match vlo with
      | some v => Instr.sliceBound v b.toNat .sliceB
      | none => (pure 0 : Sem Nat)).run P w = .ok a.toNat w := by
    have hm : a ≤ max b 0 := by omega
    rcases ea with rfl | ⟨rfl, rfl⟩
    · simp [Instr.sliceBound, asIntOf, c3, hm]
    · simp
  have hb : (Instr.sliceBounds false s.size s.size vlo vhi none).run P w = .ok (a.toNat, b.toNat, s.size) w := by
    cases vhi <;> cases vlo <;> simp only [Instr.sliceBounds, Sem.run_bind, Sem.run_pure, Result.andThen_ok, Option.isSome_none, Bool.false_eq_true, if_false] at hh hl ⊢ <;> simp_all
  simp [Instr.sliceAt, Instr.slice, run_underlying hu, hb]
end
end Go.Ev
namespace Go.Ev
open Go.RowKit (Below)
section
variable {B G : Nat} {w0 : Start} {E : Env} {S : St} {w : World} {P : Program}
def ptS (S : St) (x : SV) : SV :=
  match x with
  | .sym n => match intOf S (.sym n) with
    | some (k, some a, some b) => bif decide (a = b) then .val (.int k a) else .sym n
    | _ => match wholeOf S (.sym n) with
      | some p => bif decide (p.lo = p.hi) && p.ex then .val (.float .f64 (FloatKind.f64.nearest p.lo)) else .sym n
      | none => .sym n
  | x => x
theorem ptS_ok (hr : Rel B G w0 E S w) {x : SV} {v : Value} (hx : x.den E = some v) : (ptS S x).den E = some v := by
  unfold ptS
  split
  · rename_i n
    split
    · rename_i k a b hi
      cases hc : decide (a = b) with
      | false => exact hx
      | true =>
        have e := of_decide_eq_true hc
        subst e
        obtain ⟨m, rfl, h1, h2⟩ := intOf_ok hr.env hi hx
        have := h1 a rfl
        have := h2 a rfl
        have : m = a := by omega
        subst this
        simp only [cond_true, SV.den]
    · split
      · rename_i p hp
        cases hc : decide (p.lo = p.hi) && p.ex with
        | false => exact hx
        | true =>
          simp only [Bool.and_eq_true, decide_eq_true_eq] at hc
          obtain ⟨m, f, ka⟩ := wholeOf_ok hr hp hx
          have := ka.lo; have := ka.hi
          have hm : m = p.lo := by omega
          have e := ka.ex hc.2
          rw [ka.v]
          simp only [cond_true, SV.den, e, hm]
      · exact hx
  · exact hx
def isSymS : SV → Bool
  | .sym _ => true
  | _ => false
def anyPt (S : St) : List SV → Bool
  | [] => false
  | x :: r => (isSymS x && !isSymS (ptS S x)) || anyPt S r
def evPoint (P : Program) (S : St) (ev : Operand → SV) (o : Oper) : Option SV :=
  match o.op with
  | .binOp _ _ x y _ => bif anyPt S [ev x, ev y] then opConc P (fun z => ptS S (ev z)) o else none
  | .unOp _ _ x => bif anyPt S [ev x] then opConc P (fun z => ptS S (ev z)) o else none
  | .convert _ _ x => bif anyPt S [ev x] then opConc P (fun z => ptS S (ev z)) o else none
  | _ => none
theorem evPoint_ok (hr : Rel B G w0 E S w) {ev : Operand → SV} {o : Oper} {sv : SV} (h : evPoint P S ev o = some sv) {evr : Operand → Value} (he : ∀ x, (ev x).den E = some (evr x)) :
    ∃ v, sv.den E = some v ∧ ∀ w, (execOp evr o).run P w = .ok (.value v) w := by
  have key : ∀ {c : Bool}, (bif c then opConc P (fun z => ptS S (ev z)) o else none) = some sv → ∃ v, sv.den E = some v ∧ ∀ w, (execOp evr o).run P w = .ok (.value v) w := fun {c} h => by
    cases c with
    | false => cases h
    | true => exact opConc_ok h fun x => ptS_ok hr (he x)
  unfold evPoint at h
  split at h
  · exact key h
  · exact key h
  · exact key h
  · cases h
def evSelf (S : St) (op : BinOp) (x y : SV) : Option SV :=
  match op with
  | .sub => bif symSame x y then (match wholeOf S x with
    | some p => bif p.ex then some (.val (.float .f64 0)) else none
    | none => none) else none
  | _ => none
theorem evSelf_ok (hr : Rel B G w0 E S w) {op : BinOp} {t : TypeId} {x y sv : SV} {vx vy : Value} {ox oy : Operand} (h : evSelf S op x y = some sv) (hx : x.den E = some vx) (hy : y.den E = some vy) :
    Does B G w0 P E sv S (do eqGuard op t ox oy vx vy; binOp op t vx vy) w := by
  unfold evSelf at h
  split at h
  case h_2 => cases h
  cases hs : symSame x y with
  | false => rw [hs] at h; cases h
  | true =>
    have e := symSame_eq hs
    subst e
    rw [hs] at h
    simp only [cond_true] at h
    split at h
    case h_2 => cases h
    rename_i p hp
    cases hex : p.ex with
    | false => rw [hex] at h; cases h
    | true =>
      rw [hex] at h
      simp only [cond_true, Option.some.injEq] at h; subst h
      rw [hx] at hy; cases hy
      obtain ⟨m, f, ka⟩ := wholeOf_ok hr hp hx
      have e1 := ka.v
      subst e1
      have e2 := ka.ex hex
      obtain ⟨r, h1, _, h3⟩ := sub_whole ka.w ka.w (by omega) (by omega)
      have h3 := h3 e2 e2
      have h0 : m - m = 0 := by omega
      have h1 : Ieee.double.sub f f = some 0 := by rw [h1, h3, h0, near_zero]
      have e3 : farV .sub .f64 f f = some (some 0) := by simp only [farV]; exact congrArg some h1
      obtain ⟨w', e8, hr'⟩ := far_exact (P := P) (op := .sub) rfl (t := t) (ox := ox) (oy := oy) e3 hr
      exact ⟨E, .float .f64 0, w', E.le_refl, hr', by simp only [SV.den], e8⟩
end
end Go.Ev
namespace Go.Ev
open Go.RowKit (Below)
def mapAns {α β : Type} (f : α → β) (a : Option α) : Option β := match a with
  | some x => some (f x)
  | none => none
theorem mapAns_some {α β : Type} {f : α → β} {a : Option α} {y : β} (h : mapAns f a = some y) : ∃ x, a = some x ∧ y = f x := by
  cases a with
  | none => cases h
  | some x => simp only [mapAns, Option.some.injEq] at h; exact ⟨x, rfl, h.symm⟩
section
variable {B G : Nat} {w0 : Start} {E : Env} {S : St} {w : World} {P : Program}
def numOf (S : St) (x : SV) : Option (IntKind × SV × Bool) :=
  match intOf S x with
  | some (k, _, _) => some (k, x, false)
  | none => match wholeOf S x with
    | some p => bif p.ex then some (.i64, p.n, true) else none
    | none => none
def numV (f : Bool) (k : IntKind) (n : Int) : Value := match f with
  | true => .float .f64 (FloatKind.f64.nearest n)
  | false => .int k n
theorem numOf_ok (hr : Rel B G w0 E S w) {x y : SV} {k : IntKind} {f : Bool} {v : Value} (h : numOf S x = some (k, y, f)) (hx : x.den E = some v) :
    ∃ n : Int, y.den E = some (.int k n) ∧ v = numV f k n ∧ (f = true → -(2 ^ 53) ≤ n ∧ n ≤ 2 ^ 53) := by
  unfold numOf at h
  split at h
  · rename_i k' lo hi hi'
    simp only [Option.some.injEq, Prod.mk.injEq] at h
    obtain ⟨rfl, rfl, rfl⟩ := h
    obtain ⟨n, rfl, _⟩ := intOf_ok hr.env hi' hx
    exact ⟨n, hx, rfl, fun h => by cases h⟩
  · split at h
    case h_2 => cases h
    rename_i p hp
    cases hex : p.ex with
    | false => rw [hex] at h; cases h
    | true =>
      rw [hex] at h
      simp only [cond_true, Option.some.injEq, Prod.mk.injEq] at h
      obtain ⟨rfl, rfl, rfl⟩ := h
      obtain ⟨m, f, ka⟩ := wholeOf_ok hr hp hx
      exact ⟨m, ka.n, by rw [ka.v, ka.ex hex]; rfl, fun _ => ⟨ka.w.1, ka.w.2.1⟩⟩
def lessS (S : St) (k : IntKind) (a b : SV) : Option (List (Bool × St)) :=
  match evIntCmp S .lss a b with
  | some (.val (.bool c)) => some [(c, S)]
  | _ => let d := known S .bool (.int .lss k) [a, b]
    dec d.2 d.1
theorem lessS_ok (hr : Rel B G w0 E S w) {k : IntKind} {a b : SV} {x y : Int} {l : List (Bool × St)} (h : lessS S k a b = some l) (ha : a.den E = some (.int k x)) (hb : b.den E = some (.int k y)) :
    ∃ p ∈ l, ∃ F, E.le F ∧ Rel B G w0 F p.2 w ∧ p.1 = decide (x < y) := by
  unfold lessS at h
  split at h
  · rename_i c hc
    simp only [Option.some.injEq] at h; subst h
    obtain ⟨c', e1, e2⟩ := evIntCmp_val hr.env hc ha hb
    simp only [SV.val.injEq, Value.bool.injEq] at e1
    subst e1
    simp only [ibin, Option.some.injEq, Value.bool.injEq] at e2
    exact ⟨_, List.mem_cons_self, E, E.le_refl, hr, e2.symm⟩
  · obtain ⟨F, f1, f2, f3⟩ := known_ok hr (srt := .bool) (op := .int .lss k) (v := .bool (x < y)) (vs := [.int k x, .int k y]) (bound_int _ _) (denL_mk ha (denL_mk hb (r := []) rfl)) ⟨_, rfl⟩ (rel_int (by simp only [intV, if_true, ibin]))
    obtain ⟨p, hp, hv, hrel⟩ := dec_ok h f2 f3
    simp only [Value.bool.injEq] at hv
    exact ⟨p, hp, F, f1, hrel, hv.symm⟩
def evMinMax (S : St) (mx : Bool) (x y : SV) : Option (List (SV × St)) :=
  match numOf S x, numOf S y with
  | some (k, a, f), some (k', b, g) => bif decide (k = k') && f == g then
      (match mx with
      | true => mapAns (fun l => l.map fun p => (bif p.1 then y else x, p.2)) (lessS S k a b)
      | false => mapAns (fun l => l.map fun p => (bif p.1 then y else x, p.2)) (lessS S k b a)) else none
  | _, _ => none
theorem order_near {m n : Int} (h1 : -(2 ^ 53) ≤ m) (h2 : m ≤ 2 ^ 53) (h3 : -(2 ^ 53) ≤ n) (h4 : n ≤ 2 ^ 53) :
    FloatKind.f64.format.order (FloatKind.f64.nearest m) (FloatKind.f64.nearest n) = some (if m < n then .lt else if n < m then .gt else .eq) := by
  have a := cmp_whole (WholeF.near h1 h2) (WholeF.near h3 h4) (op := .lss) (k := .i64) rfl
  have b := cmp_whole (WholeF.near h1 h2) (WholeF.near h3 h4) (op := .gtr) (k := .i64) rfl
  have c := cmp_whole (WholeF.near h1 h2) (WholeF.near h3 h4) (op := .eql) (k := .i64) rfl
  simp only [fcmpV, ibin, Option.some.injEq, Value.bool.injEq] at a b c
  generalize FloatKind.f64.format.order (FloatKind.f64.nearest m) (FloatKind.f64.nearest n) = o at a b c
  by_cases e1 : m < n
  · rw [if_pos e1]
    have : decide (m < n) = true := by simpa using e1
    rw [this] at a
    simpa using a
  · by_cases e2 : n < m
    · rw [if_neg e1, if_pos e2]
      have : decide (m > n) = true := by simpa using e2
      rw [this] at b
      simpa using b
    · rw [if_neg e1, if_neg e2]
      have : (m == n) = true := by simp; omega
      rw [this] at c
      simpa using c
theorem evMinMax_ok (hr : Rel B G w0 E S w) {mx : Bool} {x y : SV} {rs : List (SV × St)} {vx vy : Value} {tys : Array TypeId} {ty : TypeId} (h : evMinMax S mx x y = some rs) (hx : x.den E = some vx) (hy : y.den E = some vy) :
    ∃ p ∈ rs, Does B G w0 P E p.1 p.2 (bif mx then Builtin.max_ tys ty #[vx, vy] else Builtin.min_ tys ty #[vx, vy]) w := by
  unfold evMinMax at h
  split at h
  case h_2 => cases h
  rename_i k a f k' b g ha hb
  cases hc : decide (k = k') && f == g with
  | false => rw [hc] at h; cases h
  | true =>
  rw [hc] at h
  simp only [Bool.and_eq_true, decide_eq_true_eq, beq_iff_eq] at hc
  obtain ⟨rfl, rfl⟩ := hc
  simp only [cond_true] at h
  obtain ⟨m, m1, rfl, m3⟩ := numOf_ok hr ha hx
  obtain ⟨n, n1, rfl, n3⟩ := numOf_ok hr hb hy
  cases mx with
  | true =>
    obtain ⟨l, hl, rfl⟩ := mapAns_some h
    obtain ⟨p, hp, F, f1, f2, f3⟩ := lessS_ok hr hl m1 n1
    refine ⟨_, List.mem_map.2 ⟨p, hp, rfl⟩, F, numV f k (if m < n then n else m), w, f1, f2, ?_, ?_⟩
    · rw [f3]
      by_cases e : m < n
      · simp only [decide_eq_true e, cond_true, if_pos e]; exact SV.den_mono f1 _ _ hy
      · simp only [decide_eq_false e, cond_false, if_neg e]; exact SV.den_mono f1 _ _ hx
    · cases f with
      | false =>
        simp only [cond_true, Builtin.max_, numV, List.foldlM, Builtin.max2]
        by_cases e : m < n
        · simp [e]
        · simp [e]
      | true =>
        have := order_near (m3 rfl).1 (m3 rfl).2 (n3 rfl).1 (n3 rfl).2
        simp only [cond_true, Builtin.max_, numV, List.foldlM, Builtin.max2, this]
        by_cases e : m < n
        · simp [e]
        · by_cases e2 : n < m
          · simp [e, e2]
          · have : n = m := by omega
            subst this
            simp
  | false =>
    obtain ⟨l, hl, rfl⟩ := mapAns_some h
    obtain ⟨p, hp, F, f1, f2, f3⟩ := lessS_ok hr hl n1 m1
    refine ⟨_, List.mem_map.2 ⟨p, hp, rfl⟩, F, numV f k (if n < m then n else m), w, f1, f2, ?_, ?_⟩
    · rw [f3]
      by_cases e : n < m
      · simp only [decide_eq_true e, cond_true, if_pos e]; exact SV.den_mono f1 _ _ hy
      · simp only [decide_eq_false e, cond_false, if_neg e]; exact SV.den_mono f1 _ _ hx
    · cases f with
      | false =>
        simp only [cond_false, Builtin.min_, numV, List.foldlM, Builtin.min2]
        by_cases e : n < m
        · simp [e]
        · simp [e]
      | true =>
        have := order_near (m3 rfl).1 (m3 rfl).2 (n3 rfl).1 (n3 rfl).2
        simp only [cond_false, Builtin.min_, numV, List.foldlM, Builtin.min2, this]
        by_cases e : n < m
        · have e2 : ¬ m < n := by omega
          simp [e, e2]
        · by_cases e2 : m < n
          · simp [e, e2]
          · have : n = m := by omega
            subst this
            simp
def fminOuts (mx : Bool) (x y : SV) : List (Bool × St) → Option (List (SV × St))
  | [] => some []
  | p :: r => match (match p.1 with
      | true => some [(bif mx then y else x, p.2)]
      | false =>
        let c := known p.2 .bool (.fcmp .gtr) [x, y]
        match dec c.2 c.1 with
        | none => none
        | some l => some (l.map fun q => ((bif q.1 then (bif mx then x else y) else .val undef), bif q.1 then q.2 else { q.2 with bad := true }))), fminOuts mx x y r with
    | some a, some b => some (a ++ b)
    | _, _ => none
theorem fminOuts_mem {mx : Bool} {x y : SV} : ∀ {l : List (Bool × St)} {rs : List (SV × St)}, fminOuts mx x y l = some rs → ∀ p ∈ l, (p.1 = true → ((bif mx then y else x), p.2) ∈ rs) ∧
    (p.1 = false → ∃ m, dec (known p.2 .bool (.fcmp .gtr) [x, y]).2 (known p.2 .bool (.fcmp .gtr) [x, y]).1 = some m ∧ ∀ q ∈ m, ((bif q.1 then (bif mx then x else y) else .val undef), bif q.1 then q.2 else { q.2 with bad := true }) ∈ rs)
  | [], rs, h, p, hp => by cases hp
  | a :: r, rs, h, p, hp => by
    simp only [fminOuts] at h
    split at h
    · rename_i u v hu hv
      simp only [Option.some.injEq] at h; subst h
      rcases List.mem_cons.1 hp with rfl | hp
      · constructor
        · intro e
          rw [e] at hu
          simp only [Option.some.injEq] at hu; subst hu
          exact List.mem_append_left _ List.mem_cons_self
        · intro e
          rw [e] at hu
          simp only at hu
          split at hu
          · cases hu
          · rename_i m hm
            simp only [Option.some.injEq] at hu; subst hu
            exact ⟨m, hm, fun q hq => List.mem_append_left _ (List.mem_map.2 ⟨q, hq, rfl⟩)⟩
      · have := fminOuts_mem hv p hp
        refine ⟨fun e => List.mem_append_right _ (this.1 e), fun e => ?_⟩
        obtain ⟨m, h1, h2⟩ := this.2 e
        exact ⟨m, h1, fun q hq => List.mem_append_right _ (h2 q hq)⟩
    · cases h
def evFMin (S : St) (mx : Bool) (x y : SV) : Option (List (SV × St)) :=
  match kindS S x, kindS S y with
  | some (.float .f64), some (.float .f64) =>
    let c := known S .bool (.fcmp .lss) [x, y]
    match dec c.2 c.1 with
    | none => none
    | some l => fminOuts mx x y l
  | _, _ => none
theorem evFMin_ok (hr : Rel B G w0 E S w) {mx : Bool} {x y : SV} {rs : List (SV × St)} {vx vy : Value} {tys : Array TypeId} {ty : TypeId} (h : evFMin S mx x y = some rs) (hx : x.den E = some vx) (hy : y.den E = some vy) :
    DoesB B G w0 P E rs (bif mx then Builtin.max_ tys ty #[vx, vy] else Builtin.min_ tys ty #[vx, vy]) w := by
  unfold evFMin at h
  split at h
  case h_2 => cases h
  rename_i h1 h2
  obtain ⟨a, rfl⟩ := kindS_ok hr.env h1 hx
  obtain ⟨b, rfl⟩ := kindS_ok hr.env h2 hy
  simp only at h
  split at h
  · cases h
  rename_i l hl
  have cmp : ∀ {T : St} {F : Env} (op : BinOp) (c : Bool), Rel B G w0 F T w → E.le F → fcmpV op .f64 a b = some (.bool c) → ∃ H, F.le H ∧ Rel B G w0 H (known T .bool (.fcmp op) [x, y]).2 w ∧ (known T .bool (.fcmp op) [x, y]).1.den H = some (.bool c) := fun op c hT hF hc =>
    known_ok hT (bound_fcmp op) (denL_mk (SV.den_mono hF _ _ hx) (denL_mk (SV.den_mono hF _ _ hy) (r := []) rfl)) (srt := .bool) ⟨_, rfl⟩ (by show sopFun (.fcmp op) _ = _; exact hc)
  obtain ⟨F, f1, f2, f3⟩ := cmp .lss (FloatKind.f64.format.order a b == some .lt) hr E.le_refl rfl
  obtain ⟨p, hp, hv, hr2⟩ := dec_ok hl f2 f3
  have hm := fminOuts_mem h p hp
  simp only [Value.bool.injEq] at hv
  cases hb : p.1 with
  | true =>
    rw [hb] at hv
    have ho : FloatKind.f64.format.order a b = some .lt := by simpa using hv
    refine ⟨_, hm.1 hb, .inr ⟨F, .float .f64 (bif mx then b else a), w, f1, hr2, ?_, ?_⟩⟩
    · cases mx
      · exact SV.den_mono f1 _ _ hx
      · exact SV.den_mono f1 _ _ hy
    · cases mx <;> simp [Builtin.max_, Builtin.min_, Builtin.max2, Builtin.min2, ho]
  | false =>
    obtain ⟨m, e1, e2⟩ := hm.2 hb
    obtain ⟨H, g1, g2, g3⟩ := cmp .gtr (FloatKind.f64.format.order a b == some .gt) hr2 f1 rfl
    obtain ⟨q, hq, hv2, hr3⟩ := dec_ok e1 g2 g3
    have hq' := e2 q hq
    simp only [Value.bool.injEq] at hv2
    have hE := Env.le_trans f1 g1
    cases hb2 : q.1 with
    | true =>
      rw [hb2] at hq' hv2
      simp only [cond_true] at hq'
      have ho : FloatKind.f64.format.order a b = some .gt := by simpa using hv2
      refine ⟨_, hq', .inr ⟨H, .float .f64 (bif mx then a else b), w, hE, hr3, ?_, ?_⟩⟩
      · cases mx
        · exact SV.den_mono hE _ _ hy
        · exact SV.den_mono hE _ _ hx
      · cases mx <;> simp [Builtin.max_, Builtin.min_, Builtin.max2, Builtin.min2, ho]
    | false =>
      rw [hb2] at hq'
      simp only [cond_false] at hq'
      exact ⟨_, hq', .inl ⟨rfl, H, hE, hr3.badly⟩⟩
end
end Go.Ev
namespace Go.Ev
open Go.RowKit (Below)
section
variable {B G : Nat} {w0 : Start} {E : Env} {S : St} {w : World} {P : Program}
def cellsS : SV → Option (List SV)
  | .agg xs => some xs
  | .val (.agg a) => some (a.toList.map SV.val)
  | _ => none
theorem denL_valsE (l : List Value) : SV.denL E (l.map SV.val) = some l := by
  induction l with
  | nil => rfl
  | cons v l ih => simp only [List.map_cons, SV.denL, SV.den, ih]
theorem cellsS_ok {x : SV} {xs : List SV} {v : Value} (h : cellsS x = some xs) (hx : x.den E = some v) : ∃ l, SV.denL E xs = some l ∧ v = .agg l.toArray := by
  unfold cellsS at h
  split at h
  · simp only [Option.some.injEq] at h; subst h
    simp only [SV.den] at hx
    split at hx
    · rename_i l hl; simp only [Option.some.injEq] at hx; exact ⟨l, hl, hx.symm⟩
    · cases hx
  · simp only [Option.some.injEq] at h; subst h
    simp only [SV.den, Option.some.injEq] at hx
    exact ⟨_, denL_valsE _, by rw [← hx]⟩
  · cases h
theorem denL_getE : ∀ {xs : List SV} {l : List Value} {i : Nat} {x : SV}, SV.denL E xs = some l → xs[i]? = some x → ∃ v, l[i]? = some v ∧ x.den E = some v
  | [], _, _, _, _, h => by simp at h
  | a :: xs, l, i, x, h, hx => by
    simp only [SV.denL] at h
    split at h
    · rename_i v r hv hr
      simp only [Option.some.injEq] at h; subst h
      cases i with
      | zero => simp only [List.getElem?_cons_zero, Option.some.injEq] at hx; subst hx; exact ⟨v, rfl, hv⟩
      | succ i => simp only [List.getElem?_cons_succ] at hx ⊢; exact denL_getE hr hx
    · cases h
def eqV (d : TypeDesc) (a b : Value) : Option Bool :=
  match d, a, b with
  | .bool, .bool a, .bool b => some (a == b)
  | .int _, .int k a, .int k' b => bif decide (k = k') then some (a == b) else none
  | .string, .string a, .string b => some (a == b)
  | .float _, .float k a, .float k' b => bif decide (k = k') then some (Op.floatEq k a b) else none
  | _, _, _ => none
theorem eqV_ok {t : TypeId} {d : TypeDesc} (hu : P.underlying t = some d) {a b : Value} {c : Bool} (h : eqV d a b = some c) (n : Nat) (w : World) : (Op.equalIn (n + 1) t a b).run P w = .ok c w ∧ isAggD d = false := by
  unfold eqV at h
  split at h
  · simp only [Option.some.injEq] at h; subst h; exact ⟨by simp [Op.equalIn, run_underlying hu], rfl⟩
  · rename_i k a k' b
    cases hk : decide (k = k') with
    | false => rw [hk] at h; cases h
    | true =>
      have e := of_decide_eq_true hk
      subst e
      rw [hk] at h
      simp only [cond_true, Option.some.injEq] at h; subst h
      exact ⟨by simp [Op.equalIn, run_underlying hu], rfl⟩
  · simp only [Option.some.injEq] at h; subst h; exact ⟨by simp [Op.equalIn, run_underlying hu], rfl⟩
  · rename_i k a k' b
    cases hk : decide (k = k') with
    | false => rw [hk] at h; cases h
    | true =>
      have e := of_decide_eq_true hk
      subst e
      rw [hk] at h
      simp only [cond_true, Option.some.injEq] at h; subst h
      exact ⟨by simp [Op.equalIn, run_underlying hu], rfl⟩
  · cases h
def isF64 (S : St) (x : SV) : Bool := match kindS S x with
  | some (.float .f64) => true
  | _ => false
theorem isF64_ok (hr : ERel E S) {x : SV} {v : Value} (h : isF64 S x = true) (hx : x.den E = some v) : ∃ a, v = .float .f64 a := by
  unfold isF64 at h
  split at h
  · rename_i hk; exact kindS_ok hr hk hx
  · cases h
def eqFs (P : Program) (S : St) (xs ys : List SV) : List Field → Option (Bool × Option (SV × SV))
  | [] => some (true, none)
  | f :: fs => match eqFs P S xs ys fs, P.underlying f.type, xs[f.offset]?, ys[f.offset]? with
    | some (b, u), some d, some (.val x), some (.val y) => bif f.name != "_" then (match eqV d x y with
      | some c => some (c && b, u)
      | none => none) else none
    | some (b, none), some (.float _), some x, some y => bif f.name != "_" && isF64 S x && isF64 S y then some (b, some (x, y)) else none
    | _, _, _, _ => none
def eqSays (E : Env) (b : Bool) (u : Option (SV × SV)) (c : Bool) : Prop := match u with
  | none => c = b
  | some (x, y) => ∃ a a', x.den E = some (.float .f64 a) ∧ y.den E = some (.float .f64 a') ∧ c = (b && Op.floatEq .f64 a a')
theorem run_part {t : TypeId} {d : TypeDesc} (hu : P.underlying t = some d) (hd : isAggD d = false) {cs : Array Value} {i : Nat} {v : Value} (h : cs[i]? = some v) (w : World) : (part t cs i).run P w = .ok v w := by
  simp only [part, Sem.run_bind, run_isAgg' hu, hd, Result.andThen_ok, Bool.false_eq_true, if_false, h, Sem.run_pure]
theorem eqFs_ok (hr : ERel E S) {xs ys : List SV} {l m : List Value} (hx : SV.denL E xs = some l) (hy : SV.denL E ys = some m) (n : Nat) (w : World) :
    ∀ {fs : List Field} {b : Bool} {u : Option (SV × SV)}, eqFs P S xs ys fs = some (b, u) → ∃ c, (Op.eqFields (n + 1) l.toArray m.toArray fs).run P w = .ok c w ∧ eqSays E b u c
  | [], b, u, h => by
    simp only [eqFs, Option.some.injEq, Prod.mk.injEq] at h
    obtain ⟨rfl, rfl⟩ := h
    exact ⟨true, by simp [Op.eqFields], rfl⟩
  | f :: fs, b, u, h => by
    simp only [eqFs] at h
    split at h
    · rename_i b' u' d x y h1 h2 h3 h4
      obtain ⟨c', k1, k2⟩ := eqFs_ok hr hx hy n w h1
      obtain ⟨vx, gx, dx⟩ := denL_getE hx h3
      obtain ⟨vy, gy, dy⟩ := denL_getE hy h4
      simp only [SV.den, Option.some.injEq] at dx dy
      subst dx; subst dy
      cases hn : f.name != "_" with
      | false => rw [hn] at h; cases h
      | true =>
      rw [hn] at h
      simp only [cond_true] at h
      split at h
      case h_2 => cases h
      rename_i c hc
      simp only [Option.some.injEq, Prod.mk.injEq] at h
      obtain ⟨rfl, rfl⟩ := h
      obtain ⟨r1, r2⟩ := eqV_ok (P := P) h2 hc n w
      have hn' : f.name ≠ "_" := by simpa using hn
      refine ⟨c && c', ?_, ?_⟩
      · simp only [Op.eqFields, ne_eq, hn', not_false_eq_true, if_true, Sem.run_bind, run_part h2 r2 (List.getElem?_toArray.trans gx), run_part h2 r2 (List.getElem?_toArray.trans gy), Result.andThen_ok, r1]
        cases c with
        | false => simp
        | true => simpa using k1
      · cases u' with
        | none => simp only [eqSays] at k2 ⊢; rw [k2]
        | some p =>
          obtain ⟨p1, p2⟩ := p
          simp only [eqSays] at k2 ⊢
          obtain ⟨a, a', e1, e2, e3⟩ := k2
          exact ⟨a, a', e1, e2, by rw [e3, Bool.and_assoc]⟩
    · rename_i b' fk x y _ h1 h2 h3 h4
      obtain ⟨c', k1, k2⟩ := eqFs_ok hr hx hy n w h1
      obtain ⟨vx, gx, dx⟩ := denL_getE hx h3
      obtain ⟨vy, gy, dy⟩ := denL_getE hy h4
      cases hn : f.name != "_" && isF64 S x && isF64 S y with
      | false => rw [hn] at h; cases h
      | true =>
      rw [hn] at h
      simp only [cond_true, Option.some.injEq, Prod.mk.injEq] at h
      obtain ⟨rfl, rfl⟩ := h
      simp only [Bool.and_eq_true] at hn
      obtain ⟨a, rfl⟩ := isF64_ok hr hn.1.2 dx
      obtain ⟨a', rfl⟩ := isF64_ok hr hn.2 dy
      have hn' : f.name ≠ "_" := by simpa using hn.1.1
      have r1 : (Op.equalIn (n + 1) f.type (.float .f64 a) (.float .f64 a')).run P w = .ok (Op.floatEq .f64 a a') w := by simp [Op.equalIn, run_underlying h2]
      simp only [eqSays] at k2
      subst k2
      refine ⟨Op.floatEq .f64 a a' && c', ?_, a, a', dx, dy, Bool.and_comm _ _⟩
      simp only [Op.eqFields, ne_eq, hn', not_false_eq_true, if_true, Sem.run_bind, run_part h2 rfl (List.getElem?_toArray.trans gx), run_part h2 rfl (List.getElem?_toArray.trans gy), Result.andThen_ok, r1]
      cases Op.floatEq .f64 a a' with
      | false => simp
      | true => simpa using k1
    · cases h
def eqWant : BinOp → Bool
  | .eql => true
  | _ => false
def isEq : BinOp → Bool
  | .eql => true
  | .neq => true
  | _ => false
def evEqAgg (P : Program) (S : St) (op : BinOp) (t : TypeId) (x y : SV) : Option (List (SV × St)) :=
  match cellsS x, cellsS y, P.underlying t with
  | some xs, some ys, some (.struct fs) => bif isEq op && !P.stoodInHeld t && !P.eqGuardType P.depth t then
      (match eqFs P S xs ys fs.toList with
      | some (b, none) => some [(.val (.bool (b == eqWant op)), S)]
      | some (false, some _) => some [(.val (.bool (false == eqWant op)), S)]
      | some (true, some (a, c)) => (match evIvBin S op a c with
        | some p => some [p]
        | none => evOpenBin P S op t a c)
      | none => none) else none
  | _, _, _ => none
theorem agg_run {op : BinOp} (hop : isEq op = true) {t : TypeId} {fs : Array Field} (hu : P.underlying t = some (.struct fs)) (h1 : P.stoodInHeld t = false) (h2 : P.eqGuardType P.depth t = false) {xs ys : Array Value} {ox oy : Operand} {c : Bool}
    (h : (Op.eqFields 9999 xs ys fs.toList).run P w = .ok c w) : (do eqGuard op t ox oy (.agg xs) (.agg ys); binOp op t (.agg xs) (.agg ys) : Sem Value).run P w = .ok (.bool (c == eqWant op)) w := by
  have hf : P.fieldsOf t = fs := by simp only [Program.fieldsOf, hu]
  have e := run_equalIn_agg (P := P) w 9999 t xs ys (by rw [hf]; exact hu) h1
  rw [hf] at e
  rw [h] at e
  have g := run_eqGuard_agg (P := P) w op t ox oy xs ys h2
  cases op <;> simp only [isEq, Bool.false_eq_true] at hop
  · simp only [Sem.run_bind, g, Result.andThen_ok, run_eql_struct, e]; cases c <;> rfl
  · simp only [Sem.run_bind, g, Result.andThen_ok, run_neq_struct, e]; cases c <;> rfl
theorem float_eq_run {op : BinOp} (hop : isEq op = true) {t : TypeId} {a a' : Nat} {ox oy : Operand} :
    (do eqGuard op t ox oy (.float .f64 a) (.float .f64 a'); binOp op t (.float .f64 a) (.float .f64 a') : Sem Value).run P w = .ok (.bool (Op.floatEq .f64 a a' == eqWant op)) w := by
  cases op <;> simp only [isEq, Bool.false_eq_true] at hop <;> simp [eqGuard, binOp, Op.floatCmp, Op.floatEq, eqWant, bne]
theorem evEqAgg_ok (hr : Rel B G w0 E S w) {op : BinOp} {t : TypeId} {x y : SV} {rs : List (SV × St)} {ox oy : Operand} {vx vy : Value} (h : evEqAgg P S op t x y = some rs) (hx : x.den E = some vx) (hy : y.den E = some vy) :
    DoesB B G w0 P E rs (do eqGuard op t ox oy vx vy; binOp op t vx vy) w := by
  unfold evEqAgg at h
  split at h
  case h_2 => cases h
  rename_i xs ys fs cx cy hu
  cases hc : isEq op && !P.stoodInHeld t && !P.eqGuardType P.depth t with
  | false => rw [hc] at h; cases h
  | true =>
  rw [hc] at h
  simp only [Bool.and_eq_true, Bool.not_eq_true'] at hc
  simp only [cond_true] at h
  obtain ⟨l, hl, rfl⟩ := cellsS_ok cx hx
  obtain ⟨m, hm, rfl⟩ := cellsS_ok cy hy
  split at h
  · rename_i b he
    simp only [Option.some.injEq] at h; subst h
    obtain ⟨c, h1, h2⟩ := eqFs_ok (P := P) hr.env hl hm 9998 w he
    simp only [eqSays] at h2
    subst h2
    exact doesB_one (Does.here hr (by simp only [SV.den]) (agg_run hc.1.1 hu hc.1.2 hc.2 h1))
  · rename_i p he
    simp only [Option.some.injEq] at h; subst h
    obtain ⟨c, h1, h2⟩ := eqFs_ok (P := P) hr.env hl hm 9998 w he
    obtain ⟨p1, p2⟩ := p
    simp only [eqSays] at h2
    obtain ⟨a, a', _, _, h2⟩ := h2
    simp only [Bool.false_and] at h2
    subst h2
    exact doesB_one (Does.here hr (by simp only [SV.den]) (agg_run hc.1.1 hu hc.1.2 hc.2 h1))
  · rename_i a b he
    obtain ⟨c, h1, h2⟩ := eqFs_ok (P := P) hr.env hl hm 9998 w he
    simp only [eqSays] at h2
    obtain ⟨f, f', e1, e2, h2⟩ := h2
    simp only [Bool.true_and] at h2
    subst h2
    have same : (do eqGuard op t ox oy (.agg l.toArray) (.agg m.toArray); binOp op t (.agg l.toArray) (.agg m.toArray) : Sem Value).run P w = (do eqGuard op t ox oy (.float .f64 f) (.float .f64 f'); binOp op t (.float .f64 f) (.float .f64 f') : Sem Value).run P w := by
      rw [agg_run hc.1.1 hu hc.1.2 hc.2 h1, float_eq_run hc.1.1]
    split at h
    · rename_i p hp
      simp only [Option.some.injEq] at h; subst h
      obtain ⟨F, v, w', k1, k2, k3, k4⟩ := evIvBin_ok (P := P) (t := t) (ox := ox) (oy := oy) hr (sv := p.1) (S' := p.2) hp e1 e2
      exact doesB_one ⟨F, v, w', k1, k2, k3, same.trans k4⟩
    · obtain ⟨p, hp, k⟩ := evOpenBin_ok (P := P) (t := t) (ox := ox) (oy := oy) hr h e1 e2
      refine ⟨p, hp, k.imp id fun ⟨F, v, w', k1, k2, k3, k4⟩ => ⟨F, v, w', k1, k2, k3, same.trans k4⟩⟩
  · cases h
end
end Go.Ev
namespace Go.Ev
open Go.RowKit (Below)
def deepAt (n : Nat) : List DEnt → Option DEnt
  | [] => none
  | d :: r => bif Nat.beq n d.s then some d else deepAt n r
theorem deepAt_mem {n : Nat} : ∀ {ds : List DEnt} {d : DEnt}, deepAt n ds = some d → d ∈ ds ∧ d.s = n
  | [], _, h => by cases h
  | e :: r, d, h => by
    simp only [deepAt] at h
    cases hb : Nat.beq n e.s with
    | true =>
      rw [hb] at h
      simp only [cond_true, Option.some.injEq] at h; subst h
      exact ⟨List.mem_cons_self, (Nat.eq_of_beq_eq_true hb).symm⟩
    | false =>
      rw [hb] at h
      obtain ⟨h1, h2⟩ := deepAt_mem h
      exact ⟨List.mem_cons_of_mem _ h1, h2⟩
theorem Deep.mono {B B' : Nat} {w w' : World} (hB : B ≤ B') (hw : ∀ b, b < B → w'.heap[b]? = w.heap[b]?) : ∀ {l : Lay} {v x : Value}, Deep B w l v x → Deep B' w' l v x
  | _, _, _, .sc h => .sc h
  | _, _, _, .nil h => .nil h
  | _, _, _, .list h1 h2 h3 h4 h5 h6 h7 => .list h1 h2 h3 h4 (by omega) (fun j c hj => by
      rw [← h6 j c hj]
      refine World.cell?_of_block (hw _ ?_)
      rw [addr_add_block]; exact h5) (fun j t c x g1 g2 g3 => Deep.mono hB hw (h7 j t c x g1 g2 g3))
theorem Deep.open {B : Nat} {w : World} {lay : List Lay} {v x : Value} (h : Deep B w (.list lay) v x) : ∃ cells : Array Value, x = .agg cells ∧ 0 < lay.length ∧ cells.size / lay.length ≤ 140737488355328 ∧ cells.size = cells.size / lay.length * lay.length ∧
    ((v = .slice none 0 0 ∧ cells = #[]) ∨ ∃ (a : Addr) (cap : Nat) (raw : Array Value), v = .slice (some a) (cells.size / lay.length) cap ∧ raw.size = cells.size ∧ a.block < B ∧ (∀ (j : Nat) (c : Value), raw[j]? = some c → w.cell? (a.add j) = some c) ∧
      ∀ (j : Nat) (t : Lay) (c x : Value), lay[j % lay.length]? = some t → raw[j]? = some c → cells[j]? = some x → Deep B w t c x) := by
  cases h with
  | nil h => exact ⟨#[], rfl, h, by simp, by simp, .inl ⟨rfl, rfl⟩⟩
  | list h1 h2 h3 h4 h5 h6 h7 => exact ⟨_, rfl, h1, h2, h3, .inr ⟨_, _, _, rfl, h4, h5, h6, h7⟩⟩
def allSc : List Lay → Option (List Sort_)
  | [] => some []
  | .sc t :: r => match allSc r with
    | some l => some (t :: l)
    | none => none
  | .list _ :: _ => none
theorem allSc_get : ∀ {lay : List Lay} {l : List Sort_}, allSc lay = some l → l.length = lay.length ∧ ∀ (j : Nat) (t : Lay), lay[j]? = some t → ∃ u, t = .sc u ∧ l[j]? = some u
  | [], l, h => by simp only [allSc, Option.some.injEq] at h; subst h; exact ⟨rfl, fun j t h => by simp at h⟩
  | .sc t :: r, l, h => by
    simp only [allSc] at h
    split at h
    · rename_i l' hl
      simp only [Option.some.injEq] at h; subst h
      obtain ⟨h1, h2⟩ := allSc_get hl
      refine ⟨by simp [h1], fun j u hj => ?_⟩
      cases j with
      | zero => simp at hj; subst hj; exact ⟨t, rfl, by simp⟩
      | succ j => simp at hj; obtain ⟨z, e, hz⟩ := h2 j u hj; exact ⟨z, e, by simpa using hz⟩
    · cases h
  | .list _ :: _, _, h => by cases h
section
variable {B G : Nat} {w0 : Start} {E : Env} {S : St} {w : World} {P : Program}
theorem Rel.addOld (h : Rel B G w0 E S w) {l : LEnt} {v : Value} {cells : Array Value} (hL : LRel B w0 E w l v cells) (ho : l.own = false) : Rel B G w0 E { S with lists := l :: S.lists } w :=
  { h with
    lists := fun m hm => by
      simp only [List.mem_cons] at hm
      rcases hm with rfl | hm
      · exact ⟨v, cells, hL⟩
      · exact h.lists m hm
    apart := fun m hm hmo x hx b hb => by
      simp only [List.mem_cons] at hm
      rcases hm with rfl | hm
      · rw [ho] at hmo; cases hmo
      · obtain ⟨h1, h2⟩ := h.apart m hm hmo x hx b hb
        refine ⟨h1, fun k hk hko u hu hub => ?_⟩
        simp only [List.mem_cons] at hk
        rcases hk with rfl | hk
        · rw [ho] at hko; cases hko
        · exact h2 k hk hko u hu hub }
def addDeep (S : St) (s x : Nat) (lay : List Lay) : St :=
  match allSc lay with
  | some l => { S with lists := { s := s, x := x, e := 0, lay := l, own := false } :: S.lists }
  | none => { S with deeps := { s := s, x := x, lay := lay } :: S.deeps }
theorem Rel.addDeep (h : Rel B G w0 E S w) {s x : Nat} {lay : List Lay} {v u : Value} (hs : E.σ s = some v) (hx : E.σ x = some u) (hd : Deep B w0.w (.list lay) v u) : Rel B G w0 E (addDeep S s x lay) w := by
  unfold Ev.addDeep
  split
  · rename_i l hl
    obtain ⟨a1, a2⟩ := allSc_get hl
    obtain ⟨cells, rfl, k1, k2, k3, k4⟩ := hd.open
    have eqc : ∀ {a : Addr} {cap : Nat} {raw : Array Value}, raw.size = cells.size → (∀ (j : Nat) (t : Lay) (c x : Value), lay[j % lay.length]? = some t → raw[j]? = some c → cells[j]? = some x → Deep B w0.w t c x) → raw = cells ∧ ∀ (j : Nat) (c : Value), cells[j]? = some c → ∃ t, l[j % l.length]? = some t ∧ t.fits c := fun {a cap raw} g1 g2 => by
      have key : ∀ (j : Nat) (hj : j < cells.size), ∃ t, l[j % l.length]? = some t ∧ t.fits cells[j] ∧ raw[j]? = some cells[j] := fun j hj => by
        have hm : j % lay.length < lay.length := Nat.mod_lt _ k1
        obtain ⟨t, e, ht⟩ := a2 (j % lay.length) lay[j % lay.length] (List.getElem?_eq_getElem hm)
        have hr : j < raw.size := by omega
        have := g2 j _ raw[j] cells[j] (List.getElem?_eq_getElem hm) (Array.getElem?_eq_getElem hr) (Array.getElem?_eq_getElem hj)
        rw [e] at this
        obtain ⟨hfit, heq⟩ : t.fits cells[j] ∧ raw[j] = cells[j] := by
          generalize raw[j] = r at this
          generalize cells[j] = c at this
          cases this with
          | sc hf => exact ⟨hf, rfl⟩
        exact ⟨t, by rw [a1]; exact ht, hfit, by rw [Array.getElem?_eq_getElem hr, heq]⟩
      refine ⟨Array.ext g1 fun j h1 h2 => ?_, fun j c hj => ?_⟩
      · obtain ⟨_, _, _, e⟩ := key j h2
        rw [Array.getElem?_eq_getElem h1] at e
        exact Option.some.inj e
      · obtain ⟨hj', rfl⟩ := Array.getElem?_eq_some_iff.1 hj
        obtain ⟨t, e1, e2, _⟩ := key j hj'
        exact ⟨t, e1, e2⟩
    have hL : LRel B w0 E w { s := s, x := x, e := 0, lay := l, own := false } v cells := by
      refine { s := hs, x := hx, some_ := by show 0 < l.length; omega, few := by show cells.size / l.length ≤ _; rw [a1]; exact k2, whole := by show cells.size = cells.size / l.length * l.length; rw [a1]; exact k3, lay := ?_, own := (fun h => by cases h), old := fun _ => ?_ }
      · rcases k4 with ⟨_, rfl⟩ | ⟨a, cap, raw, _, g1, _, _, g2⟩
        · intro j c hj; simp at hj
        · exact (eqc (a := a) (cap := cap) g1 g2).2
      · rcases k4 with h | ⟨a, cap, raw, e, g1, gb, g3, g2⟩
        · exact .inl h
        · obtain ⟨rfl, _⟩ := eqc (a := a) (cap := cap) g1 g2
          exact .inr ⟨a, cap, by show v = .slice (some a) (raw.size / l.length) cap; rw [a1]; exact e, gb, g3⟩
    exact h.addOld hL rfl
  · exact { h with
      deeps := fun d hm => by
        simp only [List.mem_cons] at hm
        rcases hm with rfl | hm
        · exact ⟨v, u, hs, hx, hd⟩
        · exact h.deeps d hm }
def lenD (S : St) (d : DEnt) : SV × St := known S lenSort (.len d.lay.length) [.sym d.x]
theorem lenD_ok (hr : Rel B G w0 E S w) {d : DEnt} {cells : Array Value} (hx : E.σ d.x = some (.agg cells)) (hf : cells.size / d.lay.length ≤ 140737488355328) :
    ∃ F, E.le F ∧ Rel B G w0 F (lenD S d).2 w ∧ (lenD S d).1.den F = some (.int .i64 ((cells.size / d.lay.length : Nat) : Int)) :=
  known_ok hr (vs := [.agg cells]) (bound_len _) (denL_mk (x := .sym d.x) (by simp only [SV.den]; exact hx) (r := []) rfl)
    ⟨_, rfl, fun a e => by cases e; exact Int.natCast_nonneg _, fun b e => by cases e; exact Int.ofNat_le.2 hf⟩ rfl
def evDLen (P : Program) (S : St) (t : TypeId) (x : SV) : Option (SV × St) :=
  match x with
  | .sym n => match deepAt n S.deeps, P.underlying t with
    | some d, some (.slice _) => some (lenD S d)
    | _, _ => none
  | _ => none
theorem evDLen_ok (hr : Rel B G w0 E S w) {t ty : TypeId} {x sv : SV} {S' : St} {vx : Value} (h : evDLen P S t x = some (sv, S')) (hx : x.den E = some vx) : Does B G w0 P E sv S' (Builtin.len_ #[t] ty #[vx]) w := by
  unfold evDLen at h
  split at h
  · rename_i n
    split at h
    · rename_i d e hd hu
      simp only [Option.some.injEq] at h
      obtain ⟨hm, rfl⟩ := deepAt_mem hd
      obtain ⟨v, u, hs, hux, hD⟩ := hr.deeps d hm
      simp only [SV.den] at hx
      rw [hs] at hx; cases hx
      obtain ⟨cells, rfl, k1, k2, k3, k4⟩ := hD.open
      obtain ⟨F, f1, f2, f3⟩ := lenD_ok hr hux k2
      rw [h] at f2 f3
      refine ⟨F, _, w, f1, f2, f3, ?_⟩
      rcases k4 with ⟨rfl, rfl⟩ | ⟨a, cap, raw, rfl, _⟩
      · simp [Builtin.len_, run_underlying hu]; rfl
      · simp [Builtin.len_, run_underlying hu]; rfl
    · cases h
  · cases h
def evDAddr (P : Program) (S : St) (t : TypeId) (x i : SV) : Option (List (SV × St)) :=
  match x with
  | .sym n => match deepAt n S.deeps, P.underlying t, intOf S i with
    | some l, some (.slice e), some (.i64, _, _) => match (P.info? e).map (·.size) with
      | some sz => bif Nat.beq sz l.lay.length then
          match notNeg S i with
          | none => none
          | some (S1, b1) =>
            let ln := lenD S1 l
            let c := (match evIntCmp ln.2 .lss i ln.1 with
              | some v => (v, ln.2)
              | none => known ln.2 .bool (.int .lss .i64) [i, ln.1])
            match need c.2 c.1 true with
            | none => none
            | some (S2, b2) =>
              let p := known S2 .cell (.addr l.lay.length 0) [x, i]
              let q := known p.2 .bool (.inb l.lay.length) [.sym l.x, i]
              some ((p.1, q.2) :: bads (b1 ++ b2))
        else none
      | none => none
    | _, _, _ => none
  | _ => none
theorem evDAddr_ok (hr : Rel B G w0 E S w) {t : TypeId} {x i : SV} {rs : List (SV × St)} {vx vi : Value} (h : evDAddr P S t x i = some rs) (hx : x.den E = some vx) (hi : i.den E = some vi) :
    DoesB B G w0 P E rs (Instr.indexAt t vx vi) w := by
  unfold evDAddr at h
  split at h
  case h_2 => cases h
  rename_i n
  split at h
  case h_2 => cases h
  rename_i l e lo hi' hl hu hio
  split at h
  case h_2 => cases h
  rename_i sz hsz
  cases hb : Nat.beq sz l.lay.length with
  | false => rw [hb] at h; cases h
  | true =>
  rw [hb] at h
  have hbe := Nat.eq_of_beq_eq_true hb
  simp only [cond_true] at h
  obtain ⟨k, rfl, _, _⟩ := intOf_ok hr.env hio hi
  split at h
  · cases h
  rename_i S1 b1 hn
  split at h
  · cases h
  rename_i S2 b2 hn2
  simp only [Option.some.injEq] at h; subst h
  obtain ⟨F, f1, f2⟩ := notNeg_ok hr hi hn
  rcases f2 with ⟨hk, hr1⟩ | hbad
  case inr => exact doesB_more f1 hbad fun T hT => List.mem_append_left _ hT
  obtain ⟨hm, rfl⟩ := deepAt_mem hl
  obtain ⟨v, u, hs, hux, hD⟩ := hr.deeps l hm
  obtain ⟨cells, rfl, q1, q2, q3, q4⟩ := hD.open
  simp only [SV.den] at hx
  rw [hs] at hx; cases hx
  obtain ⟨F2, g1, g2, g3⟩ := lenD_ok hr1 (f1.σ _ _ hux) q2
  have hi2 := SV.den_mono (Env.le_trans f1 g1) _ _ hi
  have cmp : ∃ F3, F2.le F3 ∧ Rel B G w0 F3 (match evIntCmp (lenD S1 l).2 .lss i (lenD S1 l).1 with
              | some v => (v, (lenD S1 l).2)
              | none => known (lenD S1 l).2 .bool (.int .lss .i64) [i, (lenD S1 l).1]).2 w ∧ (match evIntCmp (lenD S1 l).2 .lss i (lenD S1 l).1 with
              | some v => (v, (lenD S1 l).2)
              | none => known (lenD S1 l).2 .bool (.int .lss .i64) [i, (lenD S1 l).1]).1.den F3 = some (.bool (k < ((cells.size / l.lay.length : Nat) : Int))) := by
    split
    · rename_i v hv
      obtain ⟨c, rfl, e⟩ := evIntCmp_val g2.env hv hi2 g3
      simp only [ibin, Option.some.injEq, Value.bool.injEq] at e
      exact ⟨F2, F2.le_refl, g2, by simp only [SV.den, e]⟩
    · exact known_ok g2 (srt := .bool) (op := .int .lss .i64) (bound_int _ _) (denL_mk hi2 (denL_mk g3 (r := []) rfl)) ⟨_, rfl⟩ (rel_int (by simp only [intV, if_true, ibin]))
  obtain ⟨F3, k1, k2, k3⟩ := cmp
  rcases need_ok k2 hn2 k3 with ⟨e1, hr2⟩ | hbad
  case inr => exact doesB_more (Env.le_trans f1 (Env.le_trans g1 k1)) hbad fun T hT => List.mem_append_right _ hT
  have hlt : k < ((cells.size / l.lay.length : Nat) : Int) := by simpa using e1
  have hE3 := Env.le_trans f1 (Env.le_trans g1 k1)
  rcases q4 with ⟨rfl, rfl⟩ | ⟨a, cap, raw, rfl, hcells⟩
  · simp at hlt; omega
  have hx3 : (SV.sym l.s).den F3 = some (.slice (some a) (cells.size / l.lay.length) cap) := by simp only [SV.den]; exact hE3.σ _ _ hs
  have hi3 := SV.den_mono hE3 _ _ hi
  obtain ⟨F4, m1, m2, m3⟩ := known_ok hr2 (srt := .cell) (op := .addr l.lay.length 0) (v := .pointer (some (a.add (k.toNat * l.lay.length + 0)))) (bound_addr _ _) (denL_mk hx3 (denL_mk hi3 (r := []) rfl)) rfl rfl
  have hX4 : (SV.sym l.x).den F4 = some (.agg cells) := by simp only [SV.den]; exact m1.σ _ _ (hE3.σ _ _ hux)
  obtain ⟨F5, n1, n2, n3⟩ := known_ok m2 (srt := .bool) (op := .inb l.lay.length) (v := .bool true) (bound_inb _) (denL_mk hX4 (denL_mk (SV.den_mono m1 _ _ hi3) (r := []) rfl)) ⟨_, rfl⟩ (by
    show (if 0 ≤ k ∧ k.toNat < cells.size / l.lay.length then some (Value.bool true) else none) = _
    rw [if_pos ⟨hk, by omega⟩])
  refine ⟨_, List.mem_cons_self, .inr ⟨F5, _, w, Env.le_trans hE3 (Env.le_trans m1 n1), n2, SV.den_mono n1 _ _ m3, ?_⟩⟩
  subst hbe
  simp only [Instr.indexAt, asIntOf, Sem.run_bind, Sem.run_pure, Result.andThen_ok, run_underlying hu]
  have h1 : (0 : Int) ≤ k ∧ k < ((cells.size / l.lay.length : Nat) : Int) := ⟨hk, hlt⟩
  simp only [h1, and_self, if_true, Sem.run_bind, run_sizeOf' hsz, Result.andThen_ok, Nat.add_zero, Sem.run_pure]
def getCellsD (x : Nat) (i : SV) (lay : List Lay) : Nat → Nat → St → Option (List SV × St)
  | 0, _, S => some ([], S)
  | n + 1, off, S => match lay[off]? with
    | none => none
    | some (.sc t) =>
      let c := known S t (.get lay.length off) [.sym x, i]
      match getCellsD x i lay n (off + 1) c.2 with
      | some (l, S') => some (c.1 :: l, S')
      | none => none
    | some (.list lay') =>
      let c := known S .any (.get lay.length off) [.sym x, i]
      match c.1 with
      | .sym m =>
        let S1 : St := { c.2 with nsym := c.2.nsym + 1, sorts := (c.2.nsym, .cell) :: c.2.sorts }
        match getCellsD x i lay n (off + 1) (addDeep S1 c.2.nsym m lay') with
        | some (l, S') => some (.sym c.2.nsym :: l, S')
        | none => none
      | _ => none
theorem Deep.one {Bd : Nat} {w : World} {lay : List Lay} {v x : Value} (h : Deep Bd w (.list lay) v x) : v.oneCell' = true := by
  cases h <;> rfl
theorem getCellsD_ok {x : Nat} {i : SV} {lay : List Lay} {raw cells : Array Value} {k : Int} (hsz : raw.size = cells.size)
    (hlay : ∀ (j : Nat) (t : Lay) (c x : Value), lay[j % lay.length]? = some t → raw[j]? = some c → cells[j]? = some x → Deep B w0.w t c x) (hk : k.toNat * lay.length + lay.length ≤ cells.size) :
    ∀ (n off : Nat) (S S' : St) (E : Env) (l : List SV), getCellsD x i lay n off S = some (l, S') → Rel B G w0 E S w → (SV.sym x).den E = some (.agg cells) → (∃ kd, i.den E = some (.int kd k)) → off + n ≤ lay.length →
      ∃ F vs, E.le F ∧ Rel B G w0 F S' w ∧ SV.denL F l = some vs ∧ vs = (raw.toList.drop (k.toNat * lay.length + off)).take n
  | 0, off, S, S', E, l, h, hr, _, _, _ => by
    simp only [getCellsD, Option.some.injEq, Prod.mk.injEq] at h
    obtain ⟨rfl, rfl⟩ := h
    exact ⟨E, [], E.le_refl, hr, rfl, by simp⟩
  | n + 1, off, S, S', E, l, h, hr, hx, hi, ho => by
    have hidx : k.toNat * lay.length + off < cells.size := by omega
    have hidr : k.toNat * lay.length + off < raw.size := by omega
    have hc : cells[k.toNat * lay.length + off]? = some cells[k.toNat * lay.length + off] := Array.getElem?_eq_getElem hidx
    have hcr : raw[k.toNat * lay.length + off]? = some raw[k.toNat * lay.length + off] := Array.getElem?_eq_getElem hidr
    have hmod : (k.toNat * lay.length + off) % lay.length = off := by
      rw [Nat.mul_comm, Nat.mul_add_mod, Nat.mod_eq_of_lt (by omega)]
    have fin : ∀ (vs : List Value), vs = (raw.toList.drop (k.toNat * lay.length + (off + 1))).take n → raw[k.toNat * lay.length + off] :: vs = (raw.toList.drop (k.toNat * lay.length + off)).take (n + 1) := fun vs e => by
      rw [e]
      have hlt : k.toNat * lay.length + off < raw.toList.length := by simpa using hidr
      rw [List.drop_eq_getElem_cons hlt, List.take_succ_cons]
      simp only [Array.getElem_toList, Nat.add_assoc]
    obtain ⟨kd, hi'⟩ := hi
    simp only [getCellsD] at h
    split at h
    · cases h
    · rename_i t ht
      have hD := hlay _ (.sc t) _ _ (by rw [hmod]; exact ht) hcr hc
      split at h
      · rename_i l' S'' hg
        simp only [Option.some.injEq, Prod.mk.injEq] at h
        obtain ⟨rfl, rfl⟩ := h
        obtain ⟨hfit, heq⟩ : t.fits cells[k.toNat * lay.length + off] ∧ raw[k.toNat * lay.length + off] = cells[k.toNat * lay.length + off] := by
          generalize raw[k.toNat * lay.length + off] = r at hD
          generalize cells[k.toNat * lay.length + off] = c at hD
          cases hD with
          | sc hf => exact ⟨hf, rfl⟩
        obtain ⟨F, f1, f2, f3⟩ := known_ok hr (srt := t) (op := .get lay.length off) (v := cells[k.toNat * lay.length + off]) (bound_get _ _) (denL_mk hx (denL_mk hi' (r := []) rfl)) hfit hc
        obtain ⟨F', vs, g1, g2, g3, g4⟩ := getCellsD_ok hsz hlay hk n (off + 1) _ S'' F l' hg f2 (SV.den_mono f1 _ _ hx) ⟨kd, SV.den_mono f1 _ _ hi'⟩ (by omega)
        exact ⟨F', _, Env.le_trans f1 g1, g2, denL_mk (SV.den_mono g1 _ _ f3) g3, by rw [← heq]; exact fin vs g4⟩
      · cases h
    · rename_i lay' ht
      have hD := hlay _ (.list lay') _ _ (by rw [hmod]; exact ht) hcr hc
      obtain ⟨F, f1, f2, f3⟩ := known_ok hr (srt := .any) (op := .get lay.length off) (v := cells[k.toNat * lay.length + off]) (bound_get _ _) (denL_mk hx (denL_mk hi' (r := []) rfl)) trivial hc
      split at h
      case h_2 => cases h
      rename_i m hm
      split at h
      case h_2 => cases h
      rename_i l' S'' hg
      simp only [Option.some.injEq, Prod.mk.injEq] at h
      obtain ⟨rfl, rfl⟩ := h
      rw [hm] at f3
      simp only [SV.den] at f3
      obtain ⟨k1, k2⟩ := f2.newCell (v := raw[k.toNat * lay.length + off]) hD.one
      have k3 := k2.addDeep (Env.unk_self _ _ _) (k1.σ _ _ f3) hD
      have hle := Env.le_trans f1 k1
      obtain ⟨F', vs, g1, g2, g3, g4⟩ := getCellsD_ok hsz hlay hk n (off + 1) _ S'' _ l' hg k3 (SV.den_mono hle _ _ hx) ⟨kd, SV.den_mono hle _ _ hi'⟩ (by omega)
      exact ⟨F', _, Env.le_trans hle g1, g2, denL_mk (SV.den_mono g1 _ _ (by simp only [SV.den]; exact Env.unk_self _ _ _)) g3, fin vs g4⟩
def evDLoad (P : Program) (S : St) (t : TypeId) (a : SV) : Option (SV × St) :=
  match a with
  | .sym p => match placeOf p S.facts with
    | some (sz, s, i, off) => match deepAt s S.deeps with
      | some l => bif Nat.beq sz l.lay.length then
          match lookFact (.inb sz) [.sym l.x, i] S.facts, P.underlying t with
          | some _, some d => bif isAggD d then
              match (P.info? t).map (·.size) with
              | none => none
              | some n => bif Nat.ble (off + n) sz then
                  match getCellsD l.x i l.lay n off S with
                  | some (cs, S') => some (.agg cs, S')
                  | none => none
                else none
            else bif Nat.blt off sz then
              match getCellsD l.x i l.lay 1 off S with
              | some ([c], S') => some (c, S')
              | _ => none
            else none
          | _, _ => none
        else none
      | none => none
    | none => none
  | _ => none
theorem evDLoad_ok (hr : Rel B G w0 E S w) {t : TypeId} {a sv : SV} {S' : St} {va : Value} (h : evDLoad P S t a = some (sv, S')) (ha : a.den E = some va) : Does B G w0 P E sv S' (Instr.loadAt t va) w := by
  unfold evDLoad at h
  split at h
  case h_2 => cases h
  rename_i p
  split at h
  case h_2 => cases h
  rename_i sz s i off hp
  split at h
  case h_2 => cases h
  rename_i l hl
  cases hb : Nat.beq sz l.lay.length with
  | false => rw [hb] at h; cases h
  | true =>
  rw [hb] at h
  have hbe := Nat.eq_of_beq_eq_true hb
  subst hbe
  simp only [cond_true] at h
  split at h
  case h_2 => cases h
  rename_i z d hz hd
  simp only [SV.den] at ha
  obtain ⟨a, n, cap, kd, k, e1, e2, rfl⟩ := place_at hr hp ha
  obtain ⟨hm, rfl⟩ := deepAt_mem hl
  obtain ⟨v, u, hs, hux, hD⟩ := hr.deeps l hm
  obtain ⟨cells, rfl, q1, q2, q3, q4⟩ := hD.open
  have hX : (SV.sym l.x).den E = some (.agg cells) := by simp only [SV.den]; exact hux
  obtain ⟨u, hu1, hu2⟩ := fact_at hr hz (denL_mk hX (denL_mk e2 (r := []) rfl))
  obtain ⟨hk0, hk1⟩ := inb_of hu2
  rw [e1] at hs; cases hs
  rcases q4 with ⟨e, _⟩ | ⟨a', cap', raw, e, hrs, hblk, hcells0, hdeep⟩
  · cases e
  cases e
  have hcells : ∀ (j : Nat) (c : Value), raw[j]? = some c → w.cell? (a.add j) = some c := fun j c hj => by
    rw [← hcells0 j c hj]
    refine World.cell?_of_block (hr.below.block _ ?_)
    rw [addr_add_block]; exact hblk
  have hwhole : k.toNat * l.lay.length + l.lay.length ≤ cells.size := by
    have h1 : (k.toNat + 1) * l.lay.length ≤ cells.size / l.lay.length * l.lay.length := Nat.mul_le_mul_right _ hk1
    rw [Nat.add_mul, Nat.one_mul] at h1
    omega
  have go : ∀ (m : Nat) (cs : List SV) (S'' : St), off + m ≤ l.lay.length → getCellsD l.x i l.lay m off S = some (cs, S'') →
      ∃ F vs, E.le F ∧ Rel B G w0 F S'' w ∧ SV.denL F cs = some vs ∧ vs.length = m ∧ ∀ (j : Nat) (c : Value), vs[j]? = some c → w.cell? ((a.add (k.toNat * l.lay.length + off)).add j) = some c := fun m cs S'' hom hg => by
    obtain ⟨F, vs, f1, f2, f3, f4⟩ := getCellsD_ok hrs hdeep hwhole m off S S'' E cs hg hr hX ⟨kd, e2⟩ hom
    refine ⟨F, vs, f1, f2, f3, by rw [f4]; simp; omega, fun j c hj => ?_⟩
    rw [Addr.add_add]
    refine hcells _ _ ?_
    rw [f4, List.getElem?_take] at hj
    split at hj
    · rw [List.getElem?_drop] at hj
      simpa using hj
    · cases hj
  cases hagg : isAggD d with
  | true =>
    rw [hagg] at h
    simp only [cond_true] at h
    split at h
    · cases h
    rename_i m hsz
    cases hle : Nat.ble (off + m) l.lay.length with
    | false => rw [hle] at h; cases h
    | true =>
    rw [hle] at h
    simp only [cond_true] at h
    split at h
    · rename_i cs S'' hg
      simp only [Option.some.injEq, Prod.mk.injEq] at h
      obtain ⟨rfl, rfl⟩ := h
      obtain ⟨F, vs, f1, f2, f3, f4, f5⟩ := go m cs S'' (Nat.le_of_ble_eq_true hle) hg
      refine ⟨F, .agg vs.toArray, w, f1, f2, by simp only [SV.den, f3], ?_⟩
      simp only [Instr.loadAt, Instr.sureAddr, loadVar, Sem.run_bind, Sem.run_pure, Result.andThen_ok, run_isAgg' hd, hagg, if_true, run_sizeOf' hsz, loads_far f4 f5]
    · cases h
  | false =>
    rw [hagg] at h
    simp only [cond_false] at h
    cases hlt : Nat.blt off l.lay.length with
    | false => rw [hlt] at h; cases h
    | true =>
    have hlt' : off < l.lay.length := Nat.le_of_ble_eq_true hlt
    rw [hlt] at h
    simp only [cond_true] at h
    split at h
    · rename_i c S'' hg
      simp only [Option.some.injEq, Prod.mk.injEq] at h
      obtain ⟨rfl, rfl⟩ := h
      obtain ⟨F, vs, f1, f2, f3, f4, f5⟩ := go 1 [c] S'' (by omega) hg
      obtain ⟨v1, l1, g1, g2, rfl⟩ := denL_cons f3
      simp only [SV.denL, Option.some.injEq] at g2; subst g2
      refine ⟨F, v1, w, f1, f2, g1, ?_⟩
      have hc := f5 0 v1 (by simp)
      simp only [Addr.add, if_true] at hc
      simp only [Instr.loadAt, Instr.sureAddr, loadVar, Sem.run_bind, Sem.run_pure, Result.andThen_ok, run_isAgg' hd, hagg, Bool.false_eq_true, if_false, run_load]
      simp only [Addr.add] at hc ⊢
      rw [hc]
    · cases h
end
end Go.Ev
