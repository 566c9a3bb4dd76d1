/- maps.Copy at this program: the one map's entries laid into the other, in whatever order they come. Conditions: both maps are owned. -/
import Derived.Test.YtlpbimookmhjbaaGreatDoorProg
import Derived.Test.YtlpbimookmhjbaaGreatDoorEvBag
import Derived.WalkKit
import Derived.Maps.Ext
import Derived.Maps.RangeWalk
import Derived.Laws.IdiomRangeMap
namespace Go.Proofs.YtlpbimookmhjbaaGreatDoor
open Go.RowKit Go.Maps Go.Ev
theorem RV_three {v : Value} {y : DataW Value × List MemPlace} (h : RV v = some y) : ∃ a b c : Value, v = .agg #[a, b, c] ∧ a.oneCell' = true ∧ b.oneCell' = true ∧ c.oneCell' = true := by
  unfold RV at h
  split at h
  · rename_i cs
    split at h
    · rename_i h3
      obtain ⟨l⟩ := cs
      match l, h3 with
      | [a, b, c], h3 => exact ⟨a, b, c, rfl, by simpa using h3⟩
    · cases h
  · cases h
set_option maxHeartbeats 4000000 in
set_option maxRecDepth 100000 in
theorem copyAt : CopyAt Tryz.prog 49 9 := ⟨by kernel_rfl, by kernel_rfl, fun bd bs nd ns Dd Ds w hd hs hne hroom => by
  have K : Keyed Tryz.prog 9 := string_keyed Tryz.underlying9
  have hbd := hd.lt
  have hbs := hs.lt
  go_enter Tryz.func49, Tryz.ntmps49
  go_wp2_with (first
    | (at_range; refine wpList_range_own _ rfl _ 62 rfl 9 60 K Tryz.underlying62 RV bs ns _ rfl hs ?_; intro w0 hrg0 hg0 hs0)
    | go_in)
  go_frame
  go_loopw [8] (fun _ wr => ∃ (left : Lit → Bool) (cnt : Nat) (Dout : DataW Value), wr.ranges Tryz.prog 9 RV bs w.heap.size ns Ds left cnt ∧ cnt ≤ Maps.size Ds ∧
      wr.ownsMap Tryz.prog 9 RV bd (nd + (Maps.size Ds - cnt)) Dout ∧ Merged Dout Dd Ds left ∧ w.grownBy wr (some bd))
    (fun _ wr => wr.rangeLeft bs w.heap.size)
  case atStart =>
    exact ⟨_, _, Dd, hrg0, Nat.le_refl _, (hd.kept hg0 (by simp)).mono (by omega), merged_start Dd Ds, hg0.but _⟩
  case round =>
    obtain ⟨left, cnt, Dout, hrg, hcs, hout, hM, hgw⟩ := hrel
    go_wp2_with (first
      | (at_next; refine wpList_next_ranges _ rfl _ rfl 9 K RV id id (fun key _ _ => ⟨key, rfl⟩) (fun v _ _ => ⟨v, rfl⟩) bs w.heap.size ns _ _ _ rfl hrg ?_ ?_)
      | go_in)
    · intro hc0 hl0
      go_wp2
      go_end0
      subst hc0
      have e := merged_eq K.one hM hl0 (hout.canon K) (hd.canonK K) (hs.canonK K)
      subst e
      exact ⟨rfl, by simpa using hout, hgw⟩
    · intro x c kl yd yp w1 cnt1 hkey hlx hv hat hrg1 hlt hg1 hs1 hen
      have hout1 := hout.kept hg1 (fun e => by have := Option.some.inj e; omega)
      obtain ⟨v0, v1, v2, rfl, k0, k1, k2⟩ := RV_three hv
      have hgA : w1.grownBy (w1.alloc (.cells #[v0, v1, v2] 60)) none := World.grownBy_alloc _ _ _
      have hg1A : wr.grownBy (w1.alloc (.cells #[v0, v1, v2] 60)) (some w.heap.size) := hg1.trans (World.grownBy_alloc w1 _ _)
      have hrg1A := hrg1.kept hgA (by simp) (by simp)
      have hout1A := hout1.alloc (.cells #[v0, v1, v2] 60)
      have s0 := fun (a : Addr) (m : Mode) (w : World) => run_store Tryz.prog w a v0 m k0
      have s1 := fun (a : Addr) (m : Mode) (w : World) => run_store Tryz.prog w a v1 m k1
      have s2 := fun (a : Addr) (m : Mode) (w : World) => run_store Tryz.prog w a v2 m k2
      go_wp2_with (first
        | (at_mapUpdate; refine wpList_mapUpdate_own _ rfl _ _ _ 62 rfl 9 60 K Tryz.underlying62 RV bd _ _ rfl hout1A (by omega) _ _ _ rfl rfl hkey yd yp hv ?_; intro w2 hout2 hg2; go_frame)
        | (simp only [s0, s1, s2, hs1]; go_simp)
        | go_in)
      have hrg2 := hrg1A.kept hg2 (fun e => hne (Option.some.inj e).symm) (fun e => by have := Option.some.inj e; omega)
      go_roundw
      case rel =>
        exact ⟨_, cnt1, _, hrg2, by omega, hout2.mono (by omega), merged_step hM hout.isMap (K.key hkey) hat, (hgw.andThen hg1A (fun j hj => .inl (by cases hj; exact Nat.le_refl _))).andThen hg2 (fun j hj => .inr hj)⟩
      case measure => rw [hrg2.left_eq, hrg.left_eq]; exact hlt⟩
end Go.Proofs.YtlpbimookmhjbaaGreatDoor
