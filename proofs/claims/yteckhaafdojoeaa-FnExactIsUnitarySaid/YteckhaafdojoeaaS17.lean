/- Columns and the matrix with given columns (spec). -/
import Derived.Test.YteckhaafdojoeaaS16
namespace Go.Proofs.Yteckhaafdojoeaa
open Go.RowKit

set_option maxHeartbeats 4000000 in
theorem sColumn (ao : Option Addr) (m : List (List DO)) (k cap : Nat) (hn : m.length ≤ 2000000) (hr : ∀ r ∈ m, k < r.length ∧ r.length ≤ 2000000) (hk1 : k ≤ 2000000) (w : World) (h : MtR w ao m) :
    Calls Try.prog 144 #[.slice ao m.length cap, .int .i64 k] w fun e w' => ∃ v, e = .returned v ∧ OwnS w' w.heap.size v (colAt m k) ∧ Below w.heap.size w w' := by
  obtain ⟨iD, hiD, hzD0, hzD1, hzD2⟩ := info_parts infoD
  go_enter Try.func144, Try.ntmps144
  go_wp2
  go_loopw [5, 6] (fun r y wi => ∃ j : Nat, y = .int .i64 j ∧ j ≤ m.length ∧ OwnS wi w.heap.size r ((colAt m k).take j) ∧ Below w.heap.size w wi) (fun _ y _ => m.length - (intOf y).toNat)
  case atStart => exact ⟨0, rfl, Nat.zero_le _, OwnS.empty (Nat.le_refl _), by (repeat (first | with_reducible exact Below.refl _ _ | with_reducible assumption | with_reducible refine Below.setCell ?_ (by first | omega | (simp; done) | (simp; omega)) _ | with_reducible refine Below.alloc ?_ (by first | omega | (simp; done) | (simp; omega)) _ | with_reducible refine Below.drew ?_ | with_reducible refine belowDrewN ?_ _ | with_reducible refine Below.trans ?_ (Below.mono (by assumption) (by first | omega | (simp; done) | (simp; omega)))))⟩
  case round =>
    obtain ⟨j, rfl, j0, hS, hb1⟩ := hrel
    have hs1 := hb1.size
    have hlen : ((colAt m k).take j).length = j := by rw [List.length_take, colAt_length]; omega
    by_cases hj : j < m.length
    · obtain ⟨b, o, rfl, hlt, ro, rc, hcell, hR⟩ := (h.below hb1) j hj
      have hkj : k < m[j].length := (hr m[j] (List.getElem_mem _)).1
      obtain ⟨b', o', rfl, hlt', hD⟩ := hR k hkj
      obtain ⟨d0, d1, d2, d3, d4⟩ := hD
      clear h
      go_wp2_with (first | (at_builtin; refine wpList_append_own _ rfl _ _ 56 rfl w.heap.size TD iD _ 5 40 Try.underlying56 hiD hzD0 hzD1 hzD2 rfl (by decide) _ _ _ rfl (World.ownsRow.alloc hS _) ⟨wr.heap.size, 0, none⟩ 1 1 (dcells m[j][k]) rfl rfl ?c1 ?c2 ?c3 ?c4 ?c5 ?_))
      case c1 => exact at_new _ (dcells m[j][k]) _
      case c2 => exact dcells_one _
      case c3 => rw [hlen]; unfold maxLen; omega
      case c4 => rw [hlen]; omega
      case c5 => simp; omega
      intro v' w' hown' hgrow _
      have hS' : OwnS w' w.heap.size v' ((colAt m k).take (j + 1)) := by
        rw [colAt_take m k j hj hkj]
        exact OwnS.snoc (by rw [hlen]; exact hown')
      have hb' := grownS hb1 hs1 hS hgrow
      clear hown' hgrow hS
      go_wp2
      go_roundw
      case rel => exact ⟨j + 1, by go_num, by omega, hS', hb'⟩
      case measure => simp [intOf]; omega
    · have hj' : j = m.length := by omega
      subst hj'
      have hcol : (colAt m k).take m.length = colAt m k := List.take_of_length_le (by rw [colAt_length]; exact Nat.le_refl _)
      rw [hcol] at hS
      go_wp2
      go_ret
      exact ⟨_, rfl, hS, by (repeat (first | with_reducible exact Below.refl _ _ | with_reducible assumption | with_reducible refine Below.setCell ?_ (by first | omega | (simp; done) | (simp; omega)) _ | with_reducible refine Below.alloc ?_ (by first | omega | (simp; done) | (simp; omega)) _ | with_reducible refine Below.drew ?_ | with_reducible refine belowDrewN ?_ _ | with_reducible refine Below.trans ?_ (Below.mono (by assumption) (by first | omega | (simp; done) | (simp; omega)))))⟩

set_option maxHeartbeats 4000000 in
theorem sColumns (ao : Option Addr) (m : List (List DO)) (cap : Nat) (hn : m.length ≤ 2000000) (hr : ∀ r ∈ m, m.length ≤ r.length ∧ r.length ≤ 2000000) (w : World) (h : MtR w ao m) :
    Calls Try.prog 101 #[.slice ao m.length cap] w fun e w' => ∃ v, e = .returned v ∧ OwnM w' w.heap.size v (flip m) ∧ Below w.heap.size w w' := by
  obtain ⟨iS, hiS, hzS0, hzS1, hzS2⟩ := info_parts infoS
  go_enter Try.func101, Try.ntmps101
  go_wp2
  go_loopw [3, 4] (fun v x wr => ∃ k : Nat, x = .int .i64 k ∧ k ≤ m.length ∧ OwnM wr w.heap.size v ((flip m).take k) ∧ Below w.heap.size w wr) (fun _ x _ => m.length - (intOf x).toNat)
  case atStart => exact ⟨0, rfl, Nat.zero_le _, OwnM.empty (Nat.le_refl _), by (repeat (first | with_reducible exact Below.refl _ _ | with_reducible assumption | with_reducible refine Below.setCell ?_ (by first | omega | (simp; done) | (simp; omega)) _ | with_reducible refine Below.alloc ?_ (by first | omega | (simp; done) | (simp; omega)) _ | with_reducible refine Below.drew ?_ | with_reducible refine belowDrewN ?_ _ | with_reducible refine Below.trans ?_ (Below.mono (by assumption) (by first | omega | (simp; done) | (simp; omega)))))⟩
  case round =>
    obtain ⟨k, rfl, h0, hM, hb0⟩ := hrel
    have hs0 := hb0.size
    by_cases hk : k < m.length
    · have hlen2 : ((flip m).take k).length = k := by rw [List.length_take, flip_length]; omega
      go_wp2_with fail
      refine (sColumn _ m k _ hn (fun r hm => by have := hr r hm; omega) (by omega) _ (h.below hb0)).mono ?_
      rintro e w7 ⟨x, rfl, hx, hb7⟩
      obtain ⟨vs, ho, hrows, hdist⟩ := hM
      have hb8 : Below w.heap.size w w7 := hb0.trans (hb7.mono hs0)
      have hs8 := hb8.size
      obtain ⟨xo, xc, rfl, _, _, _⟩ := hx.read
      have ho1 := ownsRow_below ho hb7 (Nat.le_refl _)
      clear h
      go_wp2_with (first | (at_builtin; refine wpList_append_own _ rfl _ _ 26 rfl w.heap.size TS iS _ 1 24 Try.underlying26 hiS hzS0 hzS1 hzS2 rfl (by decide) _ _ _ rfl (World.ownsRow.alloc ho1 _) ⟨w7.heap.size, 0, none⟩ 1 1 [.slice xo (colAt m k).length xc] rfl rfl ?c1 ?c2 ?c3 ?c4 ?c5 ?_))
      case c1 => exact at_new _ [Value.slice xo (colAt m k).length xc] _
      case c2 => exact slice_one _ _ _
      case c3 => rw [hlen2]; unfold maxLen; omega
      case c4 => rw [hlen2]; omega
      case c5 => simp; omega
      intro v' w' hown' hgrow _
      have hM' : OwnM w' w.heap.size v' ((flip m).take (k + 1)) := by
        rw [flip_take m k hk]
        exact OwnM.snoc hs0 ho hrows hdist hb7 hx (by rw [hlen2]; exact hown') hgrow
      have hb' : Below w.heap.size w w' := (hb8.alloc hs8 _).grown hgrow (by simp; omega) fun x hx => (World.ownsRow.lt ho1 x hx).1
      clear hown' hgrow ho ho1 hrows hdist
      go_wp2
      go_roundw
      case rel => exact ⟨k + 1, by go_num, by omega, hM', hb'⟩
      case measure => simp [intOf]; omega
    · have hkl : k = m.length := by omega
      subst hkl
      have hf : (flip m).take m.length = flip m := List.take_of_length_le (by rw [flip_length]; exact Nat.le_refl _)
      rw [hf] at hM
      go_wp2
      go_ret
      exact ⟨_, rfl, hM, by (repeat (first | with_reducible exact Below.refl _ _ | with_reducible assumption | with_reducible refine Below.setCell ?_ (by first | omega | (simp; done) | (simp; omega)) _ | with_reducible refine Below.alloc ?_ (by first | omega | (simp; done) | (simp; omega)) _ | with_reducible refine Below.drew ?_ | with_reducible refine belowDrewN ?_ _ | with_reducible refine Below.trans ?_ (Below.mono (by assumption) (by first | omega | (simp; done) | (simp; omega)))))⟩

end Go.Proofs.Yteckhaafdojoeaa
