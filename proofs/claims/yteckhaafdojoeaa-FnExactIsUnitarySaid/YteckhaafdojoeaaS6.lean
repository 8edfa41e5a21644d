/- The walk of impl.flipped: rows and columns exchanged. -/
import Derived.Test.YteckhaafdojoeaaS5
namespace Go.Proofs.Yteckhaafdojoeaa
open Go.RowKit

/-- Column i. -/
def colAt (m : List (List DO)) (i : Nat) : List DO := m.map fun r => r.getD i ⟨⟨0, 0, 0, 0⟩, 0⟩
/-- Rows and columns exchanged. -/
def flip (m : List (List DO)) : List (List DO) := (List.range m.length).map (colAt m)
theorem colAt_length (m : List (List DO)) (i : Nat) : (colAt m i).length = m.length := by simp [colAt]
theorem flip_length (m : List (List DO)) : (flip m).length = m.length := by simp [flip]
theorem colAt_take (m : List (List DO)) (i j : Nat) (hj : j < m.length) (hi : i < m[j].length) : (colAt m i).take (j + 1) = (colAt m i).take j ++ [m[j][i]] := by
  rw [List.take_succ_eq_append_getElem (by simpa [colAt] using hj)]
  simp [colAt, List.getD, hi]
theorem flip_take (m : List (List DO)) (k : Nat) (hk : k < m.length) : (flip m).take (k + 1) = (flip m).take k ++ [colAt m k] := by
  rw [List.take_succ_eq_append_getElem (by simpa [flip] using hk)]
  simp [flip]

theorem ownsRow_below {B : Nat} {w w' : World} {base e size n : Nat} {v : Value} {xs : List Value} (h : w.ownsRow base e size v n xs) (hb : Below B w w') (hB : w.heap.size ≤ B) : w'.ownsRow base e size v n xs := by
  refine ⟨h.1, ?_⟩
  rcases h.2 with h0 | ⟨g, cap, cur, hv, hbg, hg, r⟩
  · exact .inl h0
  · exact .inr ⟨g, cap, cur, hv, hbg, by rw [hb.block g (Nat.lt_of_lt_of_le (Array.getElem?_eq_some_iff.1 hg).1 hB), hg], r⟩
theorem OwnS.empty {w : World} {base : Nat} (hb : base ≤ w.heap.size) : OwnS (w.alloc (.cells #[] TD)) base (.slice (some ⟨w.heap.size, 0, none⟩) 0 0) [] :=
  World.ownsRow_made (size := 5) w #[] 0 hb (by decide) rfl
theorem OwnM.empty {w : World} {base : Nat} (hb : base ≤ w.heap.size) : OwnM (w.alloc (.cells #[] TS)) base (.slice (some ⟨w.heap.size, 0, none⟩) 0 0) [] :=
  ⟨[], World.ownsRow_made (size := 1) w #[] 0 hb (by decide) rfl, fun i hi => absurd hi (Nat.not_lt_zero _), fun i j x y _ hx => by simp at hx⟩

theorem at_new (w : World) (xs : List Value) (t : TypeId) : ∀ j u, xs[j]? = some u → (w.alloc (.cells xs.toArray t)).cell? ((⟨w.heap.size, 0, none⟩ : Addr).add j) = some u := by
  intro j u hu
  have := (Blk.new w xs t).cell j
  rw [hu] at this
  rw [Addr.add_lit, Nat.zero_add]
  exact this
theorem dcells_one (x : DO) : ∀ u ∈ dcells x, u.oneCell' = true := by
  intro u hu
  simp only [dcells, List.mem_cons, List.not_mem_nil, or_false] at hu
  rcases hu with rfl | rfl | rfl | rfl | rfl <;> rfl
theorem slice_one (a : Option Addr) (n c : Nat) : ∀ u ∈ [Value.slice a n c], u.oneCell' = true := by
  intro u hu
  simp only [List.mem_cons, List.not_mem_nil, or_false] at hu
  subst hu
  rfl
/-- What an append to a state of our own leaves. -/
theorem grownS {B : Nat} {w0 w w' : World} {v : Value} {l : List DO} {o : Obj} (hb : Below B w0 w) (hB : B ≤ w.heap.size) (hS : OwnS w B v l) (hg : (w.alloc o).grownBy w' v.ownBlock) : Below B w0 w' :=
  (hb.alloc hB o).grown hg (by simp; omega) fun k hk => (World.ownsRow.lt hS k hk).1

set_option maxHeartbeats 4000000 in
theorem iFlipped (ao : Option Addr) (m : List (List DO)) (cap : Nat) (hn : m.length ≤ 2000000) (hr : ∀ r ∈ m, m.length ≤ r.length ∧ r.length ≤ 2000000) (w : World) (h : MtR w ao m) :
    Calls Try.prog 99 #[.slice ao m.length cap] w fun e w' => ∃ v, e = .returned v ∧ OwnM w' w.heap.size v (flip m) ∧ Below w.heap.size w w' := by
  obtain ⟨iD, hiD, hzD0, hzD1, hzD2⟩ := info_parts infoD
  obtain ⟨iS, hiS, hzS0, hzS1, hzS2⟩ := info_parts infoS
  go_enter Try.func99, Try.ntmps99
  go_wp2
  go_loopw [3, 11] (fun v x wr => ∃ k : Nat, x = .int .i64 k ∧ k ≤ m.length ∧ OwnM wr w.heap.size v ((flip m).take k) ∧ Below w.heap.size w wr) (fun _ x _ => m.length - (intOf x).toNat)
  case atStart => exact ⟨0, rfl, Nat.zero_le _, OwnM.empty (Nat.le_refl _), by (repeat (first | with_reducible exact Below.refl _ _ | with_reducible assumption | with_reducible refine Below.setCell ?_ (by first | omega | (simp; done) | (simp; omega)) _ | with_reducible refine Below.alloc ?_ (by first | omega | (simp; done) | (simp; omega)) _ | with_reducible refine Below.drew ?_ | with_reducible refine belowDrewN ?_ _ | with_reducible refine Below.trans ?_ (Below.mono (by assumption) (by first | omega | (simp; done) | (simp; omega)))))⟩
  case round =>
    obtain ⟨k, rfl, h0, hM, hb0⟩ := hrel
    have hs0 := hb0.size
    by_cases hk : k < m.length
    · obtain ⟨wo, rfl⟩ : ∃ wo : World, wo = wr := ⟨_, rfl⟩
      go_wp2
      go_loopw [5, 17] (fun r y wi => ∃ j : Nat, y = .int .i64 j ∧ j ≤ m.length ∧ OwnS wi wo.heap.size r ((colAt m k).take j) ∧ Below wo.heap.size wo wi) (fun _ y _ => m.length - (intOf y).toNat)
      case atStart => exact ⟨0, rfl, Nat.zero_le _, OwnS.empty (Nat.le_refl _), by (repeat (first | with_reducible exact Below.refl _ _ | with_reducible assumption | with_reducible refine Below.setCell ?_ (by first | omega | (simp; done) | (simp; omega)) _ | with_reducible refine Below.alloc ?_ (by first | omega | (simp; done) | (simp; omega)) _ | with_reducible refine Below.drew ?_ | with_reducible refine belowDrewN ?_ _ | with_reducible refine Below.trans ?_ (Below.mono (by assumption) (by first | omega | (simp; done) | (simp; omega)))))⟩
      case round =>
        obtain ⟨j, rfl, j0, hS, hb1⟩ := hrel
        have hs1 := hb1.size
        have hb2 : Below w.heap.size w wr := hb0.trans (hb1.mono hs0)
        have hlen : ((colAt m k).take j).length = j := by rw [List.length_take, colAt_length]; omega
        by_cases hj : j < m.length
        · obtain ⟨b, o, rfl, hlt, ro, rc, hcell, hR⟩ := (h.below hb2) j hj
          have hkj : k < m[j].length := by have := (hr m[j] (List.getElem_mem _)).1; omega
          obtain ⟨b', o', rfl, hlt', hD⟩ := hR k hkj
          obtain ⟨d0, d1, d2, d3, d4⟩ := hD
          clear hM h hb0 hb2
          go_wp2_with (first | (at_builtin; refine wpList_append_own _ rfl _ _ 56 rfl wo.heap.size TD iD _ 5 40 Try.underlying56 hiD hzD0 hzD1 hzD2 rfl (by decide) _ _ _ rfl (World.ownsRow.alloc hS _) ⟨wr.heap.size, 0, none⟩ 1 1 (dcells m[j][k]) rfl rfl ?c1 ?c2 ?c3 ?c4 ?c5 ?_))
          case c1 => exact at_new _ (dcells m[j][k]) _
          case c2 => exact dcells_one _
          case c3 => rw [hlen]; unfold maxLen; omega
          case c4 => rw [hlen]; omega
          case c5 => simp; omega
          intro v' w' hown' hgrow _
          have hS' : OwnS w' wo.heap.size v' ((colAt m k).take (j + 1)) := by
            rw [colAt_take m k j hj hkj]
            exact OwnS.snoc (by rw [hlen]; exact hown')
          have hb' := grownS hb1 hs1 hS hgrow
          clear hown' hgrow hS
          go_wp2
          go_roundw
          case rel => exact ⟨j + 1, by go_num, by omega, hS', hb'⟩
          case measure => simp [intOf]; omega
        · obtain ⟨vs, ho, hrows, hdist⟩ := hM
          have hj' : j = m.length := by omega
          subst hj'
          have hcol : (colAt m k).take m.length = colAt m k := List.take_of_length_le (by rw [colAt_length]; exact Nat.le_refl _)
          rw [hcol] at hS
          have hlen2 : ((flip m).take k).length = k := by rw [List.length_take, flip_length]; omega
          obtain ⟨ro, rc, hro, hR, _⟩ := hS.read
          subst hro
          have ho1 : wr.ownsRow w.heap.size TS 1 u3 ((flip m).take k).length vs := ownsRow_below ho hb1 (Nat.le_refl _)
          go_wp2_with (first | (at_builtin; refine wpList_append_own _ rfl _ _ 26 rfl w.heap.size TS iS _ 1 24 Try.underlying26 hiS hzS0 hzS1 hzS2 rfl (by decide) _ _ _ rfl (World.ownsRow.alloc ho1 _) ⟨wr.heap.size, 0, none⟩ 1 1 [.slice ro (colAt m k).length rc] rfl rfl ?c1 ?c2 ?c3 ?c4 ?c5 ?_))
          case c1 => exact at_new _ [Value.slice ro (colAt m k).length rc] _
          case c2 => exact slice_one _ _ _
          case c3 => rw [hlen2]; unfold maxLen; omega
          case c4 => rw [hlen2]; omega
          case c5 => simp; omega
          intro v' w' hown' hgrow _
          have hM' : OwnM w' w.heap.size v' ((flip m).take (k + 1)) := by
            rw [flip_take m k hk]
            exact OwnM.snoc hs0 ho hrows hdist hb1 hS (by rw [hlen2]; exact hown') hgrow
          have hb' : Below w.heap.size w w' := (hb2.alloc (by omega) _).grown hgrow (by simp; omega) fun x hx => (World.ownsRow.lt ho x hx).1
          clear hown' hgrow ho ho1 hrows hdist
          go_wp2
          go_roundw
          case rel => exact ⟨k + 1, by go_num, by omega, hM', hb'⟩
          case measure => simp [intOf]; omega
    · have hkl : k = m.length := by omega
      subst hkl
      have hf : (flip m).take m.length = flip m := List.take_of_length_le (by rw [flip_length]; exact Nat.le_refl _)
      rw [hf] at hM
      go_wp2
      go_ret
      exact ⟨_, rfl, hM, by (repeat (first | with_reducible exact Below.refl _ _ | with_reducible assumption | with_reducible refine Below.setCell ?_ (by first | omega | (simp; done) | (simp; omega)) _ | with_reducible refine Below.alloc ?_ (by first | omega | (simp; done) | (simp; omega)) _ | with_reducible refine Below.drew ?_ | with_reducible refine belowDrewN ?_ _ | with_reducible refine Below.trans ?_ (Below.mono (by assumption) (by first | omega | (simp; done) | (simp; omega)))))⟩

end Go.Proofs.Yteckhaafdojoeaa
