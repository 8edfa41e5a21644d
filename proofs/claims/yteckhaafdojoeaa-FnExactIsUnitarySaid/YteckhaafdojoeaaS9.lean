/- The product of two matrices (impl). -/
import Derived.Test.YteckhaafdojoeaaS8
import Derived.Test.YteckhaafdojoeaaW3
namespace Go.Proofs.Yteckhaafdojoeaa
open Go.RowKit

theorem mulM_no {a b : List (List DO)} (h : (okM a && (okM b && decide (a.length = b.length))) = false) : mulM a b = ([], false) := by
  rw [mulM, h]; rfl
theorem mulM_fail {a b : List (List DO)} (h1 : okM a = true) (h2 : okM b = true) (h3 : a.length = b.length) (h : (flip b).all (fun c => (applyM a c).2) = false) : mulM a b = ([], false) := by
  rw [mulM, h1, h2, h, decide_eq_true h3]; rfl
theorem mulM_yes {a b : List (List DO)} (h1 : okM a = true) (h2 : okM b = true) (h3 : a.length = b.length) (h : (flip b).all (fun c => (applyM a c).2) = true) : mulM a b = (flip ((flip b).map fun c => (applyM a c).1), true) := by
  rw [mulM, h1, h2, h, decide_eq_true h3]; rfl
theorem applyM_length {m : List (List DO)} {v : List DO} (h : (applyM m v).2 = true) : (applyM m v).1.length = m.length := by
  unfold applyM at *
  split at h
  · rename_i h1
    rw [if_pos h1]
    split at h
    · rename_i h2; rw [if_pos h2]; simp
    · simp at h
  · simp at h
theorem flip_get {m : List (List DO)} {k : Nat} (hk : k < (flip m).length) : (flip m)[k] = colAt m k := by simp [flip]
theorem mem_flip_length {m : List (List DO)} {r : List DO} (h : r ∈ flip m) : r.length = m.length := by
  simp only [flip, List.mem_map] at h
  obtain ⟨i, _, rfl⟩ := h
  exact colAt_length m i

theorem OwnM.nil (w : World) (base : Nat) : OwnM w base (.slice none 0 0) [] :=
  ⟨[], World.ownsRow_nil _ _ _ _, fun i hi => absurd hi (Nat.not_lt_zero _), fun i j x y _ hx => by simp at hx⟩
theorem OwnM.mono {w : World} {base base' : Nat} {v : Value} {m : List (List DO)} (h : OwnM w base v m) (hb : base' ≤ base) : OwnM w base' v m := by
  obtain ⟨vs, ho, hr, hd⟩ := h
  exact ⟨vs, ownsRow_mono ho hb, fun i hi => (hr i hi).imp fun x hx => ⟨hx.1, hx.2.mono hb⟩, hd⟩
theorem OwnS.frame {w w' : World} {base : Nat} {v : Value} {l : List DO} (h : OwnS w base v l) (hf : ∀ g, base ≤ g → g < w.heap.size → w'.heap[g]? = w.heap[g]?) : OwnS w' base v l := by
  refine ⟨h.1, ?_⟩
  rcases h.2 with h0 | ⟨g, cap, cur, hv, hbg, hg, r⟩
  · exact .inl h0
  · exact .inr ⟨g, cap, cur, hv, hbg, by rw [hf g hbg (Array.getElem?_eq_some_iff.1 hg).1, hg], r⟩
theorem OwnM.frame {w w' : World} {base : Nat} {v : Value} {m : List (List DO)} (h : OwnM w base v m) (hf : ∀ g, base ≤ g → g < w.heap.size → w'.heap[g]? = w.heap[g]?) : OwnM w' base v m := by
  obtain ⟨vs, ho, hr, hd⟩ := h
  refine ⟨vs, ⟨ho.1, ?_⟩, fun i hi => (hr i hi).imp fun x hx => ⟨hx.1, hx.2.frame hf⟩, hd⟩
  rcases ho.2 with h0 | ⟨g, cap, cur, hv, hbg, hg, r⟩
  · exact .inl h0
  · exact .inr ⟨g, cap, cur, hv, hbg, by rw [hf g hbg (Array.getElem?_eq_some_iff.1 hg).1, hg], r⟩
theorem OwnM.readAt {w : World} {base : Nat} {ao : Option Addr} {n cap : Nat} {m : List (List DO)} (h : OwnM w base (.slice ao n cap) m) : MtR w ao m := by
  obtain ⟨ao', cap', he, hR, _⟩ := h.read
  cases he
  exact hR
/-- The block of what an append to our own row leaves, and the blocks between. -/
theorem between_append {w w1 w2 : World} {lo hi : Nat} {v : Value} {ob : Obj} {w0 : World} (hfr : ∀ g, lo < g → g < hi → w.heap[g]? = w0.heap[g]?) (hhi : hi ≤ w.heap.size) (hb : Below w.heap.size w w1)
    (hv : ∀ g, v.ownBlock = some g → g = lo ∨ hi ≤ g) (hg : (w1.alloc ob).grownBy w2 v.ownBlock) : ∀ g, lo < g → g < hi → w2.heap[g]? = w0.heap[g]? := fun g h1 h2 => by
  have hs := hb.size
  rw [hg.block g (by simp; omega) (fun e => by have := hv g e.symm; omega), Below.heap_alloc _ _ _ (by omega), hb.block g (by omega), hfr g h1 h2]
theorem block_append {w w1 : World} {lo hi : Nat} {v v' : Value} (hhi : hi ≤ w.heap.size) (hs : w.heap.size ≤ w1.heap.size) (hv : ∀ g, v.ownBlock = some g → g = lo ∨ hi ≤ g)
    (h : v'.ownBlock = v.ownBlock ∨ ∀ g, v'.ownBlock = some g → w1.heap.size + 1 ≤ g) : ∀ g, v'.ownBlock = some g → g = lo ∨ hi ≤ g := fun g hg => by
  rcases h with h | h
  · exact hv g (h ▸ hg)
  · have := h g hg
    omega

set_option maxRecDepth 100000 in
set_option maxHeartbeats 4000000 in
theorem iMulMatrix (ao bo : Option Addr) (a b : List (List DO)) (ca cb : Nat) (hza : SzM a) (hzb : SzM b) (w : World) (h : MtR w ao a) (h' : MtR w bo b) :
    Calls Try.prog 32 #[.slice ao a.length ca, .slice bo b.length cb] w fun e w' => ∃ x, e = .returned (.tuple #[x, .bool (mulM a b).2]) ∧ OwnM w' w.heap.size x (mulM a b).1 ∧ Below w.heap.size w w' := by
  obtain ⟨iS, hiS, hzS0, hzS1, hzS2⟩ := info_parts infoS
  by_cases hA : okM a = true
  · by_cases hB : okM b = true
    · by_cases hl : a.length = b.length
      · have hl' : ((a.length : Int) != (b.length : Int)) = false := by simp [hl]
        have hbl := okM_len hB
        have hal := okM_len hA
        have HL := Lib.hid hl
        clear hl
        go_enter Try.func32, Try.ntmps32
        go_wp2_with fail
        refine (iIsValidMatrix _ _ _ hza _ h).mono ?_
        rintro e w1 ⟨rfl, hb1⟩
        go_wp2_with fail
        refine (iIsValidMatrix _ _ _ hzb _ (h'.below hb1)).mono ?_
        rintro e w2 ⟨rfl, hb2⟩
        have hb3 : Below w.heap.size w w2 := hb1.trans (hb2.mono hb1.size)
        have hs3 := hb3.size
        clear hb1 hb2
        go_wp2_with fail
        refine (iFlipped _ b _ (by omega) (fun r hr => by have := (okM_rows hB hr).1; omega) _ (h'.below (by (repeat (first | with_reducible exact Below.refl _ _ | with_reducible assumption | with_reducible refine Below.setCell ?_ (by first | omega | (simp; done) | (simp; omega)) _ | with_reducible refine Below.alloc ?_ (by first | omega | (simp; done) | (simp; omega)) _ | with_reducible refine Below.drew ?_ | with_reducible refine belowDrewN ?_ _ | with_reducible refine Below.trans ?_ (Below.mono (by assumption) (by first | omega | (simp; done) | (simp; omega)))))))).mono ?_
        rintro e w4 ⟨fv, rfl, hF, hb4⟩
        obtain ⟨fo, fc, rfl, hFR, _, _⟩ := hF.read
        have hfl : (flip b).length = b.length := flip_length b
        have hb5 : Below w.heap.size w w4 := by (repeat (first | with_reducible exact Below.refl _ _ | with_reducible assumption | with_reducible refine Below.setCell ?_ (by first | omega | (simp; done) | (simp; omega)) _ | with_reducible refine Below.alloc ?_ (by first | omega | (simp; done) | (simp; omega)) _ | with_reducible refine Below.drew ?_ | with_reducible refine belowDrewN ?_ _ | with_reducible refine Below.trans ?_ (Below.mono (by assumption) (by first | omega | (simp; done) | (simp; omega)))))
        have hs5 := hb5.size
        have hs4 := hb4.size
        simp only [World.size_alloc] at hs4 hF
        have hown0 : OwnM w4 w.heap.size (.slice (some ⟨w2.heap.size, 0, none⟩) 0 0) [] := (OwnM.empty hs3).below hb4 (Nat.le_refl _)
        clear hb4 hb3 hFR
        rw [hfl] at hF ⊢
        go_wp2
        go_loopw [6, 30] (fun r x wr => ∃ k : Nat, x = .int .i64 k ∧ k ≤ b.length ∧ Hid (∀ i (hi : i < (flip b).length), i < k → (fun c => (applyM a c).2) (flip b)[i] = true) ∧ OwnM wr w.heap.size r (((flip b).map fun c => (applyM a c).1).take k) ∧
          Hid (∀ g, r.ownBlock = some g → g = w2.heap.size ∨ w4.heap.size ≤ g) ∧ Hid (∀ g, w2.heap.size < g → g < w4.heap.size → wr.heap[g]? = w4.heap[g]?) ∧ w4.heap.size ≤ wr.heap.size ∧ Below w.heap.size w wr) (fun _ x _ => b.length - (intOf x).toNat)
        case atStart => exact ⟨0, rfl, Nat.zero_le _, fun _ _ h => absurd h (Nat.not_lt_zero _), hown0, fun g hg => .inl (by simpa [Value.ownBlock] using hg.symm), fun _ _ _ => rfl, Nat.le_refl _, hb5⟩
        case round =>
          obtain ⟨k, rfl, h0, hinv, hM, hblk, hfr, hs0, hb6⟩ := hrel
          have hs6 := hb6.size
          have hFR := (hF.frame fun g h1 h2 => hfr.out g (by omega) h2).readAt
          by_cases hk : k < b.length
          · have hk' : k < (flip b).length := by omega
            obtain ⟨b', o', rfl, hlt, ro, rc, hcell, hR⟩ := hFR k hk'
            have hcl : ((flip b)[k]).length ≤ 2000000 := by rw [flip_get, colAt_length]; omega
            have hlen : (((flip b).map fun c => (applyM a c).1).take k).length = k := by rw [List.length_take, List.length_map]; omega
            by_cases hd : (applyM a (flip b)[k]).2 = true
            · go_wp2_with fail
              refine (iApplyMatrix _ _ a (flip b)[k] _ _ hza hcl _ (h.below hb6) hR).mono ?_
              rintro e w7 ⟨x, rfl, hx, hb7⟩
              obtain ⟨vs, ho, hrows, hdist⟩ := hM
              have hb8 : Below w.heap.size w w7 := hb6.trans (hb7.mono hs6)
              have hs8 := hb8.size
              have hs7 := hb7.size
              obtain ⟨xo, xc, rfl, _, _, _⟩ := hx.read
              have ho1 := ownsRow_below ho hb7 (Nat.le_refl _)
              clear hcell h h' hFR hF
              go_wp2_with (first | (at_builtin; refine wpList_append2 _ rfl _ _ 26 rfl w.heap.size TS iS _ 1 24 Try.underlying26 hiS hzS0 hzS1 hzS2 rfl (by decide) _ _ _ rfl (World.ownsRow.alloc ho1 _) ⟨w7.heap.size, 0, none⟩ 1 1 (by decide) [.slice xo (applyM a (flip b)[k]).1.length xc] rfl rfl ?c1 ?c2 ?c3 ?c4 ?c5 ?_))
              case c1 => exact at_new _ [Value.slice xo (applyM a (flip b)[k]).1.length xc] _
              case c2 => exact slice_one _ _ _
              case c3 => rw [hlen]; unfold maxLen; omega
              case c4 => rw [hlen]; omega
              case c5 => simp; omega
              intro v' w' hown' hgrow hblk'
              have hM' : OwnM w' w.heap.size v' (((flip b).map fun c => (applyM a c).1).take (k + 1)) := by
                rw [map_take_snoc _ _ _ hk']
                exact OwnM.snoc hs6 ho hrows hdist hb7 hx (by rw [hlen]; exact hown') hgrow
              have hbb : Below w.heap.size w w' := (hb8.alloc hs8 _).grown hgrow (by simp; omega) fun g hg => (World.ownsRow.lt ho1 g hg).1
              have hfr2 := Lib.hid (between_append hfr.out hs0 hb7 hblk.out hgrow)
              have hblk2 := Lib.hid (block_append hs0 hs7 hblk.out hblk')
              have hs9 : w4.heap.size ≤ w'.heap.size := by have := hgrow.size; simp at this; omega
              clear hown' hgrow ho ho1 hrows hdist hblk' hblk hfr
              go_wp2
              go_roundw
              case rel => exact ⟨k + 1, by go_num, by omega, all_step' (f := fun c => (applyM a c).2) hinv.out hd, hM', hblk2.out, hfr2.out, hs9, hbb⟩
              case measure => simp [intOf]; omega
            · have hfin := Lib.hid (mulM_fail hA hB HL.out (all_not hk' hd))
              go_wp2_with fail
              refine (iApplyMatrix _ _ a (flip b)[k] _ _ hza hcl _ (h.below hb6) hR).mono ?_
              rintro e w7 ⟨x, rfl, hx, hb7⟩
              go_wp2
              go_ret2
              exact ⟨.slice none 0 0, by rw [hfin.out]; rfl, by rw [hfin.out]; exact OwnM.nil _ _, by (repeat (first | with_reducible exact Below.refl _ _ | with_reducible assumption | with_reducible refine Below.setCell ?_ (by first | omega | (simp; done) | (simp; omega)) _ | with_reducible refine Below.alloc ?_ (by first | omega | (simp; done) | (simp; omega)) _ | with_reducible refine Below.drew ?_ | with_reducible refine belowDrewN ?_ _ | with_reducible refine Below.trans ?_ (Below.mono (by assumption) (by first | omega | (simp; done) | (simp; omega)))))⟩
          · have hkb : k = b.length := by omega
            subst hkb
            have hfin := Lib.hid (mulM_yes hA hB HL.out (all_of (fun i hi => hinv.out i hi (by omega))))
            have htk : ((flip b).map fun c => (applyM a c).1).take b.length = (flip b).map fun c => (applyM a c).1 := List.take_of_length_le (by rw [List.length_map]; omega)
            rw [htk] at hM
            obtain ⟨ro, rc, rfl, hR, _, _⟩ := hM.read
            have hcl : ((flip b).map fun c => (applyM a c).1).length = b.length := by rw [List.length_map]; exact hfl
            have hrw : ∀ r ∈ (flip b).map (fun c => (applyM a c).1), ((flip b).map fun c => (applyM a c).1).length ≤ r.length ∧ r.length ≤ 2000000 := fun r hr => by
              obtain ⟨c, hc, rfl⟩ := List.mem_map.1 hr
              obtain ⟨i, hi, rfl⟩ := List.getElem_of_mem hc
              have h1 := applyM_length (m := a) (v := (flip b)[i]) (hinv.out i hi (by omega))
              have h2 := HL.out
              omega
            have hm := hfin.out
            clear hfin htk
            generalize (flip b).map (fun c => (applyM a c).1) = cols at *
            have hfin := Lib.hid hm
            have hcl' := Lib.hid hcl
            clear hcl hm
            go_wp2_with fail
            refine (iFlipped _ cols _ (by rw [hcl'.out]; omega) hrw _ hR).mono ?_
            rintro e w7 ⟨x, rfl, hx, hb7⟩
            have hx2 := hx.mono hs6
            rw [show flip cols = (mulM a b).1 by rw [hfin.out]] at hx2
            go_wp2
            go_ret2
            exact ⟨_, by rw [hfin.out]; rfl, hx2, by (repeat (first | with_reducible exact Below.refl _ _ | with_reducible assumption | with_reducible refine Below.setCell ?_ (by first | omega | (simp; done) | (simp; omega)) _ | with_reducible refine Below.alloc ?_ (by first | omega | (simp; done) | (simp; omega)) _ | with_reducible refine Below.drew ?_ | with_reducible refine belowDrewN ?_ _ | with_reducible refine Below.trans ?_ (Below.mono (by assumption) (by first | omega | (simp; done) | (simp; omega)))))⟩
      · have hl' : ((a.length : Int) != (b.length : Int)) = true := by simp; omega
        have hfin := Lib.hid (mulM_no (a := a) (b := b) (by simp [hl]))
        clear hl
        go_enter Try.func32, Try.ntmps32
        go_wp2_with fail
        refine (iIsValidMatrix _ _ _ hza _ h).mono ?_
        rintro e w1 ⟨rfl, hb1⟩
        go_wp2_with fail
        refine (iIsValidMatrix _ _ _ hzb _ (h'.below hb1)).mono ?_
        rintro e w2 ⟨rfl, hb2⟩
        have hs1 := hb1.size
        go_wp2
        go_ret2
        exact ⟨.slice none 0 0, by rw [hfin.out]; rfl, by rw [hfin.out]; exact OwnM.nil _ _, by (repeat (first | with_reducible exact Below.refl _ _ | with_reducible assumption | with_reducible refine Below.setCell ?_ (by first | omega | (simp; done) | (simp; omega)) _ | with_reducible refine Below.alloc ?_ (by first | omega | (simp; done) | (simp; omega)) _ | with_reducible refine Below.drew ?_ | with_reducible refine belowDrewN ?_ _ | with_reducible refine Below.trans ?_ (Below.mono (by assumption) (by first | omega | (simp; done) | (simp; omega)))))⟩
    · have hfin := Lib.hid (mulM_no (a := a) (b := b) (by simp [hB]))
      go_enter Try.func32, Try.ntmps32
      go_wp2_with fail
      refine (iIsValidMatrix _ _ _ hza _ h).mono ?_
      rintro e w1 ⟨rfl, hb1⟩
      go_wp2_with fail
      refine (iIsValidMatrix _ _ _ hzb _ (h'.below hb1)).mono ?_
      rintro e w2 ⟨rfl, hb2⟩
      have hs1 := hb1.size
      go_wp2
      go_ret2
      exact ⟨.slice none 0 0, by rw [hfin.out]; rfl, by rw [hfin.out]; exact OwnM.nil _ _, by (repeat (first | with_reducible exact Below.refl _ _ | with_reducible assumption | with_reducible refine Below.setCell ?_ (by first | omega | (simp; done) | (simp; omega)) _ | with_reducible refine Below.alloc ?_ (by first | omega | (simp; done) | (simp; omega)) _ | with_reducible refine Below.drew ?_ | with_reducible refine belowDrewN ?_ _ | with_reducible refine Below.trans ?_ (Below.mono (by assumption) (by first | omega | (simp; done) | (simp; omega)))))⟩
  · have hfin := Lib.hid (mulM_no (a := a) (b := b) (by simp [hA]))
    go_enter Try.func32, Try.ntmps32
    go_wp2_with fail
    refine (iIsValidMatrix _ _ _ hza _ h).mono ?_
    rintro e w1 ⟨rfl, hb1⟩
    go_wp2
    go_ret2
    exact ⟨.slice none 0 0, by rw [hfin.out]; rfl, by rw [hfin.out]; exact OwnM.nil _ _, by (repeat (first | with_reducible exact Below.refl _ _ | with_reducible assumption | with_reducible refine Below.setCell ?_ (by first | omega | (simp; done) | (simp; omega)) _ | with_reducible refine Below.alloc ?_ (by first | omega | (simp; done) | (simp; omega)) _ | with_reducible refine Below.drew ?_ | with_reducible refine belowDrewN ?_ _ | with_reducible refine Below.trans ?_ (Below.mono (by assumption) (by first | omega | (simp; done) | (simp; omega)))))⟩

end Go.Proofs.Yteckhaafdojoeaa
