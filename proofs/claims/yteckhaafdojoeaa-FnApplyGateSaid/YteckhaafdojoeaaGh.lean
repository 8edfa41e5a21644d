/- The walk of impl.ApplyGate: H. · The walk of impl.ApplyGate: all gates, all states. · Where an amplitude goes (spec.l10Goes): H; any valid gate. · The walk of spec.ApplyGate. · The walk of spec.ApplyGate: all gates, all states. -/
import Derived.Test.YteckhaafdojoeaaGg
import Derived.StillTailTactics
/-! S30: The walk of impl.ApplyGate: H. -/
namespace Go.Proofs.Yteckhaafdojoeaa
open Go.RowKit BigFrame

theorem still_of_quiet {P : Program} {ops : Array Oper} {W : World} {Q : Act → Prop} : ∀ (l : List Oper) (a : Act), wpQuiet P ops (fun w' => w' = W) Q l a → wpStill P ops W Q l a
  | [], _, h => h
  | o :: rest, a, h => by
    rw [wpQuiet] at h
    rw [wpStill]
    split at h
    · rename_i hw
      rw [if_pos hw]
      obtain ⟨v, hall, hn⟩ := h
      have hv := hall W rfl
      unfold Oper.quietAt Oper.quietUpon at hv
      unfold Oper.still Oper.stillUpon
      generalize (execOp a.eval o).run P W = R at *
      split at hv
      · obtain ⟨rfl, rfl⟩ := hv
        exact ⟨rfl, still_of_quiet rest _ hn⟩
      · obtain ⟨rfl, rfl⟩ := hv
        exact ⟨rfl, still_of_quiet rest _ hn⟩
      · obtain ⟨rfl, hc⟩ := hv
        exact ⟨rfl, v, hc, still_of_quiet rest _ hn⟩
      · exact hv.elim
    · rename_i hw
      rw [if_neg hw]
      exact still_of_quiet rest _ h
theorem OwnS.at_block {w w' : World} {base G n cap : Nat} {l : List DO} (h : OwnS w base (.slice (some ⟨G, 0, none⟩) n cap) l) (he : w'.heap[G]? = w.heap[G]?) : OwnS w' base (.slice (some ⟨G, 0, none⟩) n cap) l := by
  refine ⟨h.1, ?_⟩
  rcases h.2 with h0 | ⟨g, cap, cur, hv, hbg, hg, r⟩
  · exact .inl h0
  · cases hv
    exact .inr ⟨G, cap, cur, rfl, hbg, by rw [he, hg], r⟩
theorem hgate {g : GT} {n : Nat} (hg : g.ok (qc n) = true) (hk : g.k = 4) : ∃ A : Nat, g = ⟨4, A, 0, 0⟩ ∧ A < qc n := by
  obtain ⟨-, -, A, B, C, ⟨ga, gb, gc⟩, hA, hB, hC⟩ := GT.nats hg
  have h1 := (GT.ok1 (g := g) (n := qc n) (by rw [hk]; rfl)).1 hg
  refine ⟨A, ?_, hA⟩
  obtain ⟨k, a, b, c⟩ := g
  dsimp only at *
  simp only [GT.mk.injEq]
  exact ⟨hk, ga, h1.2.2.1, h1.2.2.2⟩
theorem hbits {n j A : Nat} (hq : qc n ≠ 0) (hA : A < qc n) (hj : j < n) : bits .andNot .i64 (j : Int) (wrap64 (2 ^ A)) = (low A j : Int) ∧ bits .or .i64 (j : Int) (wrap64 (2 ^ A)) = ((low A j + 2 ^ A : Nat) : Int) ∧
    bits .and .i64 ((j : Int) / 2 ^ A) 1 = (bit A j : Int) ∧ low A j < n ∧ low A j + 2 ^ A < n ∧ A < 64 := by
  obtain ⟨h1, h2, h3⟩ := qc_pow hq
  have hi' : j < 2 ^ qc n := by omega
  have h16 : 2 ^ qc n ≤ 16 := Nat.pow_le_pow_right (by decide) h3
  have hl := low_lt2 (qc n) (by omega) j hi' A hA
  have hj16 : j < 16 := by omega
  exact ⟨andNot_shl j hj16 A (by omega), or_shl j hj16 A (by omega), bits_and1 j hj16 A (by omega), by rw [h1]; exact Nat.lt_of_le_of_lt (Nat.le_add_right _ _) hl, by rw [h1]; exact hl, by omega⟩

set_option maxRecDepth 100000 in
set_option maxHeartbeats 8000000 in
theorem iApplyH (g : GT) (A : Nat) (hgd0 : g = ⟨4, A, 0, 0⟩) (ao : Option Addr) (v : List DO) (cap : Nat) (hn : v.length ≤ 2000000) (hs : okS v = true) (hg : g.ok (qc v.length) = true) (hA : A < qc v.length) (w : World) (h : StR w ao v) :
    Calls Try.prog 48 #[.agg #[.int .i64 4, .int .i64 A, .int .i64 0, .int .i64 0], .slice ao v.length cap] w fun e w' => ∃ x, e = .returned (.tuple #[x, .bool (applyG g v).2]) ∧ OwnS w' w.heap.size x (applyG g v).1 ∧ Below w.heap.size w w' := by
  obtain ⟨iD, hiD, hzD0, hzD1, hzD2⟩ := info_parts infoD
  have hq : qc v.length ≠ 0 := by intro h0; rw [okS, h0] at hs; cases hs
  obtain ⟨hpow, hq1, hq4⟩ := qc_pow hq
  have h16 : v.length ≤ 16 := by
    rw [hpow]
    exact Nat.pow_le_pow_right (by decide) hq4
  have hbytes : iD.bytes * v.length ≤ 281474976710656 := by rw [hzD2]; omega
  have hmax : v.length ≤ maxLen := by unfold maxLen; omega
  have hR := Lib.hid (applyG_yes hs hg)
  have hV : ∀ w, Calls Try.prog 117 #[.agg #[.int .i64 4, .int .i64 A, .int .i64 0, .int .i64 0], .int .i64 (qc v.length)] w fun e w' => e = .returned (.bool true) ∧ Below w.heap.size w w' := fun w => by
    have := iIsValidGate g (qc v.length) w
    rw [hg] at this
    rw [hgd0] at this
    exact this
  have hgd := Lib.hid hgd0
  have HA := Lib.hid hA
  have HQ := Lib.hid hq
  clear hpow hq1 hq4 hg hA hgd0
  go_enter Try.func48, Try.ntmps48
  go_wp2
  refine wp_gen fun W hW => ?_
  have hB : Blk W w.heap.size [.int .i64 4, .int .i64 A, .int .i64 0, .int .i64 0] 59 := by rw [hW]; exact Blk.new' _ _ rfl
  have hb0 : Below w.heap.size w W := by rw [hW]; (repeat (first | with_reducible exact Below.refl _ _ | with_reducible assumption | with_reducible refine Below.setCell ?_ (by first | omega | (simp; done) | (simp; omega)) _ | with_reducible refine Below.alloc ?_ (by first | omega | (simp; done) | (simp; omega)) _ | with_reducible refine Below.drew ?_ | with_reducible refine belowDrewN ?_ _ | with_reducible refine Below.trans ?_ (Below.mono (by assumption) (by first | omega | (simp; done) | (simp; omega)))))
  have hs0 : w.heap.size + 1 ≤ W.heap.size := by rw [hW]; simp
  clear hW
  obtain ⟨cB, fB, sB⟩ := hB.facts
  have hv : ∀ w', Below W.heap.size W w' → StR w' ao v := fun w' hb => (h.below hb0).below hb
  go_region_held3 (fun w' => Below W.heap.size W w' ∧ (∀ b o, b < W.heap.size → w'.cell? ⟨b, o, none⟩ = W.cell? ⟨b, o, none⟩) ∧ (∀ b o, b < W.heap.size → w'.frozen? ⟨b, o, none⟩ = W.frozen? ⟨b, o, none⟩) ∧ W.heap.size ≤ w'.heap.size) ((exact bpack (by (repeat (first | with_reducible exact Below.refl _ _ | with_reducible assumption | with_reducible refine Below.setCell ?_ (by first | omega | (simp; done) | (simp; omega)) _ | with_reducible refine Below.alloc ?_ (by first | omega | (simp; done) | (simp; omega)) _ | with_reducible refine Below.drew ?_ | with_reducible refine belowDrewN ?_ _ | with_reducible refine Below.trans ?_ (Below.mono (by assumption) (by first | omega | (simp; done) | (simp; omega)))))))) (first | (go_at_call 124; refine (iIsValidState _ _ _ (by omega) _ (hv _ (by (repeat (first | with_reducible exact Below.refl _ _ | with_reducible assumption | with_reducible refine Below.setCell ?_ (by first | omega | (simp; done) | (simp; omega)) _ | with_reducible refine Below.alloc ?_ (by first | omega | (simp; done) | (simp; omega)) _ | with_reducible refine Below.drew ?_ | with_reducible refine belowDrewN ?_ _ | with_reducible refine Below.trans ?_ (Below.mono (by assumption) (by first | omega | (simp; done) | (simp; omega)))))))).mono ?_; rintro e w1 ⟨rfl, hb⟩; obtain ⟨hc, hf, hz⟩ := bcell hb; (try simp only [World.size_drew, World.cell?_drew, World.frozen?_drew] at hc hf hz); (try simp at hz); (try have kk := fun o => hc (w.heap.size) o (by first | omega | (simp; done) | (simp; omega))); (try have kf := fun o => hf (w.heap.size) o (by first | omega | (simp; done) | (simp; omega))); (try have zz : w.heap.size < w1.heap.size := by omega)) | (go_at_call 106; refine (iQubitCount _ _ _ (by omega) _).mono ?_; rintro e w8 ⟨rfl, rfl⟩) | (go_at_call 117; refine (hV _).mono ?_; rintro e w2 ⟨rfl, hb⟩; obtain ⟨hc, hf, hz⟩ := bcell hb; (try simp only [World.size_drew, World.cell?_drew, World.frozen?_drew] at hc hf hz); (try simp at hz); (try have kk := fun o => hc (w.heap.size) o (by first | omega | (simp; done) | (simp; omega))); (try have kf := fun o => hf (w.heap.size) o (by first | omega | (simp; done) | (simp; omega))); (try have zz : w.heap.size < w2.heap.size := by omega)))
  go_wp2_with (at_make; refine wpList_make_full _ rfl _ _ 56 rfl w.heap.size TD iD _ 5 Try.underlying56 hiD hzD0 hzD1 _ _ _ _ v.length rfl rfl rfl rfl hbytes hmax (by omega) ?_)
  intro w3 hown hgrow
  have hS := OwnS.made (N := v.length) hown
  obtain ⟨G, hGe⟩ : ∃ G, G = w2.heap.size := ⟨_, rfl⟩
  have hG0 : w.heap.size < G := by omega
  have hb3 : Below w.heap.size w w3 := by
    refine Below.grown (show Below w.heap.size w w2 by (repeat (first | with_reducible exact Below.refl _ _ | with_reducible assumption | with_reducible refine Below.setCell ?_ (by first | omega | (simp; done) | (simp; omega)) _ | with_reducible refine Below.alloc ?_ (by first | omega | (simp; done) | (simp; omega)) _ | with_reducible refine Below.drew ?_ | with_reducible refine belowDrewN ?_ _ | with_reducible refine Below.trans ?_ (Below.mono (by assumption) (by first | omega | (simp; done) | (simp; omega)))))) hgrow (by omega) (fun k hk => by cases hk)
  have hB3 : Blk w3 w.heap.size [.int .i64 4, .int .i64 A, .int .i64 0, .int .i64 0] 59 := (hgrow.block _ (by omega) (by simp)).trans (show Blk w2 w.heap.size [.int .i64 4, .int .i64 A, .int .i64 0, .int .i64 0] 59 by (repeat (first | with_reducible assumption | with_reducible exact Blk.new' _ _ (by first | omega | (simp; done) | (simp; omega)) | with_reducible apply Blk.set5 | with_reducible apply Blk.set4 | with_reducible refine Blk.other ?_ (by first | omega | (simp; done) | (simp; omega)) _ | with_reducible refine Blk.drew ?_ | with_reducible refine Blk.alloc ?_ _ | with_reducible refine Blk.below ?_ (by assumption) (by first | omega | (simp; done) | (simp; omega)))))
  have hG3 : G < w3.heap.size := hGe ▸ (World.ownsRow.lt hS w2.heap.size rfl).2
  rw [← hGe] at hS ⊢
  clear hown hgrow hGe
  go_wp2
  go_loopw [30] (fun x wr => ∃ (j : Nat) (out : List DO), x = .int .i64 j ∧ j ≤ v.length ∧ OwnS wr w.heap.size (.slice (some ⟨G, 0, none⟩) v.length v.length) out ∧ Hid (out.length = v.length) ∧ Hid (applyL g j (v.drop j) out = applyG g v) ∧
    Blk wr w.heap.size [.int .i64 4, .int .i64 A, .int .i64 0, .int .i64 0] 59 ∧ G < wr.heap.size ∧ Below w.heap.size w wr) (fun x _ => v.length - (intOf x).toNat)
  case atStart => exact ⟨0, _, rfl, Nat.zero_le _, hS, by simp [Hid], hR.out, hB3, hG3, hb3⟩
  case round =>
    obtain ⟨j, out, rfl, j0, hS, HL, hinv, hB, hGs, hb0⟩ := hrel
    obtain ⟨cB, fB, sB⟩ := hB.facts
    have hs0 := hb0.size
    by_cases hj : j < v.length
    · obtain ⟨b, o, rfl, hlt, hD⟩ := (h.below hb0) j hj
      obtain ⟨x, hx⟩ : ∃ x, x = v[j] := ⟨_, rfl⟩
      rw [← hx] at hD
      obtain ⟨d0, d1, d2, d3, d4⟩ := hD
      obtain ⟨eN, eO, eA, tl, th, hA64⟩ := hbits HQ.out HA.out hj
      obtain ⟨z, m, hzm⟩ : ∃ z m, mulD x hD = (z, m) := ⟨_, _, rfl⟩
      have hno1' := fun ha => stepH_no1 hgd.out hj hx hinv.out ha
      have hno' := fun out1 hm ha ho hb => stepH_no (out1 := out1) hgd.out hj hx hinv.out hm ha ho hb
      have hyes' := fun out1 hm ha ho hb => stepH_yes (out1 := out1) hgd.out hj hx hinv.out hm ha ho hb
      simp only [hzm] at hno1' hno' hyes'
      have hno1 := Lib.hid hno1'
      have hno := Lib.hid hno'
      have hyes := Lib.hid hyes'
      have hM : ∀ w, Calls Try.prog 126 #[Dv x, .agg #[.int .i64 1, .int .i64 0, .int .i64 0, .int .i64 0, .int .i64 1]] w fun e w' => e = .returned (.tuple #[Dv z, .bool m]) ∧ Below w.heap.size w w' := fun w => by
        have := iMulD' x hD w
        rw [hzm] at this
        exact this
      clear hno1' hno' hyes' hzm
      clear h hx hinv
      go_wp2
      refine wp_gen fun W2 hW2 => ?_
      have hB2 : Blk W2 w.heap.size [.int .i64 4, .int .i64 A, .int .i64 0, .int .i64 0] 59 := by rw [hW2]; (repeat (first | with_reducible assumption | with_reducible exact Blk.new' _ _ (by first | omega | (simp; done) | (simp; omega)) | with_reducible apply Blk.set5 | with_reducible apply Blk.set4 | with_reducible refine Blk.other ?_ (by first | omega | (simp; done) | (simp; omega)) _ | with_reducible refine Blk.drew ?_ | with_reducible refine Blk.alloc ?_ _ | with_reducible refine Blk.below ?_ (by assumption) (by first | omega | (simp; done) | (simp; omega))))
      have hX2 : Blk W2 wr.heap.size (dcells x) 114 := by rw [hW2]; exact Blk.new' _ _ rfl
      have hb2 : Below wr.heap.size wr W2 := by rw [hW2]; (repeat (first | with_reducible exact Below.refl _ _ | with_reducible assumption | with_reducible refine Below.setCell ?_ (by first | omega | (simp; done) | (simp; omega)) _ | with_reducible refine Below.alloc ?_ (by first | omega | (simp; done) | (simp; omega)) _ | with_reducible refine Below.drew ?_ | with_reducible refine belowDrewN ?_ _ | with_reducible refine Below.trans ?_ (Below.mono (by assumption) (by first | omega | (simp; done) | (simp; omega)))))
      have hs2 : wr.heap.size + 1 ≤ W2.heap.size := by rw [hW2]; simp
      clear hW2 cB fB sB
      obtain ⟨cB, fB, sB⟩ := hB2.facts
      obtain ⟨cX, fX, sX⟩ := hX2.facts
      simp only [dcells] at cX
      go_region_held3 (fun w' => Below W2.heap.size W2 w' ∧ (∀ b o, b < W2.heap.size → w'.cell? ⟨b, o, none⟩ = W2.cell? ⟨b, o, none⟩) ∧ (∀ b o, b < W2.heap.size → w'.frozen? ⟨b, o, none⟩ = W2.frozen? ⟨b, o, none⟩) ∧ W2.heap.size ≤ w'.heap.size) ((exact bpack (by (repeat (first | with_reducible exact Below.refl _ _ | with_reducible assumption | with_reducible refine Below.setCell ?_ (by first | omega | (simp; done) | (simp; omega)) _ | with_reducible refine Below.alloc ?_ (by first | omega | (simp; done) | (simp; omega)) _ | with_reducible refine Below.drew ?_ | with_reducible refine belowDrewN ?_ _ | with_reducible refine Below.trans ?_ (Below.mono (by assumption) (by first | omega | (simp; done) | (simp; omega)))))))) (first | (go_at_call 129; refine (iInv1 _).mono ?_; rintro e wp ⟨rfl, hb⟩; obtain ⟨hc, hf, hz⟩ := bcell hb; (try simp only [World.size_drew, World.cell?_drew, World.frozen?_drew] at hc hf hz); (try simp at hz); (try have kk := fun o => hc (w.heap.size) o (by first | omega | (simp; done) | (simp; omega))); (try have kf := fun o => hf (w.heap.size) o (by first | omega | (simp; done) | (simp; omega))); (try have zz : w.heap.size < wp.heap.size := by omega); (try have kk := fun o => hc (wr.heap.size) o (by first | omega | (simp; done) | (simp; omega))); (try have kf := fun o => hf (wr.heap.size) o (by first | omega | (simp; done) | (simp; omega))); (try have zz : wr.heap.size < wp.heap.size := by omega); (try have kk := fun o => hc (W2.heap.size) o (by first | omega | (simp; done) | (simp; omega))); (try have kf := fun o => hf (W2.heap.size) o (by first | omega | (simp; done) | (simp; omega))); (try have zz : W2.heap.size < wp.heap.size := by omega)) | (go_at_call 126; refine (hM _).mono ?_; rintro e wa ⟨rfl, hb⟩; obtain ⟨hc, hf, hz⟩ := bcell hb; (try simp only [World.size_drew, World.cell?_drew, World.frozen?_drew] at hc hf hz); (try simp at hz); (try have kk := fun o => hc (w.heap.size) o (by first | omega | (simp; done) | (simp; omega))); (try have kf := fun o => hf (w.heap.size) o (by first | omega | (simp; done) | (simp; omega))); (try have zz : w.heap.size < wa.heap.size := by omega); (try have kk := fun o => hc (wr.heap.size) o (by first | omega | (simp; done) | (simp; omega))); (try have kf := fun o => hf (wr.heap.size) o (by first | omega | (simp; done) | (simp; omega))); (try have zz : wr.heap.size < wa.heap.size := by omega); (try have kk := fun o => hc (W2.heap.size) o (by first | omega | (simp; done) | (simp; omega))); (try have kf := fun o => hf (W2.heap.size) o (by first | omega | (simp; done) | (simp; omega))); (try have zz : W2.heap.size < wa.heap.size := by omega)))
      all_goals rcases Bool.eq_false_or_eq_true m with rfl | rfl
      all_goals first
        | (have hfin := Lib.hid (hno1.out (by rfl))
           clear hyes hno hno1
           go_wp2
           go_quiet (fail)
           go_wp2
           go_ret2
           exact ⟨.slice none 0 0, by rw [hfin.out]; rfl, by rw [hfin.out]; exact OwnS.nil _ _, by (repeat (first | with_reducible exact Below.refl _ _ | with_reducible assumption | with_reducible refine Below.setCell ?_ (by first | omega | (simp; done) | (simp; omega)) _ | with_reducible refine Below.alloc ?_ (by first | omega | (simp; done) | (simp; omega)) _ | with_reducible refine Below.drew ?_ | with_reducible refine belowDrewN ?_ _ | with_reducible refine Below.trans ?_ (Below.mono (by assumption) (by first | omega | (simp; done) | (simp; omega)))))⟩)
        | skip
      all_goals go_wp2
      all_goals refine wp_gen fun W3 hW3 => ?_
      all_goals have hB3 : Blk W3 w.heap.size [.int .i64 4, .int .i64 A, .int .i64 0, .int .i64 0] 59 := by rw [hW3]; (repeat (first | with_reducible assumption | with_reducible exact Blk.new' _ _ (by first | omega | (simp; done) | (simp; omega)) | with_reducible apply Blk.set5 | with_reducible apply Blk.set4 | with_reducible refine Blk.other ?_ (by first | omega | (simp; done) | (simp; omega)) _ | with_reducible refine Blk.drew ?_ | with_reducible refine Blk.alloc ?_ _ | with_reducible refine Blk.below ?_ (by assumption) (by first | omega | (simp; done) | (simp; omega))))
      all_goals have hS3 := hS.below (B := wr.heap.size) (show Below wr.heap.size wr W3 by rw [hW3]; (repeat (first | with_reducible exact Below.refl _ _ | with_reducible assumption | with_reducible refine Below.setCell ?_ (by first | omega | (simp; done) | (simp; omega)) _ | with_reducible refine Below.alloc ?_ (by first | omega | (simp; done) | (simp; omega)) _ | with_reducible refine Below.drew ?_ | with_reducible refine belowDrewN ?_ _ | with_reducible refine Below.trans ?_ (Below.mono (by assumption) (by first | omega | (simp; done) | (simp; omega)))))) (Nat.le_refl _)
      all_goals have hb3 : Below w.heap.size w W3 := by rw [hW3]; (repeat (first | with_reducible exact Below.refl _ _ | with_reducible assumption | with_reducible refine Below.setCell ?_ (by first | omega | (simp; done) | (simp; omega)) _ | with_reducible refine Below.alloc ?_ (by first | omega | (simp; done) | (simp; omega)) _ | with_reducible refine Below.drew ?_ | with_reducible refine belowDrewN ?_ _ | with_reducible refine Below.trans ?_ (Below.mono (by assumption) (by first | omega | (simp; done) | (simp; omega)))))
      all_goals have hG3 : G < W3.heap.size := by rw [hW3]; first | omega | (simp; done) | (simp; omega)
      all_goals first
        | (have hZ3 : Blk W3 (wa.heap.size) [.int .i64 z.n.a, .int .i64 z.n.b, .int .i64 z.n.c, .int .i64 z.n.d, .int .i64 z.e] 114 := by rw [hW3]; (repeat (first | with_reducible assumption | with_reducible exact Blk.new' _ _ (by first | omega | (simp; done) | (simp; omega)) | with_reducible apply Blk.set5 | with_reducible apply Blk.set4 | with_reducible refine Blk.other ?_ (by first | omega | (simp; done) | (simp; omega)) _ | with_reducible refine Blk.drew ?_ | with_reducible refine Blk.alloc ?_ _ | with_reducible refine Blk.below ?_ (by assumption) (by first | omega | (simp; done) | (simp; omega))))
           have hGZ : wa.heap.size ≠ G := by omega
           have hwZ : w.heap.size < wa.heap.size := by omega
           generalize wa.heap.size = zb at hZ3 hGZ hwZ ⊢)
        | (have hZ3 : Blk W3 (wp.heap.size) [.int .i64 z.n.a, .int .i64 z.n.b, .int .i64 z.n.c, .int .i64 z.n.d, .int .i64 z.e] 114 := by rw [hW3]; (repeat (first | with_reducible assumption | with_reducible exact Blk.new' _ _ (by first | omega | (simp; done) | (simp; omega)) | with_reducible apply Blk.set5 | with_reducible apply Blk.set4 | with_reducible refine Blk.other ?_ (by first | omega | (simp; done) | (simp; omega)) _ | with_reducible refine Blk.drew ?_ | with_reducible refine Blk.alloc ?_ _ | with_reducible refine Blk.below ?_ (by assumption) (by first | omega | (simp; done) | (simp; omega))))
           have hGZ : wp.heap.size ≠ G := by omega
           have hwZ : w.heap.size < wp.heap.size := by omega
           generalize wp.heap.size = zb at hZ3 hGZ hwZ ⊢)
        | (have hZ3 : Blk W3 (W2.heap.size) [.int .i64 z.n.a, .int .i64 z.n.b, .int .i64 z.n.c, .int .i64 z.n.d, .int .i64 z.e] 114 := by rw [hW3]; (repeat (first | with_reducible assumption | with_reducible exact Blk.new' _ _ (by first | omega | (simp; done) | (simp; omega)) | with_reducible apply Blk.set5 | with_reducible apply Blk.set4 | with_reducible refine Blk.other ?_ (by first | omega | (simp; done) | (simp; omega)) _ | with_reducible refine Blk.drew ?_ | with_reducible refine Blk.alloc ?_ _ | with_reducible refine Blk.below ?_ (by assumption) (by first | omega | (simp; done) | (simp; omega))))
           have hGZ : W2.heap.size ≠ G := by omega
           have hwZ : w.heap.size < W2.heap.size := by omega
           generalize W2.heap.size = zb at hZ3 hGZ hwZ ⊢)
      all_goals clear hW3 hS
      all_goals obtain ⟨cBW3, fBW3, sBW3⟩ := hB3.facts
      all_goals obtain ⟨cZW3, fZW3, sZW3⟩ := hZ3.facts
      all_goals have a1 : W3.cell? ⟨w.heap.size, 1, none⟩ = some (.int .i64 A) := cBW3 1
      all_goals have hwG : w.heap.size ≠ G := by omega
      all_goals refine wp_region_still_tail 10 (by kernel_rfl) (by kernel_rfl) ?_
      all_goals simp only [List.take_succ_cons, List.take_zero, List.drop_succ_cons, List.drop_zero]
      all_goals refine still_of_quiet _ _ ?_
      all_goals repeat (go_big_quiet_step (fail))
      all_goals refine wpQuiet_nil ?_
      all_goals change wpList _ _ _ _ _ W3.drew
      all_goals (try rw [eN])
      all_goals go_wp2_with fail
      all_goals refine (iAddAt' w.heap.size G v.length (low A j) out z v.length HL.out (by omega) tl _ (hS3.below (B := W3.heap.size) (Below.refl _ _).drew (Nat.le_refl _))).mono ?_
      all_goals rintro e w9 ⟨rfl, hS9, hG9⟩
      all_goals have hb9 : Below w.heap.size w w9 := Below.grown hb3.drew hG9 (by first | omega | (simp; done) | (simp; omega)) (fun k hk => by cases hk; omega)
      all_goals have hB9 := hB3.drew.grown hG9 (by omega)
      all_goals have hZ9 := hZ3.drew.grown hG9 hGZ
      all_goals have hG10 : G < w9.heap.size := Nat.lt_of_lt_of_le hG3 hG9.size
      all_goals obtain ⟨out1, ho1⟩ : ∃ out1, out1 = out.set (low A j) (addD (out.getD (low A j) ⟨⟨0, 0, 0, 0⟩, 0⟩) z).1 := ⟨_, rfl⟩
      all_goals rw [← ho1] at hS9
      all_goals have hl1 : Hid (out1.length = v.length) := by rw [ho1]; simp only [Hid, List.length_set]; exact HL.out
      all_goals obtain ⟨b1, hb1⟩ : ∃ b1, b1 = (addD (out.getD (low A j) ⟨⟨0, 0, 0, 0⟩, 0⟩) z).2 := ⟨_, rfl⟩
      all_goals rw [← hb1]
      all_goals have hno1' := hno1.out
      all_goals have hno2 := fun hm ha hb => hno.out out1 hm ha ho1 hb
      all_goals have hyes2 := fun hm ha hb => hyes.out out1 hm ha ho1 hb
      all_goals rw [← hb1] at hno1' hno2 hyes2
      all_goals clear ho1 hb1 hno hyes hno1 hS3 hB3 hZ3 hb3 hG3 hG9 cBW3 cZW3 sBW3 sZW3 a1
      all_goals rcases b1 with _ | _
      all_goals first
        | (have hfin := Lib.hid (hno1' (by rfl))
           clear hyes2 hno2 hno1'
           go_wp2
           go_ret2
           exact ⟨.slice none 0 0, by rw [hfin.out]; rfl, by rw [hfin.out]; exact OwnS.nil _ _, hb9⟩)
        | skip
      all_goals obtain ⟨cB9, fB9, sB9⟩ := hB9.facts
      all_goals obtain ⟨cZ9, fZ9, sZ9⟩ := hZ9.facts
      all_goals have hbit := bit_lt A j
      all_goals have hGZ2 : G ≠ zb := by omega
      all_goals rcases (show bit A j = 0 ∨ bit A j = 1 by omega) with hbt | hbt
      all_goals have hot : other A j z = if bit A j = 1 then negD z else z := rfl
      all_goals rw [hbt] at hot
      all_goals first | rw [if_neg (by decide)] at hot | rw [if_pos rfl] at hot
      all_goals rw [hot] at hno2 hyes2
      all_goals have hno3 := Lib.hid hno2
      all_goals have hyes3 := Lib.hid hyes2
      all_goals clear hno1' hno2 hyes2 hot
      all_goals have eA2 := eA.trans (congrArg (fun n : Nat => (n : Int)) hbt)
      all_goals clear eA hbit
      all_goals first
      | (have eA3 : bits .and .i64 ((j : Int) / 2 ^ A) 1 = 0 := eA2
         clear eA2 hbt
         go_wp2
         refine wp_gen fun W5 hW5 => ?_
         rw [← hW5] at hS9 hB9 hZ9 hb9 hG10
         clear hW5
         have hS5 := hS9
         have hB5 := hB9
         have hZ5 := hZ9
         have hb5 := hb9
         have hG5 := hG10
         clear hS9 hB9 hZ9 hb9 hG10 cB9 cZ9 fB9 fZ9 sB9 sZ9
         obtain ⟨cBW5, _, sBW5⟩ := hB5.facts
         obtain ⟨cZW5, _, sZW5⟩ := hZ5.facts
         refine wp_region_still_tail 7 (by kernel_rfl) (by kernel_rfl) ?_
         simp only [List.take_succ_cons, List.take_zero, List.drop_succ_cons, List.drop_zero]
         refine still_of_quiet _ _ ?_
         repeat (go_big_quiet_step (fail))
         refine wpQuiet_nil ?_
         change wpList _ _ _ _ _ W5.drew
         (try rw [eO])
         go_wp2_with fail
         refine (iAddAt' w.heap.size G v.length (low A j + 2 ^ A) out1 z v.length hl1.out (by omega) th _ (hS5.below (B := W5.heap.size) (Below.refl _ _).drew (Nat.le_refl _))).mono ?_
         rintro e w10 ⟨rfl, hS10, hG11⟩
         have hb10 : Below w.heap.size w w10 := Below.grown hb5.drew hG11 (by first | omega | (simp; done) | (simp; omega)) (fun k hk => by cases hk; omega)
         have hB10 := hB5.drew.grown hG11 (by omega)
         have hG12 : G < w10.heap.size := Nat.lt_of_lt_of_le hG5 hG11.size
         clear hS5 hB5 hZ5 hb5 hG5 hG11 cBW5 cZW5
         rcases Bool.eq_false_or_eq_true (addD (out1.getD (low A j + 2 ^ A) ⟨⟨0, 0, 0, 0⟩, 0⟩) z).2 with hb2 | hb2
         · have hnext := Lib.hid (hyes3.out trivial trivial hb2)
           rw [hb2]
           clear hno3 hyes3
           go_wp2
           go_roundw
           case rel => exact ⟨j + 1, _, by go_num, by omega, hS10, by simp only [Hid, List.length_set]; exact hl1.out, hnext.out, hB10, hG12, hb10⟩
           case measure => simp [intOf]; omega
         · have hfin := Lib.hid (hno3.out trivial trivial hb2)
           rw [hb2]
           clear hno3 hyes3
           go_wp2
           go_ret2
           exact ⟨.slice none 0 0, by rw [hfin.out]; rfl, by rw [hfin.out]; exact OwnS.nil _ _, hb10⟩)
      | (have eA3 : bits .and .i64 ((j : Int) / 2 ^ A) 1 = 1 := eA2
         clear eA2 hbt
         go_wp2_with (go_at_call 130; refine (iNegD' z _).mono ?_; rintro e wn ⟨rfl, hb⟩; obtain ⟨hc, hf, hz⟩ := bcell hb; (try simp only [World.size_drew, World.cell?_drew, World.frozen?_drew] at hc hf hz); (try simp at hz); (try have kk := fun o => hc (w.heap.size) o (by first | omega | (simp; done) | (simp; omega))); (try have kf := fun o => hf (w.heap.size) o (by first | omega | (simp; done) | (simp; omega))); (try have zz : w.heap.size < wn.heap.size := by omega); (try have kk := fun o => hc (zb) o (by first | omega | (simp; done) | (simp; omega))); (try have kf := fun o => hf (zb) o (by first | omega | (simp; done) | (simp; omega))); (try have zz : zb < wn.heap.size := by omega))
         refine wp_gen fun W5 hW5 => ?_
         have hB5 : Blk W5 w.heap.size [.int .i64 4, .int .i64 A, .int .i64 0, .int .i64 0] 59 := by rw [hW5]; (repeat (first | with_reducible assumption | with_reducible exact Blk.new' _ _ (by first | omega | (simp; done) | (simp; omega)) | with_reducible apply Blk.set5 | with_reducible apply Blk.set4 | with_reducible refine Blk.other ?_ (by first | omega | (simp; done) | (simp; omega)) _ | with_reducible refine Blk.drew ?_ | with_reducible refine Blk.alloc ?_ _ | with_reducible refine Blk.below ?_ (by assumption) (by first | omega | (simp; done) | (simp; omega))))
         have hZ5 : Blk W5 zb [.int .i64 (negD z).n.a, .int .i64 (negD z).n.b, .int .i64 (negD z).n.c, .int .i64 (negD z).n.d, .int .i64 (negD z).e] 114 := by rw [hW5]; (repeat (first | with_reducible assumption | with_reducible exact Blk.new' _ _ (by first | omega | (simp; done) | (simp; omega)) | with_reducible apply Blk.set5 | with_reducible apply Blk.set4 | with_reducible refine Blk.other ?_ (by first | omega | (simp; done) | (simp; omega)) _ | with_reducible refine Blk.drew ?_ | with_reducible refine Blk.alloc ?_ _ | with_reducible refine Blk.below ?_ (by assumption) (by first | omega | (simp; done) | (simp; omega))))
         have hb5 : Below w.heap.size w W5 := by rw [hW5]; (repeat (first | with_reducible exact Below.refl _ _ | with_reducible assumption | with_reducible refine Below.setCell ?_ (by first | omega | (simp; done) | (simp; omega)) _ | with_reducible refine Below.alloc ?_ (by first | omega | (simp; done) | (simp; omega)) _ | with_reducible refine Below.drew ?_ | with_reducible refine belowDrewN ?_ _ | with_reducible refine Below.trans ?_ (Below.mono (by assumption) (by first | omega | (simp; done) | (simp; omega)))))
         have hG5 : G < W5.heap.size := by rw [hW5]; first | omega | (simp; done) | (simp; omega)
         have hS5 := hS9.at_block (w' := W5) (by rw [hW5, Below.heap_setCell _ _ _ _ hGZ2, Below.heap_setCell _ _ _ _ hGZ2, Below.heap_setCell _ _ _ _ hGZ2, Below.heap_setCell _ _ _ _ hGZ2, Below.heap_setCell _ _ _ _ hGZ2, hb.block G hG10])
         clear hW5 hS9 hB9 hZ9 hb9 hG10 cB9 cZ9 fB9 fZ9 sB9 sZ9
         obtain ⟨cBW5, _, sBW5⟩ := hB5.facts
         obtain ⟨cZW5, _, sZW5⟩ := hZ5.facts
         refine wp_region_still_tail 7 (by kernel_rfl) (by kernel_rfl) ?_
         simp only [List.take_succ_cons, List.take_zero, List.drop_succ_cons, List.drop_zero]
         refine still_of_quiet _ _ ?_
         repeat (go_big_quiet_step (fail))
         refine wpQuiet_nil ?_
         change wpList _ _ _ _ _ W5.drew
         (try rw [eO])
         go_wp2_with fail
         refine (iAddAt' w.heap.size G v.length (low A j + 2 ^ A) out1 (negD z) v.length hl1.out (by omega) th _ (hS5.below (B := W5.heap.size) (Below.refl _ _).drew (Nat.le_refl _))).mono ?_
         rintro e w10 ⟨rfl, hS10, hG11⟩
         have hb10 : Below w.heap.size w w10 := Below.grown hb5.drew hG11 (by first | omega | (simp; done) | (simp; omega)) (fun k hk => by cases hk; omega)
         have hB10 := hB5.drew.grown hG11 (by omega)
         have hG12 : G < w10.heap.size := Nat.lt_of_lt_of_le hG5 hG11.size
         clear hS5 hB5 hZ5 hb5 hG5 hG11 cBW5 cZW5
         rcases Bool.eq_false_or_eq_true (addD (out1.getD (low A j + 2 ^ A) ⟨⟨0, 0, 0, 0⟩, 0⟩) (negD z)).2 with hb2 | hb2
         · have hnext := Lib.hid (hyes3.out trivial trivial hb2)
           rw [hb2]
           clear hno3 hyes3
           go_wp2
           go_roundw
           case rel => exact ⟨j + 1, _, by go_num, by omega, hS10, by simp only [Hid, List.length_set]; exact hl1.out, hnext.out, hB10, hG12, hb10⟩
           case measure => simp [intOf]; omega
         · have hfin := Lib.hid (hno3.out trivial trivial hb2)
           rw [hb2]
           clear hno3 hyes3
           go_wp2
           go_ret2
           exact ⟨.slice none 0 0, by rw [hfin.out]; rfl, by rw [hfin.out]; exact OwnS.nil _ _, hb10⟩)
    · have hfin := Lib.hid (applyL_end hj hinv.out)
      clear hinv h
      go_wp2
      go_ret2
      exact ⟨_, by rw [hfin.out]; rfl, by rw [hfin.out]; exact hS, hb0⟩

end Go.Proofs.Yteckhaafdojoeaa

/-! S31: The walk of impl.ApplyGate: all gates, all states. -/
namespace Go.Proofs.Yteckhaafdojoeaa
open Go.RowKit BigFrame

/-- A world that keeps what W holds. -/
structure BW (W : World) where
  w : World
  h : Below W.heap.size W w
theorem wp_region_quietC {P : Program} {id : Nat} {Q : Exit → Act → World → Prop} {a : Act} {w : World} {l : List Oper} (C : World → Prop) (hm : P.follows .mixedOrders = true) (hB : Region.lexB .any l.toArray = true) (hC : C w.drew)
    (h : wpQuiet P l.toArray C (fun a' => ∀ w', C w' → Q .normal a' w') l a) : (Code.region id l.toArray true).wp P Q a w :=
  wp_region_quiet (C := C) hm hB hC (by simpa using h)

set_option maxRecDepth 100000 in
set_option maxHeartbeats 8000000 in
theorem iApplyGate (g : GT) (ao : Option Addr) (v : List DO) (cap : Nat) (hn : v.length ≤ 2000000) (w : World) (h : StR w ao v) :
    Calls Try.prog 48 #[Gv g, .slice ao v.length cap] w fun e w' => ∃ x, e = .returned (.tuple #[x, .bool (applyG g v).2]) ∧ OwnS w' w.heap.size x (applyG g v).1 ∧ Below w.heap.size w w' := by
  by_cases hs : okS v = true
  · by_cases hg : g.ok (qc v.length) = true
    · by_cases hk : g.k = 4
      · obtain ⟨A, hgd, hA⟩ := hgate hg hk
        have := iApplyH g A hgd ao v cap hn hs hg hA w h
        rw [hgd] at this ⊢
        exact this
      · exact iApplyG g ao v cap hn hs hg hk w h
    · have hfin := Lib.hid (applyG_no (g := g) (v := v) (by rw [hs]; simpa using hg))
      have hg' : g.ok (qc v.length) = false := by simpa using hg
      have hV : ∀ w, Calls Try.prog 117 #[Gv g, .int .i64 (qc v.length)] w fun e w' => e = .returned (.bool false) ∧ Below w.heap.size w w' := fun w => by
        have := iIsValidGate g (qc v.length) w
        rwa [hg'] at this
      clear hg hg'
      go_enter Try.func48, Try.ntmps48
      go_wp2
      refine wp_gen fun W hW => ?_
      have hB : Blk W w.heap.size [.int .i64 g.k, .int .i64 g.a, .int .i64 g.b, .int .i64 g.c] 59 := by rw [hW]; exact Blk.new' _ _ rfl
      have hb0 : Below w.heap.size w W := by rw [hW]; (repeat (first | with_reducible exact Below.refl _ _ | with_reducible assumption | with_reducible refine Below.setCell ?_ (by first | omega | (simp; done) | (simp; omega)) _ | with_reducible refine Below.alloc ?_ (by first | omega | (simp; done) | (simp; omega)) _ | with_reducible refine Below.drew ?_ | with_reducible refine belowDrewN ?_ _ | with_reducible refine Below.trans ?_ (Below.mono (by assumption) (by first | omega | (simp; done) | (simp; omega)))))
      have hs0 : w.heap.size + 1 ≤ W.heap.size := by rw [hW]; simp
      clear hW
      obtain ⟨cB, fB, sB⟩ := hB.facts
      have hv : ∀ w', Below W.heap.size W w' → StR w' ao v := fun w' hb => (h.below hb0).below hb
      go_region_held3 (fun w' => Below W.heap.size W w' ∧ (∀ b o, b < W.heap.size → w'.cell? ⟨b, o, none⟩ = W.cell? ⟨b, o, none⟩) ∧ (∀ b o, b < W.heap.size → w'.frozen? ⟨b, o, none⟩ = W.frozen? ⟨b, o, none⟩) ∧ W.heap.size ≤ w'.heap.size) ((exact bpack (by (repeat (first | with_reducible exact Below.refl _ _ | with_reducible assumption | with_reducible refine Below.setCell ?_ (by first | omega | (simp; done) | (simp; omega)) _ | with_reducible refine Below.alloc ?_ (by first | omega | (simp; done) | (simp; omega)) _ | with_reducible refine Below.drew ?_ | with_reducible refine belowDrewN ?_ _ | with_reducible refine Below.trans ?_ (Below.mono (by assumption) (by first | omega | (simp; done) | (simp; omega)))))))) (first | (go_at_call 124; refine (iIsValidState _ _ _ (by omega) _ (hv _ (by (repeat (first | with_reducible exact Below.refl _ _ | with_reducible assumption | with_reducible refine Below.setCell ?_ (by first | omega | (simp; done) | (simp; omega)) _ | with_reducible refine Below.alloc ?_ (by first | omega | (simp; done) | (simp; omega)) _ | with_reducible refine Below.drew ?_ | with_reducible refine belowDrewN ?_ _ | with_reducible refine Below.trans ?_ (Below.mono (by assumption) (by first | omega | (simp; done) | (simp; omega)))))))).mono ?_; rintro e w1 ⟨rfl, hb⟩; obtain ⟨hc, hf, hz⟩ := bcell hb; (try simp only [World.size_drew, World.cell?_drew, World.frozen?_drew] at hc hf hz); (try simp at hz); (try have kk := fun o => hc (w.heap.size) o (by first | omega | (simp; done) | (simp; omega))); (try have kf := fun o => hf (w.heap.size) o (by first | omega | (simp; done) | (simp; omega))); (try have zz : w.heap.size < w1.heap.size := by omega)) | (go_at_call 106; refine (iQubitCount _ _ _ (by omega) _).mono ?_; rintro e w8 ⟨rfl, rfl⟩) | (go_at_call 117; refine (hV _).mono ?_; rintro e w2 ⟨rfl, hb⟩; obtain ⟨hc, hf, hz⟩ := bcell hb; (try simp only [World.size_drew, World.cell?_drew, World.frozen?_drew] at hc hf hz); (try simp at hz); (try have kk := fun o => hc (w.heap.size) o (by first | omega | (simp; done) | (simp; omega))); (try have kf := fun o => hf (w.heap.size) o (by first | omega | (simp; done) | (simp; omega))); (try have zz : w.heap.size < w2.heap.size := by omega)))
      all_goals go_wp2
      all_goals go_ret2
      all_goals exact ⟨.slice none 0 0, by rw [hfin.out]; rfl, by rw [hfin.out]; exact OwnS.nil _ _, by (repeat (first | with_reducible exact Below.refl _ _ | with_reducible assumption | with_reducible refine Below.setCell ?_ (by first | omega | (simp; done) | (simp; omega)) _ | with_reducible refine Below.alloc ?_ (by first | omega | (simp; done) | (simp; omega)) _ | with_reducible refine Below.drew ?_ | with_reducible refine belowDrewN ?_ _ | with_reducible refine Below.trans ?_ (Below.mono (by assumption) (by first | omega | (simp; done) | (simp; omega)))))⟩
  · have hs' : okS v = false := by simpa using hs
    have hfin := Lib.hid (applyG_no (g := g) (v := v) (by rw [hs']; rfl))
    clear hs
    go_enter Try.func48, Try.ntmps48
    go_wp2
    refine wp_gen fun W hW => ?_
    have hB : Blk W w.heap.size [.int .i64 g.k, .int .i64 g.a, .int .i64 g.b, .int .i64 g.c] 59 := by rw [hW]; exact Blk.new' _ _ rfl
    have hb0 : Below w.heap.size w W := by rw [hW]; (repeat (first | with_reducible exact Below.refl _ _ | with_reducible assumption | with_reducible refine Below.setCell ?_ (by first | omega | (simp; done) | (simp; omega)) _ | with_reducible refine Below.alloc ?_ (by first | omega | (simp; done) | (simp; omega)) _ | with_reducible refine Below.drew ?_ | with_reducible refine belowDrewN ?_ _ | with_reducible refine Below.trans ?_ (Below.mono (by assumption) (by first | omega | (simp; done) | (simp; omega)))))
    have hs0 : w.heap.size + 1 ≤ W.heap.size := by rw [hW]; simp
    clear hW
    obtain ⟨cB, fB, sB⟩ := hB.facts
    have hv : ∀ w', Below W.heap.size W w' → StR w' ao v := fun w' hb => (h.below hb0).below hb
    have hI : ∀ w', Below W.heap.size W w' → Calls Try.prog 124 #[.slice ao v.length cap] w' fun e w'' => e = .returned (.bool false) ∧ Below w'.heap.size w' w'' := fun w' hb => by
      have := iIsValidState ao v cap (by omega) w' (hv w' hb)
      rwa [hs'] at this
    clear hs'
    have hne : Nonempty (BW W) := ⟨⟨W, Below.refl _ _⟩⟩
    refine wp_region_quietC (fun w' => ∃ u : BW W, w' = u.w) (by kernel_rfl) (by kernel_rfl) ⟨⟨_, (Below.refl _ _).drew⟩, rfl⟩ ?_
    go_big_quiet_step (fail)
    go_big_quiet_want
    go_big_quiet_op
    refine ⟨.bool false, ?_, ?_⟩
    · intro u
      refine (hI u.w u.h).mono ?_
      rintro e w1 ⟨rfl, hb1⟩
      exact ⟨rfl, ⟨w1, u.h.trans (hb1.mono u.h.size)⟩, rfl⟩
    go_big_quiet_on
    repeat (go_big_quiet_step (fail))
    refine wpQuiet_nil ?_
    rintro _ ⟨⟨w2, hb2⟩, rfl⟩
    have hb3 := hb0.trans (hb2.mono (by omega))
    go_wp2
    go_ret2
    exact ⟨.slice none 0 0, by rw [hfin.out]; rfl, by rw [hfin.out]; exact OwnS.nil _ _, hb3⟩

end Go.Proofs.Yteckhaafdojoeaa

/-! S33: Where an amplitude goes (spec.l10Goes): H; any valid gate. -/
namespace Go.Proofs.Yteckhaafdojoeaa
open Go.RowKit BigFrame

theorem goes_H (A j : Nat) (c : DO) (h : (if bit A j = 1 then negD hD else hD) = c) : goes ⟨4, A, 0, 0⟩ j = [(low A j, hD), (low A j + 2 ^ A, c)] := by rw [goesH, h]

theorem or_shl2 : ∀ i, i < 16 → ∀ q, q < 4 → bits .or .i64 (low q i : Nat) (wrap64 (2 ^ q)) = ((low q i + 2 ^ q : Nat) : Int) := by decide +kernel

set_option maxHeartbeats 4000000 in
theorem sGoes4 (A i : Nat) (hA : A < 4) (hi : i < 16) (w : World) :
    Calls Try.prog 120 #[Gv ⟨4, A, 0, 0⟩, .int .i64 i] w (OutGo w (goes ⟨4, A, 0, 0⟩ i)) := by
  have eA := bits_and1 i hi A hA
  have eB := bits_and1 i hi 0 (by decide)
  have bA := bit_lt A i
  have bB := bit_lt 0 i
  have eN := andNot_shl i hi A hA
  have eO := or_shl2 i hi A hA
  rcases (show bit A i = 0 ∨ bit A i = 1 by omega) with ha | ha
  · have hm := goes_H A i hD (if_neg (by omega))
    have fA : bits .and .i64 ((i : Int) / 2 ^ A) 1 = 0 := eA.trans (congrArg (fun n : Nat => (n : Int)) ha)
    rcases (show bit 0 i = 0 ∨ bit 0 i = 1 by omega) with hb | hb
    all_goals
      first
        | (have fB : bits .and .i64 (i : Int) 1 = 0 := by
             have := eB.trans (congrArg (fun n : Nat => (n : Int)) hb)
             simpa using this)
        | (have fB : bits .and .i64 (i : Int) 1 = 1 := by
             have := eB.trans (congrArg (fun n : Nat => (n : Int)) hb)
             simpa using this)
      rw [hm]
      clear eA eB ha hb hm bA bB
      go_enter Try.func120, Try.ntmps120
      go_wp2_with (go_at_call 167; refine (sInv1 _).mono ?_; rintro e w1 ⟨rfl, hb⟩; obtain ⟨hc, hf, hz⟩ := bcell hb; (try simp only [World.size_drew, World.cell?_drew, World.frozen?_drew] at hc hf hz); (try simp at hz); (try have kk := fun o => hc (w.heap.size) o (by first | omega | (simp; done) | (simp; omega))); (try have kf := fun o => hf (w.heap.size) o (by first | omega | (simp; done) | (simp; omega))); (try have zz : w.heap.size < w1.heap.size := by omega))
      go_ret
      exact ⟨_, _, rfl, GoR.two (t := 128) (Blk.new' (sent (low A i, hD) ++ sent (low A i + 2 ^ A, hD)) _ (by first | rfl | (simp; done) | (simp; omega))), by first | omega | (simp; done) | (simp; omega), by (repeat (first | with_reducible exact Below.refl _ _ | with_reducible assumption | with_reducible refine Below.setCell ?_ (by first | omega | (simp; done) | (simp; omega)) _ | with_reducible refine Below.alloc ?_ (by first | omega | (simp; done) | (simp; omega)) _ | with_reducible refine Below.drew ?_ | with_reducible refine belowDrewN ?_ _ | with_reducible refine Below.trans ?_ (Below.mono (by assumption) (by first | omega | (simp; done) | (simp; omega)))))⟩
  · have hm := goes_H A i (negD hD) (if_pos ha)
    have fA : bits .and .i64 ((i : Int) / 2 ^ A) 1 = 1 := eA.trans (congrArg (fun n : Nat => (n : Int)) ha)
    rcases (show bit 0 i = 0 ∨ bit 0 i = 1 by omega) with hb | hb
    all_goals
      first
        | (have fB : bits .and .i64 (i : Int) 1 = 0 := by
             have := eB.trans (congrArg (fun n : Nat => (n : Int)) hb)
             simpa using this)
        | (have fB : bits .and .i64 (i : Int) 1 = 1 := by
             have := eB.trans (congrArg (fun n : Nat => (n : Int)) hb)
             simpa using this)
      rw [hm]
      clear eA eB ha hb hm bA bB
      go_enter Try.func120, Try.ntmps120
      go_wp2_with (first | (go_at_call 167; refine (sInv1 _).mono ?_; rintro e w1 ⟨rfl, hb⟩; obtain ⟨hc, hf, hz⟩ := bcell hb; (try simp only [World.size_drew, World.cell?_drew, World.frozen?_drew] at hc hf hz); (try simp at hz); (try have kk := fun o => hc (w.heap.size) o (by first | omega | (simp; done) | (simp; omega))); (try have kf := fun o => hf (w.heap.size) o (by first | omega | (simp; done) | (simp; omega))); (try have zz : w.heap.size < w1.heap.size := by omega)) | (go_at_call 168; refine (sNegD' hD _).mono ?_; rintro e w2 ⟨rfl, hb⟩; obtain ⟨hc, hf, hz⟩ := bcell hb; (try simp only [World.size_drew, World.cell?_drew, World.frozen?_drew] at hc hf hz); (try simp at hz); (try have kk := fun o => hc (w.heap.size) o (by first | omega | (simp; done) | (simp; omega))); (try have kf := fun o => hf (w.heap.size) o (by first | omega | (simp; done) | (simp; omega))); (try have zz : w.heap.size < w2.heap.size := by omega); (try have kk := fun o => hc (w1.heap.size) o (by first | omega | (simp; done) | (simp; omega))); (try have kf := fun o => hf (w1.heap.size) o (by first | omega | (simp; done) | (simp; omega))); (try have zz : w1.heap.size < w2.heap.size := by omega); (try have kk := fun o => hc (w1.heap.size + 1) o (by first | omega | (simp; done) | (simp; omega))); (try have kf := fun o => hf (w1.heap.size + 1) o (by first | omega | (simp; done) | (simp; omega))); (try have zz : w1.heap.size + 1 < w2.heap.size := by omega)))
      go_ret
      exact ⟨_, _, rfl, GoR.two (t := 128) (Blk.new' (sent (low A i, hD) ++ sent (low A i + 2 ^ A, negD hD)) _ (by first | rfl | (simp; done) | (simp; omega))), by first | omega | (simp; done) | (simp; omega), by (repeat (first | with_reducible exact Below.refl _ _ | with_reducible assumption | with_reducible refine Below.setCell ?_ (by first | omega | (simp; done) | (simp; omega)) _ | with_reducible refine Below.alloc ?_ (by first | omega | (simp; done) | (simp; omega)) _ | with_reducible refine Below.drew ?_ | with_reducible refine belowDrewN ?_ _ | with_reducible refine Below.trans ?_ (Below.mono (by assumption) (by first | omega | (simp; done) | (simp; omega)))))⟩

/-- Any valid gate, any place. -/
theorem sGoes {g : GT} {n i : Nat} (hq : qc n ≠ 0) (hg : g.ok (qc n) = true) (hi : i < n) (w : World) :
    Calls Try.prog 120 #[Gv g, .int .i64 i] w (OutGo w (goes g i)) := by
  obtain ⟨h1, h2, h3⟩ := qc_pow hq
  have h16 : 2 ^ qc n ≤ 16 := Nat.pow_le_pow_right (by decide) h3
  have hi' : i < 16 := by omega
  by_cases hk : g.k = 4
  · obtain ⟨A, rfl, hA⟩ := hgate hg hk
    exact sGoes4 A i (by omega) hi' w
  · obtain ⟨-, hk1, A, B, C, ⟨ga, gb, gc⟩, hA, hB, hC⟩ := GT.nats hg
    obtain ⟨k, a, b, c⟩ := g
    dsimp only at *
    subst ga gb gc
    have hk' : k = 1 ∨ k = 2 ∨ k = 3 ∨ k = 5 ∨ k = 6 ∨ k = 7 ∨ k = 8 ∨ k = 9 ∨ k = 10 ∨ k = 11 ∨ k = 12 := by omega
    rcases hk' with rfl | rfl | rfl | rfl | rfl | rfl | rfl | rfl | rfl | rfl | rfl
    · exact sGoes1 A B C i (by omega) (by omega) (by omega) hi' w
    · exact sGoes2 A B C i (by omega) (by omega) (by omega) hi' w
    · exact sGoes3 A B C i (by omega) (by omega) (by omega) hi' w
    · exact sGoes5 A B C i (by omega) (by omega) (by omega) hi' w
    · exact sGoes6 A B C i (by omega) (by omega) (by omega) hi' w
    · exact sGoes7 A B C i (by omega) (by omega) (by omega) hi' w
    · exact sGoes8 A B C i (by omega) (by omega) (by omega) hi' w
    · exact sGoes9 A B C i (by omega) (by omega) (by omega) hi' w
    · exact sGoes10 A B C i (by omega) (by omega) (by omega) hi' w
    · exact sGoes11 A B C i (by omega) (by omega) (by omega) hi' w
    · exact sGoes12 A B C i (by omega) (by omega) (by omega) hi' w

end Go.Proofs.Yteckhaafdojoeaa

/-! S29: The walk of spec.ApplyGate. -/
namespace Go.Proofs.Yteckhaafdojoeaa
open Go.RowKit BigFrame

theorem GoR.grown {w w' : World} {b G : Nat} {l : List (Nat × DO)} (h : GoR w b l) (hg : w.grownBy w' (some G)) (hb : b ≠ G) : GoR w' b l := fun k hk => by
  obtain ⟨h1, h2, h3⟩ := h k hk
  have e : ∀ o, w'.cell? ⟨b, o, none⟩ = w.cell? ⟨b, o, none⟩ := fun o => (gkeep hg).1 b o h1 hb
  obtain ⟨d0, d1, d2, d3, d4⟩ := h3
  exact ⟨Nat.lt_of_lt_of_le h1 hg.size, by rw [e, h2], by rw [e, d0], by rw [e, d1], by rw [e, d2], by rw [e, d3], by rw [e, d4]⟩
theorem addL_more {out : List DO} {l : List (Nat × DO)} {k : Nat} {x : DO} {R : List DO × Bool} (hk : k < l.length) (h : addL out (l.drop k) x = R) {t : Nat} {y : DO} (hl : l[k] = (t, y)) (h1 : (mulD x y).2 = true)
    (h2 : (addD (out.getD t ⟨⟨0, 0, 0, 0⟩, 0⟩) (mulD x y).1).2 = true) : addL (out.set t (addD (out.getD t ⟨⟨0, 0, 0, 0⟩, 0⟩) (mulD x y).1).1) (l.drop (k + 1)) x = R := by
  rw [List.drop_eq_getElem_cons hk, hl, addL_cons_yes h1 h2] at h
  exact h
theorem addL_fail {out : List DO} {l : List (Nat × DO)} {k : Nat} {x : DO} {R : List DO × Bool} (hk : k < l.length) (h : addL out (l.drop k) x = R) {t : Nat} {y : DO} (hl : l[k] = (t, y))
    (h1 : ((mulD x y).2 && (addD (out.getD t ⟨⟨0, 0, 0, 0⟩, 0⟩) (mulD x y).1).2) = false) : R = ([], false) := by
  rw [List.drop_eq_getElem_cons hk, hl, addL_cons_no h1] at h
  exact h.symm
theorem addL_end {out : List DO} {l : List (Nat × DO)} {k : Nat} {x : DO} {R : List DO × Bool} (hk : ¬ k < l.length) (h : addL out (l.drop k) x = R) : R = (out, true) := by
  rw [List.drop_eq_nil_of_le (by omega), addL] at h
  exact h.symm
theorem getD_get {out : List DO} {t : Nat} (h : t < out.length) : out.getD t ⟨⟨0, 0, 0, 0⟩, 0⟩ = out[t] := by rw [List.getD_eq_getElem?_getD, List.getElem?_eq_getElem h]; rfl
theorem grown_drew {w w' : World} {r : Option Nat} (h : w.grownBy w' r) : w.grownBy w'.drew r := ⟨h.os, h.tape, h.output, h.size, h.block⟩
attribute [local go_sem] eqIf0

set_option maxRecDepth 100000 in
set_option maxHeartbeats 8000000 in
theorem sApplyG (g : GT) (ao : Option Addr) (v : List DO) (cap : Nat) (hn : v.length ≤ 2000000) (hs : okS v = true) (hg : g.ok (qc v.length) = true) (w : World) (h : StR w ao v) :
    Calls Try.prog 45 #[Gv g, .slice ao v.length cap] w fun e w' => ∃ x, e = .returned (.tuple #[x, .bool (applyG g v).2]) ∧ OwnS w' w.heap.size x (applyG g v).1 ∧ Below w.heap.size w w' := by
  obtain ⟨iD, hiD, hzD0, hzD1, hzD2⟩ := info_parts infoD
  have hq : qc v.length ≠ 0 := by intro h0; rw [okS, h0] at hs; cases hs
  obtain ⟨hpow, hq1, hq4⟩ := qc_pow hq
  have h16 : v.length ≤ 16 := by
    rw [hpow]
    exact Nat.pow_le_pow_right (by decide) hq4
  have hbytes : iD.bytes * v.length ≤ 281474976710656 := by rw [hzD2]; omega
  have hmax : v.length ≤ maxLen := by unfold maxLen; omega
  have hR := Lib.hid (applyG_yes hs hg)
  have HG := Lib.hid hg
  have HQ := Lib.hid hq
  have hgk := (GT.parts hg).2.1
  clear hpow hq1 hq4
  go_enter Try.func45, Try.ntmps45
  go_wp2
  refine wp_gen fun W hW => ?_
  have hB : Blk W w.heap.size [.int .i64 g.k, .int .i64 g.a, .int .i64 g.b, .int .i64 g.c] 59 := by rw [hW]; exact Blk.new' _ _ rfl
  have hb0 : Below w.heap.size w W := by rw [hW]; (repeat (first | with_reducible exact Below.refl _ _ | with_reducible assumption | with_reducible refine Below.setCell ?_ (by first | omega | (simp; done) | (simp; omega)) _ | with_reducible refine Below.alloc ?_ (by first | omega | (simp; done) | (simp; omega)) _ | with_reducible refine Below.drew ?_ | with_reducible refine belowDrewN ?_ _ | with_reducible refine Below.trans ?_ (Below.mono (by assumption) (by first | omega | (simp; done) | (simp; omega)))))
  have hs0 : w.heap.size + 1 ≤ W.heap.size := by rw [hW]; simp
  clear hW
  obtain ⟨cB, fB, sB⟩ := hB.facts
  have hv : ∀ w', Below W.heap.size W w' → StR w' ao v := fun w' hb => (h.below hb0).below hb
  go_region_held3 (fun w' => Below W.heap.size W w' ∧ (∀ b o, b < W.heap.size → w'.cell? ⟨b, o, none⟩ = W.cell? ⟨b, o, none⟩) ∧ (∀ b o, b < W.heap.size → w'.frozen? ⟨b, o, none⟩ = W.frozen? ⟨b, o, none⟩) ∧ W.heap.size ≤ w'.heap.size) ((exact bpack (by (repeat (first | with_reducible exact Below.refl _ _ | with_reducible assumption | with_reducible refine Below.setCell ?_ (by first | omega | (simp; done) | (simp; omega)) _ | with_reducible refine Below.alloc ?_ (by first | omega | (simp; done) | (simp; omega)) _ | with_reducible refine Below.drew ?_ | with_reducible refine belowDrewN ?_ _ | with_reducible refine Below.trans ?_ (Below.mono (by assumption) (by first | omega | (simp; done) | (simp; omega)))))))) (first | (go_at_call 119; refine (sIsValidState _ _ _ (by omega) _ (hv _ (by (repeat (first | with_reducible exact Below.refl _ _ | with_reducible assumption | with_reducible refine Below.setCell ?_ (by first | omega | (simp; done) | (simp; omega)) _ | with_reducible refine Below.alloc ?_ (by first | omega | (simp; done) | (simp; omega)) _ | with_reducible refine Below.drew ?_ | with_reducible refine belowDrewN ?_ _ | with_reducible refine Below.trans ?_ (Below.mono (by assumption) (by first | omega | (simp; done) | (simp; omega)))))))).mono ?_; rintro e w1 ⟨rfl, hb⟩; obtain ⟨hc, hf, hz⟩ := bcell hb; (try simp only [World.size_drew, World.cell?_drew, World.frozen?_drew] at hc hf hz); (try simp at hz); (try have kk := fun o => hc (w.heap.size) o (by first | omega | (simp; done) | (simp; omega))); (try have kf := fun o => hf (w.heap.size) o (by first | omega | (simp; done) | (simp; omega))); (try have zz : w.heap.size < w1.heap.size := by omega)) | (go_at_call 70; refine (sQubitCount _ _ _ (by omega) _).mono ?_; rintro e w8 ⟨rfl, rfl⟩) | (go_at_call 118; refine (sIsValidGate g _ _).mono ?_; rintro e w2 ⟨rfl, hb⟩; obtain ⟨hc, hf, hz⟩ := bcell hb; (try simp only [World.size_drew, World.cell?_drew, World.frozen?_drew] at hc hf hz); (try simp at hz); (try have kk := fun o => hc (w.heap.size) o (by first | omega | (simp; done) | (simp; omega))); (try have kf := fun o => hf (w.heap.size) o (by first | omega | (simp; done) | (simp; omega))); (try have zz : w.heap.size < w2.heap.size := by omega)))
  go_wp2_with (at_make; refine wpList_make_full _ rfl _ _ 56 rfl w.heap.size TD iD _ 5 Try.underlying56 hiD hzD0 hzD1 _ _ _ _ v.length rfl rfl rfl rfl hbytes hmax (by omega) ?_)
  intro w3 hown hgrow
  have hS := OwnS.made (N := v.length) hown
  obtain ⟨G, hGe⟩ : ∃ G, G = w2.heap.size := ⟨_, rfl⟩
  have hG0 : w.heap.size < G := by omega
  have hb3 : Below w.heap.size w w3 := by
    refine Below.grown (show Below w.heap.size w w2 by (repeat (first | with_reducible exact Below.refl _ _ | with_reducible assumption | with_reducible refine Below.setCell ?_ (by first | omega | (simp; done) | (simp; omega)) _ | with_reducible refine Below.alloc ?_ (by first | omega | (simp; done) | (simp; omega)) _ | with_reducible refine Below.drew ?_ | with_reducible refine belowDrewN ?_ _ | with_reducible refine Below.trans ?_ (Below.mono (by assumption) (by first | omega | (simp; done) | (simp; omega)))))) hgrow (by omega) (fun k hk => by cases hk)
  have hB3 : Blk w3 w.heap.size [.int .i64 g.k, .int .i64 g.a, .int .i64 g.b, .int .i64 g.c] 59 := (hgrow.block _ (by omega) (by simp)).trans (show Blk w2 w.heap.size [.int .i64 g.k, .int .i64 g.a, .int .i64 g.b, .int .i64 g.c] 59 by (repeat (first | with_reducible assumption | with_reducible exact Blk.new' _ _ (by first | omega | (simp; done) | (simp; omega)) | with_reducible apply Blk.set5 | with_reducible apply Blk.set4 | with_reducible refine Blk.other ?_ (by first | omega | (simp; done) | (simp; omega)) _ | with_reducible refine Blk.drew ?_ | with_reducible refine Blk.alloc ?_ _ | with_reducible refine Blk.below ?_ (by assumption) (by first | omega | (simp; done) | (simp; omega)))))
  have hG3 : G < w3.heap.size := hGe ▸ (World.ownsRow.lt hS w2.heap.size rfl).2
  rw [← hGe] at hS ⊢
  clear hown hgrow hGe
  go_wp2
  go_loopw [7] (fun x wr => ∃ (j : Nat) (out : List DO), x = .int .i64 j ∧ j ≤ v.length ∧ OwnS wr w.heap.size (.slice (some ⟨G, 0, none⟩) v.length v.length) out ∧ Hid (out.length = v.length) ∧ Hid (∀ y ∈ out, y.ok = true) ∧ Hid (applyL g j (v.drop j) out = applyG g v) ∧
    Blk wr w.heap.size [.int .i64 g.k, .int .i64 g.a, .int .i64 g.b, .int .i64 g.c] 59 ∧ G < wr.heap.size ∧ Below w.heap.size w wr) (fun x _ => v.length - (intOf x).toNat)
  case atStart => exact ⟨0, _, rfl, Nat.zero_le _, hS, by simp [Hid], fun y hy => by rw [List.eq_of_mem_replicate hy]; rfl, hR.out, hB3, hG3, hb3⟩
  case round =>
    obtain ⟨j, out, rfl, j0, hS, HL, HO, hinv, hB, hGs, hb0⟩ := hrel
    obtain ⟨cB, fB, sB⟩ := hB.facts
    have hs0 := hb0.size
    by_cases hj : j < v.length
    · obtain ⟨b, o, rfl, hlt, hD⟩ := (h.below hb0) j hj
      obtain ⟨x, hx⟩ : ∃ x, x = v[j] := ⟨_, rfl⟩
      rw [← hx] at hD
      obtain ⟨d0, d1, d2, d3, d4⟩ := hD
      by_cases hxz : x = ⟨⟨0, 0, 0, 0⟩, 0⟩
      · have hnext : applyL g (j + 1) (v.drop (j + 1)) out = applyG g v := by
          have ha := addL_zero HO.out (goes g j) (goes_ok g j hgk)
          rw [← hxz, hx] at ha
          have := applyL_more hj hinv.out (by rw [ha])
          rwa [ha] at this
        have HN := Lib.hid hnext
        obtain ⟨k0, k1, k2, k3, k4⟩ := zero_fields hxz
        rw [k0] at d0; rw [k1] at d1; rw [k2] at d2; rw [k3] at d3; rw [k4] at d4
        clear hxz k0 k1 k2 k3 k4 hx hnext hinv h
        go_wp2
        go_roundw
        case rel => exact ⟨j + 1, out, by go_num, by omega, hS, HL, HO, HN.out, hB, hGs, hb0⟩
        case measure => simp [intOf]; omega
      · obtain ⟨l, hl⟩ : ∃ l, l = goes g j := ⟨_, rfl⟩
        have hl2 : l.length ≤ 2 := by
          rw [hl]; unfold goes; split <;> simp
        have hlt2 := goes_lt HQ.out HG.out hj
        have hC : ∀ w, Calls Try.prog 120 #[Gv g, .int .i64 j] w (OutGo w l) := fun w => by rw [hl]; exact sGoes HQ.out HG.out hj w
        rw [← hl] at hlt2
        have hmore := Lib.hid (fun ha => applyL_more hj hinv.out ha)
        have hfail := Lib.hid (fun ha => applyL_fail hj hinv.out ha)
        have HX := Lib.hid hx
        have HL2 := Lib.hid hl
        clear hl hinv hx
        go_wp2_with fail
        refine (hC _).mono ?_
        rintro e w4 ⟨lb, lc, rfl, hR4, hlb, hb4⟩
        have hs4 := hb4.size
        have hlbG : lb ≠ G := by omega
        have hwG : w.heap.size ≠ G := by omega
        have hwl : w.heap.size ≠ lb := by omega
        have hS4 := hS.below hb4 (Nat.le_refl _)
        have hB4 := hB.below hb4 sB
        have hb04 : Below w.heap.size w w4 := hb0.trans (hb4.mono hs0)
        have hG4 : G < w4.heap.size := by omega
        clear hS hB hb0 cB fB sB d0 d1 d2 d3 d4 hb4 hlt hGs
        go_wp2
        go_loopw [9] (fun z wi => ∃ (k : Nat) (ok : List DO), z = .int .i64 k ∧ k ≤ l.length ∧ OwnS wi w.heap.size (.slice (some ⟨G, 0, none⟩) v.length v.length) ok ∧ Hid (ok.length = v.length) ∧ Hid (∀ y ∈ ok, y.ok = true) ∧ Hid (addL ok (l.drop k) x = addL out l x) ∧
          Blk wi w.heap.size [.int .i64 g.k, .int .i64 g.a, .int .i64 g.b, .int .i64 g.c] 59 ∧ GoR wi lb l ∧ G < wi.heap.size ∧ Below w.heap.size w wi) (fun z _ => l.length - (intOf z).toNat)
        case atStart => exact ⟨0, out, rfl, Nat.zero_le _, hS4, HL, HO, rfl, hB4, hR4, hG4, hb04⟩
        case round =>
          obtain ⟨k, ok, rfl, k0, hSi, HLi, HOi, hinvi, hBi, hRi, hGi, hbi⟩ := hrel
          obtain ⟨cBi, fBi, sBi⟩ := hBi.facts
          have hsi := hbi.size
          by_cases hk : k < l.length
          · obtain ⟨b', o', e', hlt', hD'⟩ := (h.below hbi) j hj
            cases e'
            rw [← HX.out] at hD'
            obtain ⟨d0, d1, d2, d3, d4⟩ := hD'
            obtain ⟨hlbi, cAt, hDy⟩ := hRi k hk
            obtain ⟨t, y, hty⟩ : ∃ t y, l[k] = (t, y) := ⟨_, _, rfl⟩
            have ht := hlt2 l[k] (List.getElem_mem _)
            rw [hty] at cAt hDy ht
            dsimp only at cAt hDy ht
            obtain ⟨y0, y1, y2, y3, y4⟩ := hDy
            obtain ⟨z, m, hzm⟩ : ∃ z m, mulD x y = (z, m) := ⟨_, _, rfl⟩
            have hM : ∀ w, Calls Try.prog 121 #[Dv x, Dv y] w fun e w' => e = .returned (.tuple #[Dv z, .bool m]) ∧ Below w.heap.size w w' := fun w => by
              have := sMulD' x y w
              rwa [hzm] at this
            have hyes1 := fun h1 h2 => addL_more hk hinvi.out hty h1 h2
            have hno1 := fun h1 => addL_fail hk hinvi.out hty h1
            rw [hzm] at hyes1 hno1
            have hyes := Lib.hid hyes1
            have hno := Lib.hid hno1
            have HT := Lib.hid hty
            clear hty hyes1 hno1 hzm
            go_wp2
            go_region_held3 (fun w' => Below wr.heap.size wr w' ∧ (∀ b o, b < wr.heap.size → w'.cell? ⟨b, o, none⟩ = wr.cell? ⟨b, o, none⟩) ∧ (∀ b o, b < wr.heap.size → w'.frozen? ⟨b, o, none⟩ = wr.frozen? ⟨b, o, none⟩) ∧ wr.heap.size ≤ w'.heap.size) ((exact bpack (by (repeat (first | with_reducible exact Below.refl _ _ | with_reducible assumption | with_reducible refine Below.setCell ?_ (by first | omega | (simp; done) | (simp; omega)) _ | with_reducible refine Below.alloc ?_ (by first | omega | (simp; done) | (simp; omega)) _ | with_reducible refine Below.drew ?_ | with_reducible refine belowDrewN ?_ _ | with_reducible refine Below.trans ?_ (Below.mono (by assumption) (by first | omega | (simp; done) | (simp; omega)))))))) (first | (go_at_call 121; refine (hM _).mono ?_; rintro e wa ⟨rfl, hb⟩; obtain ⟨hc, hf, hz⟩ := bcell hb; (try simp only [World.size_drew, World.cell?_drew, World.frozen?_drew] at hc hf hz); (try simp at hz); (try have kk := fun o => hc (w.heap.size) o (by first | omega | (simp; done) | (simp; omega))); (try have kf := fun o => hf (w.heap.size) o (by first | omega | (simp; done) | (simp; omega))); (try have zz : w.heap.size < wa.heap.size := by omega); (try have kk := fun o => hc (lb) o (by first | omega | (simp; done) | (simp; omega))); (try have kf := fun o => hf (lb) o (by first | omega | (simp; done) | (simp; omega))); (try have zz : lb < wa.heap.size := by omega); (try have kk := fun o => hc (G) o (by first | omega | (simp; done) | (simp; omega))); (try have kf := fun o => hf (G) o (by first | omega | (simp; done) | (simp; omega))); (try have zz : G < wa.heap.size := by omega); (try have kk := fun o => hc (wr.heap.size) o (by first | omega | (simp; done) | (simp; omega))); (try have kf := fun o => hf (wr.heap.size) o (by first | omega | (simp; done) | (simp; omega))); (try have zz : wr.heap.size < wa.heap.size := by omega)))
            all_goals
              go_wp2
              refine wp_gen fun W2 hW2 => ?_
              have hB2 : Blk W2 w.heap.size [.int .i64 g.k, .int .i64 g.a, .int .i64 g.b, .int .i64 g.c] 59 := by rw [hW2]; (repeat (first | with_reducible assumption | with_reducible exact Blk.new' _ _ (by first | omega | (simp; done) | (simp; omega)) | with_reducible apply Blk.set5 | with_reducible apply Blk.set4 | with_reducible refine Blk.other ?_ (by first | omega | (simp; done) | (simp; omega)) _ | with_reducible refine Blk.drew ?_ | with_reducible refine Blk.alloc ?_ _ | with_reducible refine Blk.below ?_ (by assumption) (by first | omega | (simp; done) | (simp; omega))))
              have hb2 : Below wr.heap.size wr W2 := by rw [hW2]; (repeat (first | with_reducible exact Below.refl _ _ | with_reducible assumption | with_reducible refine Below.setCell ?_ (by first | omega | (simp; done) | (simp; omega)) _ | with_reducible refine Below.alloc ?_ (by first | omega | (simp; done) | (simp; omega)) _ | with_reducible refine Below.drew ?_ | with_reducible refine belowDrewN ?_ _ | with_reducible refine Below.trans ?_ (Below.mono (by assumption) (by first | omega | (simp; done) | (simp; omega)))))
              first
                | (have hX2 : Blk W2 wa.heap.size [.int .i64 z.n.a, .int .i64 z.n.b, .int .i64 z.n.c, .int .i64 z.n.d, .int .i64 z.e] 114 := by rw [hW2]; (repeat (first | with_reducible assumption | with_reducible exact Blk.new' _ _ (by first | omega | (simp; done) | (simp; omega)) | with_reducible apply Blk.set5 | with_reducible apply Blk.set4 | with_reducible refine Blk.other ?_ (by first | omega | (simp; done) | (simp; omega)) _ | with_reducible refine Blk.drew ?_ | with_reducible refine Blk.alloc ?_ _ | with_reducible refine Blk.below ?_ (by assumption) (by first | omega | (simp; done) | (simp; omega))))
                   have hXb : wr.heap.size ≤ wa.heap.size := by omega
                   generalize wa.heap.size = xb at hX2 hXb ⊢)
                | (have hX2 : Blk W2 wr.heap.size [.int .i64 z.n.a, .int .i64 z.n.b, .int .i64 z.n.c, .int .i64 z.n.d, .int .i64 z.e] 114 := by rw [hW2]; (repeat (first | with_reducible assumption | with_reducible exact Blk.new' _ _ (by first | omega | (simp; done) | (simp; omega)) | with_reducible apply Blk.set5 | with_reducible apply Blk.set4 | with_reducible refine Blk.other ?_ (by first | omega | (simp; done) | (simp; omega)) _ | with_reducible refine Blk.drew ?_ | with_reducible refine Blk.alloc ?_ _ | with_reducible refine Blk.below ?_ (by assumption) (by first | omega | (simp; done) | (simp; omega))))
                   have hXb : wr.heap.size ≤ wr.heap.size := Nat.le_refl _
                   generalize hxb : wr.heap.size = xb at hX2 hXb ⊢
                   have hxb' := Nat.le_of_eq hxb
                   have hxb'' := Nat.le_of_eq hxb.symm
                   clear hxb)
              clear hW2 cBi fBi sBi d0 d1 d2 d3 d4 y0 y1 y2 y3 y4 cAt
              obtain ⟨cB2, fB2, sB2⟩ := hB2.facts
              obtain ⟨cX2, fX2, sX2⟩ := hX2.facts
              obtain ⟨hlb2, cAt2, _⟩ := (hRi.below hb2) k hk
              rw [HT.out] at cAt2
              dsimp only at cAt2
              obtain ⟨hDu, q7, q8⟩ := (hSi.below hb2 (Nat.le_refl _)).at (j := t) (by rw [HLi.out]; exact ht)
              rw [← getD_get] at hDu
              obtain ⟨u, hu⟩ : ∃ u, u = ok.getD t ⟨⟨0, 0, 0, 0⟩, 0⟩ := ⟨_, rfl⟩
              rw [← hu] at hDu
              obtain ⟨u0, u1, u2, u3, u4⟩ := hDu
              obtain ⟨y2, m2, hym⟩ : ∃ y2 m2, addD u z = (y2, m2) := ⟨_, _, rfl⟩
              have hA : ∀ w, Calls Try.prog 122 #[Dv u, Dv z] w fun e w' => e = .returned (.tuple #[Dv y2, .bool m2]) ∧ Below w.heap.size w w' := fun w => by
                have := sAddD' u z w
                rwa [hym] at this
              have HU := Lib.hid hu
              have HY := Lib.hid hym
              have hs2 := hb2.size
              clear hu hym q8
              have hGx : G ≠ xb := by omega
              have hG2 : G < W2.heap.size := by omega
              go_region_held3 (fun w' => Below W2.heap.size W2 w' ∧ (∀ b o, b < W2.heap.size → w'.cell? ⟨b, o, none⟩ = W2.cell? ⟨b, o, none⟩) ∧ (∀ b o, b < W2.heap.size → w'.frozen? ⟨b, o, none⟩ = W2.frozen? ⟨b, o, none⟩) ∧ W2.heap.size ≤ w'.heap.size) ((exact bpack (by (repeat (first | with_reducible exact Below.refl _ _ | with_reducible assumption | with_reducible refine Below.setCell ?_ (by first | omega | (simp; done) | (simp; omega)) _ | with_reducible refine Below.alloc ?_ (by first | omega | (simp; done) | (simp; omega)) _ | with_reducible refine Below.drew ?_ | with_reducible refine belowDrewN ?_ _ | with_reducible refine Below.trans ?_ (Below.mono (by assumption) (by first | omega | (simp; done) | (simp; omega)))))))) (first | (go_at_call 122; refine (hA _).mono ?_; rintro e wd ⟨rfl, hb⟩; obtain ⟨hc, hf, hz⟩ := bcell hb; (try simp only [World.size_drew, World.cell?_drew, World.frozen?_drew] at hc hf hz); (try simp at hz); (try have kk := fun o => hc (w.heap.size) o (by first | omega | (simp; done) | (simp; omega))); (try have kf := fun o => hf (w.heap.size) o (by first | omega | (simp; done) | (simp; omega))); (try have zz : w.heap.size < wd.heap.size := by omega); (try have kk := fun o => hc (lb) o (by first | omega | (simp; done) | (simp; omega))); (try have kf := fun o => hf (lb) o (by first | omega | (simp; done) | (simp; omega))); (try have zz : lb < wd.heap.size := by omega); (try have kk := fun o => hc (G) o (by first | omega | (simp; done) | (simp; omega))); (try have kf := fun o => hf (G) o (by first | omega | (simp; done) | (simp; omega))); (try have zz : G < wd.heap.size := by omega); (try have kk := fun o => hc (xb) o (by first | omega | (simp; done) | (simp; omega))); (try have kf := fun o => hf (xb) o (by first | omega | (simp; done) | (simp; omega))); (try have zz : xb < wd.heap.size := by omega); (try have kk := fun o => hc (W2.heap.size) o (by first | omega | (simp; done) | (simp; omega))); (try have kf := fun o => hf (W2.heap.size) o (by first | omega | (simp; done) | (simp; omega))); (try have zz : W2.heap.size < wd.heap.size := by omega)))
              all_goals
                have hnoF : (m && m2) = false → applyG g v = ([], false) := fun hmm => by
                  refine hfail.out ?_
                  rw [← HL2.out, ← HX.out, hno.out (by rw [← HU.out, HY.out]; exact hmm)]
                  simp
                have HNO := Lib.hid hnoF
                have hyesT : m = true → m2 = true → addL (ok.set t y2) (l.drop (k + 1)) x = addL out l x := fun h1 h2 => by
                  have := hyes.out h1 (by rw [← HU.out, HY.out]; exact h2)
                  rwa [← HU.out, HY.out] at this
                have HYES := Lib.hid hyesT
                have hokT : m2 = true → ∀ y ∈ ok.set t y2, y.ok = true := fun h2 y hy => by
                  rcases List.mem_or_eq_of_mem_set hy with hy | rfl
                  · exact HOi.out y hy
                  · have := addD_ok (x := u) (y := z) (by rw [HY.out]; exact h2)
                    rwa [HY.out] at this
                have HOK := Lib.hid hokT
                clear hnoF hyesT hokT hyes hno
                clear hM hA
                rcases m with _ | _ <;> rcases m2 with _ | _
              all_goals first
                | (have hfin := Lib.hid (HNO.out rfl)
                   go_wp2
                   go_ret2
                   exact ⟨.slice (some ⟨_, 0, none⟩) 0 0, by rw [hfin.out]; rfl, by rw [hfin.out]; exact OwnS.empty' (by simp) (by first | omega | (simp; done) | (simp; omega)), by (repeat (first | with_reducible exact Below.refl _ _ | with_reducible assumption | with_reducible refine Below.setCell ?_ (by first | omega | (simp; done) | (simp; omega)) _ | with_reducible refine Below.alloc ?_ (by first | omega | (simp; done) | (simp; omega)) _ | with_reducible refine Below.drew ?_ | with_reducible refine belowDrewN ?_ _ | with_reducible refine Below.trans ?_ (Below.mono (by assumption) (by first | omega | (simp; done) | (simp; omega)))))⟩)
                | skip
              all_goals
                have HN := Lib.hid (HYES.out rfl rfl)
                have HO2 := Lib.hid (HOK.out rfl)
                clear HYES HOK HNO
                go_wp2
                refine wp_gen fun W3 hW3 => ?_
                have hB3 : Blk W3 w.heap.size [.int .i64 g.k, .int .i64 g.a, .int .i64 g.b, .int .i64 g.c] 59 := by rw [hW3]; (repeat (first | with_reducible assumption | with_reducible exact Blk.new' _ _ (by first | omega | (simp; done) | (simp; omega)) | with_reducible apply Blk.set5 | with_reducible apply Blk.set4 | with_reducible refine Blk.other ?_ (by first | omega | (simp; done) | (simp; omega)) _ | with_reducible refine Blk.drew ?_ | with_reducible refine Blk.alloc ?_ _ | with_reducible refine Blk.below ?_ (by assumption) (by first | omega | (simp; done) | (simp; omega))))
                have hb3 : Below W2.heap.size W2 W3 := by rw [hW3]; (repeat (first | with_reducible exact Below.refl _ _ | with_reducible assumption | with_reducible refine Below.setCell ?_ (by first | omega | (simp; done) | (simp; omega)) _ | with_reducible refine Below.alloc ?_ (by first | omega | (simp; done) | (simp; omega)) _ | with_reducible refine Below.drew ?_ | with_reducible refine belowDrewN ?_ _ | with_reducible refine Below.trans ?_ (Below.mono (by assumption) (by first | omega | (simp; done) | (simp; omega)))))
                first
                  | (have hY3 : Blk W3 wd.heap.size [.int .i64 y2.n.a, .int .i64 y2.n.b, .int .i64 y2.n.c, .int .i64 y2.n.d, .int .i64 y2.e] 114 := by rw [hW3]; (repeat (first | with_reducible assumption | with_reducible exact Blk.new' _ _ (by first | omega | (simp; done) | (simp; omega)) | with_reducible apply Blk.set5 | with_reducible apply Blk.set4 | with_reducible refine Blk.other ?_ (by first | omega | (simp; done) | (simp; omega)) _ | with_reducible refine Blk.drew ?_ | with_reducible refine Blk.alloc ?_ _ | with_reducible refine Blk.below ?_ (by assumption) (by first | omega | (simp; done) | (simp; omega))))
                     have hYb : W2.heap.size ≤ wd.heap.size := by omega
                     generalize wd.heap.size = yb at hY3 hYb ⊢)
                  | (have hY3 : Blk W3 W2.heap.size [.int .i64 y2.n.a, .int .i64 y2.n.b, .int .i64 y2.n.c, .int .i64 y2.n.d, .int .i64 y2.e] 114 := by rw [hW3]; (repeat (first | with_reducible assumption | with_reducible exact Blk.new' _ _ (by first | omega | (simp; done) | (simp; omega)) | with_reducible apply Blk.set5 | with_reducible apply Blk.set4 | with_reducible refine Blk.other ?_ (by first | omega | (simp; done) | (simp; omega)) _ | with_reducible refine Blk.drew ?_ | with_reducible refine Blk.alloc ?_ _ | with_reducible refine Blk.below ?_ (by assumption) (by first | omega | (simp; done) | (simp; omega))))
                     have hYb : W2.heap.size ≤ W2.heap.size := Nat.le_refl _
                     generalize hyb : W2.heap.size = yb at hY3 hYb ⊢
                     have hyb' := Nat.le_of_eq hyb
                     have hyb'' := Nat.le_of_eq hyb.symm
                     clear hyb)
                clear hW3 cB2 fB2 cX2 fX2 u0 u1 u2 u3 u4 cAt2
                have hbr : Below wr.heap.size wr W3 := hb2.trans (hb3.mono (by omega))
                have hs3 := hb3.size
                obtain ⟨cY3, fY3, sY3⟩ := hY3.facts
                have hR3 := hRi.below hbr
                obtain ⟨hlb3, cAt3, _⟩ := hR3 k hk
                rw [HT.out] at cAt3
                dsimp only at cAt3
                obtain ⟨hDu3, q7, q8⟩ := (hSi.below hbr (Nat.le_refl _)).at (j := t) (by rw [HLi.out]; exact ht)
                obtain ⟨u0, u1, u2, u3, u4⟩ := hDu3
                have hS5 := Lib.hid ((q8 W3 y2 (Below.refl _ _)).below (w' := (setD W3 G t y2).drew) (Below.refl _ _).drew (Nat.le_refl _))
                have hg5 : W3.grownBy (setD W3 G t y2).drew (some G) := grown_drew (setD_grown (Below.refl _ _))
                have hB5 := hB3.grown hg5 hwG
                have hR5 := hR3.grown hg5 hlbG
                have hG5 : G < (setD W3 G t y2).drew.heap.size := Nat.lt_of_lt_of_le (by omega) hg5.size
                have hb5 : Below w.heap.size w (setD W3 G t y2).drew := (setD_below (hbi.trans (hbr.mono hsi)) (by omega)).drew
                have H5 := Lib.hid (And.intro hB5 (And.intro hR5 (And.intro hG5 hb5)))
                clear q8 hg5 hB5 hR5 hG5 hb5 hR3 hB3 hY3 hb3 hB2 hX2
                refine wp_region_still_tail 8 (by kernel_rfl) (by kernel_rfl) ?_
                simp only [List.take_succ_cons, List.take_zero, List.drop_succ_cons, List.drop_zero]
                refine still_of_quiet _ _ ?_
                repeat (go_big_quiet_step (fail))
                refine wpQuiet_nil ?_
                change wpList _ _ _ _ _ W3.drew
                go_wp2
                go_roundw
                case rel => exact ⟨k + 1, _, by go_num, by omega, hS5.out, by simp only [Hid, List.length_set]; exact HLi.out, HO2.out, HN.out, H5.out.1, H5.out.2.1, H5.out.2.2.1, H5.out.2.2.2⟩
                case measure => simp [intOf]; omega
          · have hfin := addL_end hk hinvi.out
            have hnext : applyL g (j + 1) (v.drop (j + 1)) ok = applyG g v := by
              have := hmore.out (by rw [← HL2.out, ← HX.out, hfin])
              rwa [← HL2.out, ← HX.out, hfin] at this
            have HN := Lib.hid hnext
            clear hfin hnext hinvi hmore hfail hC
            go_wp2
            go_roundw
            case rel => exact ⟨j + 1, ok, by go_num, by omega, hSi, HLi, HOi, HN.out, hBi, hGi, hbi⟩
            case measure => simp [intOf]; omega
    · have hfin := Lib.hid (applyL_end hj hinv.out)
      clear hinv h
      have hS2 := hS
      rw [← HL.out] at hS2
      go_wp2
      go_ret2
      exact ⟨_, by rw [hfin.out]; rfl, by rw [hfin.out]; exact hS, hb0⟩

end Go.Proofs.Yteckhaafdojoeaa

/-! S34: The walk of spec.ApplyGate: all gates, all states. -/
namespace Go.Proofs.Yteckhaafdojoeaa
open Go.RowKit BigFrame

set_option maxRecDepth 100000 in
set_option maxHeartbeats 8000000 in
theorem sApplyGate (g : GT) (ao : Option Addr) (v : List DO) (cap : Nat) (hn : v.length ≤ 2000000) (w : World) (h : StR w ao v) :
    Calls Try.prog 45 #[Gv g, .slice ao v.length cap] w fun e w' => ∃ x, e = .returned (.tuple #[x, .bool (applyG g v).2]) ∧ OwnS w' w.heap.size x (applyG g v).1 ∧ Below w.heap.size w w' := by
  by_cases hs : okS v = true
  · by_cases hg : g.ok (qc v.length) = true
    · exact sApplyG g ao v cap hn hs hg w h
    · have hfin := Lib.hid (applyG_no (g := g) (v := v) (by rw [hs]; simpa using hg))
      have hg' : g.ok (qc v.length) = false := by simpa using hg
      have hV : ∀ w, Calls Try.prog 118 #[Gv g, .int .i64 (qc v.length)] w fun e w' => e = .returned (.bool false) ∧ Below w.heap.size w w' := fun w => by
        have := sIsValidGate g (qc v.length) w
        rwa [hg'] at this
      clear hg hg'
      go_enter Try.func45, Try.ntmps45
      go_wp2
      refine wp_gen fun W hW => ?_
      have hB : Blk W w.heap.size [.int .i64 g.k, .int .i64 g.a, .int .i64 g.b, .int .i64 g.c] 59 := by rw [hW]; exact Blk.new' _ _ rfl
      have hb0 : Below w.heap.size w W := by rw [hW]; (repeat (first | with_reducible exact Below.refl _ _ | with_reducible assumption | with_reducible refine Below.setCell ?_ (by first | omega | (simp; done) | (simp; omega)) _ | with_reducible refine Below.alloc ?_ (by first | omega | (simp; done) | (simp; omega)) _ | with_reducible refine Below.drew ?_ | with_reducible refine belowDrewN ?_ _ | with_reducible refine Below.trans ?_ (Below.mono (by assumption) (by first | omega | (simp; done) | (simp; omega)))))
      have hs0 : w.heap.size + 1 ≤ W.heap.size := by rw [hW]; simp
      clear hW
      obtain ⟨cB, fB, sB⟩ := hB.facts
      have hv : ∀ w', Below W.heap.size W w' → StR w' ao v := fun w' hb => (h.below hb0).below hb
      go_region_held3 (fun w' => Below W.heap.size W w' ∧ (∀ b o, b < W.heap.size → w'.cell? ⟨b, o, none⟩ = W.cell? ⟨b, o, none⟩) ∧ (∀ b o, b < W.heap.size → w'.frozen? ⟨b, o, none⟩ = W.frozen? ⟨b, o, none⟩) ∧ W.heap.size ≤ w'.heap.size) ((exact bpack (by (repeat (first | with_reducible exact Below.refl _ _ | with_reducible assumption | with_reducible refine Below.setCell ?_ (by first | omega | (simp; done) | (simp; omega)) _ | with_reducible refine Below.alloc ?_ (by first | omega | (simp; done) | (simp; omega)) _ | with_reducible refine Below.drew ?_ | with_reducible refine belowDrewN ?_ _ | with_reducible refine Below.trans ?_ (Below.mono (by assumption) (by first | omega | (simp; done) | (simp; omega)))))))) (first | (go_at_call 119; refine (sIsValidState _ _ _ (by omega) _ (hv _ (by (repeat (first | with_reducible exact Below.refl _ _ | with_reducible assumption | with_reducible refine Below.setCell ?_ (by first | omega | (simp; done) | (simp; omega)) _ | with_reducible refine Below.alloc ?_ (by first | omega | (simp; done) | (simp; omega)) _ | with_reducible refine Below.drew ?_ | with_reducible refine belowDrewN ?_ _ | with_reducible refine Below.trans ?_ (Below.mono (by assumption) (by first | omega | (simp; done) | (simp; omega)))))))).mono ?_; rintro e w1 ⟨rfl, hb⟩; obtain ⟨hc, hf, hz⟩ := bcell hb; (try simp only [World.size_drew, World.cell?_drew, World.frozen?_drew] at hc hf hz); (try simp at hz); (try have kk := fun o => hc (w.heap.size) o (by first | omega | (simp; done) | (simp; omega))); (try have kf := fun o => hf (w.heap.size) o (by first | omega | (simp; done) | (simp; omega))); (try have zz : w.heap.size < w1.heap.size := by omega)) | (go_at_call 70; refine (sQubitCount _ _ _ (by omega) _).mono ?_; rintro e w8 ⟨rfl, rfl⟩) | (go_at_call 118; refine (hV _).mono ?_; rintro e w2 ⟨rfl, hb⟩; obtain ⟨hc, hf, hz⟩ := bcell hb; (try simp only [World.size_drew, World.cell?_drew, World.frozen?_drew] at hc hf hz); (try simp at hz); (try have kk := fun o => hc (w.heap.size) o (by first | omega | (simp; done) | (simp; omega))); (try have kf := fun o => hf (w.heap.size) o (by first | omega | (simp; done) | (simp; omega))); (try have zz : w.heap.size < w2.heap.size := by omega)))
      all_goals go_wp2
      all_goals go_ret2
      all_goals exact ⟨.slice (some ⟨_, 0, none⟩) 0 0, by rw [hfin.out]; rfl, by rw [hfin.out]; exact OwnS.empty' (by simp) (by first | omega | (simp; done) | (simp; omega)), by (repeat (first | with_reducible exact Below.refl _ _ | with_reducible assumption | with_reducible refine Below.setCell ?_ (by first | omega | (simp; done) | (simp; omega)) _ | with_reducible refine Below.alloc ?_ (by first | omega | (simp; done) | (simp; omega)) _ | with_reducible refine Below.drew ?_ | with_reducible refine belowDrewN ?_ _ | with_reducible refine Below.trans ?_ (Below.mono (by assumption) (by first | omega | (simp; done) | (simp; omega)))))⟩
  · have hs' : okS v = false := by simpa using hs
    have hfin := Lib.hid (applyG_no (g := g) (v := v) (by rw [hs']; rfl))
    clear hs
    go_enter Try.func45, Try.ntmps45
    go_wp2
    refine wp_gen fun W hW => ?_
    have hB : Blk W w.heap.size [.int .i64 g.k, .int .i64 g.a, .int .i64 g.b, .int .i64 g.c] 59 := by rw [hW]; exact Blk.new' _ _ rfl
    have hb0 : Below w.heap.size w W := by rw [hW]; (repeat (first | with_reducible exact Below.refl _ _ | with_reducible assumption | with_reducible refine Below.setCell ?_ (by first | omega | (simp; done) | (simp; omega)) _ | with_reducible refine Below.alloc ?_ (by first | omega | (simp; done) | (simp; omega)) _ | with_reducible refine Below.drew ?_ | with_reducible refine belowDrewN ?_ _ | with_reducible refine Below.trans ?_ (Below.mono (by assumption) (by first | omega | (simp; done) | (simp; omega)))))
    have hs0 : w.heap.size + 1 ≤ W.heap.size := by rw [hW]; simp
    clear hW
    obtain ⟨cB, fB, sB⟩ := hB.facts
    have hv : ∀ w', Below W.heap.size W w' → StR w' ao v := fun w' hb => (h.below hb0).below hb
    have hI : ∀ w', Below W.heap.size W w' → Calls Try.prog 119 #[.slice ao v.length cap] w' fun e w'' => e = .returned (.bool false) ∧ Below w'.heap.size w' w'' := fun w' hb => by
      have := sIsValidState ao v cap (by omega) w' (hv w' hb)
      rwa [hs'] at this
    clear hs'
    have hne : Nonempty (BW W) := ⟨⟨W, Below.refl _ _⟩⟩
    refine wp_region_quietC (fun w' => ∃ u : BW W, w' = u.w) (by kernel_rfl) (by kernel_rfl) ⟨⟨_, (Below.refl _ _).drew⟩, rfl⟩ ?_
    go_big_quiet_step (fail)
    go_big_quiet_want
    go_big_quiet_op
    refine ⟨.bool false, ?_, ?_⟩
    · intro u
      refine (hI u.w u.h).mono ?_
      rintro e w1 ⟨rfl, hb1⟩
      exact ⟨rfl, ⟨w1, u.h.trans (hb1.mono u.h.size)⟩, rfl⟩
    go_big_quiet_on
    repeat (go_big_quiet_step (fail))
    refine wpQuiet_nil ?_
    rintro _ ⟨⟨w2, hb2⟩, rfl⟩
    have hb3 := hb0.trans (hb2.mono (by omega))
    have hs2 := hb2.size
    go_wp2
    go_ret2
    exact ⟨.slice (some ⟨_, 0, none⟩) 0 0, by rw [hfin.out]; rfl, by rw [hfin.out]; exact OwnS.empty' (by simp) (by first | omega | (simp; done) | (simp; omega)), hb3.alloc (by omega) _⟩

end Go.Proofs.Yteckhaafdojoeaa
