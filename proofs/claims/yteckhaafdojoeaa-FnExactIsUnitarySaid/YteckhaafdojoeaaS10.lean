/- Basis states. -/
import Derived.Test.YteckhaafdojoeaaS9
namespace Go.Proofs.Yteckhaafdojoeaa
open Go.RowKit

def basis (n i : Int) : List DO := if inR 1 4 n && inR 0 (2 ^ n.toNat - 1) i then (List.replicate (2 ^ n.toNat) (⟨⟨0, 0, 0, 0⟩, 0⟩ : DO)).set i.toNat ⟨⟨1, 0, 0, 0⟩, 0⟩ else []
theorem basis_no {n i : Int} (h : ¬ inR 1 4 n = true ∨ ¬ inR 0 (2 ^ n.toNat - 1) i = true) : basis n i = [] := by
  rw [basis, if_neg]
  intro e
  rw [Bool.and_eq_true] at e
  rcases h with h | h
  · exact h e.1
  · exact h e.2
theorem basis_yes {n : Int} {j N : Nat} (h1 : inR 1 4 n = true) (h2 : 2 ^ n.toNat = N) (hj : j < N) : basis n j = (List.replicate N (⟨⟨0, 0, 0, 0⟩, 0⟩ : DO)).set j ⟨⟨1, 0, 0, 0⟩, 0⟩ := by
  have h3 : ((2 : Int) ^ n.toNat) = (N : Int) := by rw [← h2]; simp
  rw [basis, if_pos, h2]
  · simp
  · rw [Bool.and_eq_true, h3]
    exact ⟨h1, (inR_iff _ _ _).2 (by omega)⟩

theorem cellsD_zero (N : Nat) : cellsD (List.replicate N (⟨⟨0, 0, 0, 0⟩, 0⟩ : DO)) = List.replicate (N * 5) (.int .i64 0) := by
  rw [List.eq_replicate_iff, cellsD_length, List.length_replicate]
  refine ⟨rfl, fun b hb => ?_⟩
  simp only [cellsD, List.mem_flatMap, List.mem_replicate] at hb
  obtain ⟨x, ⟨_, rfl⟩, hb⟩ := hb
  simp only [dcells, List.mem_cons, List.not_mem_nil, or_false, or_self] at hb
  exact hb
theorem made_zero (N : Nat) : (madeCells (Value.agg #[.int .i64 0, .int .i64 0, .int .i64 0, .int .i64 0, .int .i64 0]).cells (N * 5)).toList = List.replicate (N * 5) (.int .i64 0) := by
  rw [List.eq_replicate_iff]
  refine ⟨by simp [madeCells], fun b hb => ?_⟩
  simp only [madeCells, Array.toList_map, List.mem_map] at hb
  obtain ⟨k, _, rfl⟩ := hb
  have h5 : k % 5 < 5 := Nat.mod_lt _ (by decide)
  generalize hk : k % 5 = r at h5
  show (#[(.int .i64 0 : Value), .int .i64 0, .int .i64 0, .int .i64 0, .int .i64 0])[k % 5]! = _
  rw [hk]
  match r, h5 with
  | 0, _ => rfl
  | 1, _ => rfl
  | 2, _ => rfl
  | 3, _ => rfl
  | 4, _ => rfl
theorem OwnS.made {w : World} {base : Nat} {v : Value} {N : Nat} (h : w.ownsRow base TD 5 v N (madeCells (Value.agg #[.int .i64 0, .int .i64 0, .int .i64 0, .int .i64 0, .int .i64 0]).cells (N * 5)).toList) : OwnS w base v (List.replicate N (⟨⟨0, 0, 0, 0⟩, 0⟩ : DO)) := by
  unfold OwnS
  rw [cellsD_zero, List.length_replicate, ← made_zero]
  exact h
theorem OwnS.cells {w : World} {base g n cap : Nat} {l : List DO} (h : OwnS w base (.slice (some ⟨g, 0, none⟩) n cap) l) {i : Nat} (hi : i < l.length) : DAt w g (i * 5) l[i] := by
  obtain ⟨ao, c, e, hR, _⟩ := h.read
  cases e
  obtain ⟨b, o, e, _, hD⟩ := hR i hi
  cases e
  simpa using hD
theorem OwnS.frozen {w : World} {base g n cap : Nat} {l : List DO} (h : OwnS w base (.slice (some ⟨g, 0, none⟩) n cap) l) (o : Nat) : w.frozen? ⟨g, o, none⟩ = false := by
  rcases h.2 with ⟨e, _⟩ | ⟨g', cap', cur, e, _, hg, _⟩
  · cases e
  · cases e
    simp [World.frozen?, hg]
theorem cellsD_set : ∀ (l : List DO) (i : Nat) (x : DO), i < l.length → (((((cellsD l).set (i * 5) (.int .i64 x.n.a)).set (i * 5 + 1) (.int .i64 x.n.b)).set (i * 5 + 2) (.int .i64 x.n.c)).set (i * 5 + 3) (.int .i64 x.n.d)).set (i * 5 + 4) (.int .i64 x.e) = cellsD (l.set i x)
  | y :: l, 0, x, _ => by simp [cellsD, dcells]
  | y :: l, i + 1, x, h => by
    have := cellsD_set l i x (by simpa using h)
    simp only [cellsD, List.flatMap_cons, List.set_cons_succ] at *
    rw [← this]
    simp [dcells, Nat.add_mul, Nat.add_assoc]
theorem OwnS.set {w : World} {base g n cap : Nat} {l : List DO} (h : OwnS w base (.slice (some ⟨g, 0, none⟩) n cap) l) (i : Nat) (hi : i < l.length) (x : DO) :
    OwnS (((((w.setCell ⟨g, i * 5, none⟩ (.int .i64 x.n.a)).setCell ⟨g, i * 5 + 1, none⟩ (.int .i64 x.n.b)).setCell ⟨g, i * 5 + 2, none⟩ (.int .i64 x.n.c)).setCell ⟨g, i * 5 + 3, none⟩ (.int .i64 x.n.d)).setCell ⟨g, i * 5 + 4, none⟩ (.int .i64 x.e)) base (.slice (some ⟨g, 0, none⟩) n cap) (l.set i x) := by
  have hn : n = l.length := by
    obtain ⟨ao, c, e, _⟩ := h.read
    cases e
    rfl
  subst hn
  unfold OwnS at *
  rw [List.length_set, ← cellsD_set l i x hi]
  have h1 := (World.ownsRow.stored h (i * 5) (.int .i64 x.n.a)).1
  have h2 := (World.ownsRow.stored h1 (i * 5 + 1) (.int .i64 x.n.b)).1
  have h3 := (World.ownsRow.stored h2 (i * 5 + 2) (.int .i64 x.n.c)).1
  have h4 := (World.ownsRow.stored h3 (i * 5 + 3) (.int .i64 x.n.d)).1
  exact (World.ownsRow.stored h4 (i * 5 + 4) (.int .i64 x.e)).1

set_option maxHeartbeats 4000000 in
theorem iBasisState (n i : Int) (w : World) :
    Calls Try.prog 97 #[.int .i64 n, .int .i64 i] w fun e w' => ∃ v, e = .returned v ∧ OwnS w' w.heap.size v (basis n i) ∧ Below w.heap.size w w' := by
  obtain ⟨iD, hiD, hzD0, hzD1, hzD2⟩ := info_parts infoD
  by_cases hn : inR 1 4 n = true
  · have hn' := (inR_iff _ _ _).1 hn
    have hcase : n = 1 ∨ n = 2 ∨ n = 3 ∨ n = 4 := by omega
    rcases hcase with rfl | rfl | rfl | rfl
    · by_cases hi : inR 0 1 i = true
      · have hi' := (inR_iff _ _ _).1 hi
        obtain ⟨j, rfl⟩ := Int.eq_ofNat_of_zero_le hi'.1
        have hj : j < 2 := by omega
        have hfin := Lib.hid (basis_yes (n := 1) (j := j) (N := 2) rfl rfl hj)
        clear hi'
        go_enter Try.func97, Try.ntmps97
        go_wp2_with (first | (go_at_call 116; refine (iIn _ _ _ _).mono ?_; rintro e w1 ⟨rfl, rfl⟩) | (at_make; refine wpList_make_full _ rfl _ _ 56 rfl w.heap.size TD iD _ 5 Try.underlying56 hiD hzD0 hzD1 _ _ _ _ 2 rfl rfl rfl rfl (by omega) (by decide) (Nat.le_refl _) ?_))
        intro w1 hown hgrow
        have hS := OwnS.made (N := 2) hown
        have hb1 : Below w.heap.size w w1 := (Below.refl _ _).grown hgrow (Nat.le_refl _) (fun k hk => by cases hk)
        have hs1 := hb1.size
        clear hown hgrow
        go_wp2_with fail
        refine (iOne _).mono ?_
        rintro e w2 ⟨rfl, hb2⟩
        have hS2 := hS.below hb2 (Nat.le_refl _)
        have hs2 := hb2.size
        have hlt : w.heap.size < w2.heap.size := by
          have := (World.ownsRow.lt hS2 w.heap.size rfl).2
          omega
        obtain ⟨d0, d1, d2, d3, d4⟩ := hS2.cells (i := j) (by simpa using hj)
        have hfz := hS2.frozen
        have hset := hS2.set j (by simpa using hj) ⟨⟨1, 0, 0, 0⟩, 0⟩
        go_wp2
        go_ret
        rw [hfin.out]
        refine ⟨_, rfl, hset, by (repeat (first | with_reducible exact Below.refl _ _ | with_reducible assumption | with_reducible refine Below.setCell ?_ (by first | omega | (simp; done) | (simp; omega)) _ | with_reducible refine Below.alloc ?_ (by first | omega | (simp; done) | (simp; omega)) _ | with_reducible refine Below.drew ?_ | with_reducible refine belowDrewN ?_ _ | with_reducible refine Below.trans ?_ (Below.mono (by assumption) (by first | omega | (simp; done) | (simp; omega)))))⟩
      · have hfin := Lib.hid (basis_no (n := 1) (i := i) (by right; exact hi))
        go_enter Try.func97, Try.ntmps97
        go_wp2_with (go_at_call 116; refine (iIn _ _ _ _).mono ?_; rintro e w1 ⟨rfl, rfl⟩)
        go_ret
        rw [hfin.out]
        exact ⟨_, rfl, OwnS.nil _ _, by (repeat (first | with_reducible exact Below.refl _ _ | with_reducible assumption | with_reducible refine Below.setCell ?_ (by first | omega | (simp; done) | (simp; omega)) _ | with_reducible refine Below.alloc ?_ (by first | omega | (simp; done) | (simp; omega)) _ | with_reducible refine Below.drew ?_ | with_reducible refine belowDrewN ?_ _ | with_reducible refine Below.trans ?_ (Below.mono (by assumption) (by first | omega | (simp; done) | (simp; omega)))))⟩
    · by_cases hi : inR 0 3 i = true
      · have hi' := (inR_iff _ _ _).1 hi
        obtain ⟨j, rfl⟩ := Int.eq_ofNat_of_zero_le hi'.1
        have hj : j < 4 := by omega
        have hfin := Lib.hid (basis_yes (n := 2) (j := j) (N := 4) rfl rfl hj)
        clear hi'
        go_enter Try.func97, Try.ntmps97
        go_wp2_with (first | (go_at_call 116; refine (iIn _ _ _ _).mono ?_; rintro e w1 ⟨rfl, rfl⟩) | (at_make; refine wpList_make_full _ rfl _ _ 56 rfl w.heap.size TD iD _ 5 Try.underlying56 hiD hzD0 hzD1 _ _ _ _ 4 rfl rfl rfl rfl (by omega) (by decide) (Nat.le_refl _) ?_))
        intro w1 hown hgrow
        have hS := OwnS.made (N := 4) hown
        have hb1 : Below w.heap.size w w1 := (Below.refl _ _).grown hgrow (Nat.le_refl _) (fun k hk => by cases hk)
        have hs1 := hb1.size
        clear hown hgrow
        go_wp2_with fail
        refine (iOne _).mono ?_
        rintro e w2 ⟨rfl, hb2⟩
        have hS2 := hS.below hb2 (Nat.le_refl _)
        have hs2 := hb2.size
        have hlt : w.heap.size < w2.heap.size := by
          have := (World.ownsRow.lt hS2 w.heap.size rfl).2
          omega
        obtain ⟨d0, d1, d2, d3, d4⟩ := hS2.cells (i := j) (by simpa using hj)
        have hfz := hS2.frozen
        have hset := hS2.set j (by simpa using hj) ⟨⟨1, 0, 0, 0⟩, 0⟩
        go_wp2
        go_ret
        rw [hfin.out]
        refine ⟨_, rfl, hset, by (repeat (first | with_reducible exact Below.refl _ _ | with_reducible assumption | with_reducible refine Below.setCell ?_ (by first | omega | (simp; done) | (simp; omega)) _ | with_reducible refine Below.alloc ?_ (by first | omega | (simp; done) | (simp; omega)) _ | with_reducible refine Below.drew ?_ | with_reducible refine belowDrewN ?_ _ | with_reducible refine Below.trans ?_ (Below.mono (by assumption) (by first | omega | (simp; done) | (simp; omega)))))⟩
      · have hfin := Lib.hid (basis_no (n := 2) (i := i) (by right; exact hi))
        go_enter Try.func97, Try.ntmps97
        go_wp2_with (go_at_call 116; refine (iIn _ _ _ _).mono ?_; rintro e w1 ⟨rfl, rfl⟩)
        go_ret
        rw [hfin.out]
        exact ⟨_, rfl, OwnS.nil _ _, by (repeat (first | with_reducible exact Below.refl _ _ | with_reducible assumption | with_reducible refine Below.setCell ?_ (by first | omega | (simp; done) | (simp; omega)) _ | with_reducible refine Below.alloc ?_ (by first | omega | (simp; done) | (simp; omega)) _ | with_reducible refine Below.drew ?_ | with_reducible refine belowDrewN ?_ _ | with_reducible refine Below.trans ?_ (Below.mono (by assumption) (by first | omega | (simp; done) | (simp; omega)))))⟩
    · by_cases hi : inR 0 7 i = true
      · have hi' := (inR_iff _ _ _).1 hi
        obtain ⟨j, rfl⟩ := Int.eq_ofNat_of_zero_le hi'.1
        have hj : j < 8 := by omega
        have hfin := Lib.hid (basis_yes (n := 3) (j := j) (N := 8) rfl rfl hj)
        clear hi'
        go_enter Try.func97, Try.ntmps97
        go_wp2_with (first | (go_at_call 116; refine (iIn _ _ _ _).mono ?_; rintro e w1 ⟨rfl, rfl⟩) | (at_make; refine wpList_make_full _ rfl _ _ 56 rfl w.heap.size TD iD _ 5 Try.underlying56 hiD hzD0 hzD1 _ _ _ _ 8 rfl rfl rfl rfl (by omega) (by decide) (Nat.le_refl _) ?_))
        intro w1 hown hgrow
        have hS := OwnS.made (N := 8) hown
        have hb1 : Below w.heap.size w w1 := (Below.refl _ _).grown hgrow (Nat.le_refl _) (fun k hk => by cases hk)
        have hs1 := hb1.size
        clear hown hgrow
        go_wp2_with fail
        refine (iOne _).mono ?_
        rintro e w2 ⟨rfl, hb2⟩
        have hS2 := hS.below hb2 (Nat.le_refl _)
        have hs2 := hb2.size
        have hlt : w.heap.size < w2.heap.size := by
          have := (World.ownsRow.lt hS2 w.heap.size rfl).2
          omega
        obtain ⟨d0, d1, d2, d3, d4⟩ := hS2.cells (i := j) (by simpa using hj)
        have hfz := hS2.frozen
        have hset := hS2.set j (by simpa using hj) ⟨⟨1, 0, 0, 0⟩, 0⟩
        go_wp2
        go_ret
        rw [hfin.out]
        refine ⟨_, rfl, hset, by (repeat (first | with_reducible exact Below.refl _ _ | with_reducible assumption | with_reducible refine Below.setCell ?_ (by first | omega | (simp; done) | (simp; omega)) _ | with_reducible refine Below.alloc ?_ (by first | omega | (simp; done) | (simp; omega)) _ | with_reducible refine Below.drew ?_ | with_reducible refine belowDrewN ?_ _ | with_reducible refine Below.trans ?_ (Below.mono (by assumption) (by first | omega | (simp; done) | (simp; omega)))))⟩
      · have hfin := Lib.hid (basis_no (n := 3) (i := i) (by right; exact hi))
        go_enter Try.func97, Try.ntmps97
        go_wp2_with (go_at_call 116; refine (iIn _ _ _ _).mono ?_; rintro e w1 ⟨rfl, rfl⟩)
        go_ret
        rw [hfin.out]
        exact ⟨_, rfl, OwnS.nil _ _, by (repeat (first | with_reducible exact Below.refl _ _ | with_reducible assumption | with_reducible refine Below.setCell ?_ (by first | omega | (simp; done) | (simp; omega)) _ | with_reducible refine Below.alloc ?_ (by first | omega | (simp; done) | (simp; omega)) _ | with_reducible refine Below.drew ?_ | with_reducible refine belowDrewN ?_ _ | with_reducible refine Below.trans ?_ (Below.mono (by assumption) (by first | omega | (simp; done) | (simp; omega)))))⟩
    · by_cases hi : inR 0 15 i = true
      · have hi' := (inR_iff _ _ _).1 hi
        obtain ⟨j, rfl⟩ := Int.eq_ofNat_of_zero_le hi'.1
        have hj : j < 16 := by omega
        have hfin := Lib.hid (basis_yes (n := 4) (j := j) (N := 16) rfl rfl hj)
        clear hi'
        go_enter Try.func97, Try.ntmps97
        go_wp2_with (first | (go_at_call 116; refine (iIn _ _ _ _).mono ?_; rintro e w1 ⟨rfl, rfl⟩) | (at_make; refine wpList_make_full _ rfl _ _ 56 rfl w.heap.size TD iD _ 5 Try.underlying56 hiD hzD0 hzD1 _ _ _ _ 16 rfl rfl rfl rfl (by omega) (by decide) (Nat.le_refl _) ?_))
        intro w1 hown hgrow
        have hS := OwnS.made (N := 16) hown
        have hb1 : Below w.heap.size w w1 := (Below.refl _ _).grown hgrow (Nat.le_refl _) (fun k hk => by cases hk)
        have hs1 := hb1.size
        clear hown hgrow
        go_wp2_with fail
        refine (iOne _).mono ?_
        rintro e w2 ⟨rfl, hb2⟩
        have hS2 := hS.below hb2 (Nat.le_refl _)
        have hs2 := hb2.size
        have hlt : w.heap.size < w2.heap.size := by
          have := (World.ownsRow.lt hS2 w.heap.size rfl).2
          omega
        obtain ⟨d0, d1, d2, d3, d4⟩ := hS2.cells (i := j) (by simpa using hj)
        have hfz := hS2.frozen
        have hset := hS2.set j (by simpa using hj) ⟨⟨1, 0, 0, 0⟩, 0⟩
        go_wp2
        go_ret
        rw [hfin.out]
        refine ⟨_, rfl, hset, by (repeat (first | with_reducible exact Below.refl _ _ | with_reducible assumption | with_reducible refine Below.setCell ?_ (by first | omega | (simp; done) | (simp; omega)) _ | with_reducible refine Below.alloc ?_ (by first | omega | (simp; done) | (simp; omega)) _ | with_reducible refine Below.drew ?_ | with_reducible refine belowDrewN ?_ _ | with_reducible refine Below.trans ?_ (Below.mono (by assumption) (by first | omega | (simp; done) | (simp; omega)))))⟩
      · have hfin := Lib.hid (basis_no (n := 4) (i := i) (by right; exact hi))
        go_enter Try.func97, Try.ntmps97
        go_wp2_with (go_at_call 116; refine (iIn _ _ _ _).mono ?_; rintro e w1 ⟨rfl, rfl⟩)
        go_ret
        rw [hfin.out]
        exact ⟨_, rfl, OwnS.nil _ _, by (repeat (first | with_reducible exact Below.refl _ _ | with_reducible assumption | with_reducible refine Below.setCell ?_ (by first | omega | (simp; done) | (simp; omega)) _ | with_reducible refine Below.alloc ?_ (by first | omega | (simp; done) | (simp; omega)) _ | with_reducible refine Below.drew ?_ | with_reducible refine belowDrewN ?_ _ | with_reducible refine Below.trans ?_ (Below.mono (by assumption) (by first | omega | (simp; done) | (simp; omega)))))⟩
  · have hfin := Lib.hid (basis_no (n := n) (i := i) (by left; exact hn))
    go_enter Try.func97, Try.ntmps97
    go_wp2_with (go_at_call 116; refine (iIn _ _ _ _).mono ?_; rintro e w1 ⟨rfl, rfl⟩)
    go_ret
    rw [hfin.out]
    exact ⟨_, rfl, OwnS.nil _ _, by (repeat (first | with_reducible exact Below.refl _ _ | with_reducible assumption | with_reducible refine Below.setCell ?_ (by first | omega | (simp; done) | (simp; omega)) _ | with_reducible refine Below.alloc ?_ (by first | omega | (simp; done) | (simp; omega)) _ | with_reducible refine Below.drew ?_ | with_reducible refine belowDrewN ?_ _ | with_reducible refine Below.trans ?_ (Below.mono (by assumption) (by first | omega | (simp; done) | (simp; omega)))))⟩

set_option maxHeartbeats 4000000 in
theorem sBasisState (n i : Int) (w : World) :
    Calls Try.prog 74 #[.int .i64 n, .int .i64 i] w fun e w' => ∃ v, e = .returned v ∧ OwnS w' w.heap.size v (basis n i) ∧ Below w.heap.size w w' := by
  obtain ⟨iD, hiD, hzD0, hzD1, hzD2⟩ := info_parts infoD
  by_cases hn : inR 1 4 n = true
  · have hn' := (inR_iff _ _ _).1 hn
    have hcase : n = 1 ∨ n = 2 ∨ n = 3 ∨ n = 4 := by omega
    rcases hcase with rfl | rfl | rfl | rfl
    · by_cases hi : inR 0 1 i = true
      · have hi' := (inR_iff _ _ _).1 hi
        obtain ⟨j, rfl⟩ := Int.eq_ofNat_of_zero_le hi'.1
        have hj : j < 2 := by omega
        have hfin := Lib.hid (basis_yes (n := 1) (j := j) (N := 2) rfl rfl hj)
        clear hi'
        go_enter Try.func74, Try.ntmps74
        go_wp2_with (first | (go_at_call 102; refine (sIn _ _ _ _).mono ?_; rintro e w1 ⟨rfl, rfl⟩) | (at_make; refine wpList_make_full _ rfl _ _ 56 rfl w.heap.size TD iD _ 5 Try.underlying56 hiD hzD0 hzD1 _ _ _ _ 2 rfl rfl rfl rfl (by omega) (by decide) (Nat.le_refl _) ?_))
        intro w1 hown hgrow
        have hS := OwnS.made (N := 2) hown
        have hb1 : Below w.heap.size w w1 := (Below.refl _ _).grown hgrow (Nat.le_refl _) (fun k hk => by cases hk)
        have hs1 := hb1.size
        clear hown hgrow
        go_wp2_with fail
        refine (sOne _).mono ?_
        rintro e w2 ⟨rfl, hb2⟩
        have hS2 := hS.below hb2 (Nat.le_refl _)
        have hs2 := hb2.size
        have hlt : w.heap.size < w2.heap.size := by
          have := (World.ownsRow.lt hS2 w.heap.size rfl).2
          omega
        obtain ⟨d0, d1, d2, d3, d4⟩ := hS2.cells (i := j) (by simpa using hj)
        have hfz := hS2.frozen
        have hset := hS2.set j (by simpa using hj) ⟨⟨1, 0, 0, 0⟩, 0⟩
        go_wp2
        go_ret
        rw [hfin.out]
        refine ⟨_, rfl, hset, by (repeat (first | with_reducible exact Below.refl _ _ | with_reducible assumption | with_reducible refine Below.setCell ?_ (by first | omega | (simp; done) | (simp; omega)) _ | with_reducible refine Below.alloc ?_ (by first | omega | (simp; done) | (simp; omega)) _ | with_reducible refine Below.drew ?_ | with_reducible refine belowDrewN ?_ _ | with_reducible refine Below.trans ?_ (Below.mono (by assumption) (by first | omega | (simp; done) | (simp; omega)))))⟩
      · have hfin := Lib.hid (basis_no (n := 1) (i := i) (by right; exact hi))
        go_enter Try.func74, Try.ntmps74
        go_wp2_with (go_at_call 102; refine (sIn _ _ _ _).mono ?_; rintro e w1 ⟨rfl, rfl⟩)
        go_ret
        rw [hfin.out]
        exact ⟨_, rfl, OwnS.empty (Nat.le_refl _), by (repeat (first | with_reducible exact Below.refl _ _ | with_reducible assumption | with_reducible refine Below.setCell ?_ (by first | omega | (simp; done) | (simp; omega)) _ | with_reducible refine Below.alloc ?_ (by first | omega | (simp; done) | (simp; omega)) _ | with_reducible refine Below.drew ?_ | with_reducible refine belowDrewN ?_ _ | with_reducible refine Below.trans ?_ (Below.mono (by assumption) (by first | omega | (simp; done) | (simp; omega)))))⟩
    · by_cases hi : inR 0 3 i = true
      · have hi' := (inR_iff _ _ _).1 hi
        obtain ⟨j, rfl⟩ := Int.eq_ofNat_of_zero_le hi'.1
        have hj : j < 4 := by omega
        have hfin := Lib.hid (basis_yes (n := 2) (j := j) (N := 4) rfl rfl hj)
        clear hi'
        go_enter Try.func74, Try.ntmps74
        go_wp2_with (first | (go_at_call 102; refine (sIn _ _ _ _).mono ?_; rintro e w1 ⟨rfl, rfl⟩) | (at_make; refine wpList_make_full _ rfl _ _ 56 rfl w.heap.size TD iD _ 5 Try.underlying56 hiD hzD0 hzD1 _ _ _ _ 4 rfl rfl rfl rfl (by omega) (by decide) (Nat.le_refl _) ?_))
        intro w1 hown hgrow
        have hS := OwnS.made (N := 4) hown
        have hb1 : Below w.heap.size w w1 := (Below.refl _ _).grown hgrow (Nat.le_refl _) (fun k hk => by cases hk)
        have hs1 := hb1.size
        clear hown hgrow
        go_wp2_with fail
        refine (sOne _).mono ?_
        rintro e w2 ⟨rfl, hb2⟩
        have hS2 := hS.below hb2 (Nat.le_refl _)
        have hs2 := hb2.size
        have hlt : w.heap.size < w2.heap.size := by
          have := (World.ownsRow.lt hS2 w.heap.size rfl).2
          omega
        obtain ⟨d0, d1, d2, d3, d4⟩ := hS2.cells (i := j) (by simpa using hj)
        have hfz := hS2.frozen
        have hset := hS2.set j (by simpa using hj) ⟨⟨1, 0, 0, 0⟩, 0⟩
        go_wp2
        go_ret
        rw [hfin.out]
        refine ⟨_, rfl, hset, by (repeat (first | with_reducible exact Below.refl _ _ | with_reducible assumption | with_reducible refine Below.setCell ?_ (by first | omega | (simp; done) | (simp; omega)) _ | with_reducible refine Below.alloc ?_ (by first | omega | (simp; done) | (simp; omega)) _ | with_reducible refine Below.drew ?_ | with_reducible refine belowDrewN ?_ _ | with_reducible refine Below.trans ?_ (Below.mono (by assumption) (by first | omega | (simp; done) | (simp; omega)))))⟩
      · have hfin := Lib.hid (basis_no (n := 2) (i := i) (by right; exact hi))
        go_enter Try.func74, Try.ntmps74
        go_wp2_with (go_at_call 102; refine (sIn _ _ _ _).mono ?_; rintro e w1 ⟨rfl, rfl⟩)
        go_ret
        rw [hfin.out]
        exact ⟨_, rfl, OwnS.empty (Nat.le_refl _), by (repeat (first | with_reducible exact Below.refl _ _ | with_reducible assumption | with_reducible refine Below.setCell ?_ (by first | omega | (simp; done) | (simp; omega)) _ | with_reducible refine Below.alloc ?_ (by first | omega | (simp; done) | (simp; omega)) _ | with_reducible refine Below.drew ?_ | with_reducible refine belowDrewN ?_ _ | with_reducible refine Below.trans ?_ (Below.mono (by assumption) (by first | omega | (simp; done) | (simp; omega)))))⟩
    · by_cases hi : inR 0 7 i = true
      · have hi' := (inR_iff _ _ _).1 hi
        obtain ⟨j, rfl⟩ := Int.eq_ofNat_of_zero_le hi'.1
        have hj : j < 8 := by omega
        have hfin := Lib.hid (basis_yes (n := 3) (j := j) (N := 8) rfl rfl hj)
        clear hi'
        go_enter Try.func74, Try.ntmps74
        go_wp2_with (first | (go_at_call 102; refine (sIn _ _ _ _).mono ?_; rintro e w1 ⟨rfl, rfl⟩) | (at_make; refine wpList_make_full _ rfl _ _ 56 rfl w.heap.size TD iD _ 5 Try.underlying56 hiD hzD0 hzD1 _ _ _ _ 8 rfl rfl rfl rfl (by omega) (by decide) (Nat.le_refl _) ?_))
        intro w1 hown hgrow
        have hS := OwnS.made (N := 8) hown
        have hb1 : Below w.heap.size w w1 := (Below.refl _ _).grown hgrow (Nat.le_refl _) (fun k hk => by cases hk)
        have hs1 := hb1.size
        clear hown hgrow
        go_wp2_with fail
        refine (sOne _).mono ?_
        rintro e w2 ⟨rfl, hb2⟩
        have hS2 := hS.below hb2 (Nat.le_refl _)
        have hs2 := hb2.size
        have hlt : w.heap.size < w2.heap.size := by
          have := (World.ownsRow.lt hS2 w.heap.size rfl).2
          omega
        obtain ⟨d0, d1, d2, d3, d4⟩ := hS2.cells (i := j) (by simpa using hj)
        have hfz := hS2.frozen
        have hset := hS2.set j (by simpa using hj) ⟨⟨1, 0, 0, 0⟩, 0⟩
        go_wp2
        go_ret
        rw [hfin.out]
        refine ⟨_, rfl, hset, by (repeat (first | with_reducible exact Below.refl _ _ | with_reducible assumption | with_reducible refine Below.setCell ?_ (by first | omega | (simp; done) | (simp; omega)) _ | with_reducible refine Below.alloc ?_ (by first | omega | (simp; done) | (simp; omega)) _ | with_reducible refine Below.drew ?_ | with_reducible refine belowDrewN ?_ _ | with_reducible refine Below.trans ?_ (Below.mono (by assumption) (by first | omega | (simp; done) | (simp; omega)))))⟩
      · have hfin := Lib.hid (basis_no (n := 3) (i := i) (by right; exact hi))
        go_enter Try.func74, Try.ntmps74
        go_wp2_with (go_at_call 102; refine (sIn _ _ _ _).mono ?_; rintro e w1 ⟨rfl, rfl⟩)
        go_ret
        rw [hfin.out]
        exact ⟨_, rfl, OwnS.empty (Nat.le_refl _), by (repeat (first | with_reducible exact Below.refl _ _ | with_reducible assumption | with_reducible refine Below.setCell ?_ (by first | omega | (simp; done) | (simp; omega)) _ | with_reducible refine Below.alloc ?_ (by first | omega | (simp; done) | (simp; omega)) _ | with_reducible refine Below.drew ?_ | with_reducible refine belowDrewN ?_ _ | with_reducible refine Below.trans ?_ (Below.mono (by assumption) (by first | omega | (simp; done) | (simp; omega)))))⟩
    · by_cases hi : inR 0 15 i = true
      · have hi' := (inR_iff _ _ _).1 hi
        obtain ⟨j, rfl⟩ := Int.eq_ofNat_of_zero_le hi'.1
        have hj : j < 16 := by omega
        have hfin := Lib.hid (basis_yes (n := 4) (j := j) (N := 16) rfl rfl hj)
        clear hi'
        go_enter Try.func74, Try.ntmps74
        go_wp2_with (first | (go_at_call 102; refine (sIn _ _ _ _).mono ?_; rintro e w1 ⟨rfl, rfl⟩) | (at_make; refine wpList_make_full _ rfl _ _ 56 rfl w.heap.size TD iD _ 5 Try.underlying56 hiD hzD0 hzD1 _ _ _ _ 16 rfl rfl rfl rfl (by omega) (by decide) (Nat.le_refl _) ?_))
        intro w1 hown hgrow
        have hS := OwnS.made (N := 16) hown
        have hb1 : Below w.heap.size w w1 := (Below.refl _ _).grown hgrow (Nat.le_refl _) (fun k hk => by cases hk)
        have hs1 := hb1.size
        clear hown hgrow
        go_wp2_with fail
        refine (sOne _).mono ?_
        rintro e w2 ⟨rfl, hb2⟩
        have hS2 := hS.below hb2 (Nat.le_refl _)
        have hs2 := hb2.size
        have hlt : w.heap.size < w2.heap.size := by
          have := (World.ownsRow.lt hS2 w.heap.size rfl).2
          omega
        obtain ⟨d0, d1, d2, d3, d4⟩ := hS2.cells (i := j) (by simpa using hj)
        have hfz := hS2.frozen
        have hset := hS2.set j (by simpa using hj) ⟨⟨1, 0, 0, 0⟩, 0⟩
        go_wp2
        go_ret
        rw [hfin.out]
        refine ⟨_, rfl, hset, by (repeat (first | with_reducible exact Below.refl _ _ | with_reducible assumption | with_reducible refine Below.setCell ?_ (by first | omega | (simp; done) | (simp; omega)) _ | with_reducible refine Below.alloc ?_ (by first | omega | (simp; done) | (simp; omega)) _ | with_reducible refine Below.drew ?_ | with_reducible refine belowDrewN ?_ _ | with_reducible refine Below.trans ?_ (Below.mono (by assumption) (by first | omega | (simp; done) | (simp; omega)))))⟩
      · have hfin := Lib.hid (basis_no (n := 4) (i := i) (by right; exact hi))
        go_enter Try.func74, Try.ntmps74
        go_wp2_with (go_at_call 102; refine (sIn _ _ _ _).mono ?_; rintro e w1 ⟨rfl, rfl⟩)
        go_ret
        rw [hfin.out]
        exact ⟨_, rfl, OwnS.empty (Nat.le_refl _), by (repeat (first | with_reducible exact Below.refl _ _ | with_reducible assumption | with_reducible refine Below.setCell ?_ (by first | omega | (simp; done) | (simp; omega)) _ | with_reducible refine Below.alloc ?_ (by first | omega | (simp; done) | (simp; omega)) _ | with_reducible refine Below.drew ?_ | with_reducible refine belowDrewN ?_ _ | with_reducible refine Below.trans ?_ (Below.mono (by assumption) (by first | omega | (simp; done) | (simp; omega)))))⟩
  · have hfin := Lib.hid (basis_no (n := n) (i := i) (by left; exact hn))
    go_enter Try.func74, Try.ntmps74
    go_wp2_with (go_at_call 102; refine (sIn _ _ _ _).mono ?_; rintro e w1 ⟨rfl, rfl⟩)
    go_ret
    rw [hfin.out]
    exact ⟨_, rfl, OwnS.empty (Nat.le_refl _), by (repeat (first | with_reducible exact Below.refl _ _ | with_reducible assumption | with_reducible refine Below.setCell ?_ (by first | omega | (simp; done) | (simp; omega)) _ | with_reducible refine Below.alloc ?_ (by first | omega | (simp; done) | (simp; omega)) _ | with_reducible refine Below.drew ?_ | with_reducible refine belowDrewN ?_ _ | with_reducible refine Below.trans ?_ (Below.mono (by assumption) (by first | omega | (simp; done) | (simp; omega)))))⟩

end Go.Proofs.Yteckhaafdojoeaa
