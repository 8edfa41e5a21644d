/- The reference's row by column, which passes zeros over. -/
import Derived.Test.YteckhaafdojoeaaS14
namespace Go.Proofs.Yteckhaafdojoeaa
open Go.RowKit

def rowF : DO → List (DO × DO) → DO × Bool
  | s, [] => (s, true)
  | s, p :: r => if p.1 = ⟨⟨0, 0, 0, 0⟩, 0⟩ ∨ p.2 = ⟨⟨0, 0, 0, 0⟩, 0⟩ then rowF s r else
      if (mulD p.1 p.2).2 && (addD s (mulD p.1 p.2).1).2 then rowF (addD s (mulD p.1 p.2).1).1 r else (⟨⟨0, 0, 0, 0⟩, 0⟩, false)
def row (u v : List DO) : DO × Bool := rowF ⟨⟨0, 0, 0, 0⟩, 0⟩ (u.zip v)
theorem rowF_skip {s : DO} {u v : List DO} {j : Nat} {R : DO × Bool} (hj : j < u.length) (hv : u.length ≤ v.length) (h : rowF s ((u.zip v).drop j) = R)
    (h1 : u[j] = ⟨⟨0, 0, 0, 0⟩, 0⟩ ∨ v[j] = ⟨⟨0, 0, 0, 0⟩, 0⟩) : rowF s ((u.zip v).drop (j + 1)) = R := by
  rw [zip_drop hj hv, rowF, if_pos h1] at h
  exact h
theorem rowF_more {s : DO} {u v : List DO} {j : Nat} {R : DO × Bool} (hj : j < u.length) (hv : u.length ≤ v.length) (h : rowF s ((u.zip v).drop j) = R)
    (hx : ¬ u[j] = ⟨⟨0, 0, 0, 0⟩, 0⟩) (hy : ¬ v[j] = ⟨⟨0, 0, 0, 0⟩, 0⟩) (h1 : (mulD u[j] v[j]).2 = true) (h2 : (addD s (mulD u[j] v[j]).1).2 = true) : rowF (addD s (mulD u[j] v[j]).1).1 ((u.zip v).drop (j + 1)) = R := by
  rw [zip_drop hj hv, rowF, if_neg (by simp [hx, hy])] at h
  simpa [h1, h2] using h
theorem rowF_fail {s : DO} {u v : List DO} {j : Nat} {R : DO × Bool} (hj : j < u.length) (hv : u.length ≤ v.length) (h : rowF s ((u.zip v).drop j) = R)
    (hx : ¬ u[j] = ⟨⟨0, 0, 0, 0⟩, 0⟩) (hy : ¬ v[j] = ⟨⟨0, 0, 0, 0⟩, 0⟩) (h1 : ((mulD u[j] v[j]).2 && (addD s (mulD u[j] v[j]).1).2) = false) : R = (⟨⟨0, 0, 0, 0⟩, 0⟩, false) := by
  rw [zip_drop hj hv, rowF, if_neg (by simp [hx, hy]), if_neg (by rw [h1]; exact Bool.false_ne_true)] at h
  exact h.symm
theorem rowF_end {s : DO} {u v : List DO} {j : Nat} {R : DO × Bool} (hj : ¬ j < u.length) (hv : u.length ≤ v.length) (h : rowF s ((u.zip v).drop j) = R) : R = (s, true) := by
  rw [List.drop_eq_nil_of_le (by rw [List.length_zip]; omega), rowF] at h
  exact h.symm
theorem zero_fields {x : DO} (h : x = ⟨⟨0, 0, 0, 0⟩, 0⟩) : x.n.a = 0 ∧ x.n.b = 0 ∧ x.n.c = 0 ∧ x.n.d = 0 ∧ x.e = 0 := by subst h; exact ⟨rfl, rfl, rfl, rfl, rfl⟩
theorem eqIf0 {α : Type} (x : DO) (A B : α) : (if x.n.a = 0 then if x.n.b = 0 then if x.n.c = 0 then if x.n.d = 0 then if x.e = 0 then A else B else B else B else B else B) = if x = ⟨⟨0, 0, 0, 0⟩, 0⟩ then A else B := neqIf x ⟨⟨0, 0, 0, 0⟩, 0⟩ A B
attribute [local go_sem] eqIf0

set_option maxHeartbeats 8000000 in
theorem sRow (ao bo : Option Addr) (u v : List DO) (cu cv : Nat) (hn : u.length ≤ 1000000000) (hn' : v.length ≤ 1000000000) (huv : u.length ≤ v.length) (w : World) (hu : StR w ao u) (hv : StR w bo v) :
    Calls Try.prog 181 #[.slice ao u.length cu, .slice bo v.length cv] w fun e w' => e = .returned (.tuple #[Dv (row u v).1, .bool (row u v).2]) ∧ Below w.heap.size w w' := by
  go_enter Try.func181, Try.ntmps181
  go_wp2
  go_loopw [7] (fun x wr => ∃ (s : DO) (j : Nat), x = .int .i64 j ∧ j ≤ u.length ∧ Hid (rowF s ((u.zip v).drop j) = row u v) ∧ Blk wr w.heap.size [.int .i64 0, .int .i64 0, .int .i64 0, .int .i64 0, .int .i64 0] 114 ∧ Blk wr (w.heap.size + 1) [.int .i64 s.n.a, .int .i64 s.n.b, .int .i64 s.n.c, .int .i64 s.n.d, .int .i64 s.e] 114 ∧ Below w.heap.size w wr) (fun x _ => u.length - (intOf x).toNat)
  case atStart => exact ⟨⟨⟨0, 0, 0, 0⟩, 0⟩, 0, rfl, Nat.zero_le _, rfl, by (repeat (first | with_reducible assumption | with_reducible exact Blk.new' _ _ (by first | omega | (simp; done) | (simp; omega)) | with_reducible apply Blk.set5 | with_reducible apply Blk.set4 | with_reducible refine Blk.other ?_ (by first | omega | (simp; done) | (simp; omega)) _ | with_reducible refine Blk.drew ?_ | with_reducible refine Blk.alloc ?_ _ | with_reducible refine Blk.below ?_ (by assumption) (by first | omega | (simp; done) | (simp; omega)))), by (repeat (first | with_reducible assumption | with_reducible exact Blk.new' _ _ (by first | omega | (simp; done) | (simp; omega)) | with_reducible apply Blk.set5 | with_reducible apply Blk.set4 | with_reducible refine Blk.other ?_ (by first | omega | (simp; done) | (simp; omega)) _ | with_reducible refine Blk.drew ?_ | with_reducible refine Blk.alloc ?_ _ | with_reducible refine Blk.below ?_ (by assumption) (by first | omega | (simp; done) | (simp; omega)))), by (repeat (first | with_reducible exact Below.refl _ _ | with_reducible assumption | with_reducible refine Below.setCell ?_ (by first | omega | (simp; done) | (simp; omega)) _ | with_reducible refine Below.alloc ?_ (by first | omega | (simp; done) | (simp; omega)) _ | with_reducible refine Below.drew ?_ | with_reducible refine belowDrewN ?_ _ | with_reducible refine Below.trans ?_ (Below.mono (by assumption) (by first | omega | (simp; done) | (simp; omega)))))⟩
  case round =>
    obtain ⟨⟨⟨p, q, r, s⟩, t⟩, j, rfl, h0, hinv, hB, hB1, hb0⟩ := hrel
    dsimp only at hB1
    obtain ⟨cB, fB, sB⟩ := hB.facts
    obtain ⟨cB1, fB1, sB1⟩ := hB1.facts
    have hs0 := hb0.size
    by_cases hj : j < u.length
    · have hjv : j < v.length := by omega
      obtain ⟨b, o, rfl, hlt, hD⟩ := (hu.below hb0) j hj
      obtain ⟨d0, d1, d2, d3, d4⟩ := hD
      obtain ⟨b', o', rfl, hlt', hD'⟩ := (hv.below hb0) j (by omega)
      obtain ⟨g0, g1, g2, g3, g4⟩ := hD'
      by_cases hx : u[j] = ⟨⟨0, 0, 0, 0⟩, 0⟩
      · have hnext := Lib.hid (rowF_skip hj huv hinv.out (.inl hx))
        obtain ⟨k0, k1, k2, k3, k4⟩ := zero_fields hx
        rw [k0] at d0; rw [k1] at d1; rw [k2] at d2; rw [k3] at d3; rw [k4] at d4
        clear hx k0 k1 k2 k3 k4
        go_wp2
        go_roundw
        case rel => exact ⟨⟨⟨p, q, r, s⟩, t⟩, j + 1, by go_num, by omega, hnext.out, hB, hB1, hb0⟩
        case measure => simp [intOf]; omega
      · by_cases hy : v[j] = ⟨⟨0, 0, 0, 0⟩, 0⟩
        · have hnext := Lib.hid (rowF_skip hj huv hinv.out (.inr hy))
          obtain ⟨k0, k1, k2, k3, k4⟩ := zero_fields hy
          rw [k0] at g0; rw [k1] at g1; rw [k2] at g2; rw [k3] at g3; rw [k4] at g4
          clear hy k0 k1 k2 k3 k4
          go_wp2
          go_roundw
          case rel => exact ⟨⟨⟨p, q, r, s⟩, t⟩, j + 1, by go_num, by omega, hnext.out, hB, hB1, hb0⟩
          case measure => simp [intOf]; omega
        · skip
          have hjv : j < v.length := by omega
          by_cases hm : (mulD u[j] v[j]).2 = true
          · by_cases ha : (addD ⟨⟨p, q, r, s⟩, t⟩ (mulD u[j] v[j]).1).2 = true
            · go_wp2
              go_region_held3 (fun w' => Below wr.heap.size wr w' ∧ (∀ b o, b < wr.heap.size → w'.cell? ⟨b, o, none⟩ = wr.cell? ⟨b, o, none⟩) ∧ (∀ b o, b < wr.heap.size → w'.frozen? ⟨b, o, none⟩ = wr.frozen? ⟨b, o, none⟩) ∧ wr.heap.size ≤ w'.heap.size) ((exact bpack (by (repeat (first | with_reducible exact Below.refl _ _ | with_reducible assumption | with_reducible refine Below.setCell ?_ (by first | omega | (simp; done) | (simp; omega)) _ | with_reducible refine Below.alloc ?_ (by first | omega | (simp; done) | (simp; omega)) _ | with_reducible refine Below.drew ?_ | with_reducible refine belowDrewN ?_ _ | with_reducible refine Below.trans ?_ (Below.mono (by assumption) (by first | omega | (simp; done) | (simp; omega)))))))) (first | (go_at_call 121; refine (sMulD' u[j] v[j] _).mono ?_; rintro e wa ⟨rfl, hb⟩; obtain ⟨hc, hf, hz⟩ := bcell hb; (try simp only [World.size_drew, World.cell?_drew, World.frozen?_drew] at hc hf hz); (try simp at hz); (try have kk := fun o => hc (w.heap.size) o (by first | omega | (simp; done) | (simp; omega))); (try have kf := fun o => hf (w.heap.size) o (by first | omega | (simp; done) | (simp; omega))); (try have zz : w.heap.size < wa.heap.size := by omega); (try have kk := fun o => hc (w.heap.size + 1) o (by first | omega | (simp; done) | (simp; omega))); (try have kf := fun o => hf (w.heap.size + 1) o (by first | omega | (simp; done) | (simp; omega))); (try have zz : w.heap.size + 1 < wa.heap.size := by omega); (try have kk := fun o => hc (wr.heap.size) o (by first | omega | (simp; done) | (simp; omega))); (try have kf := fun o => hf (wr.heap.size) o (by first | omega | (simp; done) | (simp; omega))); (try have zz : wr.heap.size < wa.heap.size := by omega)))
              all_goals go_wp2_with (go_at_call 122; refine (sAddD' ⟨⟨p, q, r, s⟩, t⟩ (mulD u[j] v[j]).1 _).mono ?_; rintro e w1 ⟨rfl, hb⟩; obtain ⟨hc, hf, hz⟩ := bcell hb; (try simp only [World.size_drew, World.cell?_drew, World.frozen?_drew] at hc hf hz); (try simp at hz); (try have kk := fun o => hc (w.heap.size) o (by first | omega | (simp; done) | (simp; omega))); (try have kf := fun o => hf (w.heap.size) o (by first | omega | (simp; done) | (simp; omega))); (try have zz : w.heap.size < w1.heap.size := by omega); (try have kk := fun o => hc (w.heap.size + 1) o (by first | omega | (simp; done) | (simp; omega))); (try have kf := fun o => hf (w.heap.size + 1) o (by first | omega | (simp; done) | (simp; omega))); (try have zz : w.heap.size + 1 < w1.heap.size := by omega))
              all_goals go_roundw
              all_goals first
                | exact ⟨(addD ⟨⟨p, q, r, s⟩, t⟩ (mulD u[j] v[j]).1).1, j + 1, by go_num, by omega, rowF_more hj huv hinv.out hx hy hm ha, by (repeat (first | with_reducible assumption | with_reducible exact Blk.new' _ _ (by first | omega | (simp; done) | (simp; omega)) | with_reducible apply Blk.set5 | with_reducible apply Blk.set4 | with_reducible refine Blk.other ?_ (by first | omega | (simp; done) | (simp; omega)) _ | with_reducible refine Blk.drew ?_ | with_reducible refine Blk.alloc ?_ _ | with_reducible refine Blk.below ?_ (by assumption) (by first | omega | (simp; done) | (simp; omega)))), by (repeat (first | with_reducible assumption | with_reducible exact Blk.new' _ _ (by first | omega | (simp; done) | (simp; omega)) | with_reducible apply Blk.set5 | with_reducible apply Blk.set4 | with_reducible refine Blk.other ?_ (by first | omega | (simp; done) | (simp; omega)) _ | with_reducible refine Blk.drew ?_ | with_reducible refine Blk.alloc ?_ _ | with_reducible refine Blk.below ?_ (by assumption) (by first | omega | (simp; done) | (simp; omega)))), by (repeat (first | with_reducible exact Below.refl _ _ | with_reducible assumption | with_reducible refine Below.setCell ?_ (by first | omega | (simp; done) | (simp; omega)) _ | with_reducible refine Below.alloc ?_ (by first | omega | (simp; done) | (simp; omega)) _ | with_reducible refine Below.drew ?_ | with_reducible refine belowDrewN ?_ _ | with_reducible refine Below.trans ?_ (Below.mono (by assumption) (by first | omega | (simp; done) | (simp; omega)))))⟩
                | (simp [intOf]; omega)
            · have hfin := Lib.hid (rowF_fail hj huv hinv.out hx hy (by simp [ha]))
              go_wp2
              go_region_held3 (fun w' => Below wr.heap.size wr w' ∧ (∀ b o, b < wr.heap.size → w'.cell? ⟨b, o, none⟩ = wr.cell? ⟨b, o, none⟩) ∧ (∀ b o, b < wr.heap.size → w'.frozen? ⟨b, o, none⟩ = wr.frozen? ⟨b, o, none⟩) ∧ wr.heap.size ≤ w'.heap.size) ((exact bpack (by (repeat (first | with_reducible exact Below.refl _ _ | with_reducible assumption | with_reducible refine Below.setCell ?_ (by first | omega | (simp; done) | (simp; omega)) _ | with_reducible refine Below.alloc ?_ (by first | omega | (simp; done) | (simp; omega)) _ | with_reducible refine Below.drew ?_ | with_reducible refine belowDrewN ?_ _ | with_reducible refine Below.trans ?_ (Below.mono (by assumption) (by first | omega | (simp; done) | (simp; omega)))))))) (first | (go_at_call 121; refine (sMulD' u[j] v[j] _).mono ?_; rintro e wa ⟨rfl, hb⟩; obtain ⟨hc, hf, hz⟩ := bcell hb; (try simp only [World.size_drew, World.cell?_drew, World.frozen?_drew] at hc hf hz); (try simp at hz); (try have kk := fun o => hc (w.heap.size) o (by first | omega | (simp; done) | (simp; omega))); (try have kf := fun o => hf (w.heap.size) o (by first | omega | (simp; done) | (simp; omega))); (try have zz : w.heap.size < wa.heap.size := by omega); (try have kk := fun o => hc (w.heap.size + 1) o (by first | omega | (simp; done) | (simp; omega))); (try have kf := fun o => hf (w.heap.size + 1) o (by first | omega | (simp; done) | (simp; omega))); (try have zz : w.heap.size + 1 < wa.heap.size := by omega); (try have kk := fun o => hc (wr.heap.size) o (by first | omega | (simp; done) | (simp; omega))); (try have kf := fun o => hf (wr.heap.size) o (by first | omega | (simp; done) | (simp; omega))); (try have zz : wr.heap.size < wa.heap.size := by omega)))
              all_goals go_wp2_with (go_at_call 122; refine (sAddD' ⟨⟨p, q, r, s⟩, t⟩ (mulD u[j] v[j]).1 _).mono ?_; rintro e w1 ⟨rfl, hb⟩; obtain ⟨hc, hf, hz⟩ := bcell hb; (try simp only [World.size_drew, World.cell?_drew, World.frozen?_drew] at hc hf hz); (try simp at hz); (try have kk := fun o => hc (w.heap.size) o (by first | omega | (simp; done) | (simp; omega))); (try have kf := fun o => hf (w.heap.size) o (by first | omega | (simp; done) | (simp; omega))); (try have zz : w.heap.size < w1.heap.size := by omega); (try have kk := fun o => hc (w.heap.size + 1) o (by first | omega | (simp; done) | (simp; omega))); (try have kf := fun o => hf (w.heap.size + 1) o (by first | omega | (simp; done) | (simp; omega))); (try have zz : w.heap.size + 1 < w1.heap.size := by omega))
              all_goals exact bodyPost_ret (v := .tuple #[.agg #[.int .i64 0, .int .i64 0, .int .i64 0, .int .i64 0, .int .i64 0], .bool false]) (by simp [results, Try.results181, go_sem, *]) rfl ⟨by rw [hfin.out], by (repeat (first | with_reducible exact Below.refl _ _ | with_reducible assumption | with_reducible refine Below.setCell ?_ (by first | omega | (simp; done) | (simp; omega)) _ | with_reducible refine Below.alloc ?_ (by first | omega | (simp; done) | (simp; omega)) _ | with_reducible refine Below.drew ?_ | with_reducible refine belowDrewN ?_ _ | with_reducible refine Below.trans ?_ (Below.mono (by assumption) (by first | omega | (simp; done) | (simp; omega)))))⟩
          · have hfin := Lib.hid (rowF_fail hj huv hinv.out hx hy (by simp [hm]))
            go_wp2
            go_region_held3 (fun w' => Below wr.heap.size wr w' ∧ (∀ b o, b < wr.heap.size → w'.cell? ⟨b, o, none⟩ = wr.cell? ⟨b, o, none⟩) ∧ (∀ b o, b < wr.heap.size → w'.frozen? ⟨b, o, none⟩ = wr.frozen? ⟨b, o, none⟩) ∧ wr.heap.size ≤ w'.heap.size) ((exact bpack (by (repeat (first | with_reducible exact Below.refl _ _ | with_reducible assumption | with_reducible refine Below.setCell ?_ (by first | omega | (simp; done) | (simp; omega)) _ | with_reducible refine Below.alloc ?_ (by first | omega | (simp; done) | (simp; omega)) _ | with_reducible refine Below.drew ?_ | with_reducible refine belowDrewN ?_ _ | with_reducible refine Below.trans ?_ (Below.mono (by assumption) (by first | omega | (simp; done) | (simp; omega)))))))) (first | (go_at_call 121; refine (sMulD' u[j] v[j] _).mono ?_; rintro e wa ⟨rfl, hb⟩; obtain ⟨hc, hf, hz⟩ := bcell hb; (try simp only [World.size_drew, World.cell?_drew, World.frozen?_drew] at hc hf hz); (try simp at hz); (try have kk := fun o => hc (w.heap.size) o (by first | omega | (simp; done) | (simp; omega))); (try have kf := fun o => hf (w.heap.size) o (by first | omega | (simp; done) | (simp; omega))); (try have zz : w.heap.size < wa.heap.size := by omega); (try have kk := fun o => hc (w.heap.size + 1) o (by first | omega | (simp; done) | (simp; omega))); (try have kf := fun o => hf (w.heap.size + 1) o (by first | omega | (simp; done) | (simp; omega))); (try have zz : w.heap.size + 1 < wa.heap.size := by omega); (try have kk := fun o => hc (wr.heap.size) o (by first | omega | (simp; done) | (simp; omega))); (try have kf := fun o => hf (wr.heap.size) o (by first | omega | (simp; done) | (simp; omega))); (try have zz : wr.heap.size < wa.heap.size := by omega)))
            all_goals go_wp2_with (go_at_call 122; refine (sAddD' ⟨⟨p, q, r, s⟩, t⟩ (mulD u[j] v[j]).1 _).mono ?_; rintro e w1 ⟨rfl, hb⟩; obtain ⟨hc, hf, hz⟩ := bcell hb; (try simp only [World.size_drew, World.cell?_drew, World.frozen?_drew] at hc hf hz); (try simp at hz); (try have kk := fun o => hc (w.heap.size) o (by first | omega | (simp; done) | (simp; omega))); (try have kf := fun o => hf (w.heap.size) o (by first | omega | (simp; done) | (simp; omega))); (try have zz : w.heap.size < w1.heap.size := by omega); (try have kk := fun o => hc (w.heap.size + 1) o (by first | omega | (simp; done) | (simp; omega))); (try have kf := fun o => hf (w.heap.size + 1) o (by first | omega | (simp; done) | (simp; omega))); (try have zz : w.heap.size + 1 < w1.heap.size := by omega))
            all_goals exact bodyPost_ret (v := .tuple #[.agg #[.int .i64 0, .int .i64 0, .int .i64 0, .int .i64 0, .int .i64 0], .bool false]) (by simp [results, Try.results181, go_sem, *]) rfl ⟨by rw [hfin.out], by (repeat (first | with_reducible exact Below.refl _ _ | with_reducible assumption | with_reducible refine Below.setCell ?_ (by first | omega | (simp; done) | (simp; omega)) _ | with_reducible refine Below.alloc ?_ (by first | omega | (simp; done) | (simp; omega)) _ | with_reducible refine Below.drew ?_ | with_reducible refine belowDrewN ?_ _ | with_reducible refine Below.trans ?_ (Below.mono (by assumption) (by first | omega | (simp; done) | (simp; omega)))))⟩
    · have hfin := Lib.hid (rowF_end hj huv hinv.out)
      go_wp2
      exact bodyPost_ret (v := .tuple #[.agg #[.int .i64 p, .int .i64 q, .int .i64 r, .int .i64 s, .int .i64 t], .bool true]) (by simp [results, Try.results181, go_sem, *]) rfl ⟨by rw [hfin.out], by (repeat (first | with_reducible exact Below.refl _ _ | with_reducible assumption | with_reducible refine Below.setCell ?_ (by first | omega | (simp; done) | (simp; omega)) _ | with_reducible refine Below.alloc ?_ (by first | omega | (simp; done) | (simp; omega)) _ | with_reducible refine Below.drew ?_ | with_reducible refine belowDrewN ?_ _ | with_reducible refine Below.trans ?_ (Below.mono (by assumption) (by first | omega | (simp; done) | (simp; omega)))))⟩


end Go.Proofs.Yteckhaafdojoeaa
