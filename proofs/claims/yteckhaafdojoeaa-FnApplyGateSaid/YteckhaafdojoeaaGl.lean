/- Plain laws: matrices by their values; gates undone; circuits joined and undone. · A gate's inverse (InverseGate, both sides). -/
import Derived.Test.YteckhaafdojoeaaGk
import Derived.Test.YteckhaafdojoeaaGj
import Derived.Test.YteckhaafdojoeaaGi
import Derived.Test.YteckhaafdojoeaaGf
/-! V8: Plain laws: matrices by their values; gates undone; circuits joined and undone. -/
namespace Go.Proofs.Yteckhaafdojoeaa

/-- A square of numbers in range. -/
def Sq (N : Nat) (m : List (List DO)) : Prop := m.length = N ∧ ∀ r ∈ m, r.length = N ∧ ∀ x ∈ r, x.ok = true
theorem Sq.inj {N : Nat} {a b : List (List DO)} (ha : Sq N a) (hb : Sq N b) (h : ∀ i j, i < N → j < N → vm a i j = vm b i j) : a = b := by
  refine vm_inj (ha.1.trans hb.1.symm) (fun i h1 h2 => ?_) (fun r hr => (ha.2 r hr).2) (fun r hr => (hb.2 r hr).2) fun i j hi hj => ?_
  · rw [(ha.2 _ (List.getElem_mem h1)).1, (hb.2 _ (List.getElem_mem h2)).1]
  · rw [List.getD_eq_getElem?_getD, List.getElem?_eq_getElem hi] at hj
    have := (ha.2 _ (List.getElem_mem hi)).1
    exact h i j (by rw [← ha.1]; exact hi) (by rw [← this]; exact hj)
theorem Sq.of_okM {m : List (List DO)} (h : okM m = true) : Sq m.length m := ⟨rfl, fun _ hr => ⟨(okM_rows h hr).1, fun _ hx => okS_mem (okM_rows h hr).2 hx⟩⟩
theorem Sq.flip {N : Nat} {m : List (List DO)} (h : Sq N m) : Sq N (flip m) := by
  refine ⟨by rw [flip_length, h.1], fun r hr => ⟨by rw [mem_flip_length hr, h.1], fun x hx => ?_⟩⟩
  obtain ⟨i, hi, rfl⟩ := List.getElem_of_mem hr
  rw [flip_get] at hx
  simp only [colAt, List.mem_map] at hx
  obtain ⟨s, hs, rfl⟩ := hx
  exact getD_ok (h.2 s hs).2 i
theorem Sq.cols {N : Nat} {F : Nat → List DO} (h : ∀ i, i < N → (F i).length = N ∧ ∀ x ∈ F i, x.ok = true) : Sq N (colsM F N) :=
  ⟨colsM_length _ _, fun r hr => by obtain ⟨i, hi, rfl⟩ := colsM_mem hr; exact h i hi⟩
theorem vm_cols {N : Nat} {F : Nat → List DO} {i j : Nat} (hi : i < N) : vm (colsM F N) i j = vl (F i) j := by
  rw [vm_get (by rw [colsM_length]; exact hi), colsM_get]
theorem vm_flip_cols {N : Nat} {F : Nat → List DO} {i j : Nat} (hi : i < N) (hj : j < N) : vm (flip (colsM F N)) i j = vl (F j) i := by
  rw [flip_val (by rw [colsM_length]; exact hi) (by rw [colsM_length]; exact hj), vm_cols hj]
theorem Sq.mul {a b : List (List DO)} (h : (mulM a b).2 = true) : Sq a.length (mulM a b).1 := by
  obtain ⟨h1, h2, h3, h4, h5⟩ := mulM_parts h
  rw [h4]
  refine Sq.flip ⟨by rw [List.length_map, flip_length, h3], fun r hr => ?_⟩
  simp only [List.mem_map] at hr
  obtain ⟨c, hc, rfl⟩ := hr
  have hp := applyM_parts (h5 c hc)
  refine ⟨by rw [hp.2.2.2.1, List.length_map], fun x hx => okS_mem (applyM_okS (h5 c hc)) hx⟩
theorem vl_basis {n j k : Nat} (h1 : 1 ≤ n) (h4 : n ≤ 4) (hj : j < 2 ^ n) : vl (basis n j) k = dl k j := by
  rw [basis_nat h1 h4 hj]
  by_cases e : k = j
  · subst e
    rw [vl_set (by rw [List.length_replicate]; exact hj), if_pos rfl, dl, if_pos rfl]
    exact val_one
  · rw [vl_set (by rw [List.length_replicate]; exact hj), if_neg (fun h => e h.symm), dl, if_neg e, vl, List.getD_eq_getElem?_getD]
    by_cases hk : k < 2 ^ n
    · rw [List.getElem?_eq_getElem (by rw [List.length_replicate]; exact hk), List.getElem_replicate]
      exact val_zero
    · rw [List.getElem?_eq_none (by rw [List.length_replicate]; omega)]
      exact val_zero

/-! ### a gate and its inverse, a gate and its matrix -/
theorem applyG_undo {g : GT} {v : List DO} (h : (applyG g v).2 = true) (h' : (applyG g.inv (applyG g v).1).2 = true) : (applyG g.inv (applyG g v).1).1 = v := by
  obtain ⟨h1, h2, -⟩ := applyG_parts h
  obtain ⟨e1, n1, n4⟩ := qc_pow (okS_qc h1)
  have hl := applyG_len h
  have hl' := applyG_len h'
  refine vl_inj (hl'.trans hl) (fun x hx => okS_mem (applyG_okS h') hx) (fun x hx => okS_mem h1 hx) fun t ht => ?_
  have ht' : t < v.length := by omega
  rw [applyG_val h' t, hl]
  rw [sm_congr (g := fun s => sm v.length (fun k => cf g.inv t s * cf g s k * vl v k)) _ fun s hs => by
    rw [applyG_val h s, sm_mul]
    exact sm_congr _ fun k _ => (Q4.mul_assoc _ _ _).symm]
  rw [sm_comm]
  rw [sm_congr (g := fun k => dl t k * vl v k) _ fun k hk => by
    rw [← sm_mulr]
    congr 1
    rw [e1] at hk ht' ⊢
    exact cf_inv h2 ht' hk]
  exact sm_dl _ ht'
theorem gateM_sq {g : GT} {n : Nat} (hg : g.ok n = true) : Sq (2 ^ n) (gateM g n).1 ∧ ∀ i j, i < 2 ^ n → j < 2 ^ n → vm (gateM g n).1 i j = cf g i j := by
  have hp := (GT.parts hg).1
  have n1 : 1 ≤ n := by omega
  have n4 : n ≤ 4 := by omega
  have hb : ∀ i : Nat, i < 2 ^ n → (applyG g (basis n i)).2 = true := fun i hi => applyG_basis n1 n4 hg hi
  rw [gateM_yes hg rfl]
  refine ⟨Sq.flip (Sq.cols fun i hi => ⟨by rw [applyG_len (hb i hi), basis_len n1 n4 hi], fun x hx => okS_mem (applyG_okS (hb i hi)) hx⟩), fun i j hi hj => ?_⟩
  rw [vm_flip_cols hi hj, applyG_val (hb j hj), basis_len n1 n4 hj]
  rw [sm_congr (g := fun k => cf g i k * dl k j) _ fun k _ => by rw [vl_basis n1 n4 hj]]
  exact sm_dlr _ hj
theorem gateM_apply {g : GT} {v : List DO} (h : (applyG g v).2 = true) (h' : (applyM (gateM g (qc v.length)).1 v).2 = true) : (applyM (gateM g (qc v.length)).1 v).1 = (applyG g v).1 := by
  obtain ⟨h1, h2, -⟩ := applyG_parts h
  obtain ⟨e1, n1, n4⟩ := qc_pow (okS_qc h1)
  obtain ⟨hs, hv⟩ := gateM_sq h2
  have hp := applyM_parts h'
  refine vl_inj (by rw [hp.2.2.2.1, List.length_map, applyG_len h, hs.1, ← e1]) (fun x hx => okS_mem (applyM_okS h') hx) (fun x hx => okS_mem (applyG_okS h) hx) fun t ht => ?_
  rw [hp.2.2.2.1, List.length_map] at ht
  rw [applyM_val h' ht, applyG_val h]
  rw [hs.1] at ht
  exact sm_congr _ fun k hk => by rw [hv t k ht (by rw [← e1]; exact hk)]

theorem addL_none : ∀ (l : List (Nat × DO)) (out : List DO) (x : DO), (addL out l x).2 = false → (addL out l x).1 = []
  | [], out, x, h => by cases h
  | p :: r, out, x, h => by
    rw [addL] at h ⊢
    split at h
    · rename_i hc
      rw [if_pos hc]
      exact addL_none r _ x h
    · rename_i hc
      rw [if_neg hc]
theorem applyL_none (g : GT) : ∀ (v : List DO) (i : Nat) (out : List DO), (applyL g i v out).2 = false → (applyL g i v out).1 = []
  | [], i, out, h => by cases h
  | x :: r, i, out, h => by
    rw [applyL] at h ⊢
    split at h
    · rename_i hc
      rw [if_pos hc]
      exact applyL_none g r _ _ h
    · rename_i hc
      rw [if_neg hc]
theorem applyG_none {g : GT} {v : List DO} (h : (applyG g v).2 = false) : (applyG g v).1 = [] := by
  rw [applyG] at h ⊢
  split at h
  · rename_i hc
    rw [if_pos hc]
    exact applyL_none g _ _ _ h
  · rename_i hc
    rw [if_neg hc]

/-! ### circuits -/
theorem runG_len_of {l : List GT} {v : List DO} (h : (applyGs l v).2 = true) : (applyGs l v).1.length = v.length := by
  obtain ⟨h1, h2⟩ := applyGs_parts h
  rw [h2] at h ⊢
  exact runG_len l v h
theorem runG_okS_of {l : List GT} {v : List DO} (h : (applyGs l v).2 = true) : okS (applyGs l v).1 = true := by
  obtain ⟨h1, h2⟩ := applyGs_parts h
  rw [h2] at h ⊢
  exact runG_okS l v h1 h
theorem circM_sq {n : Nat} {l : List GT} (h : (circM n l).2 = true) : 1 ≤ n ∧ n ≤ 4 ∧ okC n l = true ∧ Sq (2 ^ n) (circM n l).1 ∧ ∀ i j, i < 2 ^ n → j < 2 ^ n → vm (circM n l).1 i j = mcL (2 ^ n) l i j := by
  by_cases hc : okC n l = true
  · have h14 := (inR_iff _ _ _).1 ((okC_iff n l).1 hc).1
    have n1 : 1 ≤ n := by omega
    have n4 : n ≤ 4 := by omega
    refine ⟨n1, n4, hc, ?_⟩
    rw [circM_yes hc] at h ⊢
    have hb : ∀ i : Nat, i < 2 ^ n → (applyGs l (basis n i)).2 = true := fun i hi => by
      rw [matG] at h
      split at h
      · rename_i hh
        rw [List.all_eq_true] at hh
        exact hh i (List.mem_range.2 hi)
      · cases h
    rw [matG_yes rfl hb]
    refine ⟨Sq.flip (Sq.cols fun i hi => ⟨by rw [runG_len_of (hb i hi), basis_len n1 n4 hi], fun x hx => okS_mem (runG_okS_of (hb i hi)) hx⟩), fun i j hi hj => ?_⟩
    obtain ⟨e0, e1⟩ := applyGs_parts (hb j hj)
    have hj2 := hb j hj
    rw [e1] at hj2
    rw [vm_flip_cols hi hj, e1, runG_val _ _ hj2 i (by rw [basis_len n1 n4 hj]; exact hi), basis_len n1 n4 hj]
    rw [sm_congr (g := fun k => mcL (2 ^ n) l i k * dl k j) _ fun k _ => by rw [vl_basis n1 n4 hj]]
    exact sm_dlr _ hj
  · rw [circM_no hc] at h
    cases h
theorem circM_joined {n : Nat} {a b : List GT} (ha : (circM n a).2 = true) (hb : (circM n b).2 = true) (hj : (circM n (a ++ b)).2 = true) (hp : (mulM (circM n b).1 (circM n a).1).2 = true) :
    (mulM (circM n b).1 (circM n a).1).1 = (circM n (a ++ b)).1 := by
  obtain ⟨n1, n4, -, sa, va⟩ := circM_sq ha
  obtain ⟨-, -, -, sb, vb⟩ := circM_sq hb
  obtain ⟨-, -, -, sj, vj⟩ := circM_sq hj
  have sp := Sq.mul hp
  rw [sb.1] at sp
  refine sp.inj sj fun i j hi hj => ?_
  rw [mulM_val hp (by rw [sb.1]; exact hi) (by rw [sb.1]; exact hj), sb.1, vj i j hi hj, mcL_append _ _ hi hj]
  exact sm_congr _ fun k hk => by rw [vb i k hi hk, va k j hk hj]
theorem identM_sq {n : Nat} (n1 : 1 ≤ n) (n4 : n ≤ 4) : Sq (2 ^ n) (identM n) ∧ ∀ i j, i < 2 ^ n → j < 2 ^ n → vm (identM n) i j = dl i j := by
  have e : identM n = colsM (fun i => basis n i) (2 ^ n) := by
    rw [identM, if_pos ((inR_iff _ _ _).2 (by omega))]
    rfl
  rw [e]
  refine ⟨Sq.cols fun i hi => ⟨basis_len n1 n4 hi, fun x hx => okS_mem (basis_ok n1 n4 hi) hx⟩, fun i j hi hj => ?_⟩
  rw [vm_cols hi, vl_basis n1 n4 hi, dl_comm]
theorem circM_undone {n : Nat} {l : List GT} (h : (circM n (l ++ invL l)).2 = true) : (circM n (l ++ invL l)).1 = identM n := by
  obtain ⟨n1, n4, hc, s, v⟩ := circM_sq h
  obtain ⟨si, vi⟩ := identM_sq n1 n4
  refine s.inj si fun i j hi hj => ?_
  rw [v i j hi hj, vi i j hi hj]
  exact mcL_undo l (fun g hg => ((okC_iff _ _).1 hc).2.2 g (by simp [hg])) i j hi hj

end Go.Proofs.Yteckhaafdojoeaa

/-! S44: A gate's inverse (InverseGate, both sides). -/
namespace Go.Proofs.Yteckhaafdojoeaa
open Go.RowKit BigFrame

theorem invK_no {k : Int} (h5 : k ≠ 5) (h6 : k ≠ 6) (h7 : k ≠ 7) (h8 : k ≠ 8) : invK k = k := by
  unfold invK
  simp [h5, h6, h7, h8]
set_option maxRecDepth 100000 in
set_option maxHeartbeats 4000000 in
theorem iInverseGate (g : GT) (w : World) :
    Calls Try.prog 69 #[Gv g] w fun e w' => e = .returned (Gv g.inv) ∧ Below w.heap.size w w' := by
  obtain ⟨k, a, b, c⟩ := g
  by_cases h5 : k = 5
  · subst h5
    go_enter Try.func69, Try.ntmps69
    go_wp2
    exact bodyPost_ret (v := Gv ⟨6, a, b, c⟩) (by simp [results, Try.results69, go_sem, *]) rfl ⟨rfl, by (repeat (first | with_reducible exact Below.refl _ _ | with_reducible assumption | with_reducible refine Below.setCell ?_ (by first | omega | (simp; done) | (simp; omega)) _ | with_reducible refine Below.alloc ?_ (by first | omega | (simp; done) | (simp; omega)) _ | with_reducible refine Below.drew ?_ | with_reducible refine belowDrewN ?_ _ | with_reducible refine Below.trans ?_ (Below.mono (by assumption) (by first | omega | (simp; done) | (simp; omega)))))⟩
  · by_cases h6 : k = 6
    · subst h6
      go_enter Try.func69, Try.ntmps69
      go_wp2
      exact bodyPost_ret (v := Gv ⟨5, a, b, c⟩) (by simp [results, Try.results69, go_sem, *]) rfl ⟨rfl, by (repeat (first | with_reducible exact Below.refl _ _ | with_reducible assumption | with_reducible refine Below.setCell ?_ (by first | omega | (simp; done) | (simp; omega)) _ | with_reducible refine Below.alloc ?_ (by first | omega | (simp; done) | (simp; omega)) _ | with_reducible refine Below.drew ?_ | with_reducible refine belowDrewN ?_ _ | with_reducible refine Below.trans ?_ (Below.mono (by assumption) (by first | omega | (simp; done) | (simp; omega)))))⟩
    · by_cases h7 : k = 7
      · subst h7
        go_enter Try.func69, Try.ntmps69
        go_wp2
        exact bodyPost_ret (v := Gv ⟨8, a, b, c⟩) (by simp [results, Try.results69, go_sem, *]) rfl ⟨rfl, by (repeat (first | with_reducible exact Below.refl _ _ | with_reducible assumption | with_reducible refine Below.setCell ?_ (by first | omega | (simp; done) | (simp; omega)) _ | with_reducible refine Below.alloc ?_ (by first | omega | (simp; done) | (simp; omega)) _ | with_reducible refine Below.drew ?_ | with_reducible refine belowDrewN ?_ _ | with_reducible refine Below.trans ?_ (Below.mono (by assumption) (by first | omega | (simp; done) | (simp; omega)))))⟩
      · by_cases h8 : k = 8
        · subst h8
          go_enter Try.func69, Try.ntmps69
          go_wp2
          exact bodyPost_ret (v := Gv ⟨7, a, b, c⟩) (by simp [results, Try.results69, go_sem, *]) rfl ⟨rfl, by (repeat (first | with_reducible exact Below.refl _ _ | with_reducible assumption | with_reducible refine Below.setCell ?_ (by first | omega | (simp; done) | (simp; omega)) _ | with_reducible refine Below.alloc ?_ (by first | omega | (simp; done) | (simp; omega)) _ | with_reducible refine Below.drew ?_ | with_reducible refine belowDrewN ?_ _ | with_reducible refine Below.trans ?_ (Below.mono (by assumption) (by first | omega | (simp; done) | (simp; omega)))))⟩
        · have e : GT.inv ⟨k, a, b, c⟩ = ⟨k, a, b, c⟩ := by rw [GT.inv, invK_no h5 h6 h7 h8]
          have E := Lib.hid e
          have e5 : (k == 5) = false := by simpa using h5
          have e6 : (k == 6) = false := by simpa using h6
          have e7 : (k == 7) = false := by simpa using h7
          have e8 : (k == 8) = false := by simpa using h8
          clear e
          go_enter Try.func69, Try.ntmps69
          go_wp2
          exact bodyPost_ret (v := Gv ⟨k, a, b, c⟩) (by simp [results, Try.results69, go_sem, *]) rfl ⟨by rw [E.out], by (repeat (first | with_reducible exact Below.refl _ _ | with_reducible assumption | with_reducible refine Below.setCell ?_ (by first | omega | (simp; done) | (simp; omega)) _ | with_reducible refine Below.alloc ?_ (by first | omega | (simp; done) | (simp; omega)) _ | with_reducible refine Below.drew ?_ | with_reducible refine belowDrewN ?_ _ | with_reducible refine Below.trans ?_ (Below.mono (by assumption) (by first | omega | (simp; done) | (simp; omega)))))⟩

set_option maxRecDepth 100000 in
set_option maxHeartbeats 4000000 in
theorem sInverseGate (g : GT) (w : World) :
    Calls Try.prog 161 #[Gv g] w fun e w' => e = .returned (Gv g.inv) ∧ Below w.heap.size w w' := by
  obtain ⟨k, a, b, c⟩ := g
  by_cases h5 : k = 5
  · subst h5
    go_enter Try.func161, Try.ntmps161
    go_wp2
    exact bodyPost_ret (v := Gv ⟨6, a, b, c⟩) (by simp [results, Try.results161, go_sem, *]) rfl ⟨rfl, by (repeat (first | with_reducible exact Below.refl _ _ | with_reducible assumption | with_reducible refine Below.setCell ?_ (by first | omega | (simp; done) | (simp; omega)) _ | with_reducible refine Below.alloc ?_ (by first | omega | (simp; done) | (simp; omega)) _ | with_reducible refine Below.drew ?_ | with_reducible refine belowDrewN ?_ _ | with_reducible refine Below.trans ?_ (Below.mono (by assumption) (by first | omega | (simp; done) | (simp; omega)))))⟩
  · by_cases h6 : k = 6
    · subst h6
      go_enter Try.func161, Try.ntmps161
      go_wp2
      exact bodyPost_ret (v := Gv ⟨5, a, b, c⟩) (by simp [results, Try.results161, go_sem, *]) rfl ⟨rfl, by (repeat (first | with_reducible exact Below.refl _ _ | with_reducible assumption | with_reducible refine Below.setCell ?_ (by first | omega | (simp; done) | (simp; omega)) _ | with_reducible refine Below.alloc ?_ (by first | omega | (simp; done) | (simp; omega)) _ | with_reducible refine Below.drew ?_ | with_reducible refine belowDrewN ?_ _ | with_reducible refine Below.trans ?_ (Below.mono (by assumption) (by first | omega | (simp; done) | (simp; omega)))))⟩
    · by_cases h7 : k = 7
      · subst h7
        go_enter Try.func161, Try.ntmps161
        go_wp2
        exact bodyPost_ret (v := Gv ⟨8, a, b, c⟩) (by simp [results, Try.results161, go_sem, *]) rfl ⟨rfl, by (repeat (first | with_reducible exact Below.refl _ _ | with_reducible assumption | with_reducible refine Below.setCell ?_ (by first | omega | (simp; done) | (simp; omega)) _ | with_reducible refine Below.alloc ?_ (by first | omega | (simp; done) | (simp; omega)) _ | with_reducible refine Below.drew ?_ | with_reducible refine belowDrewN ?_ _ | with_reducible refine Below.trans ?_ (Below.mono (by assumption) (by first | omega | (simp; done) | (simp; omega)))))⟩
      · by_cases h8 : k = 8
        · subst h8
          go_enter Try.func161, Try.ntmps161
          go_wp2
          exact bodyPost_ret (v := Gv ⟨7, a, b, c⟩) (by simp [results, Try.results161, go_sem, *]) rfl ⟨rfl, by (repeat (first | with_reducible exact Below.refl _ _ | with_reducible assumption | with_reducible refine Below.setCell ?_ (by first | omega | (simp; done) | (simp; omega)) _ | with_reducible refine Below.alloc ?_ (by first | omega | (simp; done) | (simp; omega)) _ | with_reducible refine Below.drew ?_ | with_reducible refine belowDrewN ?_ _ | with_reducible refine Below.trans ?_ (Below.mono (by assumption) (by first | omega | (simp; done) | (simp; omega)))))⟩
        · have e : GT.inv ⟨k, a, b, c⟩ = ⟨k, a, b, c⟩ := by rw [GT.inv, invK_no h5 h6 h7 h8]
          have E := Lib.hid e
          have e5 : (k == 5) = false := by simpa using h5
          have e6 : (k == 6) = false := by simpa using h6
          have e7 : (k == 7) = false := by simpa using h7
          have e8 : (k == 8) = false := by simpa using h8
          clear e
          go_enter Try.func161, Try.ntmps161
          go_wp2
          exact bodyPost_ret (v := Gv ⟨k, a, b, c⟩) (by simp [results, Try.results161, go_sem, *]) rfl ⟨by rw [E.out], by (repeat (first | with_reducible exact Below.refl _ _ | with_reducible assumption | with_reducible refine Below.setCell ?_ (by first | omega | (simp; done) | (simp; omega)) _ | with_reducible refine Below.alloc ?_ (by first | omega | (simp; done) | (simp; omega)) _ | with_reducible refine Below.drew ?_ | with_reducible refine belowDrewN ?_ _ | with_reducible refine Below.trans ?_ (Below.mono (by assumption) (by first | omega | (simp; done) | (simp; omega)))))⟩

end Go.Proofs.Yteckhaafdojoeaa
