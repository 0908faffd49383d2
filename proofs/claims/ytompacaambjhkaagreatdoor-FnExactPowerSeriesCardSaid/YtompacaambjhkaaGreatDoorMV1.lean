/- A part of the proof that stands in YtompacaambjhkaaGreatDoorMV3. -/
import Derived.Test.YtompacaambjhkaaGreatDoorM14

set_option linter.unusedVariables false
set_option linter.unusedSimpArgs false
set_option maxRecDepth 100000
namespace Go.Proofs.YtompacaambjhkaaGreatDoor
open Go

def cd (D N : Nat) (q : Rat) : Prop := D ≠ 0 ∧ ∃ p : Int, q = mkRat p D ∧ p.natAbs ≤ N
theorem cd_zero {D N : Nat} (h : D ≠ 0) : cd D N 0 := ⟨h, 0, by simp, by simp⟩
theorem cd_mono {D N N' : Nat} {q : Rat} (h : cd D N q) (hn : N ≤ N') : cd D N' q := by
  obtain ⟨h1, p, h2, h3⟩ := h
  exact ⟨h1, p, h2, Nat.le_trans h3 hn⟩
theorem cd_add {D M N : Nat} {a b : Rat} (ha : cd D M a) (hb : cd D N b) : cd D (M + N) (a + b) := by
  obtain ⟨h1, p, h2, h3⟩ := ha
  obtain ⟨_, q, h5, h6⟩ := hb
  refine ⟨h1, p + q, add_common h2 h5, ?_⟩
  have := Int.natAbs_add_le p q
  omega
theorem cd_mul {D E M N : Nat} {a b : Rat} (ha : cd D M a) (hb : cd E N b) : cd (D * E) (M * N) (a * b) := by
  obtain ⟨h1, p, rfl, h3⟩ := ha
  obtain ⟨h4, q, rfl, h6⟩ := hb
  refine ⟨Nat.mul_ne_zero h1 h4, p * q, Rat.mkRat_mul_mkRat _ _ _ _, ?_⟩
  rw [Int.natAbs_mul]
  exact Nat.mul_le_mul h3 h6
theorem cd_lift {D E N : Nat} {q : Rat} (h : cd D N q) (he : E ≠ 0) : cd (D * E) (N * E) q := by
  obtain ⟨h1, p, rfl, h3⟩ := h
  refine ⟨Nat.mul_ne_zero h1 he, p * E, (Rat.mkRat_mul_right he).symm, ?_⟩
  rw [Int.natAbs_mul, Int.natAbs_natCast]
  exact Nat.mul_le_mul_right _ h3
theorem cd_fits {D N n : Nat} {q : Rat} (h : cd D N q) (hD : D < 2 ^ n) (hN : N < 2 ^ n) (hn : 0 < n) : fits n q := by
  obtain ⟨_, p, rfl, h3⟩ := h
  exact fits_mkRat (Nat.lt_of_le_of_lt h3 hN) hD hn
theorem cd_of {m : Nat} {q : Rat} (h : fits m q) : cd q.den (2 ^ m) q := ⟨q.den_nz, q.num, (Rat.mkRat_self q).symm, Nat.le_of_lt h.1⟩
theorem cd_list {m : Nat} : ∀ (qs : List Rat), (∀ q ∈ qs, fits m q) → ∃ D, D ≠ 0 ∧ D ≤ 2 ^ (m * qs.length) ∧ ∀ q ∈ qs, cd D (2 ^ (m * qs.length + m)) q
  | [], _ => ⟨1, by decide, by simp, by simp⟩
  | a :: qs, h => by
    obtain ⟨D, h1, h2, h3⟩ := cd_list qs fun q hq => h q (by simp [hq])
    have ha := h a (by simp)
    have e : m * (a :: qs).length = m + m * qs.length := by rw [List.length_cons, Nat.mul_succ]; omega
    refine ⟨a.den * D, Nat.mul_ne_zero a.den_nz h1, ?_, fun q hq => ?_⟩
    · rw [e, Nat.pow_add]
      exact Nat.mul_le_mul (Nat.le_of_lt ha.2) h2
    · rw [e]
      rcases List.mem_cons.1 hq with rfl | hq
      · refine cd_mono (cd_lift (cd_of ha) h1) ?_
        rw [show m + m * qs.length + m = m + (m * qs.length + m) by omega, Nat.pow_add]
        exact Nat.mul_le_mul (Nat.le_refl _) (Nat.le_trans h2 (Nat.pow_le_pow_right (by decide) (by omega)))
      · have := cd_lift (h3 q hq) (E := a.den) a.den_nz
        rw [Nat.mul_comm] at this
        refine cd_mono this ?_
        rw [show m + m * qs.length + m = (m * qs.length + m) + m by omega, Nat.pow_add 2 (m * qs.length + m) m]
        exact Nat.mul_le_mul (Nat.le_refl _) (Nat.le_of_lt ha.2)
def pcv (x y : List Rat) (k : Nat) : Nat → Rat
  | 0 => 0
  | i + 1 => if i ≤ k then pcv x y k i + x.getD i 0 * y.getD (k - i) 0 else pcv x y k i
def timF (x y : List Rat) (k : Nat) : Rat := pcv x y k (k + 1)
def timL (x y : List Rat) : List Rat := mapF x.length (timF x y)
theorem pcv_stop {x y : List Rat} {k : Nat} : ∀ {i}, k + 1 ≤ i → pcv x y k i = timF x y k
  | 0, h => by omega
  | i + 1, h => by
    rcases Nat.eq_or_lt_of_le h with h' | h'
    · obtain rfl : i = k := by omega
      rfl
    · rw [pcv, if_neg (by omega)]; exact pcv_stop (by omega)
theorem cd_getD {D N : Nat} {qs : List Rat} (hD : D ≠ 0) (h : ∀ q ∈ qs, cd D N q) (i : Nat) : cd D N (qs.getD i 0) := by
  rcases Nat.lt_or_ge i qs.length with h' | h'
  · rw [List.getD_eq_getElem?_getD, List.getElem?_eq_getElem h']; exact h _ (List.getElem_mem h')
  · rw [List.getD_eq_getElem?_getD, List.getElem?_eq_none h']; exact cd_zero hD
theorem pcv_cd {D E M N : Nat} {x y : List Rat} (hD : D ≠ 0) (hE : E ≠ 0) (hx : ∀ q ∈ x, cd D M q) (hy : ∀ q ∈ y, cd E N q) (k : Nat) : ∀ i, cd (D * E) (i * (M * N)) (pcv x y k i)
  | 0 => cd_zero (Nat.mul_ne_zero hD hE)
  | i + 1 => by
    have ih := pcv_cd hD hE hx hy k i
    rw [pcv]
    split
    · refine cd_mono (cd_add ih (cd_mul (cd_getD hD hx i) (cd_getD hE hy (k - i)))) ?_
      rw [Nat.succ_mul]; exact Nat.le_refl _
    · exact cd_mono ih (Nat.mul_le_mul_right _ (by omega))
theorem timL_len {x y : List Rat} : (timL x y).length = x.length := mapF_len
def oneF (i : Nat) : Rat := if i = 0 then 1 else 0
def oneL (n : Nat) : List Rat := mapF n oneF
def powL (x : List Rat) : Nat → List Rat
  | 0 => oneL x.length
  | n + 1 => timL (powL x n) x
theorem powL_len (x : List Rat) : ∀ n, (powL x n).length = x.length
  | 0 => mapF_len
  | n + 1 => by rw [powL, timL_len, powL_len x n]
theorem oneL_cd {n : Nat} : ∀ q ∈ oneL n, cd 1 1 q := by
  intro q hq
  obtain ⟨i, hi, rfl⟩ := List.mem_map.1 hq
  unfold oneF
  split
  · exact ⟨by decide, 1, by rfl, by decide⟩
  · exact cd_zero (by decide)
theorem powL_cd {D N : Nat} {x : List Rat} (hD : D ≠ 0) (hx : ∀ q ∈ x, cd D N q) : ∀ n, ∀ q ∈ powL x n, cd (D ^ n) ((x.length * N) ^ n) q
  | 0 => by
    intro q hq
    simpa using oneL_cd q hq
  | n + 1 => by
    intro q hq
    rw [powL, timL] at hq
    obtain ⟨k, hk, rfl⟩ := List.mem_map.1 hq
    have hk' : k < x.length := by rw [powL_len] at hk; simpa using hk
    have := pcv_cd (Nat.pow_pos (Nat.pos_of_ne_zero hD) |> Nat.ne_of_gt : D ^ n ≠ 0) hD (powL_cd hD hx n) hx k (k + 1)
    rw [Nat.pow_succ, Nat.pow_succ]
    refine cd_mono this ?_
    rw [Nat.mul_left_comm]
    exact Nat.mul_le_mul_left _ (Nat.mul_le_mul_right _ (by omega))
theorem mapF_set {n p : Nat} {f : Nat → Rat} {v : Rat} : (mapF n f).set p v = mapF n (fun k => if k = p then v else f k) := by
  apply List.ext_getElem
  · simp [mapF]
  · intro i h1 h2
    simp only [mapF, List.getElem_set, List.getElem_map, List.getElem_range]
    by_cases e : p = i
    · rw [if_pos e, if_pos e.symm]
    · rw [if_neg e, if_neg (fun h => e h.symm)]
def stT (x y : List Rat) (i j k : Nat) : Rat := if i ≤ k ∧ k < i + j then pcv x y k (i + 1) else pcv x y k i
theorem stT_next {x y : List Rat} {L i j : Nat} : (mapF L (stT x y i j)).set (i + j) (pcv x y (i + j) (i + 1)) = mapF L (stT x y i (j + 1)) := by
  rw [mapF_set]
  refine mapF_congr fun k hk => ?_
  unfold stT
  by_cases e : k = i + j
  · subst e; rw [if_pos rfl, if_pos (by omega)]
  · rw [if_neg e]
    by_cases c : i ≤ k ∧ k < i + j
    · rw [if_pos c, if_pos (by omega)]
    · rw [if_neg c, if_neg (by omega)]
theorem stT_at {x y : List Rat} {i j : Nat} : stT x y i j (i + j) = pcv x y (i + j) i := by unfold stT; rw [if_neg (by omega)]
theorem stT_zero {x y : List Rat} {L i : Nat} : mapF L (fun k => pcv x y k i) = mapF L (stT x y i 0) := mapF_congr fun k hk => by unfold stT; rw [if_neg (by omega)]
theorem getD_out {qs : List Rat} {i : Nat} (h : qs.length ≤ i) : qs.getD i 0 = 0 := by rw [List.getD_eq_getElem?_getD, List.getElem?_eq_none h]; rfl
theorem stT_end {x y : List Rat} {L i j : Nat} (he : y.length ≤ j ∨ L ≤ i + j) : mapF L (stT x y i j) = mapF L (fun k => pcv x y k (i + 1)) := by
  refine mapF_congr fun k hk => ?_
  unfold stT
  by_cases c : i ≤ k ∧ k < i + j
  · rw [if_pos c]
  · rw [if_neg c, pcv]
    by_cases g : i ≤ k
    · have hz : y.getD (k - i) 0 = 0 := getD_out (by omega)
      rw [if_pos g, hz, Rat.mul_zero, Rat.add_zero]
    · rw [if_neg g]
theorem pcv_end {x y : List Rat} : mapF x.length (fun k => pcv x y k x.length) = timL x y := mapF_congr fun k hk => pcv_stop (by omega)
theorem pcv_step {x y : List Rat} {k i : Nat} {p q : Rat} (h : i ≤ k) (hp : x[i]? = some p) (hq : y[k - i]? = some q) : pcv x y k (i + 1) = pcv x y k i + p * q := by rw [pcv, if_pos h, getD_of hp, getD_of hq]
theorem pcv_skip {x y : List Rat} {k i : Nat} (hq : y.length ≤ k - i) : pcv x y k (i + 1) = pcv x y k i := by
  rw [pcv]; split
  · rw [getD_out hq, Rat.mul_zero, Rat.add_zero]
  · rfl
theorem zero_fits (m : Nat) (hm : 0 < m) : fits m 0 := fits_int (n := 0) (by simpa using Nat.pow_pos (by decide)) hm
theorem pcv_fits {m n : Nat} {x y : List Rat} (hm : 0 < m) (hx : ∀ i, fits m (x.getD i 0)) (hy : ∀ i, fits n (y.getD i 0)) (k : Nat) : ∀ i, fits (64 + i * (m + n + 1)) (pcv x y k i)
  | 0 => zero_fits _ (by omega)
  | i + 1 => by
    have ih := pcv_fits hm hx hy k i
    rw [pcv]; split
    · exact fits_mono (fits_add ih (fits_mul (hx i) (hy (k - i)) hm)) (by rw [Nat.succ_mul]; omega)
    · exact fits_mono ih (by rw [Nat.succ_mul]; omega)
def bigT : Nat := 20000
theorem tim_fits {x y : List Rat} (hx : ∀ q ∈ x, fits 700 q) (hy : ∀ q ∈ y, fits 700 q) {k i : Nat} (hi : i ≤ 14) : fits bigT (pcv x y k i) :=
  fits_mono (pcv_fits (by decide) (getD_fits hx) (getD_fits hy) k i) (by unfold bigT; omega)
theorem zeros_F {m M L : Nat} {x y : List Rat} (hm : 0 < m) (hM : 0 < M) : ratL m (List.replicate L 0) = ratL M (mapF L (fun k => pcv x y k 0)) := by
  have e : mapF L (fun k => pcv x y k 0) = List.replicate L 0 := by
    apply List.ext_getElem
    · simp [mapF]
    · intro i h1 h2; simp [mapF, pcv]
  rw [e, ratL, ratL]
  refine List.map_congr_left fun q hq => ?_
  obtain rfl := List.eq_of_mem_replicate hq
  exact rI_re (zero_fits _ hm) (zero_fits _ hM)
def bigP : Nat := 262144
theorem two_pow_le {a b k K : Nat} (h : a ≤ 2 ^ b) (hk : b * k ≤ K) : a ^ k ≤ 2 ^ K :=
  Nat.le_trans (Nat.pow_le_pow_left h k) (by rw [← Nat.pow_mul]; exact Nat.pow_le_pow_right (by decide) hk)
theorem two_pow_lt {a b c : Nat} (h : a ≤ 2 ^ b) (hb : b < c) : a < 2 ^ c := Nat.lt_of_le_of_lt h (Nat.pow_lt_pow_right (by decide) hb)
theorem mul_pow_le {L k a : Nat} (h : L ≤ 2 ^ k) : L * 2 ^ a ≤ 2 ^ (k + a) := by rw [Nat.pow_add]; exact Nat.mul_le_mul_right _ h
theorem mul_pow_le3 {i X a b c : Nat} (h1 : i ≤ 2 ^ a) (h2 : X ≤ 2 ^ b) : i * (X * 2 ^ c) ≤ 2 ^ (a + (b + c)) := by
  rw [Nat.pow_add 2 a, Nat.pow_add 2 b]
  exact Nat.mul_le_mul h1 (Nat.mul_le_mul_right _ h2)
theorem pow_fits {x : List Rat} (hx : ∀ q ∈ x, fits 700 q) (hl : x.length ≤ 13) (h1 : 1 ≤ x.length) {n : Nat} (hn : n ≤ 20) : (∀ q ∈ powL x n, fits bigP q) ∧ ∀ k i, i ≤ 14 → n < 20 → fits bigP (pcv (powL x n) x k i) := by
  obtain ⟨D, hD, hDl, hc⟩ := cd_list x hx
  obtain ⟨B, hB⟩ : ∃ B, B = 700 * x.length := ⟨_, rfl⟩
  rw [← hB] at hDl hc
  have hB2 : B ≤ 9100 := by omega
  obtain ⟨C, hC⟩ : ∃ C, C = B + 700 := ⟨_, rfl⟩
  rw [← hC] at hc
  have hN : x.length * 2 ^ C ≤ 2 ^ (4 + C) := mul_pow_le (Nat.le_trans hl (by decide))
  have hp := powL_cd hD hc n
  have hD0 : 0 < D := Nat.pos_of_ne_zero hD
  refine ⟨fun q hq => cd_fits (hp q hq) (two_pow_lt (two_pow_le hDl (K := B * n) (Nat.le_refl _)) ?_) (two_pow_lt (two_pow_le hN (K := (4 + C) * n) (Nat.le_refl _)) ?_) (by unfold bigP; omega), fun k i hi hn2 => ?_⟩
  · have := Nat.mul_le_mul hB2 hn
    unfold bigP; omega
  · have := Nat.mul_le_mul (show 4 + C ≤ 9804 by omega) hn
    unfold bigP; omega
  · have h := pcv_cd (Nat.ne_of_gt (Nat.pow_pos hD0) : D ^ n ≠ 0) hD hp hc k i
    rw [← Nat.pow_succ] at h
    have e1 := Nat.mul_le_mul hB2 (show n + 1 ≤ 20 by omega)
    have e2 := Nat.mul_le_mul (show 4 + C ≤ 9804 by omega) hn
    have a1 : i ≤ 2 ^ 4 := Nat.le_trans hi (by decide)
    have a2 := two_pow_le hN (k := n) (K := (4 + C) * n) (Nat.le_refl _)
    have a3 := mul_pow_le3 (c := C) a1 a2
    exact cd_fits h (two_pow_lt (two_pow_le hDl (K := B * (n + 1)) (Nat.le_refl _)) (by unfold bigP; omega)) (two_pow_lt a3 (by unfold bigP; omega)) (by unfold bigP; omega)
theorem timT_len {xs ys ts : List (List UInt8)} (h : opT timL xs ys = some ts) : ts.length ≤ 1000 := opT_len (fun _ _ => timL_len) h
def powT (xs : List (List UInt8)) (n : Int) : Option (List (List UInt8)) :=
  match serR xs with
  | some x => if 0 ≤ n ∧ n ≤ 20 then (powL x n.toNat).mapM toldR else none
  | none => none
theorem powT_len {xs : List (List UInt8)} {n : Int} {ts : List (List UInt8)} (h : powT xs n = some ts) : ts.length ≤ 1000 := by
  unfold powT at h
  cases hx : serR xs with
  | none => rw [hx] at h; cases h
  | some x =>
    rw [hx] at h
    simp only at h
    split at h
    · obtain ⟨_, _, _, h4⟩ := serR_some hx
      have := toldL_len h
      rw [powL_len] at this; omega
    · cases h
theorem w_l08Times {m n M : Nat} {x y : List Rat} (hM : M ≤ 10000000) (hm : m ≤ 10000000) (hn : n ≤ 10000000) (hM0 : 0 < M) (hl : x.length ≤ 1000) (hl2 : y.length ≤ 1000) (h1 : 1 ≤ x.length) (hp : ∀ k i, k < x.length → i ≤ k + 1 → fits M (pcv x y k i)) : CW Tryz.prog 20 [lS m x, lS n y] (lS M (timL x y)) := by
  refine cw (by kernel_rfl) (by simp [AV.pure, AV.pureL, natA_pure, natI_pure, natS_pure]) (by simp [AV.pure, AV.pureL, natA_pure, natI_pure, natS_pure]) ?_
  obtain ⟨L, hL⟩ : ∃ n, x.length = n := ⟨_, rfl⟩
  obtain ⟨Ly, hLy⟩ : ∃ n, y.length = n := ⟨_, rfl⟩
  rw [timL]
  rw [hL] at hl h1 hp ⊢
  rw [hLy] at hl2
  (refine callOk_of_wpc (W := fun _ => false) false hm' Tryz.func20 rfl (by kernel_rfl) (Nat.le_of_ble_eq_true rfl) (go_start ?_); generalize hQ : Post Tryz.prog Tryz.f20 _ _ _ _ _ = Q; simp only [stIn, matL, matA, st00])
  simp (disch := omega) only [go_sem, ↓k_cond, ↓x_idx, ↓k_block, Nat.reduceEqDiff, Nat.reduceBEq, ↓reduceIte, reduceCtorEq, hL]
  refine k_loop (fun (k : Nat) st => st.fr 0 = lS m x ∧ st.fr 1 = lS n y ∧ st.fr 5 = .ref 0 k 0 k ∧ st.fr 6 = .int .i64 k ∧ st.h 0 = ⟨54, ratM M (mapF k (timF x y)), (k == 0), true, true⟩ ∧ 0 < st.nx ∧ (k ≤ L)) (fun (k : Nat) => L - k) (0)
    ⟨(by simp [upd_app, ratM, mapF] <;> omega), (by simp [upd_app, ratM, mapF] <;> omega), (by simp [upd_app, ratM, mapF] <;> omega), (by simp [upd_app, ratM, mapF] <;> omega), (by simp [upd_app, ratM, mapF] <;> omega), (by simp <;> omega), by omega⟩ ?_
  rintro k ⟨fr, h, nx⟩ ⟨g0, g1, g5, g6, hm0, hnx, hk⟩ J hJ
  simp only at g0 g1 g5 g6 hm0 hnx
  have n1 : (0 = nx) = False := by simp; omega
  have n2 : (nx = 0) = False := by simp; omega
  by_cases hin : k < L
  · have hel : (ratM M (mapF k (timF x y))).length = k := by rw [ratM_length, mapF_len]
    have hz1 : (k + 1 == 0) = false := by simp
    have h0 : rS 64 0 = rS M (pcv x y k 0) := rS_re (zero_fits _ (by decide)) (hp k 0 hin (by omega))
    have hsn : ratM M (mapF k (timF x y)) ++ [rS M (pcv x y k (k + 1))] = ratM M (mapF (k + 1) (timF x y)) := by rw [mapF_succ, ratM_snoc]; rfl
    have keyJ := hJ (k + 1)
    clear hJ
    simp (disch := omega) only [go_sem, ↓k_cond, ↓x_idx, ↓k_block, Nat.reduceEqDiff, Nat.reduceBEq, ↓reduceIte, reduceCtorEq, g0, g1, g5, g6, hL]
    (repeat (with_reducible refine Or.inr ?_))
    refine k_loop (fun (i : Nat) st => st.fr 0 = lS m x ∧ st.fr 1 = lS n y ∧ st.fr 5 = .ref 0 k 0 k ∧ st.fr 6 = .int .i64 k ∧ st.fr 7 = .ptr nx 1 0 0 ∧ st.fr 8 = .int .i64 i ∧ st.h 0 = ⟨54, ratM M (mapF k (timF x y)), (k == 0), true, true⟩ ∧ st.h nx = ⟨54, [rS M (pcv x y k i)], true, false, true⟩ ∧ nx < st.nx ∧ i ≤ k + 1) (fun i => k + 1 - i) 0
      ⟨(by simp [upd_app, g0] <;> omega), (by simp [upd_app, g1] <;> omega), (by simp [upd_app, g5] <;> omega), (by simp [upd_app, g6] <;> omega), (by simp [upd_app] <;> omega), (by simp [upd_app] <;> omega), by simp only [upd_app, ↓reduceIte, n1, hm0], by simp only [upd_app, ↓reduceIte, h0], by simp, by omega⟩ ?_
    rintro i ⟨fr2, h2, nx2⟩ ⟨r0, r1, r5, r6, r7, r8, m0, mx, hx2, hi⟩ J2 hJ2
    simp only at r0 r1 r5 r6 r7 r8 m0 mx hx2
    by_cases hin2 : i ≤ k
    · obtain ⟨p, hpx⟩ := get_some (xs := x) (i := i) (by omega)
      by_cases hc : k - i < Ly
      · obtain ⟨q, hq⟩ := get_some (xs := y) (i := k - i) (by omega)
        have hqk : ((k : Int) - (i : Int)).toNat = k - i := by omega
        have hst := pcv_step hin2 hpx hq
        have hre : rS (M + (m + n) + 1) (pcv x y k i + p * q) = rS M (pcv x y k (i + 1)) := by
          rw [← hst]; exact rS_re (fits_mono (hp k (i + 1) hin (by omega)) (by omega)) (hp k (i + 1) hin (by omega))
        simp (disch := omega) only [go_sem, ↓k_cond, ↓x_idx, ↓k_block, Nat.reduceEqDiff, Nat.reduceBEq, ↓reduceIte, reduceCtorEq, r0, r1, r5, r6, r7, r8, m0, mx, hpx, hq, hqk, hL, hLy, hre]
        (repeat (with_reducible refine Or.inr ?_))
        exact hJ2 (i + 1) _ ⟨(by simp [upd_app, r0] <;> omega), (by simp [upd_app, r1] <;> omega), (by simp [upd_app, r5] <;> omega), (by simp [upd_app, r6] <;> omega), (by simp [upd_app, r7] <;> omega), (by simp [upd_app] <;> omega), by simp only [upd_app, ↓reduceIte, n1, m0], by simp only [upd_app, ↓reduceIte], hx2, by omega⟩ (by first | omega | (simp only; omega))
      · have hst : pcv x y k (i + 1) = pcv x y k i := pcv_skip (by omega)
        simp (disch := omega) only [go_sem, ↓k_cond, ↓x_idx, ↓k_block, Nat.reduceEqDiff, Nat.reduceBEq, ↓reduceIte, reduceCtorEq, r0, r1, r5, r6, r7, r8, m0, mx, hpx, hL, hLy]
        exact hJ2 (i + 1) _ ⟨(by simp [upd_app, r0] <;> omega), (by simp [upd_app, r1] <;> omega), (by simp [upd_app, r5] <;> omega), (by simp [upd_app, r6] <;> omega), (by simp [upd_app, r7] <;> omega), (by simp [upd_app] <;> omega), by simp only [upd_app, ↓reduceIte, n1, m0], by simp only [upd_app, ↓reduceIte, mx, hst], hx2, by omega⟩ (by first | omega | (simp only; omega))
    · obtain rfl : i = k + 1 := by omega
      simp (disch := omega) only [go_sem, ↓k_cond, ↓x_idx, ↓k_block, Nat.reduceEqDiff, Nat.reduceBEq, ↓reduceIte, reduceCtorEq, r0, r1, r5, r6, r7, r8, m0, mx, hel, reach]
      (repeat (with_reducible refine Or.inr ?_))
      exact keyJ _ ⟨(by simp [upd_app, r0] <;> omega), (by simp [upd_app, r1] <;> omega), (by simp [upd_app] <;> omega), (by simp [upd_app] <;> omega), by simp only [upd_app, ↓reduceIte, hsn, hz1], by simp only; omega, hin⟩ (by omega)
  · obtain rfl : k = L := by omega
    simp (disch := omega) only [go_sem, ↓k_cond, ↓x_idx, ↓k_block, Nat.reduceEqDiff, Nat.reduceBEq, ↓reduceIte, reduceCtorEq, g0, g1, g5, g6, hL]
    rw [← hQ]
    exact post_frozen (id := 0) (n := k) (off := 0) (len := k) (.inl rfl) rfl (by simp [upd_app] <;> omega) (by simp [hm0]) (by simp [hm0, ratM_length, mapF_len]) (by simp [hm0]) (by omega) (Nat.zero_le _) (by simp only [hm0, List.drop_zero]; exact List.take_of_length_le (by rw [ratM_length, mapF_len]; exact Nat.le_refl _)) (by simp [AV.pure, AV.pureL, natA_pure, natI_pure, natS_pure])
theorem s_TimesSeries {xs ys : List (List UInt8)} (hl : xs.length < 9223372036854775808) (hs : ∀ x ∈ xs, x.length ≤ 1000000) (hl2 : ys.length < 9223372036854775808) (hs2 : ∀ x ∈ ys, x.length ≤ 1000000) : CallOk Tryz.prog 7 [.sl 9 (strA xs) [] false, .sl 9 (strA ys) [] false] (optTL (opT timL xs ys)) [] := by
  have h1 := w_l08Two (xs := xs) (ys := ys) hl hs hl2 hs2
  unfold opT
  have hbad : ∀ (a b : AV), a.pure = true → b.pure = true → CW Tryz.prog 18 [.sl 9 (strA xs) [] false, .sl 9 (strA ys) [] false] (.tup [a, b, .bool false]) → CallOk Tryz.prog 7 [.sl 9 (strA xs) [] false, .sl 9 (strA ys) [] false] (optTL none) [] := by
    intro a b ha hb h1
    (refine callOk_of_wpc (W := fun g => g == 19) true hm' Tryz.func7 rfl (by kernel_rfl) (Nat.le_of_ble_eq_true rfl) (go_start ?_); generalize hQ : Post Tryz.prog Tryz.f7 _ _ _ _ _ = Q; simp only [stIn, matL, matA, st00])
    simp (disch := omega) only [go_sem, ↓k_cond, ↓x_idx, ↓k_block, Nat.reduceEqDiff, Nat.reduceBEq, ↓reduceIte, reduceCtorEq, h1]
    (repeat (with_reducible refine Or.inr ?_))
    rw [← hQ]
    exact postT_two (.inl rfl) rfl (by simp [upd_app] <;> omega) (by simp [upd_app] <;> omega) rfl rfl
  cases hx : serR xs with
  | none =>
    rw [hx] at h1
    cases hy : serR ys with
    | none => rw [hy, twoS] at h1; exact hbad _ _ rfl rfl h1
    | some y => rw [hy, twoS] at h1; exact hbad _ _ rfl (by simp [AV.pure, AV.pureL, natA_pure, natI_pure, natS_pure]) h1
  | some x =>
    rw [hx] at h1
    cases hy : serR ys with
    | none => rw [hy, twoS] at h1; exact hbad _ _ (by simp [AV.pure, AV.pureL, natA_pure, natI_pure, natS_pure]) rfl h1
    | some y =>
      obtain ⟨hxf, _, h4, h5⟩ := serR_some hx
      obtain ⟨hyf, _, h6, h7⟩ := serR_some hy
      rw [hy, twoS] at h1
      by_cases c : x.length = y.length
      · simp only [if_pos c]
        rw [decide_eq_true c] at h1
        have hB : bigT = 20000 := rfl
        have h2 := w_l08Times (m := 700) (n := 700) (M := bigT) (x := x) (y := y) (by omega) (by omega) (by omega) (by omega) (by omega) (by omega) h4 (fun k i hk hi => tim_fits hxf hyf (by omega))
        have hll : (timL x y).length = x.length := timL_len
        (refine callOk_of_wpc (W := fun g => g == 19) true hm' Tryz.func7 rfl (by kernel_rfl) (Nat.le_of_ble_eq_true rfl) (go_start ?_); generalize hQ : Post Tryz.prog Tryz.f7 _ _ _ _ _ = Q; simp only [stIn, matL, matA, st00])
        simp (disch := omega) only [go_sem, ↓k_cond, ↓x_idx, ↓k_block, Nat.reduceEqDiff, Nat.reduceBEq, ↓reduceIte, reduceCtorEq, h1, h2]
        (repeat (with_reducible refine Or.inr ?_))
        refine endSP (m := bigT) (qs := timL x y) (by omega) (by omega) (by intro e; rw [e] at hll; simp at hll; omega) rfl (fun hn => ?_) (fun ts hts => ?_)
        · rw [hn] at hQ
          simp (disch := omega) only [go_sem, ↓k_cond, ↓x_idx, ↓k_block, Nat.reduceEqDiff, Nat.reduceBEq, ↓reduceIte, reduceCtorEq]
          rw [← hQ]
          exact postT_two (.inl rfl) rfl (by simp [upd_app] <;> omega) (by simp [upd_app] <;> omega) rfl rfl
        · rw [hts] at hQ
          simp (disch := omega) only [go_sem, ↓k_cond, ↓x_idx, ↓k_block, Nat.reduceEqDiff, Nat.reduceBEq, ↓reduceIte, reduceCtorEq]
          rw [← hQ]
          exact post_ownB (id := 0) (n := ts.length) (len := ts.length) (.inl rfl) rfl (by simp [upd_app] <;> omega) (by simp [upd_app] <;> omega) (by simp [upd_app]) (by simp [upd_app, strA_length]) (by simp [upd_app]) (by simp [upd_app]) (Nat.le_refl _) (by simp only [upd_app, if_true]; exact List.take_of_length_le (by rw [strA_length]; exact Nat.le_refl _)) (by simp [upd_app]) (by simp [upd_app]) (strA_pure _) rfl
      · simp only [if_neg c]
        rw [decide_eq_false c] at h1
        exact hbad _ _ (by simp [AV.pure, AV.pureL, natA_pure, natI_pure, natS_pure]) (by simp [AV.pure, AV.pureL, natA_pure, natI_pure, natS_pure]) h1
attribute [go_sem] w_l08Times
theorem c_l06Row {n : Nat} (hn : n ≤ 1000) (h1 : 1 ≤ n) : CallOk Tryz.prog 80 [.int .i64 n] (.own 54 (ratM 64 (List.replicate n 0)) [] false) [] := by
  (refine callOk_of_wpc (W := fun _ => false) true hm' Tryz.func80 rfl (by kernel_rfl) (Nat.le_of_ble_eq_true rfl) (go_start ?_); generalize hQ : Post Tryz.prog Tryz.f80 _ _ _ _ _ = Q; simp only [stIn, matL, matA, st00])
  simp (disch := omega) only [go_sem, ↓k_cond, ↓x_idx, ↓k_block, Nat.reduceEqDiff, Nat.reduceBEq, ↓reduceIte, reduceCtorEq]
  refine k_loop (fun (k : Nat) st => st.fr 0 = .int .i64 n ∧ st.fr 3 = .ref 0 k 0 k ∧ st.fr 4 = .int .i64 k ∧ st.h 0 = ⟨54, ratM 64 (List.replicate k 0), (k == 0), true, true⟩ ∧ 0 < st.nx ∧ (k ≤ n)) (fun (k : Nat) => n - k) (0)
    ⟨(by simp [upd_app, ratM] <;> omega), (by simp [upd_app, ratM] <;> omega), (by simp [upd_app, ratM] <;> omega), (by simp [upd_app, ratM] <;> omega), (by simp <;> omega), by omega⟩ ?_
  rintro k ⟨fr, h, nx⟩ ⟨g0, g3, g4, hm0, hnx, hk⟩ J hJ
  simp only at g0 g3 g4 hm0 hnx
  by_cases hin : k < n
  · have hel : (ratM 64 (List.replicate k 0)).length = k := by rw [ratM_length, List.length_replicate]
    have hz1 : (k + 1 == 0) = false := by simp
    have hsn : ratM 64 (List.replicate k 0) ++ [rS 64 0] = ratM 64 (List.replicate (k + 1) 0) := by rw [ratM_snoc, ← List.replicate_succ']
    simp (disch := omega) only [go_sem, ↓k_cond, ↓x_idx, ↓k_block, Nat.reduceEqDiff, Nat.reduceBEq, ↓reduceIte, reduceCtorEq, g0, g3, g4, hm0, hel, reach]
    (repeat (with_reducible refine Or.inr ?_))
    exact hJ (k + 1) _ ⟨(by simp [upd_app, g0] <;> omega), (by simp [upd_app] <;> omega), (by simp [upd_app] <;> omega), by simp only [upd_app, ↓reduceIte, hsn, hz1], by simp only; omega, hin⟩ (by omega)
  · obtain rfl : k = n := by omega
    have hz : (k == 0) = false := by simp; omega
    rw [hz] at hm0
    simp (disch := omega) only [go_sem, ↓k_cond, ↓x_idx, ↓k_block, Nat.reduceEqDiff, Nat.reduceBEq, ↓reduceIte, reduceCtorEq, g0, g3, g4]
    rw [← hQ]
    exact post_own (id := 0) (n := k) (len := k) (.inl rfl) rfl (by simp [upd_app] <;> omega) (by simp [hm0]) (by simp [hm0, ratM_length]) (by simp [hm0]) (by simp [hm0]) (Nat.le_refl _) (by simp only [hm0]; exact List.take_of_length_le (by rw [ratM_length, List.length_replicate]; exact Nat.le_refl _)) (by simp [hm0]) (by simp [hm0]) (by simp) rfl
theorem oneL_set {n : Nat} (h : 1 ≤ n) : (List.replicate n (0 : Rat)).set 0 1 = oneL n := by
  apply List.ext_getElem
  · simp [oneL, mapF]
  · intro i h1 h2
    simp only [oneL, mapF, List.getElem_set, List.getElem_replicate, List.getElem_map, List.getElem_range, oneF]
    by_cases e : i = 0
    · subst e; simp
    · rw [if_neg (fun h => e h.symm), if_neg e]
theorem w_l08One {n : Nat} (hn : n ≤ 1000) (h1 : 1 ≤ n) : CW Tryz.prog 55 [.int .i64 n] (lS 64 (oneL n)) := by
  refine cw (by kernel_rfl) (by simp [AV.pure, AV.pureL, natA_pure, natI_pure, natS_pure]) (by simp [AV.pure, AV.pureL, natA_pure, natI_pure, natS_pure]) ?_
  have hset : (ratM 64 (List.replicate n 0)).set 0 (rS 64 1) = ratM 64 (oneL n) := by rw [ratM_put, oneL_set h1]
  have hel : (ratM 64 (List.replicate n 0)).length = n := by rw [ratM_length, List.length_replicate]
  (refine callOk_of_wpc (W := fun g => g == 80) false hm' Tryz.func55 rfl (by kernel_rfl) (Nat.le_of_ble_eq_true rfl) (go_start ?_); generalize hQ : Post Tryz.prog Tryz.f55 _ _ _ _ _ = Q; simp only [stIn, matL, matA, st00])
  simp (disch := omega) only [go_sem, ↓k_cond, ↓x_idx, ↓k_block, Nat.reduceEqDiff, Nat.reduceBEq, ↓reduceIte, reduceCtorEq]
  refine callW_O (c_l06Row (n := n) hn h1) (by kernel_rfl) (by simp [AV.pure, AV.pureL, natA_pure, natI_pure, natS_pure]) ratM_pure rfl rfl ?_
  simp only [List.length_nil, Nat.add_zero, List.append_nil, ratM_length, List.length_replicate]
  have hg : (List.replicate n (0 : Rat))[Int.toNat 0]? = some 0 := by
    rw [List.getElem?_replicate, if_pos (show Int.toNat 0 < n from h1)]
  have hset2 : (ratM 64 (List.replicate n 0)).set (Int.toNat 0) (rS 64 1) = ratM 64 (oneL n) := hset
  simp (disch := omega) only [go_sem, ↓k_cond, ↓x_idx, ↓k_block, Nat.reduceEqDiff, Nat.reduceBEq, ↓reduceIte, reduceCtorEq, hel, hg, hset2]
  (repeat (with_reducible refine Or.inr ?_))
  rw [← hQ]
  exact post_frozen (id := 0) (n := n) (off := 0) (len := n) (.inl rfl) rfl (by simp [upd_app] <;> omega) (by simp [upd_app]) (by simp [upd_app, ratM_length, oneL, mapF_len]) (by simp [upd_app]) (by omega) (Nat.zero_le _) (by simp only [upd_app, if_true, List.append_nil, hset, List.drop_zero]; exact List.take_of_length_le (by rw [ratM_length, oneL, mapF_len]; exact Nat.le_refl _)) (by simp [AV.pure, AV.pureL, natA_pure, natI_pure, natS_pure])
attribute [go_sem] w_l08One
theorem w_l08Power {x : List Rat} {n : Nat} (hx : ∀ q ∈ x, fits 700 q) (hl : x.length ≤ 13) (h1 : 1 ≤ x.length) (hn : n ≤ 20) : CW Tryz.prog 27 [lS 700 x, .int .i64 n] (lS bigP (powL x n)) := by
  refine cw (by kernel_rfl) (by simp [AV.pure, AV.pureL, natA_pure, natI_pure, natS_pure]) (by simp [AV.pure, AV.pureL, natA_pure, natI_pure, natS_pure]) ?_
  obtain ⟨L, hL⟩ : ∃ n, x.length = n := ⟨_, rfl⟩
  have hone := w_l08One (n := L) (by omega) (by omega)
  have hB : bigP = 262144 := rfl
  have h0 : lS 64 (oneL L) = lS bigP (powL x 0) := by
    have : ratM 64 (powL x 0) = ratM bigP (powL x 0) := List.map_congr_left fun q hq => by
      have h := (pow_fits hx hl h1 (n := 0) (by omega)).1 q hq
      have hq1 : fits 64 q := by
        have := oneL_cd q hq
        exact cd_fits this (by decide) (by decide) (by decide)
      exact rS_re hq1 h
    rw [lS, lS, ← this, powL, hL]
  have ht := fun k (hk : k < 20) => w_l08Times (m := bigP) (n := 700) (M := bigP) (x := powL x k) (y := x) (by omega) (by omega) (by omega) (by omega) (by rw [powL_len]; omega) (by omega) (by rw [powL_len]; exact h1) (fun a i ha hi => (pow_fits hx hl h1 (n := k) (by omega)).2 a i (by rw [powL_len] at ha; omega) hk)
  (refine callOk_of_wpc (W := fun _ => false) false hm' Tryz.func27 rfl (by kernel_rfl) (Nat.le_of_ble_eq_true rfl) (go_start ?_); generalize hQ : Post Tryz.prog Tryz.f27 _ _ _ _ _ = Q; simp only [stIn, matL, matA, st00])
  simp (disch := omega) only [go_sem, ↓k_cond, ↓x_idx, ↓k_block, Nat.reduceEqDiff, Nat.reduceBEq, ↓reduceIte, reduceCtorEq, hL, hone]
  (repeat (with_reducible refine Or.inr ?_))
  refine k_loop (fun (k : Nat) st => st.fr 0 = lS 700 x ∧ st.fr 1 = .int .i64 ((n - k : Nat) : Int) ∧ st.fr 5 = lS bigP (powL x k) ∧ k ≤ n) (fun k => n - k) 0 ⟨(by simp [upd_app] <;> omega), (by simp [upd_app] <;> omega), by rw [← h0]; simp [upd_app], by omega⟩ ?_
  rintro k ⟨fr, h, nx⟩ ⟨g0, g1, g5, hk⟩ J hJ
  simp only at g0 g1 g5
  by_cases hin : k < n
  · have htk := ht k (by omega)
    have hpos : ((n - k : Nat) : Int) > 0 := by omega
    have hnx : ((n - k : Nat) : Int) - 1 = ((n - (k + 1) : Nat) : Int) := by omega
    have hpow : timL (powL x k) x = powL x (k + 1) := rfl
    rw [hpow] at htk
    simp (disch := omega) only [go_sem, ↓k_cond, ↓x_idx, ↓k_block, Nat.reduceEqDiff, Nat.reduceBEq, ↓reduceIte, reduceCtorEq, g0, g1, g5, htk]
    (repeat (with_reducible refine Or.inr ?_))
    exact hJ (k + 1) _ ⟨(by simp [upd_app, g0] <;> omega), (by simp [upd_app, hnx] <;> omega), (by simp [upd_app] <;> omega), hin⟩ (by omega)
  · obtain rfl : k = n := by omega
    simp (disch := omega) only [go_sem, ↓k_cond, ↓x_idx, ↓k_block, Nat.reduceEqDiff, Nat.reduceBEq, ↓reduceIte, reduceCtorEq, g0, g1, g5]
    rw [← hQ]
    exact post_one (.inl rfl) rfl (by simp [upd_app] <;> omega) (by simp [AV.pure, AV.pureL, natA_pure, natI_pure, natS_pure])
theorem s_PowerSeries {xs : List (List UInt8)} {n : Int} (hl : xs.length < 9223372036854775808) (hs : ∀ x ∈ xs, x.length ≤ 1000000) : CallOk Tryz.prog 14 [.sl 9 (strA xs) [] false, .int .i64 n] (optTL (powT xs n)) [] := by
  have h1 := w_l08Parse (xs := xs) hl hs
  have h2 := w_sIn (n := n) (a := 0) (b := 20)
  unfold powT
  cases hq : serR xs with
  | none =>
    rw [hq] at h1
    (refine callOk_of_wpc (W := fun g => g == 19) true hm' Tryz.func14 rfl (by kernel_rfl) (Nat.le_of_ble_eq_true rfl) (go_start ?_); generalize hQ : Post Tryz.prog Tryz.f14 _ _ _ _ _ = Q; simp only [stIn, matL, matA, st00])
    simp (disch := omega) only [go_sem, ↓k_cond, ↓x_idx, ↓k_block, Nat.reduceEqDiff, Nat.reduceBEq, ↓reduceIte, reduceCtorEq, h1]
    (repeat (with_reducible refine Or.inr ?_))
    rw [← hQ]
    exact postT_two (.inl rfl) rfl (by simp [upd_app] <;> omega) (by simp [upd_app] <;> omega) rfl rfl
  | some x =>
    rw [hq] at h1
    obtain ⟨hxf, _, h4, h5⟩ := serR_some hq
    by_cases c : 0 ≤ n ∧ n ≤ 20
    · obtain ⟨k, rfl⟩ : ∃ k : Nat, n = k := ⟨n.toNat, by omega⟩
      simp only [if_pos c, Int.toNat_natCast]
      have hB : bigP = 262144 := rfl
      have h3 := w_l08Power (x := x) (n := k) hxf h5 h4 (by omega)
      simp only [decide_eq_true c] at h2
      have hll : (powL x k).length = x.length := powL_len x k
      (refine callOk_of_wpc (W := fun g => g == 19) true hm' Tryz.func14 rfl (by kernel_rfl) (Nat.le_of_ble_eq_true rfl) (go_start ?_); generalize hQ : Post Tryz.prog Tryz.f14 _ _ _ _ _ = Q; simp only [stIn, matL, matA, st00])
      simp (disch := omega) only [go_sem, ↓k_cond, ↓x_idx, ↓k_block, Nat.reduceEqDiff, Nat.reduceBEq, ↓reduceIte, reduceCtorEq, h1, h2, h3]
      (repeat (with_reducible refine Or.inr ?_))
      refine endSP (m := bigP) (qs := powL x k) (by omega) (by omega) (by intro e; rw [e] at hll; simp at hll; omega) rfl (fun hn => ?_) (fun ts hts => ?_)
      · rw [hn] at hQ
        simp (disch := omega) only [go_sem, ↓k_cond, ↓x_idx, ↓k_block, Nat.reduceEqDiff, Nat.reduceBEq, ↓reduceIte, reduceCtorEq]
        rw [← hQ]
        exact postT_two (.inl rfl) rfl (by simp [upd_app] <;> omega) (by simp [upd_app] <;> omega) rfl rfl
      · rw [hts] at hQ
        simp (disch := omega) only [go_sem, ↓k_cond, ↓x_idx, ↓k_block, Nat.reduceEqDiff, Nat.reduceBEq, ↓reduceIte, reduceCtorEq]
        rw [← hQ]
        exact post_ownB (id := 0) (n := ts.length) (len := ts.length) (.inl rfl) rfl (by simp [upd_app] <;> omega) (by simp [upd_app] <;> omega) (by simp [upd_app]) (by simp [upd_app, strA_length]) (by simp [upd_app]) (by simp [upd_app]) (Nat.le_refl _) (by simp only [upd_app, if_true]; exact List.take_of_length_le (by rw [strA_length]; exact Nat.le_refl _)) (by simp [upd_app]) (by simp [upd_app]) (strA_pure _) rfl
    · rw [decide_eq_false c] at h2
      simp only [if_neg c]
      (refine callOk_of_wpc (W := fun g => g == 19) true hm' Tryz.func14 rfl (by kernel_rfl) (Nat.le_of_ble_eq_true rfl) (go_start ?_); generalize hQ : Post Tryz.prog Tryz.f14 _ _ _ _ _ = Q; simp only [stIn, matL, matA, st00])
      simp (disch := omega) only [go_sem, ↓k_cond, ↓x_idx, ↓k_block, Nat.reduceEqDiff, Nat.reduceBEq, ↓reduceIte, reduceCtorEq, h1, h2]
      (repeat (with_reducible refine Or.inr ?_))
      rw [← hQ]
      exact postT_two (.inl rfl) rfl (by simp [upd_app] <;> omega) (by simp [upd_app] <;> omega) rfl rfl
attribute [go_sem] w_l08Power
theorem w_Mul64 {c : Nat} (hc : c ≤ 13) : CW Tryz.prog 124 [.int .u64 1, .int .u64 c] (.tup [.int .u64 0, .int .u64 c]) := by
  refine cw (by kernel_rfl) (by simp [AV.pure, AV.pureL, natA_pure, natI_pure, natS_pure]) (by simp [AV.pure, AV.pureL, natA_pure, natI_pure, natS_pure]) ?_
  (refine callOk_of_wpc (W := fun _ => false) false hm' Tryz.func124 rfl (by kernel_rfl) (Nat.le_of_ble_eq_true rfl) (go_start ?_); generalize hQ : Post Tryz.prog Tryz.f124 _ _ _ _ _ = Q; simp only [stIn, matL, matA, st00])
  simp (disch := omega) only [go_sem, ↓k_cond, ↓x_idx, ↓k_block, Nat.reduceEqDiff, Nat.reduceBEq, ↓reduceIte, reduceCtorEq]
  (repeat (with_reducible refine Or.inr ?_))
  rw [← hQ]
  exact post_two (.inl rfl) rfl (by first | (simp [upd_app]; done) | (simp [upd_app]; clear hQ; revert hc; revert c; decide +kernel)) (by first | (simp [upd_app]; done) | (simp [upd_app]; clear hQ; revert hc; revert c; decide +kernel)) rfl rfl
attribute [go_sem] w_Mul64
theorem w_Mul {c : Nat} (hc : c ≤ 13) : CW Tryz.prog 99 [.int .u64 1, .int .u64 c] (.tup [.int .u64 0, .int .u64 c]) := by
  refine cw (by kernel_rfl) (by simp [AV.pure, AV.pureL, natA_pure, natI_pure, natS_pure]) (by simp [AV.pure, AV.pureL, natA_pure, natI_pure, natS_pure]) ?_
  have h1 := w_Mul64 (c := c) hc
  (refine callOk_of_wpc (W := fun _ => false) false hm' Tryz.func99 rfl (by kernel_rfl) (Nat.le_of_ble_eq_true rfl) (go_start ?_); generalize hQ : Post Tryz.prog Tryz.f99 _ _ _ _ _ = Q; simp only [stIn, matL, matA, st00])
  simp (disch := omega) only [go_sem, ↓k_cond, ↓x_idx, ↓k_block, Nat.reduceEqDiff, Nat.reduceBEq, ↓reduceIte, reduceCtorEq, h1]
  (repeat (with_reducible refine Or.inr ?_))
  rw [← hQ]
  exact post_two (.inl rfl) rfl (by simp [upd_app] <;> omega) (by simp [upd_app] <;> omega) rfl rfl
theorem rep_step {X : List AV} {c i m : Nat} {v : AV} (hl : X.length = c) (ht : X.take i = List.replicate i v) (h : i + m ≤ c) :
    (List.replicate i v ++ List.replicate m v ++ X.drop (i + m)).length = c ∧ (List.replicate i v ++ List.replicate m v ++ X.drop (i + m)).take (i + m) = List.replicate (i + m) v := by
  refine ⟨by simp; omega, ?_⟩
  rw [List.take_left' (by simp), List.replicate_append_replicate]
theorem i_Repeat1 {c : Nat} (hc : c ≤ 13) (h1 : 1 ≤ c) : CallOk Tryz.prog 78 [.sl 63 [rI 64 0] [] true, .int .i64 c] (.own 63 (ratL 64 (List.replicate c 0)) [] true) [] := by
  have hm := w_Mul (c := c) hc
  have hrep : ratL 64 (List.replicate c 0) = List.replicate c (rI 64 0) := by rw [ratL, List.map_replicate]
  rw [hrep]
  (refine callOk_of_wpc (W := fun _ => false) true hm' Tryz.func78 rfl (by kernel_rfl) (Nat.le_of_ble_eq_true rfl) (go_start ?_); generalize hQ : Post Tryz.prog Tryz.f78 _ _ _ _ _ = Q; simp only [stIn, matL, matA, st00])
  have u1 : Tryz.prog.underlying 104 = some (.int .u64) := by kernel_rfl
  have u2 : okT Tryz.prog 104 = true := by kernel_rfl
  have w1 : IntKind.u64.wrap (c : Int) = c := by simp only [IntKind.wrap, IntKind.signed, IntKind.bits, Bool.false_and, Bool.false_eq_true, if_false]; omega
  have w2 : IntKind.u64.wrap 1 = 1 := by decide
  have w3 : IntKind.u64.wrap ((1 : Nat) : Int) = 1 := by decide
  simp (disch := omega) only [go_sem, ↓k_cond, ↓x_idx, ↓k_block, Nat.reduceEqDiff, Nat.reduceBEq, ↓reduceIte, reduceCtorEq, hm, reach, u1, u2, w1, w2, w3, copyA, List.length_cons, List.length_nil, List.length_replicate, List.take_zero, List.nil_append]
  (repeat (with_reducible refine Or.inr ?_))
  refine k_loop (fun (p : Nat × List AV) st => st.fr 7 = .ref 0 c 0 c ∧ st.fr 8 = .int .i64 p.1 ∧ st.h 0 = ⟨63, p.2, true, true, true⟩ ∧ p.2.length = c ∧ p.2.take p.1 = List.replicate p.1 (rI 64 0) ∧ 1 ≤ p.1 ∧ p.1 ≤ c) (fun p => c - p.1) (1, rI 64 0 :: List.replicate (c - 1) (.agg [.bool false, .nil, .nil]))
    ⟨(by simp [upd_app] <;> omega), (by simp [upd_app] <;> omega), by simp [upd_app], by simp; omega, by simp, by simp, h1⟩ ?_
  rintro ⟨i, X⟩ ⟨fr, h, nx⟩ ⟨g7, g8, hm0, hl, ht, hi1, hi⟩ J hJ
  simp only at g7 g8 hm0 hl ht hi1 hi
  by_cases hin : i < c
  · by_cases hc2 : i ≤ c - i
    · obtain ⟨k1, k2⟩ := rep_step hl ht (m := i) (by omega)
      simp (disch := omega) only [go_sem, ↓k_cond, ↓x_idx, ↓k_block, Nat.reduceEqDiff, Nat.reduceBEq, ↓reduceIte, reduceCtorEq, g7, g8, hm0, hl, ht, copyA, List.length_replicate, List.drop_zero, Nat.sub_zero]
      (repeat (with_reducible refine Or.inr ?_))
      exact hJ (i + i, List.replicate i (rI 64 0) ++ List.replicate i (rI 64 0) ++ X.drop (i + i)) _ ⟨(by simp [upd_app, g7] <;> omega), (by simp [upd_app] <;> omega), (by simp [upd_app] <;> omega), k1, k2, by simp only; omega, by simp only; omega⟩ (by simp only; omega)
    · obtain ⟨k1, k2⟩ := rep_step hl ht (m := c - i) (by omega)
      have ht2 : X.take (c - i) = List.replicate (c - i) (rI 64 0) := by
        have := congrArg (List.take (c - i)) ht
        rwa [List.take_take, Nat.min_eq_left (by omega), List.take_replicate, Nat.min_eq_left (by omega)] at this
      simp (disch := omega) only [go_sem, ↓k_cond, ↓x_idx, ↓k_block, Nat.reduceEqDiff, Nat.reduceBEq, ↓reduceIte, reduceCtorEq, g7, g8, hm0, hl, ht, ht2, copyA, List.length_replicate, List.drop_zero, Nat.sub_zero]
      (repeat (with_reducible refine Or.inr ?_))
      exact hJ (i + (c - i), List.replicate i (rI 64 0) ++ List.replicate (c - i) (rI 64 0) ++ X.drop (i + (c - i))) _ ⟨(by simp [upd_app, g7] <;> omega), (by simp [upd_app] <;> omega), (by simp [upd_app] <;> omega), k1, k2, by simp only; omega, by simp only; omega⟩ (by simp only; omega)
  · obtain rfl : i = c := by omega
    rw [List.take_of_length_le (by omega)] at ht
    subst ht
    simp (disch := omega) only [go_sem, ↓k_cond, ↓x_idx, ↓k_block, Nat.reduceEqDiff, Nat.reduceBEq, ↓reduceIte, reduceCtorEq, g7, g8, hm0]
    rw [← hQ]
    exact post_own (id := 0) (n := i) (len := i) (.inl rfl) rfl (by simp [upd_app] <;> omega) (by simp [hm0]) (by simp [hm0]) (by simp [hm0]) (by simp [hm0]) (Nat.le_refl _) (by simp [hm0]) (by simp [hm0]) (by simp [hm0]) (by rw [← hrep]; simp) rfl
theorem c_nothing {n : Nat} (hn : n ≤ 13) (h1 : 1 ≤ n) : CallOk Tryz.prog 53 [.int .i64 n] (.own 63 (ratL 64 (List.replicate n 0)) [] true) [] := by
  have hw : CW Tryz.prog 44 [.int .i64 0] (rI 64 0) := w_whole (n := 0) (by omega) (by omega)
  (refine callOk_of_wpc (W := fun g => g == 78) true hm' Tryz.func53 rfl (by kernel_rfl) (Nat.le_of_ble_eq_true rfl) (go_start ?_); generalize hQ : Post Tryz.prog Tryz.f53 _ _ _ _ _ = Q; simp only [stIn, matL, matA, st00])
  simp (disch := omega) only [go_sem, ↓k_cond, ↓x_idx, ↓k_block, Nat.reduceEqDiff, Nat.reduceBEq, ↓reduceIte, reduceCtorEq, hw]
  (repeat (with_reducible refine Or.inr ?_))
  refine callW_O (i_Repeat1 (c := n) hn h1) (by kernel_rfl) (by simp [AV.pure, AV.pureL, natA_pure, natI_pure, natS_pure]) ratL_pure rfl rfl ?_
  simp only [List.length_nil, Nat.add_zero, List.append_nil, ratL_length, List.length_replicate]
  simp (disch := omega) only [go_sem, ↓k_cond, ↓x_idx, ↓k_block, Nat.reduceEqDiff, Nat.reduceBEq, ↓reduceIte, reduceCtorEq]
  rw [← hQ]
  exact post_own (id := 0) (n := n) (len := n) (.inl rfl) rfl (by simp [upd_app] <;> omega) (by simp [upd_app]) (by simp [upd_app, ratL_length]) (by simp [upd_app]) (by simp [upd_app]) (Nat.le_refl _) (by simp only [upd_app, if_true]; exact List.take_of_length_le (by rw [ratL_length, List.length_replicate]; exact Nat.le_refl _)) (by simp [upd_app, ratL_length]) (by simp [upd_app]) (by simp) rfl
attribute [go_sem] w_Mul
theorem w_times {m n M : Nat} {x y : List Rat} (hM : M ≤ 10000000) (hm : m ≤ 10000000) (hn : n ≤ 10000000) (hM0 : 0 < M) (hl : x.length ≤ 13) (hl2 : y.length ≤ 1000) (h1 : 1 ≤ x.length) (hp : ∀ k i, k < x.length → i ≤ k + 1 → fits M (pcv x y k i)) : CW Tryz.prog 23 [lI m x, lI n y] (lI M (timL x y)) := by
  refine cw (by kernel_rfl) (by simp [AV.pure, AV.pureL, natA_pure, natI_pure, natS_pure]) (by simp [AV.pure, AV.pureL, natA_pure, natI_pure, natS_pure]) ?_
  have hend := pcv_end (x := x) (y := y)
  obtain ⟨L, hL⟩ : ∃ n, x.length = n := ⟨_, rfl⟩
  obtain ⟨Ly, hLy⟩ : ∃ n, y.length = n := ⟨_, rfl⟩
  rw [← hend]
  rw [hL] at hl h1 hp ⊢
  rw [hLy] at hl2
  have hz := zeros_F (m := 64) (M := M) (L := L) (x := x) (y := y) (by decide) hM0
  (refine callOk_of_wpc (W := fun g => g == 53) false hm' Tryz.func23 rfl (by kernel_rfl) (Nat.le_of_ble_eq_true rfl) (go_start ?_); generalize hQ : Post Tryz.prog Tryz.f23 _ _ _ _ _ = Q; simp only [stIn, matL, matA, st00])
  simp (disch := omega) only [go_sem, ↓k_cond, ↓x_idx, ↓k_block, Nat.reduceEqDiff, Nat.reduceBEq, ↓reduceIte, reduceCtorEq, hL]
  refine callW_O (c_nothing (n := L) hl h1) (by kernel_rfl) (by simp [AV.pure, AV.pureL, natA_pure, natI_pure, natS_pure]) ratL_pure rfl rfl ?_
  simp only [List.length_nil, Nat.add_zero, List.append_nil, ratL_length, List.length_replicate]
  simp (disch := omega) only [go_sem, ↓k_cond, ↓x_idx, ↓k_block, Nat.reduceEqDiff, Nat.reduceBEq, ↓reduceIte, reduceCtorEq, hL]
  refine k_loop (fun (i : Nat) st => st.fr 0 = lI m x ∧ st.fr 1 = lI n y ∧ st.fr 5 = .ref 0 L 0 L ∧ st.fr 12 = lI m x ∧ st.fr 13 = .int .i64 L ∧ st.fr 14 = .int .i64 i ∧ st.h 0 = ⟨63, ratL M (mapF L (fun k => pcv x y k i)), true, true, true⟩ ∧ 0 < st.nx ∧ i ≤ L) (fun i => L - i) 0
    ⟨(by simp [upd_app] <;> omega), (by simp [upd_app] <;> omega), (by simp [upd_app] <;> omega), (by simp [upd_app] <;> omega), (by simp [upd_app] <;> omega), (by simp [upd_app] <;> omega), by simp only [upd_app, ↓reduceIte]; rw [hz], by simp, by omega⟩ ?_
  rintro i ⟨fr, h, nx⟩ ⟨g0, g1, g5, g12, g13, g14, hm0, hnx, hi⟩ J hJ
  simp only at g0 g1 g5 g12 g13 g14 hm0 hnx
  have n1 : (0 = nx) = False := by simp; omega
  have n2 : (nx = 0) = False := by simp; omega
  by_cases hin : i < L
  · obtain ⟨p, hpx⟩ := get_some (xs := x) (i := i) (by omega)
    have keyJ := hJ (i + 1)
    clear hJ
    simp (disch := omega) only [go_sem, ↓k_cond, ↓x_idx, ↓k_block, Nat.reduceEqDiff, Nat.reduceBEq, ↓reduceIte, reduceCtorEq, g0, g1, g5, g12, g13, g14, hpx]
    (repeat (with_reducible refine Or.inr ?_))
    refine k_loop (fun (j : Nat) st => st.fr 0 = lI m x ∧ st.fr 1 = lI n y ∧ st.fr 5 = .ref 0 L 0 L ∧ st.fr 6 = .int .i64 i ∧ st.fr 7 = .ptr nx 1 0 0 ∧ st.fr 8 = .int .i64 j ∧ st.fr 12 = lI m x ∧ st.fr 13 = .int .i64 L ∧ st.fr 14 = .int .i64 i ∧ st.h 0 = ⟨63, ratL M (mapF L (stT x y i j)), true, true, true⟩ ∧ st.h nx = ⟨63, [rI m p], true, false, true⟩ ∧ nx < st.nx ∧ j ≤ Ly ∧ i + j ≤ L) (fun j => Ly - j) 0
      ⟨(by simp [upd_app, g0] <;> omega), (by simp [upd_app, g1] <;> omega), (by simp [upd_app, g5] <;> omega), (by simp [upd_app] <;> omega), (by simp [upd_app] <;> omega), (by simp [upd_app] <;> omega), (by simp [upd_app, g12] <;> omega), (by simp [upd_app, g13] <;> omega), (by simp [upd_app, g14] <;> omega), by simp only [upd_app, ↓reduceIte, n1, hm0, stT_zero], by simp only [upd_app, ↓reduceIte], by simp, by omega, by omega⟩ ?_
    rintro j ⟨fr2, h2, nx2⟩ ⟨r0, r1, r5, r6, r7, r8, r12, r13, r14, m0, mx, hx2, hj, hij⟩ J2 hJ2
    simp only at r0 r1 r5 r6 r7 r8 r12 r13 r14 m0 mx hx2
    have hel : (ratL M (mapF L (stT x y i j))).length = L := by rw [ratL_length, mapF_len]
    by_cases c1 : j < Ly
    · by_cases c2 : i + j < L
      · obtain ⟨q, hq⟩ := get_some (xs := y) (i := j) (by omega)
        have hqk : ((i : Int) + (j : Int)).toNat = i + j := by omega
        have hat : (mapF L (stT x y i j))[i + j]? = some (pcv x y (i + j) i) := by rw [mapF_at c2, stT_at]
        have hst := pcv_step (x := x) (y := y) (k := i + j) (by omega) hpx (by rw [show i + j - i = j by omega]; exact hq)
        have hre : rI (M + (m + n) + 1) (pcv x y (i + j) i + p * q) = rI M (pcv x y (i + j) (i + 1)) := by
          rw [← hst]; exact rI_re (fits_mono (hp (i + j) (i + 1) c2 (by omega)) (by omega)) (hp (i + j) (i + 1) c2 (by omega))
        have hset : (ratL M (mapF L (stT x y i j))).set (i + j) (rI M (pcv x y (i + j) (i + 1))) = ratL M (mapF L (stT x y i (j + 1))) := by rw [ratL_put, stT_next]
        simp (disch := omega) only [go_sem, ↓k_cond, ↓x_idx, ↓k_block, Nat.reduceEqDiff, Nat.reduceBEq, ↓reduceIte, reduceCtorEq, r0, r1, r5, r6, r7, r8, r12, r13, r14, m0, mx, hq, hqk, hel, hat, hL, hLy, hre, hset]
        (repeat (with_reducible refine Or.inr ?_))
        exact hJ2 (j + 1) _ ⟨(by simp [upd_app, r0] <;> omega), (by simp [upd_app, r1] <;> omega), (by simp [upd_app, r5] <;> omega), (by simp [upd_app, r6] <;> omega), (by simp [upd_app, r7] <;> omega), (by simp [upd_app] <;> omega), (by simp [upd_app, r12] <;> omega), (by simp [upd_app, r13] <;> omega), (by simp [upd_app, r14] <;> omega), by simp only [upd_app, ↓reduceIte, n1, hset], by simp only [upd_app, ↓reduceIte, n2, mx], hx2, by omega, by omega⟩ (by first | omega | (simp only; omega))
      · have he := stT_end (x := x) (y := y) (L := L) (i := i) (j := j) (.inr (by omega))
        rw [he] at m0
        simp (disch := omega) only [go_sem, ↓k_cond, ↓x_idx, ↓k_block, Nat.reduceEqDiff, Nat.reduceBEq, ↓reduceIte, reduceCtorEq, r0, r1, r5, r6, r7, r8, r12, r13, r14, hL, hLy]
        exact keyJ _ ⟨(by simp [upd_app, r0] <;> omega), (by simp [upd_app, r1] <;> omega), (by simp [upd_app, r5] <;> omega), (by simp [upd_app, r12] <;> omega), (by simp [upd_app, r13] <;> omega), (by simp [upd_app] <;> omega), by simp only [m0], by simp only; omega, by omega⟩ (by omega)
    · have he := stT_end (x := x) (y := y) (L := L) (i := i) (j := j) (.inl (by omega))
      rw [he] at m0
      simp (disch := omega) only [go_sem, ↓k_cond, ↓x_idx, ↓k_block, Nat.reduceEqDiff, Nat.reduceBEq, ↓reduceIte, reduceCtorEq, r0, r1, r5, r6, r7, r8, r12, r13, r14, hL, hLy]
      exact keyJ _ ⟨(by simp [upd_app, r0] <;> omega), (by simp [upd_app, r1] <;> omega), (by simp [upd_app, r5] <;> omega), (by simp [upd_app, r12] <;> omega), (by simp [upd_app, r13] <;> omega), (by simp [upd_app] <;> omega), by simp only [m0], by simp only; omega, by omega⟩ (by omega)
  · obtain rfl : i = L := by omega
    simp (disch := omega) only [go_sem, ↓k_cond, ↓x_idx, ↓k_block, Nat.reduceEqDiff, Nat.reduceBEq, ↓reduceIte, reduceCtorEq, g0, g1, g5, g12, g13, g14, hL]
    rw [← hQ]
    exact post_frozen (id := 0) (n := i) (off := 0) (len := i) (.inl rfl) rfl (by simp [upd_app] <;> omega) (by simp [hm0]) (by simp [hm0, ratL_length, mapF_len]) (by simp [hm0]) (by omega) (Nat.zero_le _) (by simp only [hm0, List.drop_zero]; exact List.take_of_length_le (by rw [ratL_length, mapF_len]; exact Nat.le_refl _)) (by simp [AV.pure, AV.pureL, natA_pure, natI_pure, natS_pure])
theorem i_TimesSeries {xs ys : List (List UInt8)} (hl : xs.length < 9223372036854775808) (hs : ∀ x ∈ xs, x.length < 9223372036854775808) (hl2 : ys.length < 9223372036854775808) (hs2 : ∀ x ∈ ys, x.length < 9223372036854775808) : CallOk Tryz.prog 9 [.sl 9 (strA xs) [] false, .sl 9 (strA ys) [] false] (optTL (opT timL xs ys)) [] := by
  have hB : bigT = 20000 := rfl
  have hc := i_ofSeries (F := 23) (m := bigT) (f := timL) (xs := xs) (ys := ys) hl hs hl2 hs2 rfl (by omega) (fun _ _ => timL_len) (fun x y hx hy c => by
    obtain ⟨hxf, _, h4, h5⟩ := serR_some hx
    obtain ⟨hyf, _, h6, h7⟩ := serR_some hy
    exact w_times (by omega) (by omega) (by omega) (by omega) h5 (by omega) h4 (fun k i hk hi => tim_fits hxf hyf (by omega)))
  generalize opT timL xs ys = o at *
  (refine callOk_of_wpc (W := fun g => g == 22) true hm' Tryz.func9 rfl (by kernel_rfl) (Nat.le_of_ble_eq_true rfl) (go_start ?_); generalize hQ : Post Tryz.prog Tryz.f9 _ _ _ _ _ = Q; simp only [stIn, matL, matA, st00])
  simp (disch := omega) only [go_sem, ↓k_cond, ↓x_idx, ↓k_block, Nat.reduceEqDiff, Nat.reduceBEq, ↓reduceIte, reduceCtorEq]
  refine on_ofSeries hc (by simp [AV.pure, AV.pureL, natA_pure, natI_pure, natS_pure]) rfl (fun hn => ?_) (fun ts hts => ?_)
  · subst hn
    simp (disch := omega) only [go_sem, ↓k_cond, ↓x_idx, ↓k_block, Nat.reduceEqDiff, Nat.reduceBEq, ↓reduceIte, reduceCtorEq]
    rw [← hQ]
    exact postT_two (.inl rfl) rfl (by simp [upd_app] <;> omega) (by simp [upd_app] <;> omega) rfl rfl
  · subst hts
    simp (disch := omega) only [go_sem, ↓k_cond, ↓x_idx, ↓k_block, Nat.reduceEqDiff, Nat.reduceBEq, ↓reduceIte, reduceCtorEq]
    rw [← hQ]
    exact post_ownB (id := 0) (n := ts.length) (len := ts.length) (.inl rfl) rfl (by simp [upd_app] <;> omega) (by simp [upd_app] <;> omega) (by simp [upd_app]) (by simp [upd_app, strA_length]) (by simp [upd_app]) (by simp [upd_app]) (Nat.le_refl _) (by simp only [upd_app, if_true]; exact List.take_of_length_le (by rw [strA_length]; exact Nat.le_refl _)) (by simp [upd_app]) (by simp [upd_app]) (strA_pure _) rfl
attribute [go_sem] w_times
theorem w_unit {n : Nat} (hn : n ≤ 13) (h1 : 1 ≤ n) : CW Tryz.prog 58 [.int .i64 n] (lI 64 (oneL n)) := by
  refine cw (by kernel_rfl) (by simp [AV.pure, AV.pureL, natA_pure, natI_pure, natS_pure]) (by simp [AV.pure, AV.pureL, natA_pure, natI_pure, natS_pure]) ?_
  have hw : CW Tryz.prog 44 [.int .i64 1] (rI 64 1) := w_whole (n := 1) (by omega) (by omega)
  have hel : (ratL 64 (List.replicate n 0)).length = n := by rw [ratL_length, List.length_replicate]
  have hg : (List.replicate n (0 : Rat))[Int.toNat 0]? = some 0 := by
    rw [List.getElem?_replicate, if_pos (show Int.toNat 0 < n from h1)]
  have hset2 : (ratL 64 (List.replicate n 0)).set (Int.toNat 0) (rI 64 1) = ratL 64 (oneL n) := by
    show (ratL 64 (List.replicate n 0)).set 0 (rI 64 1) = ratL 64 (oneL n)
    rw [ratL_put, oneL_set h1]
  (refine callOk_of_wpc (W := fun g => g == 53) false hm' Tryz.func58 rfl (by kernel_rfl) (Nat.le_of_ble_eq_true rfl) (go_start ?_); generalize hQ : Post Tryz.prog Tryz.f58 _ _ _ _ _ = Q; simp only [stIn, matL, matA, st00])
  simp (disch := omega) only [go_sem, ↓k_cond, ↓x_idx, ↓k_block, Nat.reduceEqDiff, Nat.reduceBEq, ↓reduceIte, reduceCtorEq]
  refine callW_O (c_nothing (n := n) hn h1) (by kernel_rfl) (by simp [AV.pure, AV.pureL, natA_pure, natI_pure, natS_pure]) ratL_pure rfl rfl ?_
  simp only [List.length_nil, Nat.add_zero, List.append_nil, ratL_length, List.length_replicate]
  simp (disch := omega) only [go_sem, ↓k_cond, ↓x_idx, ↓k_block, Nat.reduceEqDiff, Nat.reduceBEq, ↓reduceIte, reduceCtorEq, hw, hel, hg, hset2]
  (repeat (with_reducible refine Or.inr ?_))
  rw [← hQ]
  exact post_frozen (id := 0) (n := n) (off := 0) (len := n) (.inl rfl) rfl (by simp [upd_app] <;> omega) (by simp [upd_app]) (by simp [upd_app, ratL_length, oneL, mapF_len]) (by simp [upd_app]) (by omega) (Nat.zero_le _) (by simp only [upd_app, if_true, List.drop_zero]; exact List.take_of_length_le (by rw [ratL_length, oneL, mapF_len]; exact Nat.le_refl _)) (by simp [AV.pure, AV.pureL, natA_pure, natI_pure, natS_pure])
attribute [go_sem] w_unit
theorem w_powerSeries {x : List Rat} {n : Nat} (hx : ∀ q ∈ x, fits 700 q) (hl : x.length ≤ 13) (h1 : 1 ≤ x.length) (hn : n ≤ 20) : CW Tryz.prog 31 [lI 700 x, .int .i64 n] (lI bigP (powL x n)) := by
  refine cw (by kernel_rfl) (by simp [AV.pure, AV.pureL, natA_pure, natI_pure, natS_pure]) (by simp [AV.pure, AV.pureL, natA_pure, natI_pure, natS_pure]) ?_
  obtain ⟨L, hL⟩ : ∃ n, x.length = n := ⟨_, rfl⟩
  have hone := w_unit (n := L) (by omega) (by omega)
  have hB : bigP = 262144 := rfl
  have h0 : lI 64 (oneL L) = lI bigP (powL x 0) := by
    have : ratL 64 (powL x 0) = ratL bigP (powL x 0) := List.map_congr_left fun q hq => by
      have h := (pow_fits hx hl h1 (n := 0) (by omega)).1 q hq
      have hq1 : fits 64 q := by
        have := oneL_cd q hq
        exact cd_fits this (by decide) (by decide) (by decide)
      exact rI_re hq1 h
    rw [lI, lI, ← this, powL, hL]
  have ht := fun k (hk : k < 20) => w_times (m := bigP) (n := 700) (M := bigP) (x := powL x k) (y := x) (by omega) (by omega) (by omega) (by omega) (by rw [powL_len]; omega) (by omega) (by rw [powL_len]; exact h1) (fun a i ha hi => (pow_fits hx hl h1 (n := k) (by omega)).2 a i (by rw [powL_len] at ha; omega) hk)
  (refine callOk_of_wpc (W := fun _ => false) false hm' Tryz.func31 rfl (by kernel_rfl) (Nat.le_of_ble_eq_true rfl) (go_start ?_); generalize hQ : Post Tryz.prog Tryz.f31 _ _ _ _ _ = Q; simp only [stIn, matL, matA, st00])
  simp (disch := omega) only [go_sem, ↓k_cond, ↓x_idx, ↓k_block, Nat.reduceEqDiff, Nat.reduceBEq, ↓reduceIte, reduceCtorEq, hL, hone]
  (repeat (with_reducible refine Or.inr ?_))
  refine k_loop (fun (k : Nat) st => st.fr 0 = lI 700 x ∧ st.fr 9 = .int .i64 n ∧ st.fr 10 = .int .i64 k ∧ st.fr 5 = lI bigP (powL x k) ∧ k ≤ n) (fun k => n - k) 0 ⟨(by simp [upd_app] <;> omega), (by simp [upd_app] <;> omega), (by simp [upd_app] <;> omega), by rw [← h0]; simp [upd_app], by omega⟩ ?_
  rintro k ⟨fr, h, nx⟩ ⟨g0, g9, g10, g5, hk⟩ J hJ
  simp only at g0 g9 g10 g5
  by_cases hin : k < n
  · have htk := ht k (by omega)
    have hpow : timL (powL x k) x = powL x (k + 1) := rfl
    rw [hpow] at htk
    simp (disch := omega) only [go_sem, ↓k_cond, ↓x_idx, ↓k_block, Nat.reduceEqDiff, Nat.reduceBEq, ↓reduceIte, reduceCtorEq, g0, g9, g10, g5, htk]
    (repeat (with_reducible refine Or.inr ?_))
    exact hJ (k + 1) _ ⟨(by simp [upd_app, g0] <;> omega), (by simp [upd_app, g9] <;> omega), (by simp [upd_app] <;> omega), (by simp [upd_app] <;> omega), hin⟩ (by omega)
  · obtain rfl : k = n := by omega
    simp (disch := omega) only [go_sem, ↓k_cond, ↓x_idx, ↓k_block, Nat.reduceEqDiff, Nat.reduceBEq, ↓reduceIte, reduceCtorEq, g0, g9, g10, g5]
    rw [← hQ]
    exact post_one (.inl rfl) rfl (by simp [upd_app] <;> omega) (by simp [AV.pure, AV.pureL, natA_pure, natI_pure, natS_pure])
theorem i_PowerSeries {xs : List (List UInt8)} {n : Int} (hl : xs.length < 9223372036854775808) (hs : ∀ x ∈ xs, x.length < 9223372036854775808) : CallOk Tryz.prog 15 [.sl 9 (strA xs) [] false, .int .i64 n] (optTL (powT xs n)) [] := by
  have h1 := w_seriesOf (xs := xs) hl hs
  have h2 := w_in (n := n) (a := 0) (b := 20)
  unfold powT
  cases hq : serR xs with
  | none =>
    rw [hq] at h1
    (refine callOk_of_wpc (W := fun g => g == 30) true hm' Tryz.func15 rfl (by kernel_rfl) (Nat.le_of_ble_eq_true rfl) (go_start ?_); generalize hQ : Post Tryz.prog Tryz.f15 _ _ _ _ _ = Q; simp only [stIn, matL, matA, st00])
    simp (disch := omega) only [go_sem, ↓k_cond, ↓x_idx, ↓k_block, Nat.reduceEqDiff, Nat.reduceBEq, ↓reduceIte, reduceCtorEq, h1]
    (repeat (with_reducible refine Or.inr ?_))
    rw [← hQ]
    exact postT_two (.inl rfl) rfl (by simp [upd_app] <;> omega) (by simp [upd_app] <;> omega) rfl rfl
  | some x =>
    rw [hq] at h1
    obtain ⟨hxf, _, h4, h5⟩ := serR_some hq
    by_cases c : 0 ≤ n ∧ n ≤ 20
    · obtain ⟨k, rfl⟩ : ∃ k : Nat, n = k := ⟨n.toNat, by omega⟩
      simp only [if_pos c, Int.toNat_natCast]
      have hB : bigP = 262144 := rfl
      have h3 := w_powerSeries (x := x) (n := k) hxf h5 h4 (by omega)
      simp only [decide_eq_true c] at h2
      have hll : (powL x k).length = x.length := powL_len x k
      (refine callOk_of_wpc (W := fun g => g == 30) true hm' Tryz.func15 rfl (by kernel_rfl) (Nat.le_of_ble_eq_true rfl) (go_start ?_); generalize hQ : Post Tryz.prog Tryz.f15 _ _ _ _ _ = Q; simp only [stIn, matL, matA, st00])
      simp (disch := omega) only [go_sem, ↓k_cond, ↓x_idx, ↓k_block, Nat.reduceEqDiff, Nat.reduceBEq, ↓reduceIte, reduceCtorEq, h1, h2, h3]
      (repeat (with_reducible refine Or.inr ?_))
      refine endIP (m := bigP) (qs := powL x k) (by omega) (by omega) (by intro e; rw [e] at hll; simp at hll; omega) rfl (fun hn => ?_) (fun ts hts => ?_)
      · rw [hn] at hQ
        simp (disch := omega) only [go_sem, ↓k_cond, ↓x_idx, ↓k_block, Nat.reduceEqDiff, Nat.reduceBEq, ↓reduceIte, reduceCtorEq]
        rw [← hQ]
        exact postT_two (.inl rfl) rfl (by simp [upd_app] <;> omega) (by simp [upd_app] <;> omega) rfl rfl
      · rw [hts] at hQ
        simp (disch := omega) only [go_sem, ↓k_cond, ↓x_idx, ↓k_block, Nat.reduceEqDiff, Nat.reduceBEq, ↓reduceIte, reduceCtorEq]
        rw [← hQ]
        exact post_ownB (id := 0) (n := ts.length) (len := ts.length) (.inl rfl) rfl (by simp [upd_app] <;> omega) (by simp [upd_app] <;> omega) (by simp [upd_app]) (by simp [upd_app, strA_length]) (by simp [upd_app]) (by simp [upd_app]) (Nat.le_refl _) (by simp only [upd_app, if_true]; exact List.take_of_length_le (by rw [strA_length]; exact Nat.le_refl _)) (by simp [upd_app]) (by simp [upd_app]) (strA_pure _) rfl
    · rw [decide_eq_false c] at h2
      simp only [if_neg c]
      (refine callOk_of_wpc (W := fun g => g == 30) true hm' Tryz.func15 rfl (by kernel_rfl) (Nat.le_of_ble_eq_true rfl) (go_start ?_); generalize hQ : Post Tryz.prog Tryz.f15 _ _ _ _ _ = Q; simp only [stIn, matL, matA, st00])
      simp (disch := omega) only [go_sem, ↓k_cond, ↓x_idx, ↓k_block, Nat.reduceEqDiff, Nat.reduceBEq, ↓reduceIte, reduceCtorEq, h1, h2]
      (repeat (with_reducible refine Or.inr ?_))
      rw [← hQ]
      exact postT_two (.inl rfl) rfl (by simp [upd_app] <;> omega) (by simp [upd_app] <;> omega) rfl rfl
attribute [go_sem] w_powerSeries
set_option maxHeartbeats 1000000 in
theorem law_PowerSeries (xs : List (List UInt8)) (hn_xs : xs.length < 4611686018427387904) (hs_xs : ∀ x ∈ xs, x.length < 4611686018427387904) (n : Int) : CallOk Tryz.prog 4 [.sl 9 (strA xs) [] false, .int .i64 n] (.bool true) [] := by
  have hsz_xs := cw (by kernel_rfl) (by simp [AV.pure, AV.pureL, natA_pure, natI_pure, natS_pure]) (by simp [AV.pure, AV.pureL, natA_pure, natI_pure, natS_pure]) (l_sz xs 1000000 (by omega) (by omega) hn_xs hs_xs)
  by_cases hneg_xs : szS xs 1000000 < 0
  · (refine callOk_of_wpc (W := fun g => g == 8 || g == 15 || g == 14 || g == 12) false hm' Tryz.func4 rfl (by kernel_rfl) (Nat.le_of_ble_eq_true rfl) (go_start ?_); generalize hQ : Post Tryz.prog Tryz.f4 _ _ _ _ _ = Q; simp only [stIn, matL, matA, st00])
    simp (disch := omega) only [go_sem, ↓k_cond, ↓x_idx, ↓k_block, Nat.reduceEqDiff, Nat.reduceBEq, ↓reduceIte, reduceCtorEq, hsz_xs]
    (repeat (with_reducible refine Or.inr ?_))
    rw [← hQ]
    exact post_one (.inl rfl) rfl (by simp [upd_app] <;> omega) rfl
  obtain ⟨b1_xs, b2_xs, b3_xs⟩ := szS_bd (by omega) (show 0 ≤ szS xs 1000000 by omega)
  have hl_xs : xs.length ≤ 1000000 := by omega
  have he_xs : ∀ x ∈ xs, x.length ≤ 1000000 := fun x hx => by have := b2_xs x hx; omega
  obtain ⟨z_xs, hz_xs⟩ : ∃ z, szS xs 1000000 = z := ⟨_, rfl⟩
  rw [hz_xs] at hsz_xs hneg_xs b3_xs
  have hT_xs := l_to xs false (.inl rfl) hl_xs
  obtain ⟨sp_xs, hsp_xs⟩ : ∃ sp, spareL xs.length = sp := ⟨_, rfl⟩
  have hr_xs : sp_xs.length = roomB xs.length := by rw [← hsp_xs, spareL]; simp
  have hrl_xs := room_le xs.length
  rw [hsp_xs] at hT_xs
  have hI := i_PowerSeries (xs := xs) (n := n) (by omega) (fun x hx => by have := he_xs x hx; omega)
  have hS := s_PowerSeries (xs := xs) (n := n) (by omega) (fun x hx => by have := he_xs x hx; omega)
  have hlen : ∀ ts, (powT xs n) = some ts → ts.length ≤ 1000 := fun ts => powT_len
  generalize (powT xs n) = o at *
  have heqN := (l_eq [] [] (by simp) (by simp)).args (SubL.cons sub_nil (SubL.cons sub_nil .nil))
  rw [decide_eq_true rfl] at heqN
  have hheldN := (l_held (n := 0) (k := 101) (by omega) (by omega)).args (SubL.cons sub_nil (SubL.cons (Sub.refl _) .nil))
  cases o with
  | none =>
    rw [optTL] at hI hS
    (refine callOk_of_wpc (W := fun g => g == 8 || g == 15 || g == 14 || g == 12) false hm' Tryz.func4 rfl (by kernel_rfl) (Nat.le_of_ble_eq_true rfl) (go_start ?_); generalize hQ : Post Tryz.prog Tryz.f4 _ _ _ _ _ = Q; simp only [stIn, matL, matA, st00])
    simp (disch := omega) only [go_sem, ↓k_cond, ↓x_idx, ↓k_block, Nat.reduceEqDiff, Nat.reduceBEq, ↓reduceIte, reduceCtorEq, hsz_xs]
    (repeat (with_reducible refine Or.inr ?_))
    refine callW_O hT_xs cl_to (by simp [AV.pure, AV.pureL, natA_pure, natI_pure, natS_pure]) (strA_pure _) (strA_pure _) rfl ?_
    simp only [strA_length, strA_append]
    simp (disch := omega) only [go_sem, ↓k_cond, ↓x_idx, ↓k_block, Nat.reduceEqDiff, Nat.reduceBEq, ↓reduceIte, reduceCtorEq]
    refine callW_X hS (by kernel_rfl) (snap_more (sp := sp_xs) (by simp [upd_app]) rfl rfl rfl) rfl (matA_pure _ _ _ rfl) rfl ?_
    simp (disch := omega) only [go_sem, ↓k_cond, ↓x_idx, ↓k_block, Nat.reduceEqDiff, Nat.reduceBEq, ↓reduceIte, reduceCtorEq]
    refine callW_O hT_xs cl_to (by simp [AV.pure, AV.pureL, natA_pure, natI_pure, natS_pure]) (strA_pure _) (strA_pure _) rfl ?_
    simp only [strA_length, strA_append]
    simp (disch := omega) only [go_sem, ↓k_cond, ↓x_idx, ↓k_block, Nat.reduceEqDiff, Nat.reduceBEq, ↓reduceIte, reduceCtorEq]
    refine callW_X hI (by kernel_rfl) (snap_more (sp := sp_xs) (by simp [upd_app]) rfl rfl rfl) rfl (matA_pure _ _ _ rfl) rfl ?_
    simp (disch := omega) only [go_sem, ↓k_cond, ↓x_idx, ↓k_block, Nat.reduceEqDiff, Nat.reduceBEq, ↓reduceIte, reduceCtorEq]
    refine callW_P heqN (by kernel_rfl) rfl rfl ?_
    simp (disch := omega) only [go_sem, ↓k_cond, ↓x_idx, ↓k_block, Nat.reduceEqDiff, Nat.reduceBEq, ↓reduceIte, reduceCtorEq]
    refine callW_O hT_xs cl_to (by simp [AV.pure, AV.pureL, natA_pure, natI_pure, natS_pure]) (strA_pure _) (strA_pure _) rfl ?_
    simp only [strA_length, strA_append]
    simp (disch := omega) only [go_sem, ↓k_cond, ↓x_idx, ↓k_block, Nat.reduceEqDiff, Nat.reduceBEq, ↓reduceIte, reduceCtorEq]
    refine callW_I (i_intact (xs := xs) (sp := sp_xs) (by simp [upd_app]) (by simp [upd_app]) rfl (by rw [← hr_xs]) hr_xs hl_xs) (by kernel_rfl) (.inr ⟨rfl, rfl⟩) ?_
    simp (disch := omega) only [go_sem, ↓k_cond, ↓x_idx, ↓k_block, Nat.reduceEqDiff, Nat.reduceBEq, ↓reduceIte, reduceCtorEq]
    refine callW_I (i_mark (k := 101) (xs := xs) (sp := sp_xs) (ex := true) (gr := true) (by simp [upd_app]) rfl (by simp) (by omega) (by omega) (by omega)) (by kernel_rfl) (.inl rfl) ?_
    simp (disch := omega) only [go_sem, ↓k_cond, ↓x_idx, ↓k_block, Nat.reduceEqDiff, Nat.reduceBEq, ↓reduceIte, reduceCtorEq]
    refine callW_P heqN (by kernel_rfl) rfl rfl ?_
    simp (disch := omega) only [go_sem, ↓k_cond, ↓x_idx, ↓k_block, Nat.reduceEqDiff, Nat.reduceBEq, ↓reduceIte, reduceCtorEq]
    (repeat (with_reducible refine Or.inr ?_))
    refine callW_P hheldN (by kernel_rfl) rfl rfl ?_
    simp (disch := omega) only [go_sem, ↓k_cond, ↓x_idx, ↓k_block, Nat.reduceEqDiff, Nat.reduceBEq, ↓reduceIte, reduceCtorEq]
    by_cases hnil : xs = []
    · subst hnil
      refine callW_P l_toNil cl_to (by simp [AV.pure, AV.pureL, natA_pure, natI_pure, natS_pure]) rfl ?_
      simp (disch := omega) only [go_sem, ↓k_cond, ↓x_idx, ↓k_block, Nat.reduceEqDiff, Nat.reduceBEq, ↓reduceIte, reduceCtorEq]
      refine callW_X (hI.args (SubL.cons sub_nil (SubL.cons (Sub.refl _) .nil))) (by kernel_rfl) (snapL_pure rfl) rfl (matA_pure _ _ _ rfl) rfl ?_
      simp (disch := omega) only [go_sem, ↓k_cond, ↓x_idx, ↓k_block, Nat.reduceEqDiff, Nat.reduceBEq, ↓reduceIte, reduceCtorEq]
      refine callW_P heqN (by kernel_rfl) rfl rfl ?_
      simp (disch := omega) only [go_sem, ↓k_cond, ↓x_idx, ↓k_block, Nat.reduceEqDiff, Nat.reduceBEq, ↓reduceIte, reduceCtorEq]
      refine callW_P hheldN (by kernel_rfl) rfl rfl ?_
      simp (disch := omega) only [go_sem, ↓k_cond, ↓x_idx, ↓k_block, Nat.reduceEqDiff, Nat.reduceBEq, ↓reduceIte, reduceCtorEq]
      rw [← hQ]
      exact post_one (.inl rfl) rfl (by simp [upd_app] <;> omega) rfl
    · have hT2 := l_to xs true (.inr hnil) hl_xs
      rw [hsp_xs] at hT2
      refine callW_O hT2 cl_to (by simp [AV.pure, AV.pureL, natA_pure, natI_pure, natS_pure]) (strA_pure _) (strA_pure _) rfl ?_
      simp only [strA_length, strA_append]
      simp (disch := omega) only [go_sem, ↓k_cond, ↓x_idx, ↓k_block, Nat.reduceEqDiff, Nat.reduceBEq, ↓reduceIte, reduceCtorEq]
      refine callW_X hI (by kernel_rfl) (snap_more (sp := sp_xs) (by simp [upd_app]) rfl rfl rfl) rfl (matA_pure _ _ _ rfl) rfl ?_
      simp (disch := omega) only [go_sem, ↓k_cond, ↓x_idx, ↓k_block, Nat.reduceEqDiff, Nat.reduceBEq, ↓reduceIte, reduceCtorEq]
      refine callW_P heqN (by kernel_rfl) rfl rfl ?_
      simp (disch := omega) only [go_sem, ↓k_cond, ↓x_idx, ↓k_block, Nat.reduceEqDiff, Nat.reduceBEq, ↓reduceIte, reduceCtorEq]
      refine callW_P hheldN (by kernel_rfl) rfl rfl ?_
      simp (disch := omega) only [go_sem, ↓k_cond, ↓x_idx, ↓k_block, Nat.reduceEqDiff, Nat.reduceBEq, ↓reduceIte, reduceCtorEq]
      rw [← hQ]
      exact post_one (.inl rfl) rfl (by simp [upd_app] <;> omega) rfl
  | some ts =>
    have htl := hlen ts rfl
    rw [optTL] at hI hS
    have heq := l_eq ts ts (by omega) (by omega)
    rw [decide_eq_true rfl] at heq
    have hheld := l_held (n := ts.length) (k := 101) (by omega) (by omega)
    (refine callOk_of_wpc (W := fun g => g == 8 || g == 15 || g == 14 || g == 12) false hm' Tryz.func4 rfl (by kernel_rfl) (Nat.le_of_ble_eq_true rfl) (go_start ?_); generalize hQ : Post Tryz.prog Tryz.f4 _ _ _ _ _ = Q; simp only [stIn, matL, matA, st00])
    simp (disch := omega) only [go_sem, ↓k_cond, ↓x_idx, ↓k_block, Nat.reduceEqDiff, Nat.reduceBEq, ↓reduceIte, reduceCtorEq, hsz_xs]
    (repeat (with_reducible refine Or.inr ?_))
    refine callW_O hT_xs cl_to (by simp [AV.pure, AV.pureL, natA_pure, natI_pure, natS_pure]) (strA_pure _) (strA_pure _) rfl ?_
    simp only [strA_length, strA_append]
    simp (disch := omega) only [go_sem, ↓k_cond, ↓x_idx, ↓k_block, Nat.reduceEqDiff, Nat.reduceBEq, ↓reduceIte, reduceCtorEq]
    refine callW_X hS (by kernel_rfl) (snap_more (sp := sp_xs) (by simp [upd_app]) rfl rfl rfl) (optTL_solid (some ts)) (matA_ownB (strA_pure ts) rfl) rfl ?_
    simp only [strA_length, List.length_nil, Nat.add_zero, List.append_nil]
    simp (disch := omega) only [go_sem, ↓k_cond, ↓x_idx, ↓k_block, Nat.reduceEqDiff, Nat.reduceBEq, ↓reduceIte, reduceCtorEq]
    refine callW_O hT_xs cl_to (by simp [AV.pure, AV.pureL, natA_pure, natI_pure, natS_pure]) (strA_pure _) (strA_pure _) rfl ?_
    simp only [strA_length, strA_append]
    simp (disch := omega) only [go_sem, ↓k_cond, ↓x_idx, ↓k_block, Nat.reduceEqDiff, Nat.reduceBEq, ↓reduceIte, reduceCtorEq]
    refine callW_X hI (by kernel_rfl) (snap_more (sp := sp_xs) (by simp [upd_app]) rfl rfl rfl) (optTL_solid (some ts)) (matA_ownB (strA_pure ts) rfl) rfl ?_
    simp only [strA_length, List.length_nil, Nat.add_zero, List.append_nil]
    simp (disch := omega) only [go_sem, ↓k_cond, ↓x_idx, ↓k_block, Nat.reduceEqDiff, Nat.reduceBEq, ↓reduceIte, reduceCtorEq]
    refine callW_S heq (by kernel_rfl) (snapS2 (ex := false) (gr := true) (ex' := false) (gr' := true) (by simp [upd_app]) (by simp [upd_app]) rfl rfl) rfl rfl ?_
    simp (disch := omega) only [go_sem, ↓k_cond, ↓x_idx, ↓k_block, Nat.reduceEqDiff, Nat.reduceBEq, ↓reduceIte, reduceCtorEq]
    refine callW_O hT_xs cl_to (by simp [AV.pure, AV.pureL, natA_pure, natI_pure, natS_pure]) (strA_pure _) (strA_pure _) rfl ?_
    simp only [strA_length, strA_append]
    simp (disch := omega) only [go_sem, ↓k_cond, ↓x_idx, ↓k_block, Nat.reduceEqDiff, Nat.reduceBEq, ↓reduceIte, reduceCtorEq]
    refine callW_I (i_intact (xs := xs) (sp := sp_xs) (by simp [upd_app]) (by simp [upd_app]) rfl (by rw [← hr_xs]) hr_xs hl_xs) (by kernel_rfl) (.inr ⟨rfl, rfl⟩) ?_
    simp (disch := omega) only [go_sem, ↓k_cond, ↓x_idx, ↓k_block, Nat.reduceEqDiff, Nat.reduceBEq, ↓reduceIte, reduceCtorEq]
    refine callW_I (i_mark (k := 101) (xs := xs) (sp := sp_xs) (ex := true) (gr := true) (by simp [upd_app]) rfl (by simp) (by omega) (by omega) (by omega)) (by kernel_rfl) (.inl rfl) ?_
    simp (disch := omega) only [go_sem, ↓k_cond, ↓x_idx, ↓k_block, Nat.reduceEqDiff, Nat.reduceBEq, ↓reduceIte, reduceCtorEq]
    refine callW_S heq (by kernel_rfl) (snapS2 (ex := false) (gr := true) (ex' := false) (gr' := true) (by simp [upd_app]) (by simp [upd_app]) rfl rfl) rfl rfl ?_
    simp (disch := omega) only [go_sem, ↓k_cond, ↓x_idx, ↓k_block, Nat.reduceEqDiff, Nat.reduceBEq, ↓reduceIte, reduceCtorEq]
    refine callW_I (i_mark (k := 101) (xs := ts) (sp := []) (n := ts.length) (N := ts.length) (ex := false) (gr := true) (by simp [upd_app]) rfl (by simp) (by omega) (by omega) (by omega)) (by kernel_rfl) (.inl rfl) ?_
    simp (disch := omega) only [go_sem, ↓k_cond, ↓x_idx, ↓k_block, Nat.reduceEqDiff, Nat.reduceBEq, ↓reduceIte, reduceCtorEq]
    refine callW_S hheld (by kernel_rfl) (snapS1 (ex := false) (gr := true) (xs := marksL 101 ts.length) (by simp [upd_app]) (marksL_len _ _) rfl) rfl rfl ?_
    simp (disch := omega) only [go_sem, ↓k_cond, ↓x_idx, ↓k_block, Nat.reduceEqDiff, Nat.reduceBEq, ↓reduceIte, reduceCtorEq]
    by_cases hnil : xs = []
    · subst hnil
      refine callW_P l_toNil cl_to (by simp [AV.pure, AV.pureL, natA_pure, natI_pure, natS_pure]) rfl ?_
      simp (disch := omega) only [go_sem, ↓k_cond, ↓x_idx, ↓k_block, Nat.reduceEqDiff, Nat.reduceBEq, ↓reduceIte, reduceCtorEq]
      refine callW_X (hI.args (SubL.cons sub_nil (SubL.cons (Sub.refl _) .nil))) (by kernel_rfl) (snapL_pure rfl) (optTL_solid (some ts)) (matA_ownB (strA_pure ts) rfl) rfl ?_
      simp only [strA_length, List.length_nil, Nat.add_zero, List.append_nil]
      simp (disch := omega) only [go_sem, ↓k_cond, ↓x_idx, ↓k_block, Nat.reduceEqDiff, Nat.reduceBEq, ↓reduceIte, reduceCtorEq]
      refine callW_S heq (by kernel_rfl) (snapS2 (ex := false) (gr := true) (ex' := false) (gr' := true) (by simp [upd_app]) (by simp [upd_app]) rfl rfl) rfl rfl ?_
      simp (disch := omega) only [go_sem, ↓k_cond, ↓x_idx, ↓k_block, Nat.reduceEqDiff, Nat.reduceBEq, ↓reduceIte, reduceCtorEq]
      refine callW_S hheld (by kernel_rfl) (snapS1 (ex := false) (gr := true) (xs := marksL 101 ts.length) (by simp [upd_app]) (marksL_len _ _) rfl) rfl rfl ?_
      simp (disch := omega) only [go_sem, ↓k_cond, ↓x_idx, ↓k_block, Nat.reduceEqDiff, Nat.reduceBEq, ↓reduceIte, reduceCtorEq]
      rw [← hQ]
      exact post_one (.inl rfl) rfl (by simp [upd_app] <;> omega) rfl
    · have hT2 := l_to xs true (.inr hnil) hl_xs
      rw [hsp_xs] at hT2
      refine callW_O hT2 cl_to (by simp [AV.pure, AV.pureL, natA_pure, natI_pure, natS_pure]) (strA_pure _) (strA_pure _) rfl ?_
      simp only [strA_length, strA_append]
      simp (disch := omega) only [go_sem, ↓k_cond, ↓x_idx, ↓k_block, Nat.reduceEqDiff, Nat.reduceBEq, ↓reduceIte, reduceCtorEq]
      refine callW_X hI (by kernel_rfl) (snap_more (sp := sp_xs) (by simp [upd_app]) rfl rfl rfl) (optTL_solid (some ts)) (matA_ownB (strA_pure ts) rfl) rfl ?_
      simp only [strA_length, List.length_nil, Nat.add_zero, List.append_nil]
      simp (disch := omega) only [go_sem, ↓k_cond, ↓x_idx, ↓k_block, Nat.reduceEqDiff, Nat.reduceBEq, ↓reduceIte, reduceCtorEq]
      refine callW_S heq (by kernel_rfl) (snapS2 (ex := false) (gr := true) (ex' := false) (gr' := true) (by simp [upd_app]) (by simp [upd_app]) rfl rfl) rfl rfl ?_
      simp (disch := omega) only [go_sem, ↓k_cond, ↓x_idx, ↓k_block, Nat.reduceEqDiff, Nat.reduceBEq, ↓reduceIte, reduceCtorEq]
      refine callW_S hheld (by kernel_rfl) (snapS1 (ex := false) (gr := true) (xs := marksL 101 ts.length) (by simp [upd_app]) (marksL_len _ _) rfl) rfl rfl ?_
      simp (disch := omega) only [go_sem, ↓k_cond, ↓x_idx, ↓k_block, Nat.reduceEqDiff, Nat.reduceBEq, ↓reduceIte, reduceCtorEq]
      rw [← hQ]
      exact post_one (.inl rfl) rfl (by simp [upd_app] <;> omega) rfl
theorem lawOk_PowerSeries : LawOk Tryz.prog 4 [.cell (.sl 9 .str), .cell (.int .i64)] := by
  intro xs h
  obtain ⟨x_xs, _, rfl, k_xs, ⟨x_n, _, rfl, k_n, rfl⟩⟩ := h
  obtain ⟨xs, rfl, h1_xs, h2_xs⟩ := isC_strs k_xs
  obtain ⟨n, rfl, _⟩ := k_n
  exact law_PowerSeries xs h1_xs h2_xs n
end Go.Proofs.YtompacaambjhkaaGreatDoor
