/- A part of the proof that stands in YtjilbkkappobpaaGreatDoorMY3. -/
import Derived.Test.YtjilbkkappobpaaGreatDoorM13

set_option linter.unusedVariables false
set_option linter.unusedSimpArgs false
set_option maxRecDepth 100000
namespace Go.Proofs.YtjilbkkappobpaaGreatDoor
open Go

theorem sgn_pos {q : Rat} (h : 0 < q) : 0 < q.num.sign := by
 have h1 : 0 ≤ q.num := Rat.num_nonneg.2 (Rat.le_of_lt h)
 have h2 : q.num ≠ 0 := fun e => Rat.lt_irrefl ((Rat.num_eq_zero.1 e) ▸ h)
 rw [Int.sign_eq_one_of_pos (by omega)]; decide
theorem sgn_npos {q : Rat} (h : ¬ 0 < q) : q.num.sign ≤ 0 := by
  have h1 : q ≤ 0 := Rat.not_lt.1 h
  rcases Int.lt_trichotomy q.num 0 with h2 | h2 | h2
  · rw [Int.sign_eq_neg_one_of_neg h2]; decide
  · rw [h2]; decide
  · have h3 : 0 ≤ q := Rat.num_nonneg.1 (by omega)
    have h4 := Rat.le_antisymm h1 h3
    rw [h4] at h2
    exact absurd h2 (by decide)
theorem free_pos {r : Rat} : r < 1 ↔ 0 < 1 - r := Rat.lt_iff_sub_pos r 1
theorem subO_fitsG {m : Nat} {x : Rat} {o y : List Rat} {k : Nat} (hx : fits m x) (hy : ∀ i, fits m (y.getD i 0)) (ho : ∀ i, i < k → fits ((3 * m + 1) * 2 ^ i - (m + 1)) (o.getD i 0)) : ∀ i, i ≤ k → fits ((3 * m + 1) * 2 ^ i - (2 * m + 1)) (subO x o y k i)
 | 0, _ => fits_mono hx (by rw [Nat.pow_zero]; omega)
 | i + 1, h => by
  have h1 := subO_fitsG hx hy ho i (by omega)
  have h2 := fits_mul (ho i (by omega)) (hy (k - i)) (fits_pos (ho i (by omega)))
  have := fits_sub h1 h2
  have hp : 3 * m + 1 ≤ (3 * m + 1) * 2 ^ i := Nat.le_mul_of_pos_right _ (Nat.pow_pos (by decide))
  refine fits_mono this ?_
  rw [Nat.pow_succ, ← Nat.mul_assoc]
  generalize (3 * m + 1) * 2 ^ i = P at *
  omega
theorem overO_fitsG {m : Nat} {x y : List Rat} (hx : ∀ i, fits m (x.getD i 0)) (hy : ∀ i, fits m (y.getD i 0)) (h0 : (y.getD 0 0).num ≠ 0) : ∀ k i, i < k → fits ((3 * m + 1) * 2 ^ i - (m + 1)) ((overO x y k).getD i 0)
  | 0, i, h => absurd h (Nat.not_lt_zero i)
  | k + 1, i, h => by
    have ih := overO_fitsG hx hy h0 k
    have hl := overO_len x y k
    rw [overO]
    by_cases hi : i < k
    · have e : (overO x y k ++ [subO (x.getD k 0) (overO x y k) y k k / y.getD 0 0]).getD i 0 = (overO x y k).getD i 0 := by
        simp [List.getD_eq_getElem?_getD, List.getElem?_append_left (show i < (overO x y k).length by omega)]
      rw [e]; exact ih i hi
    · obtain rfl : i = k := by omega
      have e : (overO x y i ++ [subO (x.getD i 0) (overO x y i) y i i / y.getD 0 0]).getD i 0 = subO (x.getD i 0) (overO x y i) y i i / y.getD 0 0 := by
        simp [List.getD_eq_getElem?_getD, hl]
      rw [e]
      have h1 := subO_fitsG (hx i) hy ih i (Nat.le_refl _)
      have hp : 3 * m + 1 ≤ (3 * m + 1) * 2 ^ i := Nat.le_mul_of_pos_right _ (Nat.pow_pos (by decide))
      refine fits_mono (fits_over h1 (hy 0) h0) ?_
      generalize (3 * m + 1) * 2 ^ i = P at *
      omega
def zL (n : Nat) : List Rat := fitL [0, 1] n
theorem shf_one {n : Nat} : shfL (oneL n) 1 = zL n := by
  rw [shfL, zL, fitL, show (oneL n).length = n from mapF_len]
  refine mapF_congr fun k hk => ?_
  unfold shfF
  by_cases h : k < 1
  · rw [if_pos h]; obtain rfl : k = 0 := by omega
    rfl
  · rw [if_neg h, oneL, getD_of (mapF_at (show k - 1 < n by omega)), oneF]
    by_cases h1 : k = 1
    · subst h1; rfl
    · rw [if_neg (by omega)]
      rw [List.getD_eq_getElem?_getD, List.getElem?_eq_none (by simp; omega)]; rfl
def lenU (n : Nat) : List Rat := lesL (oneL n) (zL n)
def lnA (x : List Rat) (n : Nat) : List Rat := lesL (fitL x n) (zL n)
def lenP (x : List Rat) (n : Nat) : List Rat := timL (lenU n) (fitL x n)
def lenF (x : List Rat) (n i : Nat) : Rat := (lenP x n).getD i 0 * (1 - facSum x 1 x.length)
def lenL (x : List Rat) (n : Nat) : List Rat := ovrL (mapF n (lenF x n)) (lnA x n)
def lenST (xs : List (List UInt8)) (n : Int) : Option (List (List UInt8)) :=
 match wgtR xs with
 | some x => if 1 ≤ n ∧ n ≤ 13 then (if x.getD 0 0 = 0 then none else if facSum x 1 x.length < 1 then (lenL x n.toNat).mapM toldR else none) else none
 | none => none
theorem oneL_len {n : Nat} : (oneL n).length = n := mapF_len
theorem lenU_len {n : Nat} : (lenU n).length = n := by rw [lenU, lesL, mapF_len, oneL_len]
theorem lenA_len {x : List Rat} {n : Nat} : (lnA x n).length = n := by rw [lnA, lesL, mapF_len, fitL_len]
theorem lenP_len {x : List Rat} {n : Nat} : (lenP x n).length = n := by rw [lenP, timL_len, lenU_len]
theorem lenL_len {x : List Rat} {n : Nat} : (lenL x n).length = n := by rw [lenL, ovrL, overO_len, mapF_len]
theorem lenST_len {xs : List (List UInt8)} {n : Int} {ts : List (List UInt8)} (h : lenST xs n = some ts) : ts.length ≤ 1000 := by
  unfold lenST at h
  split at h
  · split at h
    · split at h
      · cases h
      · split at h
        · have := toldL_len h
          rw [lenL_len] at this; omega
        · cases h
    · cases h
  · cases h
theorem getD_fitsG {m : Nat} (hm : 0 < m) {qs : List Rat} (hq : ∀ q ∈ qs, fits m q) (i : Nat) : fits m (qs.getD i 0) := by
  rcases Nat.lt_or_ge i qs.length with h | h
  · rw [List.getD_eq_getElem?_getD, List.getElem?_eq_getElem h]
    exact hq _ (List.getElem_mem h)
  · rw [getD_out h]; exact zero_fits m hm
theorem zL_fits {n : Nat} : ∀ q ∈ zL n, fits 700 q := fitL_fits fun q hq => by
  rcases List.mem_cons.1 hq with rfl | hq
  · exact zero_fits 700 (by decide)
  · rw [List.mem_singleton.1 hq]; exact fits_mono (fits_int (n := 1) (k := 64) (by decide) (by decide)) (by decide)
theorem oneL_fits {n m : Nat} (hm : 64 ≤ m) : ∀ q ∈ oneL n, fits m q := fun q hq => fits_mono (cd_fits (oneL_cd q hq) (n := 64) (by decide) (by decide) (by decide)) hm
theorem les_fits {x y : List Rat} (hx : ∀ q ∈ x, fits 700 q) (hy : ∀ q ∈ y, fits 700 q) : ∀ q ∈ lesL x y, fits 1401 q := mapF_fits fun i _ => fits_mono (show fits (700 + 700 + 1) (lesF x y i) from fits_sub (m := 700) (n := 700) (getD_fits hx i) (getD_fits hy i)) (by decide)
theorem lenU_fits {n : Nat} : ∀ q ∈ lenU n, fits 1401 q := les_fits (oneL_fits (by decide)) zL_fits
theorem lenA_fits {x : List Rat} {n : Nat} (hx : ∀ q ∈ x, fits 700 q) : ∀ q ∈ lnA x n, fits 1401 q := les_fits (fitL_fits hx) zL_fits
theorem lenC_fits {x : List Rat} {n k i : Nat} (hx : ∀ q ∈ x, fits 700 q) (hi : i ≤ 14) : fits 29492 (pcv (lenU n) (fitL x n) k i) :=
 fits_mono (pcv_fits (by decide) (getD_fitsG (by decide) lenU_fits) (getD_fits (fitL_fits hx)) k i) (by omega)
theorem lenP_fits {x : List Rat} {n : Nat} (hx : ∀ q ∈ x, fits 700 q) (hn : n ≤ 13) : ∀ q ∈ lenP x n, fits 29492 q := by
 rw [lenP, timL]
 refine mapF_fits fun i hi => ?_
 rw [lenU_len] at hi
 exact lenC_fits hx (by omega)
theorem free_fits {x : List Rat} (hx : ∀ q ∈ x, fits 700 q) (hl : x.length ≤ 13) : fits 10074 (1 - facSum x 1 x.length) :=
 fits_mono (fits_sub (fits_int (n := 1) (k := 64) (by decide) (by decide)) (facM_fits (n := 1) hx hl (by decide) _ (Nat.le_refl _))) (by omega)
theorem lenF_fits {x : List Rat} {n : Nat} (hx : ∀ q ∈ x, fits 700 q) (hl : x.length ≤ 13) (hn : n ≤ 13) (i : Nat) : fits 39566 (lenF x n i) :=
 fits_mono (show fits (29492 + 10074) (lenF x n i) from fits_mul (m := 29492) (n := 10074) (getD_fitsG (by decide) (lenP_fits hx hn) i) (free_fits hx hl) (by decide)) (by decide)
def bigM : Nat := 50000
def bigL : Nat := 700000000
theorem lenT_fits {x : List Rat} {n : Nat} (hx : ∀ q ∈ x, fits 700 q) (hl : x.length ≤ 13) (hn : n ≤ 13) : ∀ q ∈ mapF n (lenF x n), fits bigM q := mapF_fits fun i _ => fits_mono (lenF_fits hx hl hn i) (by decide)
theorem lenA_head {x : List Rat} {n : Nat} (h1 : 1 ≤ n) : (lnA x n).getD 0 0 = x.getD 0 0 := by
 rw [lnA, lesL, getD_of (mapF_at (by rw [fitL_len]; exact h1)), lesF, fitL_getD h1, zL, fitL_getD h1]
 show _ - 0 = _
 rw [Rat.sub_eq_add_neg, Rat.neg_zero, Rat.add_zero]
theorem pow_two12 {i : Nat} (h : i ≤ 12) : 2 ^ i ≤ 4096 := Nat.le_trans (Nat.pow_le_pow_right (by decide) h) (by decide)
theorem over_sizes {x y : List Rat} (hx : ∀ q ∈ x, fits bigM q) (hy : ∀ q ∈ y, fits 1401 q) (h0 : y.getD 0 0 ≠ 0) (hl : x.length ≤ 13) : (∀ k i, k < x.length → i ≤ k → fits bigL (subO (x.getD k 0) (overO x y k) y k i)) ∧ ∀ k, k ≤ x.length → ∀ q ∈ overO x y k, fits bigL q := by
  have hx' : ∀ i, fits bigM (x.getD i 0) := getD_fitsG (by decide) hx
  have hy' : ∀ i, fits bigM (y.getD i 0) := getD_fitsG (by decide) fun q hq => fits_mono (hy q hq) (by decide)
  have h0' : (y.getD 0 0).num ≠ 0 := fun e => h0 (num_zero.1 e)
  have hB : bigM = 50000 := rfl
  have hC : bigL = 700000000 := rfl
  have hO := overO_fitsG hx' hy' h0'
  refine ⟨fun k i hk hi => ?_, fun k hk q hq => ?_⟩
  · have h1 := subO_fitsG (hx' k) hy' (hO k) i hi
    have h2 := pow_two12 (i := i) (by omega)
    refine fits_mono h1 ?_
    rw [hB, hC]; omega
  · obtain ⟨i, hi, rfl⟩ := List.mem_iff_getElem.1 hq
    have hl2 := overO_len x y k
    have h1 := hO k i (by omega)
    rw [List.getD_eq_getElem?_getD, List.getElem?_eq_getElem hi] at h1
    have h2 := pow_two12 (i := i) (by omega)
    refine fits_mono h1 ?_
    rw [hB, hC]; omega
theorem subO_step {x : Rat} {o y : List Rat} {k i : Nat} {p q : Rat} (ho : o[i]? = some p) (hy : y[k - i]? = some q) : subO x o y k (i + 1) = subO x o y k i - p * q := by
 rw [subO, getD_of ho, getD_of hy]
theorem c_l08OverG {m n M : Nat} {x y : List Rat} (hm : 0 < m) (hM : M + (M + n) + 1 ≤ 274877906944) (hxf : ∀ q ∈ x, fits m q) (hyf : ∀ q ∈ y, fits n q) (hl : x.length ≤ 1000) (hxy : x.length = y.length) (h1 : 1 ≤ x.length) (h0 : y.getD 0 0 ≠ 0) (hS : ∀ k i, k < x.length → i ≤ k → fits M (subO (x.getD k 0) (overO x y k) y k i)) (hO : ∀ k, k ≤ x.length → ∀ q ∈ overO x y k, fits M q) : CallOk Tryz.prog 66 [lS m x, lS n y] (lS M (ovrL x y)) [] := by
  have hm0' : 1 ≤ x.length := h1
  have hn0 : (y.getD 0 0).num ≠ 0 := fun e => h0 (num_zero.1 e)
  obtain ⟨L, hL⟩ : ∃ n, x.length = n := ⟨_, rfl⟩
  rw [ovrL]
  rw [hL] at hl hxy h1 hS hO ⊢
  obtain ⟨y0, hy0⟩ := get_some (xs := y) (i := 0) (by omega)
  have hy0' : y[Int.toNat 0]? = some y0 := hy0
  have hyn : y0.num ≠ 0 := by rw [← getD_of hy0]; exact hn0
  (refine callOk_of_wpc (W := fun _ => false) false hm' Tryz.func66 rfl (by kernel_rfl) (Nat.le_of_ble_eq_true rfl) (go_start ?_); generalize hQ : Post Tryz.prog Tryz.f66 _ _ _ _ _ = Q; simp only [stIn, matL, matA, st00])
  simp (disch := omega) only [go_sem, ↓k_cond, ↓x_idx, ↓k_block, Nat.reduceEqDiff, Nat.reduceBEq, ↓reduceIte, reduceCtorEq, hL]
  refine k_loop (fun (k : Nat) st => st.fr 0 = lS m x ∧ st.fr 1 = lS n y ∧ st.fr 5 = .ref 0 k 0 k ∧ st.fr 6 = .int .i64 k ∧ st.h 0 = ⟨39, ratM M (overO x y k), (k == 0), true, true⟩ ∧ 0 < st.nx ∧ (k ≤ L)) (fun (k : Nat) => L - k) (0)
    ⟨(by simp [upd_app, ratM, overO] <;> omega), (by simp [upd_app, ratM, overO] <;> omega), (by simp [upd_app, ratM, overO] <;> omega), (by simp [upd_app, ratM, overO] <;> omega), (by simp [upd_app, ratM, overO] <;> omega), (by simp <;> omega), by omega⟩ ?_
  rintro k ⟨fr, h, nx⟩ ⟨g0, g1, g5, g6, hm0, hnx, hk⟩ J hJ
  simp only at g0 g1 g5 g6 hm0 hnx
  have n1 : (0 = nx) = False := by simp; omega
  have n2 : (nx = 0) = False := by simp; omega
  by_cases hin : k < L
  · obtain ⟨p, hp⟩ := get_some (xs := x) (i := k) (by omega)
    have hpx : x.getD k 0 = p := getD_of hp
    have hsf := fun i hi => hS k i hin hi
    rw [hpx] at hsf
    have hof := hO k (by omega)
    have hol := overO_len x y k
    have hel : (ratM M (overO x y k)).length = k := by rw [ratM_length, hol]
    have hz1 : (k + 1 == 0) = false := by simp
    have keyJ := hJ (k + 1)
    clear hJ
    simp (disch := omega) only [go_sem, ↓k_cond, ↓x_idx, ↓k_block, Nat.reduceEqDiff, Nat.reduceBEq, ↓reduceIte, reduceCtorEq, g0, g1, g5, g6, hL, hp]
    refine k_loop (fun (i : Nat) st => st.fr 0 = lS m x ∧ st.fr 1 = lS n y ∧ st.fr 5 = .ref 0 k 0 k ∧ st.fr 6 = .int .i64 k ∧ st.fr 7 = .ptr nx 1 0 0 ∧ st.fr 8 = .int .i64 i ∧ st.h 0 = ⟨39, ratM M (overO x y k), (k == 0), true, true⟩ ∧ st.h nx = ⟨39, [rS M (subO p (overO x y k) y k i)], true, false, true⟩ ∧ nx < st.nx ∧ i ≤ k) (fun i => k - i) 0
      ⟨(by simp [upd_app, g0] <;> omega), (by simp [upd_app, g1] <;> omega), (by simp [upd_app, g5] <;> omega), (by simp [upd_app, g6] <;> omega), (by simp [upd_app] <;> omega), (by simp [upd_app] <;> omega), by simp only [upd_app, ↓reduceIte, n1, hm0], by simp only [upd_app, ↓reduceIte]; rw [subO, ← rS_re (q := p) (hxf p (List.mem_of_getElem? hp)) (hsf 0 (by omega))], by simp, by omega⟩ ?_
    rintro i ⟨fr2, h2, nx2⟩ ⟨r0, r1, r5, r6, r7, r8, m0, mx, hx2, hi⟩ J2 hJ2
    simp only at r0 r1 r5 r6 r7 r8 m0 mx hx2
    by_cases hin2 : i < k
    · obtain ⟨o, ho⟩ := get_some (xs := overO x y k) (i := i) (by omega)
      obtain ⟨q, hq⟩ := get_some (xs := y) (i := k - i) (by omega)
      have hqk : ((k : Int) - (i : Int)).toNat = k - i := by omega
      have hst := subO_step (x := p) ho hq
      have hfi := hsf (i + 1) (by omega)
      rw [hst] at hfi
      have hpr := fits_mul (hof o (List.mem_of_getElem? ho)) (hyf q (List.mem_of_getElem? hq)) (fits_pos (hof o (List.mem_of_getElem? ho)))
      have hre : rS (M + (M + n) + 1) (subO p (overO x y k) y k i - o * q) = rS M (subO p (overO x y k) y k (i + 1)) := by
        rw [hst]; exact rS_re (fits_sub (hsf i (by omega)) hpr) hfi
      simp (disch := omega) only [go_sem, ↓k_cond, ↓x_idx, ↓k_block, Nat.reduceEqDiff, Nat.reduceBEq, ↓reduceIte, reduceCtorEq, r0, r1, r5, r6, r7, r8, m0, mx, hel, hol, ho, hq, hqk, hxy, hre]
      (repeat (with_reducible refine Or.inr ?_))
      exact hJ2 (i + 1) _ ⟨(by simp [upd_app, r0] <;> omega), (by simp [upd_app, r1] <;> omega), (by simp [upd_app, r5] <;> omega), (by simp [upd_app, r6] <;> omega), (by simp [upd_app, r7] <;> omega), (by simp [upd_app] <;> omega), by simp only [upd_app, ↓reduceIte, n1, m0], by simp only [upd_app, ↓reduceIte], hx2, hin2⟩ (by omega)
    · obtain rfl : i = k := by omega
      have hqf := fits_over (hsf i (by omega)) (show fits n y0 from hyf y0 (List.mem_of_getElem? hy0)) hyn
      have hnew : subO p (overO x y i) y i i / y0 = subO (x.getD i 0) (overO x y i) y i i / y.getD 0 0 := by rw [hpx, getD_of hy0]
      have hof1 := hO (i + 1) (by omega) (subO p (overO x y i) y i i / y0) (by rw [overO, hnew]; simp)
      have hre : rS (M + n) (subO p (overO x y i) y i i / y0) = rS M (subO p (overO x y i) y i i / y0) := rS_re hqf hof1
      have hsn : ratM M (overO x y i) ++ [rS M (subO p (overO x y i) y i i / y0)] = ratM M (overO x y (i + 1)) := by rw [ratM_snoc, overO, hnew]
      have hov := w_sOver (m := M) (n := n) (a := subO p (overO x y i) y i i) (b := y0) (by omega) hyn
      simp (disch := omega) only [go_sem, ↓k_cond, ↓x_idx, ↓k_block, Nat.reduceEqDiff, Nat.reduceBEq, ↓reduceIte, reduceCtorEq, r0, r1, r5, r6, r7, r8, m0, mx, hel, hy0', hxy, hov, hre, reach]
      (repeat (with_reducible refine Or.inr ?_))
      exact keyJ _ ⟨(by simp [upd_app, r0] <;> omega), (by simp [upd_app, r1] <;> omega), (by simp [upd_app] <;> omega), (by simp [upd_app] <;> omega), by simp only [upd_app, ↓reduceIte, hsn, hz1], by simp only; omega, hin⟩ (by omega)
  · obtain rfl : k = L := by omega
    simp (disch := omega) only [go_sem, ↓k_cond, ↓x_idx, ↓k_block, Nat.reduceEqDiff, Nat.reduceBEq, ↓reduceIte, reduceCtorEq, g0, g1, g5, g6, hL]
    rw [← hQ]
    exact post_frozen (id := 0) (n := k) (off := 0) (len := k) (.inl rfl) rfl (by simp [upd_app] <;> omega) (by simp [hm0]) (by simp [hm0, ratM_length, overO_len]) (by simp [hm0]) (by omega) (Nat.zero_le _) (by simp only [hm0, List.drop_zero]; exact List.take_of_length_le (by rw [ratM_length, overO_len]; exact Nat.le_refl _)) (by simp [AV.pure, AV.pureL, natA_pure, natI_pure, natS_pure])

theorem w_l08Terms {n : Int} : CW Tryz.prog 55 [.int .i64 n] (.bool (decide (1 ≤ n ∧ n ≤ 13))) := by
 refine cw (by kernel_rfl) (by simp [AV.pure, AV.pureL, natA_pure, natI_pure, natS_pure]) (by simp [AV.pure, AV.pureL, natA_pure, natI_pure, natS_pure]) ?_
 have h := w_sIn (n := n) (a := 1) (b := 13)
 generalize decide (1 ≤ n ∧ n ≤ 13) = p at *
 (refine callOk_of_wpc (W := fun _ => false) false hm' Tryz.func55 rfl (by kernel_rfl) (Nat.le_of_ble_eq_true rfl) (go_start ?_); generalize hQ : Post Tryz.prog Tryz.f55 _ _ _ _ _ = Q; simp only [stIn, matL, matA, st00])
 simp (disch := omega) only [go_sem, ↓k_cond, ↓x_idx, ↓k_block, Nat.reduceEqDiff, Nat.reduceBEq, ↓reduceIte, reduceCtorEq, h]
 (repeat (with_reducible refine Or.inr ?_))
 rw [← hQ]
 exact post_one (.inl rfl) rfl (by simp [upd_app] <;> omega) rfl
def lngF (x : List Rat) (i k : Nat) : Rat := if k < i then x.getD k 0 else 0
theorem lngF_set {x : List Rat} {n i : Nat} : (mapF n (lngF x i)).set i (x.getD i 0) = mapF n (lngF x (i + 1)) := by
  rw [mapF_set]
  refine mapF_congr fun k _ => ?_
  unfold lngF
  by_cases e : k = i
  · subst e; rw [if_pos rfl, if_pos (by omega)]
  · rw [if_neg e]
    by_cases c : k < i
    · rw [if_pos c, if_pos (by omega)]
    · rw [if_neg c, if_neg (by omega)]
attribute [go_sem] w_l08Terms
theorem w_l08Long {x : List Rat} {n : Nat} (hx : ∀ q ∈ x, fits 700 q) (hl : x.length ≤ 13) (h1 : 1 ≤ n) (hn : n ≤ 13) : CW Tryz.prog 64 [lS 700 x, .int .i64 n] (lS 700 (fitL x n)) := by
  refine cw (by kernel_rfl) (by simp [AV.pure, AV.pureL, natA_pure, natI_pure, natS_pure]) (by simp [AV.pure, AV.pureL, natA_pure, natI_pure, natS_pure]) ?_
  obtain ⟨L, hL⟩ : ∃ n, x.length = n := ⟨_, rfl⟩
  have hz : ratM 64 (List.replicate n 0) = ratM 700 (mapF n (lngF x 0)) := by
    have e : mapF n (lngF x 0) = List.replicate n 0 := by
      apply List.ext_getElem
      · simp [mapF]
      · intro i h1 h2; simp [mapF, lngF]
    rw [e, ratM, ratM]
    refine List.map_congr_left fun q hq => ?_
    obtain rfl := List.eq_of_mem_replicate hq
    exact rS_re (zero_fits _ (by decide)) (zero_fits _ (by decide))
  have hend : ∀ i, i = L ∨ i = n → mapF n (lngF x i) = fitL x n := fun i hi => by
    refine mapF_congr fun k hk => ?_
    unfold lngF
    split
    · rfl
    · rw [getD_out (by omega)]
  (refine callOk_of_wpc (W := fun g => g == 56) false hm' Tryz.func64 rfl (by kernel_rfl) (Nat.le_of_ble_eq_true rfl) (go_start ?_); generalize hQ : Post Tryz.prog Tryz.f64 _ _ _ _ _ = Q; simp only [stIn, matL, matA, st00])
  simp (disch := omega) only [go_sem, ↓k_cond, ↓x_idx, ↓k_block, Nat.reduceEqDiff, Nat.reduceBEq, ↓reduceIte, reduceCtorEq, hL]
  refine callW_O (c_l06Row (n := n) (by omega) h1) (by kernel_rfl) (by simp [AV.pure, AV.pureL, natA_pure, natI_pure, natS_pure]) ratM_pure rfl rfl ?_
  simp only [List.length_nil, Nat.add_zero, List.append_nil, ratM_length, List.length_replicate]
  simp (disch := omega) only [go_sem, ↓k_cond, ↓x_idx, ↓k_block, Nat.reduceEqDiff, Nat.reduceBEq, ↓reduceIte, reduceCtorEq, hL]
  refine k_loop (fun (i : Nat) st => st.fr 0 = lS 700 x ∧ st.fr 5 = .ref 0 n 0 n ∧ st.fr 6 = .int .i64 i ∧ st.h 0 = ⟨39, ratM 700 (mapF n (lngF x i)), false, true, true⟩ ∧ i ≤ L ∧ i ≤ n) (fun i => L - i) 0
    ⟨(by simp [upd_app] <;> omega), (by simp [upd_app] <;> omega), (by simp [upd_app] <;> omega), by simp only [upd_app, ↓reduceIte]; rw [hz], by omega, by omega⟩ ?_
  rintro i ⟨fr, h, nx⟩ ⟨g0, g5, g6, hm0, hi, hi2⟩ J hJ
  simp only at g0 g5 g6 hm0
  have hel : (ratM 700 (mapF n (lngF x i))).length = n := by rw [ratM_length, mapF_len]
  by_cases c1 : i < L
  · by_cases c2 : i < n
    · obtain ⟨q, hq⟩ := get_some (xs := x) (i := i) (by omega)
      have hat : (mapF n (lngF x i))[i]? = some (lngF x i i) := mapF_at c2
      have hset : (ratM 700 (mapF n (lngF x i))).set i (rS 700 q) = ratM 700 (mapF n (lngF x (i + 1))) := by rw [ratM_put, ← getD_of hq, lngF_set]
      simp (disch := omega) only [go_sem, ↓k_cond, ↓x_idx, ↓k_block, Nat.reduceEqDiff, Nat.reduceBEq, ↓reduceIte, reduceCtorEq, g0, g5, g6, hm0, hel, hL, hq, hat, hset]
      exact hJ (i + 1) _ ⟨(by simp [upd_app, g0] <;> omega), (by simp [upd_app, g5] <;> omega), (by simp [upd_app] <;> omega), by simp only [upd_app, ↓reduceIte, hset], c1, c2⟩ (by first | omega | (simp only; omega))
    · rw [hend i (.inr (by omega))] at hm0
      simp (disch := omega) only [go_sem, ↓k_cond, ↓x_idx, ↓k_block, Nat.reduceEqDiff, Nat.reduceBEq, ↓reduceIte, reduceCtorEq, g0, g5, g6, hm0, ratM_length, fitL_len, hL]
      rw [← hQ]
      exact post_frozen (id := 0) (n := n) (off := 0) (len := n) (.inl rfl) rfl (by simp [upd_app] <;> omega) (by simp [hm0]) (by simp [hm0, ratM_length, fitL_len]) (by simp [hm0]) (by omega) (Nat.zero_le _) (by simp only [hm0, List.drop_zero]; exact List.take_of_length_le (by rw [ratM_length, fitL_len]; exact Nat.le_refl _)) (by simp [AV.pure, AV.pureL, natA_pure, natI_pure, natS_pure])
  · rw [hend i (.inl (by omega))] at hm0
    simp (disch := omega) only [go_sem, ↓k_cond, ↓x_idx, ↓k_block, Nat.reduceEqDiff, Nat.reduceBEq, ↓reduceIte, reduceCtorEq, g0, g5, g6, hL]
    rw [← hQ]
    exact post_frozen (id := 0) (n := n) (off := 0) (len := n) (.inl rfl) rfl (by simp [upd_app] <;> omega) (by simp [hm0]) (by simp [hm0, ratM_length, fitL_len]) (by simp [hm0]) (by omega) (Nat.zero_le _) (by simp only [hm0, List.drop_zero]; exact List.take_of_length_le (by rw [ratM_length, fitL_len]; exact Nat.le_refl _)) (by simp [AV.pure, AV.pureL, natA_pure, natI_pure, natS_pure])
def mulF (x : List Rat) (f : Rat) (i k : Nat) : Rat := if k < i then x.getD k 0 * f else x.getD k 0
theorem mulF_set {x : List Rat} {n i : Nat} {f : Rat} : (mapF n (mulF x f i)).set i (x.getD i 0 * f) = mapF n (mulF x f (i + 1)) := by
  rw [mapF_set]
  refine mapF_congr fun k _ => ?_
  unfold mulF
  by_cases e : k = i
  · subst e; rw [if_pos rfl, if_pos (by omega)]
  · rw [if_neg e]
    by_cases c : k < i
    · rw [if_pos c, if_pos (by omega)]
    · rw [if_neg c, if_neg (by omega)]
theorem mulF_zero {x : List Rat} {f : Rat} : mapF x.length (mulF x f 0) = x := by
  apply List.ext_getElem
  · simp [mapF]
  · intro i h1 h2
    simp only [mapF, List.getElem_map, List.getElem_range, mulF]
    rw [if_neg (Nat.not_lt_zero i), List.getD_eq_getElem?_getD, List.getElem?_eq_getElem h2]; rfl
theorem mulF_end {x : List Rat} {n : Nat} : mapF n (mulF (lenP x n) (1 - facSum x 1 x.length) n) = mapF n (lenF x n) := mapF_congr fun k hk => by unfold mulF lenF; rw [if_pos hk]
theorem snapRm {st : St} {i m n : Nat} {qs : List Rat} {ex gr : Bool} {more : List AV} (hi : st.h i = ⟨39, ratM m qs, ex, gr, true⟩) (hn : qs.length = n) (hp : AV.pureL more = true) : snapL (snapA st 8) (.ref i n 0 n :: more) = some (lS m qs :: more, [i]) := by
 have h1 := snap_frozen (st := st) (d := 7) (id := i) (n := n) (off := 0) (len := n) (T := 39) (r := ratM m qs) (by rw [hi]) (by rw [hi, ratM_length, hn]) (by rw [hi]) (by omega) (by rw [hi, List.drop_zero]; exact List.take_of_length_le (by rw [ratM_length, hn]; exact Nat.le_refl _)) (by simp)
 simp [snapL, h1, snapL_pure hp]
set_option maxHeartbeats 2000000 in
theorem s_LengthSeries {xs : List (List UInt8)} {n : Int} (hl : xs.length < 9223372036854775808) (hs : ∀ x ∈ xs, x.length ≤ 1000000) : CallOk Tryz.prog 22 [.sl 9 (strA xs) [] false, .int .i64 n] (optTL (lenST xs n)) [] := by
  have h1 := w_sGaps (xs := xs) hl hs
  have h2 := w_l08Terms (n := n)
  unfold lenST wgtR
  cases hq : serR xs with
  | none =>
    rw [hq, gapS] at h1
    show CallOk Tryz.prog _ _ (optTL none) []
    (refine callOk_of_wpc (W := fun g => g == 40 || g == 49 || g == 66) true hm' Tryz.func22 rfl (by kernel_rfl) (Nat.le_of_ble_eq_true rfl) (go_start ?_); generalize hQ : Post Tryz.prog Tryz.f22 _ _ _ _ _ = Q; simp only [stIn, matL, matA, st00])
    simp (disch := omega) only [go_sem, ↓k_cond, ↓x_idx, ↓k_block, Nat.reduceEqDiff, Nat.reduceBEq, ↓reduceIte, reduceCtorEq, h1]
    (repeat (with_reducible refine Or.inr ?_))
    rw [← hQ]
    exact postT_two (.inl rfl) rfl (by simp [upd_app] <;> omega) (by simp [upd_app] <;> omega) rfl rfl
  | some x =>
    rw [hq, gapS] at h1
    obtain ⟨hxf, _, h4, h5⟩ := serR_some hq
    obtain ⟨x0, hx0⟩ := get_some (xs := x) (i := 0) (by omega)
    have hx0' : x[Int.toNat 0]? = some x0 := hx0
    have hxd : x.getD 0 0 = x0 := getD_of hx0
    obtain ⟨L, hL⟩ : ∃ n, x.length = n := ⟨_, rfl⟩
    by_cases hw : wgt x = true
    · simp only [if_pos hw]
      rw [hw] at h1
      by_cases c : 1 ≤ n ∧ n ≤ 13
      · obtain ⟨k, rfl⟩ : ∃ k : Nat, n = k := ⟨n.toNat, by omega⟩
        rw [decide_eq_true c] at h2
        simp only [if_pos c, Int.toNat_natCast, hxd]
        have hf1 : CW Tryz.prog 61 [lS 700 x, .int .i64 1] (rS (64 + L * 765) (facSum x 1 L)) := by have := w_l08Factors (qs := x) (n := 1) h5 (by omega); rw [hL] at this; exact this
        have hb : 64 + L * 765 ≤ 10009 := by omega
        obtain ⟨m, hm⟩ : ∃ m, 64 + L * 765 = m := ⟨_, rfl⟩
        rw [hm] at hf1 hb
        have h0 := w_sZero (m := 700) (a := x0) (by omega)
        have h6 := w_sLess (m := m) (n := 64) (a := facSum x 1 L) (b := 1) (by omega)
        by_cases z0 : x0 = 0
        · simp only [if_pos z0]
          rw [decide_eq_true z0] at h0
          show CallOk Tryz.prog _ _ (optTL none) []
          (refine callOk_of_wpc (W := fun g => g == 40 || g == 49 || g == 66) true hm' Tryz.func22 rfl (by kernel_rfl) (Nat.le_of_ble_eq_true rfl) (go_start ?_); generalize hQ : Post Tryz.prog Tryz.f22 _ _ _ _ _ = Q; simp only [stIn, matL, matA, st00])
          simp (disch := omega) only [go_sem, ↓k_cond, ↓x_idx, ↓k_block, Nat.reduceEqDiff, Nat.reduceBEq, ↓reduceIte, reduceCtorEq, h1, h2, hx0', hL, h0]
          (repeat (with_reducible refine Or.inr ?_))
          rw [← hQ]
          exact postT_two (.inl rfl) rfl (by simp [upd_app] <;> omega) (by simp [upd_app] <;> omega) rfl rfl
        · simp only [if_neg z0]
          rw [decide_eq_false z0] at h0
          by_cases hr : facSum x 1 x.length < 1
          · simp only [if_pos hr]
            rw [hL] at hr
            rw [decide_eq_true hr] at h6
            have hone := w_l08One (n := k) (by omega) (by omega)
            have h700 : lS 64 (oneL k) = lS 700 (oneL k) := by
              have : ratM 64 (oneL k) = ratM 700 (oneL k) := List.map_congr_left fun q hq => rS_re (oneL_fits (by decide) q hq) (oneL_fits (by decide) q hq)
              rw [lS, lS, this]
            rw [h700] at hone
            have hsh : CW Tryz.prog 57 [lS 700 (oneL k), .int .i64 1] (lS 700 (zL k)) := by have := w_l08Shift (x := oneL k) (d := 1) (oneL_fits (by decide)) (by rw [oneL_len]; omega) (by rw [oneL_len]; omega) (by omega); rw [shf_one] at this; exact this
            have hlo := w_l08Long (x := x) (n := k) hxf h5 (by omega) (by omega)
            have hle1 : CW Tryz.prog 65 [lS 700 (oneL k), lS 700 (zL k)] (lS 1401 (lenU k)) := w_l08Less (x := oneL k) (y := zL k) (by rw [oneL_len]; omega) (by rw [oneL_len, zL, fitL_len]) (by rw [oneL_len]; omega)
            have hle2 : CW Tryz.prog 65 [lS 700 (fitL x k), lS 700 (zL k)] (lS 1401 (lnA x k)) := w_l08Less (x := fitL x k) (y := zL k) (by rw [fitL_len]; omega) (by rw [fitL_len, zL, fitL_len]) (by rw [fitL_len]; omega)
            have hM : bigM = 50000 := rfl
            have hB : bigL = 700000000 := rfl
            have htm : CallOk Tryz.prog 49 [lS 1401 (lenU k), lS 700 (fitL x k)] (.own 39 (ratM bigM (lenP x k)) [] false) [] := c_l08Times (m := 1401) (n := 700) (M := bigM) (by omega) (by omega) (by omega) (by omega) (by rw [lenU_len]; omega) (by rw [fitL_len]; omega) (by rw [lenU_len]; omega) (fun a i ha hi => fits_mono (lenC_fits hxf (by rw [lenU_len] at ha; omega)) (by omega))
            have hPl : (lenP x k).length = k := lenP_len
            obtain ⟨s1, s2⟩ := over_sizes (x := mapF k (lenF x k)) (y := lnA x k) (lenT_fits hxf h5 (by omega)) (lenA_fits hxf) (by rw [lenA_head (by omega), hxd]; exact z0) (by rw [mapF_len]; omega)
            have hov : CallOk Tryz.prog 66 [lS bigM (mapF k (lenF x k)), lS 1401 (lnA x k)] (lS bigL (lenL x k)) [] := c_l08OverG (m := bigM) (n := 1401) (M := bigL) (by omega) (by omega) (lenT_fits hxf h5 (by omega)) (lenA_fits hxf) (by rw [mapF_len]; omega) (by rw [mapF_len, lenA_len]) (by rw [mapF_len]; omega) (by rw [lenA_head (by omega), hxd]; exact z0) s1 s2
            have hll : (lenL x k).length = k := lenL_len
            have hfr : fits 10074 (1 - facSum x 1 L) := by rw [← hL]; exact free_fits hxf h5
            have hz0 := mulF_zero (x := lenP x k) (f := 1 - facSum x 1 L)
            rw [hPl] at hz0
            have hze := mulF_end (x := x) (n := k)
            rw [hL] at hze
            have hre : ∀ i, rS (64 + m + 1 + bigM) ((1 - facSum x 1 L) * (lenP x k).getD i 0) = rS bigM ((lenP x k).getD i 0 * (1 - facSum x 1 L)) := fun i => by
              have hf := lenF_fits hxf h5 (show k ≤ 13 by omega) i
              rw [lenF, hL] at hf
              rw [Rat.mul_comm]
              exact rS_re (fits_mono hf (by omega)) (fits_mono hf (by omega))
            (refine callOk_of_wpc (W := fun g => g == 40 || g == 49 || g == 66) true hm' Tryz.func22 rfl (by kernel_rfl) (Nat.le_of_ble_eq_true rfl) (go_start ?_); generalize hQ : Post Tryz.prog Tryz.f22 _ _ _ _ _ = Q; simp only [stIn, matL, matA, st00])
            simp (disch := omega) only [go_sem, ↓k_cond, ↓x_idx, ↓k_block, Nat.reduceEqDiff, Nat.reduceBEq, ↓reduceIte, reduceCtorEq, h1, h2, hx0', hL, h0, hf1, h6, hone, hsh, hlo, hle1]
            (repeat (with_reducible refine Or.inr ?_))
            refine callW_O htm (by kernel_rfl) (by simp [AV.pure, AV.pureL, natA_pure, natI_pure, natS_pure]) ratM_pure rfl rfl ?_
            simp only [List.length_nil, Nat.add_zero, List.append_nil, ratM_length, hPl]
            simp (disch := omega) only [go_sem, ↓k_cond, ↓x_idx, ↓k_block, Nat.reduceEqDiff, Nat.reduceBEq, ↓reduceIte, reduceCtorEq]
            refine k_loop (fun (i : Nat) st => st.fr 8 = .ptr 0 1 0 0 ∧ st.fr 9 = lS 700 (fitL x k) ∧ st.fr 10 = lS 700 (zL k) ∧ st.fr 11 = .ref 1 k 0 k ∧ st.fr 12 = .int .i64 i ∧ st.h 0 = ⟨39, [rS (64 + m + 1) (1 - facSum x 1 L)], true, false, true⟩ ∧ st.h 1 = ⟨39, ratM bigM (mapF k (mulF (lenP x k) (1 - facSum x 1 L) i)), false, true, true⟩ ∧ i ≤ k) (fun i => k - i) 0
              ⟨(by simp [upd_app] <;> omega), (by simp [upd_app] <;> omega), (by simp [upd_app] <;> omega), (by simp [upd_app] <;> omega), (by simp [upd_app] <;> omega), by simp [upd_app], by simp only [upd_app, ↓reduceIte, hz0], by omega⟩ ?_
            rintro i ⟨fr, h, nx⟩ ⟨g8, g9, g10, g11, g12, hm0, hm1, hi⟩ J hJ
            simp only at g8 g9 g10 g11 g12 hm0 hm1
            have hel : (ratM bigM (mapF k (mulF (lenP x k) (1 - facSum x 1 L) i))).length = k := by rw [ratM_length, mapF_len]
            by_cases hin : i < k
            · have hat : (mapF k (mulF (lenP x k) (1 - facSum x 1 L) i))[i]? = some ((lenP x k).getD i 0) := by rw [mapF_at hin, mulF, if_neg (Nat.lt_irrefl i)]
              have hri := hre i
              have hset : (ratM bigM (mapF k (mulF (lenP x k) (1 - facSum x 1 L) i))).set i (rS bigM ((lenP x k).getD i 0 * (1 - facSum x 1 L))) = ratM bigM (mapF k (mulF (lenP x k) (1 - facSum x 1 L) (i + 1))) := by rw [ratM_put, mulF_set]
              simp (disch := omega) only [go_sem, ↓k_cond, ↓x_idx, ↓k_block, Nat.reduceEqDiff, Nat.reduceBEq, ↓reduceIte, reduceCtorEq, g8, g9, g10, g11, g12, hm0, hm1, hel, hat, hri, hset]
              (repeat (with_reducible refine Or.inr ?_))
              exact hJ (i + 1) _ ⟨(by simp [upd_app, g8] <;> omega), (by simp [upd_app, g9] <;> omega), (by simp [upd_app, g10] <;> omega), (by simp [upd_app, g11] <;> omega), (by simp [upd_app] <;> omega), by simp [upd_app, hm0], by simp only [upd_app, ↓reduceIte, hset], hin⟩ (by first | omega | (simp only; omega))
            · obtain rfl : i = k := by omega
              rw [hze] at hm1
              simp (disch := omega) only [go_sem, ↓k_cond, ↓x_idx, ↓k_block, Nat.reduceEqDiff, Nat.reduceBEq, ↓reduceIte, reduceCtorEq, g8, g9, g10, g11, g12, hm0, hm1, hel, hle2, ratM_length, mapF_len]
              (repeat (with_reducible refine Or.inr ?_))
              refine callW_F hov (by kernel_rfl) (snapRm hm1 mapF_len (by simp [AV.pure, AV.pureL, natA_pure, natI_pure, natS_pure])) (by simp [hm1]) (by simp [AV.pure, AV.pureL, natA_pure, natI_pure, natS_pure]) (by simp [AV.pure, AV.pureL, natA_pure, natI_pure, natS_pure]) rfl ?_
              simp (disch := omega) only [go_sem, ↓k_cond, ↓x_idx, ↓k_block, Nat.reduceEqDiff, Nat.reduceBEq, ↓reduceIte, reduceCtorEq]
              refine endSP (m := bigL) (qs := lenL x i) (by omega) (by omega) (by intro e; rw [e] at hll; simp at hll; omega) rfl (fun hn => ?_) (fun ts hts => ?_)
              · rw [hn] at hQ
                simp (disch := omega) only [go_sem, ↓k_cond, ↓x_idx, ↓k_block, Nat.reduceEqDiff, Nat.reduceBEq, ↓reduceIte, reduceCtorEq]
                rw [← hQ]
                exact postT_two (.inl rfl) rfl (by simp [upd_app] <;> omega) (by simp [upd_app] <;> omega) rfl rfl
              · rw [hts] at hQ
                simp (disch := omega) only [go_sem, ↓k_cond, ↓x_idx, ↓k_block, Nat.reduceEqDiff, Nat.reduceBEq, ↓reduceIte, reduceCtorEq]
                rw [← hQ]
                exact post_ownB (id := nx) (n := ts.length) (len := ts.length) (.inl rfl) rfl (by simp [upd_app] <;> omega) (by simp [upd_app] <;> omega) (by simp [upd_app]) (by simp [upd_app, strA_length]) (by simp [upd_app]) (by simp [upd_app]) (Nat.le_refl _) (by simp only [upd_app, if_true]; exact List.take_of_length_le (by rw [strA_length]; exact Nat.le_refl _)) (by simp [upd_app]) (by simp [upd_app]) (strA_pure _) rfl
          · simp only [if_neg hr]
            rw [hL] at hr
            rw [decide_eq_false hr] at h6
            show CallOk Tryz.prog _ _ (optTL none) []
            (refine callOk_of_wpc (W := fun g => g == 40 || g == 49 || g == 66) true hm' Tryz.func22 rfl (by kernel_rfl) (Nat.le_of_ble_eq_true rfl) (go_start ?_); generalize hQ : Post Tryz.prog Tryz.f22 _ _ _ _ _ = Q; simp only [stIn, matL, matA, st00])
            simp (disch := omega) only [go_sem, ↓k_cond, ↓x_idx, ↓k_block, Nat.reduceEqDiff, Nat.reduceBEq, ↓reduceIte, reduceCtorEq, h1, h2, hx0', hL, h0, hf1, h6]
            (repeat (with_reducible refine Or.inr ?_))
            rw [← hQ]
            exact postT_two (.inl rfl) rfl (by simp [upd_app] <;> omega) (by simp [upd_app] <;> omega) rfl rfl
      · rw [decide_eq_false c] at h2
        simp only [if_neg c]
        show CallOk Tryz.prog _ _ (optTL none) []
        (refine callOk_of_wpc (W := fun g => g == 40 || g == 49 || g == 66) true hm' Tryz.func22 rfl (by kernel_rfl) (Nat.le_of_ble_eq_true rfl) (go_start ?_); generalize hQ : Post Tryz.prog Tryz.f22 _ _ _ _ _ = Q; simp only [stIn, matL, matA, st00])
        simp (disch := omega) only [go_sem, ↓k_cond, ↓x_idx, ↓k_block, Nat.reduceEqDiff, Nat.reduceBEq, ↓reduceIte, reduceCtorEq, h1, h2]
        (repeat (with_reducible refine Or.inr ?_))
        rw [← hQ]
        exact postT_two (.inl rfl) rfl (by simp [upd_app] <;> omega) (by simp [upd_app] <;> omega) rfl rfl
    · simp only [if_neg hw]
      simp only [Bool.not_eq_true] at hw
      rw [hw] at h1
      show CallOk Tryz.prog _ _ (optTL none) []
      (refine callOk_of_wpc (W := fun g => g == 40 || g == 49 || g == 66) true hm' Tryz.func22 rfl (by kernel_rfl) (Nat.le_of_ble_eq_true rfl) (go_start ?_); generalize hQ : Post Tryz.prog Tryz.f22 _ _ _ _ _ = Q; simp only [stIn, matL, matA, st00])
      simp (disch := omega) only [go_sem, ↓k_cond, ↓x_idx, ↓k_block, Nat.reduceEqDiff, Nat.reduceBEq, ↓reduceIte, reduceCtorEq, h1]
      (repeat (with_reducible refine Or.inr ?_))
      rw [← hQ]
      exact postT_two (.inl rfl) rfl (by simp [upd_app] <;> omega) (by simp [upd_app] <;> omega) rfl rfl
attribute [go_sem] w_l08Long
theorem c_overSeriesG {m n M : Nat} {x y : List Rat} (hm : 0 < m) (hM : M + (M + n) + 1 ≤ 274877906944) (hxf : ∀ q ∈ x, fits m q) (hyf : ∀ q ∈ y, fits n q) (hl : x.length ≤ 1000) (hxy : x.length = y.length) (h1 : 1 ≤ x.length) (h0 : y.getD 0 0 ≠ 0) (hS : ∀ k i, k < x.length → i ≤ k → fits M (subO (x.getD k 0) (overO x y k) y k i)) (hO : ∀ k, k ≤ x.length → ∀ q ∈ overO x y k, fits M q) : CallOk Tryz.prog 73 [lI m x, lI n y] (lI M (ovrL x y)) [] := by
  have hm0' : 1 ≤ x.length := h1
  have hn0 : (y.getD 0 0).num ≠ 0 := fun e => h0 (num_zero.1 e)
  obtain ⟨L, hL⟩ : ∃ n, x.length = n := ⟨_, rfl⟩
  rw [ovrL]
  rw [hL] at hl hxy h1 hS hO ⊢
  obtain ⟨y0, hy0⟩ := get_some (xs := y) (i := 0) (by omega)
  have hy0' : y[Int.toNat 0]? = some y0 := hy0
  have hyn : y0.num ≠ 0 := by rw [← getD_of hy0]; exact hn0
  (refine callOk_of_wpc (W := fun _ => false) false hm' Tryz.func73 rfl (by kernel_rfl) (Nat.le_of_ble_eq_true rfl) (go_start ?_); generalize hQ : Post Tryz.prog Tryz.f73 _ _ _ _ _ = Q; simp only [stIn, matL, matA, st00])
  simp (disch := omega) only [go_sem, ↓k_cond, ↓x_idx, ↓k_block, Nat.reduceEqDiff, Nat.reduceBEq, ↓reduceIte, reduceCtorEq, hL]
  refine k_loop (fun (k : Nat) st => st.fr 0 = lI m x ∧ st.fr 1 = lI n y ∧ st.fr 5 = .ref 0 k 0 k ∧ st.fr 11 = .int .i64 L ∧ st.fr 12 = .int .i64 k ∧ st.h 0 = ⟨52, ratL M (overO x y k), (k == 0), true, true⟩ ∧ 0 < st.nx ∧ (k ≤ L)) (fun (k : Nat) => L - k) (0)
    ⟨(by simp [upd_app, ratL, overO] <;> omega), (by simp [upd_app, ratL, overO] <;> omega), (by simp [upd_app, ratL, overO] <;> omega), (by simp [upd_app, ratL, overO] <;> omega), (by simp [upd_app, ratL, overO] <;> omega), (by simp [upd_app, ratL, overO] <;> omega), (by simp <;> omega), by omega⟩ ?_
  rintro k ⟨fr, h, nx⟩ ⟨g0, g1, g5, g11, g12, hm0, hnx, hk⟩ J hJ
  simp only at g0 g1 g5 g11 g12 hm0 hnx
  have n1 : (0 = nx) = False := by simp; omega
  have n2 : (nx = 0) = False := by simp; omega
  by_cases hin : k < L
  · obtain ⟨p, hp⟩ := get_some (xs := x) (i := k) (by omega)
    have hpx : x.getD k 0 = p := getD_of hp
    have hsf := fun i hi => hS k i hin hi
    rw [hpx] at hsf
    have hof := hO k (by omega)
    have hol := overO_len x y k
    have hel : (ratL M (overO x y k)).length = k := by rw [ratL_length, hol]
    have hz1 : (k + 1 == 0) = false := by simp
    have keyJ := hJ (k + 1)
    clear hJ
    simp (disch := omega) only [go_sem, ↓k_cond, ↓x_idx, ↓k_block, Nat.reduceEqDiff, Nat.reduceBEq, ↓reduceIte, reduceCtorEq, g0, g1, g5, g11, g12, hL, hp]
    refine k_loop (fun (i : Nat) st => st.fr 0 = lI m x ∧ st.fr 1 = lI n y ∧ st.fr 5 = .ref 0 k 0 k ∧ st.fr 6 = .int .i64 k ∧ st.fr 7 = .ptr nx 1 0 0 ∧ st.fr 11 = .int .i64 L ∧ st.fr 12 = .int .i64 k ∧ st.fr 19 = .int .i64 k ∧ st.fr 20 = .int .i64 i ∧ st.h 0 = ⟨52, ratL M (overO x y k), (k == 0), true, true⟩ ∧ st.h nx = ⟨52, [rI M (subO p (overO x y k) y k i)], true, false, true⟩ ∧ nx < st.nx ∧ i ≤ k) (fun i => k - i) 0
      ⟨(by simp [upd_app, g0] <;> omega), (by simp [upd_app, g1] <;> omega), (by simp [upd_app, g5] <;> omega), (by simp [upd_app] <;> omega), (by simp [upd_app] <;> omega), (by simp [upd_app, g11] <;> omega), (by simp [upd_app, g12] <;> omega), (by simp [upd_app] <;> omega), (by simp [upd_app] <;> omega), by simp only [upd_app, ↓reduceIte, n1, hm0], by simp only [upd_app, ↓reduceIte]; rw [subO, ← rI_re (q := p) (hxf p (List.mem_of_getElem? hp)) (hsf 0 (by omega))], by simp, by omega⟩ ?_
    rintro i ⟨fr2, h2, nx2⟩ ⟨r0, r1, r5, r6, r7, r11, r12, r19, r20, m0, mx, hx2, hi⟩ J2 hJ2
    simp only at r0 r1 r5 r6 r7 r11 r12 r19 r20 m0 mx hx2
    by_cases hin2 : i < k
    · obtain ⟨o, ho⟩ := get_some (xs := overO x y k) (i := i) (by omega)
      obtain ⟨q, hq⟩ := get_some (xs := y) (i := k - i) (by omega)
      have hqk : ((k : Int) - (i : Int)).toNat = k - i := by omega
      have hst := subO_step (x := p) ho hq
      have hfi := hsf (i + 1) (by omega)
      rw [hst] at hfi
      have hpr := fits_mul (hof o (List.mem_of_getElem? ho)) (hyf q (List.mem_of_getElem? hq)) (fits_pos (hof o (List.mem_of_getElem? ho)))
      have hre : rI (M + (M + n) + 1) (subO p (overO x y k) y k i - o * q) = rI M (subO p (overO x y k) y k (i + 1)) := by
        rw [hst]; exact rI_re (fits_sub (hsf i (by omega)) hpr) hfi
      simp (disch := omega) only [go_sem, ↓k_cond, ↓x_idx, ↓k_block, Nat.reduceEqDiff, Nat.reduceBEq, ↓reduceIte, reduceCtorEq, r0, r1, r5, r6, r7, r11, r12, r19, r20, m0, mx, hel, hol, ho, hq, hqk, hxy, hre]
      (repeat (with_reducible refine Or.inr ?_))
      exact hJ2 (i + 1) _ ⟨(by simp [upd_app, r0] <;> omega), (by simp [upd_app, r1] <;> omega), (by simp [upd_app, r5] <;> omega), (by simp [upd_app, r6] <;> omega), (by simp [upd_app, r7] <;> omega), (by simp [upd_app, r11] <;> omega), (by simp [upd_app, r12] <;> omega), (by simp [upd_app, r19] <;> omega), (by simp [upd_app] <;> omega), by simp only [upd_app, ↓reduceIte, n1, m0], by simp only [upd_app, ↓reduceIte], hx2, hin2⟩ (by omega)
    · obtain rfl : i = k := by omega
      have hqf := fits_over (hsf i (by omega)) (show fits n y0 from hyf y0 (List.mem_of_getElem? hy0)) hyn
      have hnew : subO p (overO x y i) y i i / y0 = subO (x.getD i 0) (overO x y i) y i i / y.getD 0 0 := by rw [hpx, getD_of hy0]
      have hof1 := hO (i + 1) (by omega) (subO p (overO x y i) y i i / y0) (by rw [overO, hnew]; simp)
      have hre : rI (M + n) (subO p (overO x y i) y i i / y0) = rI M (subO p (overO x y i) y i i / y0) := rI_re hqf hof1
      have hsn : ratL M (overO x y i) ++ [rI M (subO p (overO x y i) y i i / y0)] = ratL M (overO x y (i + 1)) := by rw [ratL_snoc, overO, hnew]
      have hov := w_over (m := M) (n := n) (a := subO p (overO x y i) y i i) (b := y0) (by omega) hyn
      simp (disch := omega) only [go_sem, ↓k_cond, ↓x_idx, ↓k_block, Nat.reduceEqDiff, Nat.reduceBEq, ↓reduceIte, reduceCtorEq, r0, r1, r5, r6, r7, r11, r12, r19, r20, m0, mx, hel, hy0', hxy, hov, hre, reach]
      (repeat (with_reducible refine Or.inr ?_))
      exact keyJ _ ⟨(by simp [upd_app, r0] <;> omega), (by simp [upd_app, r1] <;> omega), (by simp [upd_app] <;> omega), (by simp [upd_app, r11] <;> omega), (by simp [upd_app] <;> omega), by simp only [upd_app, ↓reduceIte, hsn, hz1], by simp only; omega, hin⟩ (by omega)
  · obtain rfl : k = L := by omega
    simp (disch := omega) only [go_sem, ↓k_cond, ↓x_idx, ↓k_block, Nat.reduceEqDiff, Nat.reduceBEq, ↓reduceIte, reduceCtorEq, g0, g1, g5, g11, g12, hL]
    rw [← hQ]
    exact post_frozen (id := 0) (n := k) (off := 0) (len := k) (.inl rfl) rfl (by simp [upd_app] <;> omega) (by simp [hm0]) (by simp [hm0, ratL_length, overO_len]) (by simp [hm0]) (by omega) (Nat.zero_le _) (by simp only [hm0, List.drop_zero]; exact List.take_of_length_le (by rw [ratL_length, overO_len]; exact Nat.le_refl _)) (by simp [AV.pure, AV.pureL, natA_pure, natI_pure, natS_pure])
theorem w_fitted01 {t : Nat} (h1 : 1 ≤ t) (ht : t ≤ 13) : CW Tryz.prog 69 [.sl 52 [rI 64 0, rI 64 1] [] true, .int .i64 t] (lI 700 (zL t)) := by
  refine cw (by kernel_rfl) (by simp [AV.pure, AV.pureL, natA_pure, natI_pure, natS_pure]) (by simp [AV.pure, AV.pureL, natA_pure, natI_pure, natS_pure]) ?_
  have h := c_fitted (x := [0, 1]) (t := t) (fun q hq => by
    rcases List.mem_cons.1 hq with rfl | hq
    · exact zero_fits 700 (by decide)
    · rw [List.mem_singleton.1 hq]; exact fits_mono (fits_int (n := 1) (k := 64) (by decide) (by decide)) (by decide)) (by decide) h1 ht
  have e : ratL 700 [0, 1] = [rI 64 0, rI 64 1] := by
    rw [ratL, List.map_cons, List.map_cons, List.map_nil, rI_re (zero_fits 700 (by decide)) (zero_fits 64 (by decide)), rI_re (q := 1) (fits_mono (fits_int (n := 1) (k := 64) (by decide) (by decide)) (by decide)) (fits_int (n := 1) (k := 64) (by decide) (by decide))]
  have h2 : CallOk Tryz.prog 69 [.sl 52 [rI 64 0, rI 64 1] [] false, .int .i64 t] (lI 700 (zL t)) [] := by rw [← e]; exact h
  exact h2.args (SubL.cons sub_sl (SubL.refl _))
theorem snapIm {st : St} {i m n : Nat} {qs : List Rat} {ex gr : Bool} {more : List AV} (hi : st.h i = ⟨52, ratL m qs, ex, gr, true⟩) (hn : qs.length = n) (hp : AV.pureL more = true) : snapL (snapA st 8) (.ref i n 0 n :: more) = some (lI m qs :: more, [i]) := by
 have h1 := snap_frozen (st := st) (d := 7) (id := i) (n := n) (off := 0) (len := n) (T := 52) (r := ratL m qs) (by rw [hi]) (by rw [hi, ratL_length, hn]) (by rw [hi]) (by omega) (by rw [hi, List.drop_zero]; exact List.take_of_length_le (by rw [ratL_length, hn]; exact Nat.le_refl _)) (by simp)
 simp [snapL, h1, snapL_pure hp]
set_option maxHeartbeats 2000000 in
theorem i_LengthSeries {xs : List (List UInt8)} {n : Int} (hl : xs.length < 9223372036854775808) (hs : ∀ x ∈ xs, x.length < 9223372036854775808) : CallOk Tryz.prog 23 [.sl 9 (strA xs) [] false, .int .i64 n] (optTL (lenST xs n)) [] := by
  have h1 := w_gapsOf (xs := xs) hl hs
  have h2 := w_in (n := n) (a := 1) (b := 13)
  unfold lenST
  cases hq : wgtR xs with
  | none =>
    rw [hq] at h1
    show CallOk Tryz.prog _ _ (optTL none) []
    (refine callOk_of_wpc (W := fun g => g == 59 || g == 70 || g == 73) true hm' Tryz.func23 rfl (by kernel_rfl) (Nat.le_of_ble_eq_true rfl) (go_start ?_); generalize hQ : Post Tryz.prog Tryz.f23 _ _ _ _ _ = Q; simp only [stIn, matL, matA, st00])
    simp (disch := omega) only [go_sem, ↓k_cond, ↓x_idx, ↓k_block, Nat.reduceEqDiff, Nat.reduceBEq, ↓reduceIte, reduceCtorEq, h1]
    (repeat (with_reducible refine Or.inr ?_))
    rw [← hQ]
    exact postT_two (.inl rfl) rfl (by simp [upd_app] <;> omega) (by simp [upd_app] <;> omega) rfl rfl
  | some x =>
    rw [hq] at h1
    obtain ⟨hxf, _, h4, h5⟩ := serR_some (wgtR_some hq).1
    obtain ⟨x0, hx0⟩ := get_some (xs := x) (i := 0) (by omega)
    have hx0' : x[Int.toNat 0]? = some x0 := hx0
    have hxd : x.getD 0 0 = x0 := getD_of hx0
    obtain ⟨L, hL⟩ : ∃ n, x.length = n := ⟨_, rfl⟩
    by_cases c : 1 ≤ n ∧ n ≤ 13
    · obtain ⟨k, rfl⟩ : ∃ k : Nat, n = k := ⟨n.toNat, by omega⟩
      rw [decide_eq_true c] at h2
      simp only [if_pos c, Int.toNat_natCast, hxd]
      have hf1 : CW Tryz.prog 68 [lI 700 x, .int .i64 1] (rI (64 + L * 765) (facSum x 1 L)) := by have := w_factorMoment (qs := x) (n := 1) h5 (by omega); rw [hL] at this; exact this
      have hw1 : CW Tryz.prog 33 [.int .i64 1] (rI 64 1) := w_whole (n := 1) (by omega) (by omega)
      have hw0 : CW Tryz.prog 33 [.int .i64 0] (rI 64 0) := w_whole (n := 0) (by omega) (by omega)
      have hb : 64 + L * 765 ≤ 10009 := by omega
      obtain ⟨m, hm⟩ : ∃ m, 64 + L * 765 = m := ⟨_, rfl⟩
      rw [hm] at hf1 hb
      have hsg := w_sign (m := 64 + m + 1) (a := 1 - facSum x 1 L) (by omega)
      have hs0 := w_sign (m := 700) (a := x0) (by omega)
      by_cases hr : facSum x 1 x.length < 1
      · have hsp := sgn_pos (free_pos.1 hr)
        rw [hL] at hsp
        generalize (1 - facSum x 1 L).num.sign = s at hsg hsp
        by_cases z0 : x0 = 0
        · simp only [if_pos z0]
          have hz : x0.num.sign = 0 := by rw [z0]; rfl
          rw [hz] at hs0
          show CallOk Tryz.prog _ _ (optTL none) []
          (refine callOk_of_wpc (W := fun g => g == 59 || g == 70 || g == 73) true hm' Tryz.func23 rfl (by kernel_rfl) (Nat.le_of_ble_eq_true rfl) (go_start ?_); generalize hQ : Post Tryz.prog Tryz.f23 _ _ _ _ _ = Q; simp only [stIn, matL, matA, st00])
          simp (disch := omega) only [go_sem, ↓k_cond, ↓x_idx, ↓k_block, Nat.reduceEqDiff, Nat.reduceBEq, ↓reduceIte, reduceCtorEq, h1, h2, hw1, hf1, hsg, hx0', hL, hs0]
          (repeat (with_reducible refine Or.inr ?_))
          rw [← hQ]
          exact postT_two (.inl rfl) rfl (by simp [upd_app] <;> omega) (by simp [upd_app] <;> omega) rfl rfl
        · simp only [if_neg z0, if_pos hr]
          have hz : x0.num.sign ≠ 0 := sign_ne fun e => z0 (num_zero.1 e)
          generalize x0.num.sign = s0 at hs0 hz
          have hu := w_unit (n := k) (by omega) (by omega)
          have h700 : lI 64 (oneL k) = lI 700 (oneL k) := by
            have : ratL 64 (oneL k) = ratL 700 (oneL k) := List.map_congr_left fun q hq => rI_re (oneL_fits (by decide) q hq) (oneL_fits (by decide) q hq)
            rw [lI, lI, this]
          rw [h700] at hu
          have hlo := w_fitted (x := x) (t := k) hxf h5 (by omega) (by omega)
          have hz1 := w_fitted01 (t := k) (by omega) (by omega)
          have hle1 : CW Tryz.prog 71 [lI 700 (oneL k), lI 700 (zL k)] (lI 1401 (lenU k)) := w_less (x := oneL k) (y := zL k) (by rw [oneL_len]; omega) (by rw [oneL_len, zL, fitL_len]) (by rw [oneL_len]; omega)
          have hle2 : CW Tryz.prog 71 [lI 700 (fitL x k), lI 700 (zL k)] (lI 1401 (lnA x k)) := w_less (x := fitL x k) (y := zL k) (by rw [fitL_len]; omega) (by rw [fitL_len, zL, fitL_len]) (by rw [fitL_len]; omega)
          have hM : bigM = 50000 := rfl
          have hB : bigL = 700000000 := rfl
          have htm : CallOk Tryz.prog 70 [lI 1401 (lenU k), lI 700 (fitL x k)] (.own 52 (ratL bigM (lenP x k)) [] true) [] := c_times (m := 1401) (n := 700) (M := bigM) (by omega) (by omega) (by omega) (by omega) (by rw [lenU_len]; omega) (by rw [fitL_len]; omega) (by rw [lenU_len]; omega) (fun a i ha hi => fits_mono (lenC_fits hxf (by rw [lenU_len] at ha; omega)) (by omega))
          have hPl : (lenP x k).length = k := lenP_len
          obtain ⟨s1, s2⟩ := over_sizes (x := mapF k (lenF x k)) (y := lnA x k) (lenT_fits hxf h5 (by omega)) (lenA_fits hxf) (by rw [lenA_head (by omega), hxd]; exact z0) (by rw [mapF_len]; omega)
          have hov : CallOk Tryz.prog 73 [lI bigM (mapF k (lenF x k)), lI 1401 (lnA x k)] (lI bigL (lenL x k)) [] := c_overSeriesG (m := bigM) (n := 1401) (M := bigL) (by omega) (by omega) (lenT_fits hxf h5 (by omega)) (lenA_fits hxf) (by rw [mapF_len]; omega) (by rw [mapF_len, lenA_len]) (by rw [mapF_len]; omega) (by rw [lenA_head (by omega), hxd]; exact z0) s1 s2
          have hll : (lenL x k).length = k := lenL_len
          have hz0 := mulF_zero (x := lenP x k) (f := 1 - facSum x 1 L)
          rw [hPl] at hz0
          have hze := mulF_end (x := x) (n := k)
          rw [hL] at hze
          have hre : ∀ i, rI (bigM + (64 + m + 1)) ((lenP x k).getD i 0 * (1 - facSum x 1 L)) = rI bigM ((lenP x k).getD i 0 * (1 - facSum x 1 L)) := fun i => by
            have hf := lenF_fits hxf h5 (show k ≤ 13 by omega) i
            rw [lenF, hL] at hf
            exact rI_re (fits_mono hf (by omega)) (fits_mono hf (by omega))
          (refine callOk_of_wpc (W := fun g => g == 59 || g == 70 || g == 73) true hm' Tryz.func23 rfl (by kernel_rfl) (Nat.le_of_ble_eq_true rfl) (go_start ?_); generalize hQ : Post Tryz.prog Tryz.f23 _ _ _ _ _ = Q; simp only [stIn, matL, matA, st00])
          simp (disch := omega) only [go_sem, ↓k_cond, ↓x_idx, ↓k_block, Nat.reduceEqDiff, Nat.reduceBEq, ↓reduceIte, reduceCtorEq, h1, h2, hw1, hw0, hf1, hsg, hx0', hL, hs0, hu, hlo, hz1, hle1]
          (repeat (with_reducible refine Or.inr ?_))
          refine callW_O htm (by kernel_rfl) (by simp [AV.pure, AV.pureL, natA_pure, natI_pure, natS_pure]) ratL_pure rfl rfl ?_
          simp only [List.length_nil, Nat.add_zero, List.append_nil, ratL_length, hPl]
          simp (disch := omega) only [go_sem, ↓k_cond, ↓x_idx, ↓k_block, Nat.reduceEqDiff, Nat.reduceBEq, ↓reduceIte, reduceCtorEq]
          refine k_loop (fun (i : Nat) st => st.fr 8 = .ptr 0 1 0 0 ∧ st.fr 9 = lI 700 (fitL x k) ∧ st.fr 10 = lI 700 (zL k) ∧ st.fr 11 = .ref 1 k 0 k ∧ st.fr 54 = .int .i64 k ∧ st.fr 55 = .int .i64 i ∧ st.h 0 = ⟨52, [rI (64 + m + 1) (1 - facSum x 1 L)], true, false, true⟩ ∧ st.h 1 = ⟨52, ratL bigM (mapF k (mulF (lenP x k) (1 - facSum x 1 L) i)), true, true, true⟩ ∧ i ≤ k) (fun i => k - i) 0
            ⟨(by simp [upd_app] <;> omega), (by simp [upd_app] <;> omega), (by simp [upd_app] <;> omega), (by simp [upd_app] <;> omega), (by simp [upd_app] <;> omega), (by simp [upd_app] <;> omega), by simp [upd_app], by simp only [upd_app, ↓reduceIte, hz0], by omega⟩ ?_
          rintro i ⟨fr, h, nx⟩ ⟨g8, g9, g10, g11, g54, g55, hm0, hm1, hi⟩ J hJ
          simp only at g8 g9 g10 g11 g54 g55 hm0 hm1
          have hel : (ratL bigM (mapF k (mulF (lenP x k) (1 - facSum x 1 L) i))).length = k := by rw [ratL_length, mapF_len]
          by_cases hin : i < k
          · have hat : (mapF k (mulF (lenP x k) (1 - facSum x 1 L) i))[i]? = some ((lenP x k).getD i 0) := by rw [mapF_at hin, mulF, if_neg (Nat.lt_irrefl i)]
            have hri := hre i
            have hset : (ratL bigM (mapF k (mulF (lenP x k) (1 - facSum x 1 L) i))).set i (rI bigM ((lenP x k).getD i 0 * (1 - facSum x 1 L))) = ratL bigM (mapF k (mulF (lenP x k) (1 - facSum x 1 L) (i + 1))) := by rw [ratL_put, mulF_set]
            simp (disch := omega) only [go_sem, ↓k_cond, ↓x_idx, ↓k_block, Nat.reduceEqDiff, Nat.reduceBEq, ↓reduceIte, reduceCtorEq, g8, g9, g10, g11, g54, g55, hm0, hm1, hel, hat, hri, hset]
            (repeat (with_reducible refine Or.inr ?_))
            exact hJ (i + 1) _ ⟨(by simp [upd_app, g8] <;> omega), (by simp [upd_app, g9] <;> omega), (by simp [upd_app, g10] <;> omega), (by simp [upd_app, g11] <;> omega), (by simp [upd_app, g54] <;> omega), (by simp [upd_app] <;> omega), by simp [upd_app, hm0], by simp only [upd_app, ↓reduceIte, hset], hin⟩ (by first | omega | (simp only; omega))
          · obtain rfl : i = k := by omega
            rw [hze] at hm1
            simp (disch := omega) only [go_sem, ↓k_cond, ↓x_idx, ↓k_block, Nat.reduceEqDiff, Nat.reduceBEq, ↓reduceIte, reduceCtorEq, g8, g9, g10, g11, g54, g55, hm0, hm1, hel, hle2, ratL_length, mapF_len]
            (repeat (with_reducible refine Or.inr ?_))
            refine callW_F hov (by kernel_rfl) (snapIm hm1 mapF_len (by simp [AV.pure, AV.pureL, natA_pure, natI_pure, natS_pure])) (by simp [hm1]) (by simp [AV.pure, AV.pureL, natA_pure, natI_pure, natS_pure]) (by simp [AV.pure, AV.pureL, natA_pure, natI_pure, natS_pure]) rfl ?_
            simp (disch := omega) only [go_sem, ↓k_cond, ↓x_idx, ↓k_block, Nat.reduceEqDiff, Nat.reduceBEq, ↓reduceIte, reduceCtorEq]
            refine endIP (m := bigL) (qs := lenL x i) (by omega) (by omega) (by intro e; rw [e] at hll; simp at hll; omega) rfl (fun hn => ?_) (fun ts hts => ?_)
            · rw [hn] at hQ
              simp (disch := omega) only [go_sem, ↓k_cond, ↓x_idx, ↓k_block, Nat.reduceEqDiff, Nat.reduceBEq, ↓reduceIte, reduceCtorEq]
              rw [← hQ]
              exact postT_two (.inl rfl) rfl (by simp [upd_app] <;> omega) (by simp [upd_app] <;> omega) rfl rfl
            · rw [hts] at hQ
              simp (disch := omega) only [go_sem, ↓k_cond, ↓x_idx, ↓k_block, Nat.reduceEqDiff, Nat.reduceBEq, ↓reduceIte, reduceCtorEq]
              rw [← hQ]
              exact post_ownB (id := nx) (n := ts.length) (len := ts.length) (.inl rfl) rfl (by simp [upd_app] <;> omega) (by simp [upd_app] <;> omega) (by simp [upd_app]) (by simp [upd_app, strA_length]) (by simp [upd_app]) (by simp [upd_app]) (Nat.le_refl _) (by simp only [upd_app, if_true]; exact List.take_of_length_le (by rw [strA_length]; exact Nat.le_refl _)) (by simp [upd_app]) (by simp [upd_app]) (strA_pure _) rfl
      · have e0 : (if x0 = 0 then none else if facSum x 1 x.length < 1 then (lenL x k).mapM toldR else none) = none := by split <;> simp [hr]
        rw [e0]
        have hsp := sgn_npos (fun h => hr (free_pos.2 h))
        rw [hL] at hsp
        generalize (1 - facSum x 1 L).num.sign = s at hsg hsp
        (refine callOk_of_wpc (W := fun g => g == 59 || g == 70 || g == 73) true hm' Tryz.func23 rfl (by kernel_rfl) (Nat.le_of_ble_eq_true rfl) (go_start ?_); generalize hQ : Post Tryz.prog Tryz.f23 _ _ _ _ _ = Q; simp only [stIn, matL, matA, st00])
        simp (disch := omega) only [go_sem, ↓k_cond, ↓x_idx, ↓k_block, Nat.reduceEqDiff, Nat.reduceBEq, ↓reduceIte, reduceCtorEq, h1, h2, hw1, hf1, hsg, hL]
        (repeat (with_reducible refine Or.inr ?_))
        rw [← hQ]
        exact postT_two (.inl rfl) rfl (by simp [upd_app] <;> omega) (by simp [upd_app] <;> omega) rfl rfl
    · rw [decide_eq_false c] at h2
      simp only [if_neg c]
      show CallOk Tryz.prog _ _ (optTL none) []
      (refine callOk_of_wpc (W := fun g => g == 59 || g == 70 || g == 73) true hm' Tryz.func23 rfl (by kernel_rfl) (Nat.le_of_ble_eq_true rfl) (go_start ?_); generalize hQ : Post Tryz.prog Tryz.f23 _ _ _ _ _ = Q; simp only [stIn, matL, matA, st00])
      simp (disch := omega) only [go_sem, ↓k_cond, ↓x_idx, ↓k_block, Nat.reduceEqDiff, Nat.reduceBEq, ↓reduceIte, reduceCtorEq, h1, h2]
      (repeat (with_reducible refine Or.inr ?_))
      rw [← hQ]
      exact postT_two (.inl rfl) rfl (by simp [upd_app] <;> omega) (by simp [upd_app] <;> omega) rfl rfl
attribute [go_sem] w_fitted01
set_option maxHeartbeats 1000000 in
theorem law_LengthSeries (xs : List (List UInt8)) (hn_xs : xs.length < 4611686018427387904) (hs_xs : ∀ x ∈ xs, x.length < 4611686018427387904) (n : Int) : CallOk Tryz.prog 7 [.sl 9 (strA xs) [] false, .int .i64 n] (.bool true) [] := by
  have hsz_xs := cw (by kernel_rfl) (by simp [AV.pure, AV.pureL, natA_pure, natI_pure, natS_pure]) (by simp [AV.pure, AV.pureL, natA_pure, natI_pure, natS_pure]) (l_sz xs 1000000 (by omega) (by omega) hn_xs hs_xs)
  by_cases hneg_xs : szS xs 1000000 < 0
  · (refine callOk_of_wpc (W := fun g => g == 10 || g == 23 || g == 22 || g == 16) false hm' Tryz.func7 rfl (by kernel_rfl) (Nat.le_of_ble_eq_true rfl) (go_start ?_); generalize hQ : Post Tryz.prog Tryz.f7 _ _ _ _ _ = Q; simp only [stIn, matL, matA, st00])
    simp (disch := omega) only [go_sem, ↓k_cond, ↓x_idx, ↓k_block, Nat.reduceEqDiff, Nat.reduceBEq, ↓reduceIte, reduceCtorEq, hsz_xs]
    (repeat (with_reducible refine Or.inr ?_))
    rw [← hQ]
    exact post_one (.inl rfl) rfl (by simp [upd_app] <;> omega) rfl
  obtain ⟨b1_xs, b2_xs, b3_xs⟩ := szS_bd (by omega) (show 0 ≤ szS xs 1000000 by omega)
  have hl_xs : xs.length ≤ 1000000 := by omega
  have he_xs : ∀ x ∈ xs, x.length ≤ 1000000 := fun x hx => by have := b2_xs x hx; omega
  obtain ⟨z_xs, hz_xs⟩ : ∃ z, szS xs 1000000 = z := ⟨_, rfl⟩
  rw [hz_xs] at hsz_xs hneg_xs b3_xs
  have hT_xs := l_to xs false (.inl rfl) hl_xs
  obtain ⟨sp_xs, hsp_xs⟩ : ∃ sp, spareL xs.length = sp := ⟨_, rfl⟩
  have hr_xs : sp_xs.length = roomB xs.length := by rw [← hsp_xs, spareL]; simp
  have hrl_xs := room_le xs.length
  rw [hsp_xs] at hT_xs
  have hI := i_LengthSeries (xs := xs) (n := n) (by omega) (fun x hx => by have := he_xs x hx; omega)
  have hS := s_LengthSeries (xs := xs) (n := n) (by omega) (fun x hx => by have := he_xs x hx; omega)
  have hlen : ∀ ts, (lenST xs n) = some ts → ts.length ≤ 1000 := fun ts => lenST_len
  generalize (lenST xs n) = o at *
  have heqN := (l_eq [] [] (by simp) (by simp)).args (SubL.cons sub_nil (SubL.cons sub_nil .nil))
  rw [decide_eq_true rfl] at heqN
  have hheldN := (l_held (n := 0) (k := 101) (by omega) (by omega)).args (SubL.cons sub_nil (SubL.cons (Sub.refl _) .nil))
  cases o with
  | none =>
    rw [optTL] at hI hS
    (refine callOk_of_wpc (W := fun g => g == 10 || g == 23 || g == 22 || g == 16) false hm' Tryz.func7 rfl (by kernel_rfl) (Nat.le_of_ble_eq_true rfl) (go_start ?_); generalize hQ : Post Tryz.prog Tryz.f7 _ _ _ _ _ = Q; simp only [stIn, matL, matA, st00])
    simp (disch := omega) only [go_sem, ↓k_cond, ↓x_idx, ↓k_block, Nat.reduceEqDiff, Nat.reduceBEq, ↓reduceIte, reduceCtorEq, hsz_xs]
    (repeat (with_reducible refine Or.inr ?_))
    refine callW_O hT_xs cl_to (by simp [AV.pure, AV.pureL, natA_pure, natI_pure, natS_pure]) (strA_pure _) (strA_pure _) rfl ?_
    simp only [strA_length, strA_append]
    simp (disch := omega) only [go_sem, ↓k_cond, ↓x_idx, ↓k_block, Nat.reduceEqDiff, Nat.reduceBEq, ↓reduceIte, reduceCtorEq]
    refine callW_X hS (by kernel_rfl) (snap_more (sp := sp_xs) (by simp [upd_app]) rfl rfl rfl) rfl (matA_pure _ _ _ rfl) rfl ?_
    simp (disch := omega) only [go_sem, ↓k_cond, ↓x_idx, ↓k_block, Nat.reduceEqDiff, Nat.reduceBEq, ↓reduceIte, reduceCtorEq]
    refine callW_O hT_xs cl_to (by simp [AV.pure, AV.pureL, natA_pure, natI_pure, natS_pure]) (strA_pure _) (strA_pure _) rfl ?_
    simp only [strA_length, strA_append]
    simp (disch := omega) only [go_sem, ↓k_cond, ↓x_idx, ↓k_block, Nat.reduceEqDiff, Nat.reduceBEq, ↓reduceIte, reduceCtorEq]
    refine callW_X hI (by kernel_rfl) (snap_more (sp := sp_xs) (by simp [upd_app]) rfl rfl rfl) rfl (matA_pure _ _ _ rfl) rfl ?_
    simp (disch := omega) only [go_sem, ↓k_cond, ↓x_idx, ↓k_block, Nat.reduceEqDiff, Nat.reduceBEq, ↓reduceIte, reduceCtorEq]
    refine callW_P heqN (by kernel_rfl) rfl rfl ?_
    simp (disch := omega) only [go_sem, ↓k_cond, ↓x_idx, ↓k_block, Nat.reduceEqDiff, Nat.reduceBEq, ↓reduceIte, reduceCtorEq]
    refine callW_O hT_xs cl_to (by simp [AV.pure, AV.pureL, natA_pure, natI_pure, natS_pure]) (strA_pure _) (strA_pure _) rfl ?_
    simp only [strA_length, strA_append]
    simp (disch := omega) only [go_sem, ↓k_cond, ↓x_idx, ↓k_block, Nat.reduceEqDiff, Nat.reduceBEq, ↓reduceIte, reduceCtorEq]
    refine callW_I (i_intact (xs := xs) (sp := sp_xs) (by simp [upd_app]) (by simp [upd_app]) rfl (by rw [← hr_xs]) hr_xs hl_xs) (by kernel_rfl) (.inr ⟨rfl, rfl⟩) ?_
    simp (disch := omega) only [go_sem, ↓k_cond, ↓x_idx, ↓k_block, Nat.reduceEqDiff, Nat.reduceBEq, ↓reduceIte, reduceCtorEq]
    refine callW_I (i_mark (k := 101) (xs := xs) (sp := sp_xs) (ex := true) (gr := true) (by simp [upd_app]) rfl (by simp) (by omega) (by omega) (by omega)) (by kernel_rfl) (.inl rfl) ?_
    simp (disch := omega) only [go_sem, ↓k_cond, ↓x_idx, ↓k_block, Nat.reduceEqDiff, Nat.reduceBEq, ↓reduceIte, reduceCtorEq]
    refine callW_P heqN (by kernel_rfl) rfl rfl ?_
    simp (disch := omega) only [go_sem, ↓k_cond, ↓x_idx, ↓k_block, Nat.reduceEqDiff, Nat.reduceBEq, ↓reduceIte, reduceCtorEq]
    (repeat (with_reducible refine Or.inr ?_))
    refine callW_P hheldN (by kernel_rfl) rfl rfl ?_
    simp (disch := omega) only [go_sem, ↓k_cond, ↓x_idx, ↓k_block, Nat.reduceEqDiff, Nat.reduceBEq, ↓reduceIte, reduceCtorEq]
    by_cases hnil : xs = []
    · subst hnil
      refine callW_P l_toNil cl_to (by simp [AV.pure, AV.pureL, natA_pure, natI_pure, natS_pure]) rfl ?_
      simp (disch := omega) only [go_sem, ↓k_cond, ↓x_idx, ↓k_block, Nat.reduceEqDiff, Nat.reduceBEq, ↓reduceIte, reduceCtorEq]
      refine callW_X (hI.args (SubL.cons sub_nil (SubL.cons (Sub.refl _) .nil))) (by kernel_rfl) (snapL_pure rfl) rfl (matA_pure _ _ _ rfl) rfl ?_
      simp (disch := omega) only [go_sem, ↓k_cond, ↓x_idx, ↓k_block, Nat.reduceEqDiff, Nat.reduceBEq, ↓reduceIte, reduceCtorEq]
      refine callW_P heqN (by kernel_rfl) rfl rfl ?_
      simp (disch := omega) only [go_sem, ↓k_cond, ↓x_idx, ↓k_block, Nat.reduceEqDiff, Nat.reduceBEq, ↓reduceIte, reduceCtorEq]
      refine callW_P hheldN (by kernel_rfl) rfl rfl ?_
      simp (disch := omega) only [go_sem, ↓k_cond, ↓x_idx, ↓k_block, Nat.reduceEqDiff, Nat.reduceBEq, ↓reduceIte, reduceCtorEq]
      rw [← hQ]
      exact post_one (.inl rfl) rfl (by simp [upd_app] <;> omega) rfl
    · have hT2 := l_to xs true (.inr hnil) hl_xs
      rw [hsp_xs] at hT2
      refine callW_O hT2 cl_to (by simp [AV.pure, AV.pureL, natA_pure, natI_pure, natS_pure]) (strA_pure _) (strA_pure _) rfl ?_
      simp only [strA_length, strA_append]
      simp (disch := omega) only [go_sem, ↓k_cond, ↓x_idx, ↓k_block, Nat.reduceEqDiff, Nat.reduceBEq, ↓reduceIte, reduceCtorEq]
      refine callW_X hI (by kernel_rfl) (snap_more (sp := sp_xs) (by simp [upd_app]) rfl rfl rfl) rfl (matA_pure _ _ _ rfl) rfl ?_
      simp (disch := omega) only [go_sem, ↓k_cond, ↓x_idx, ↓k_block, Nat.reduceEqDiff, Nat.reduceBEq, ↓reduceIte, reduceCtorEq]
      refine callW_P heqN (by kernel_rfl) rfl rfl ?_
      simp (disch := omega) only [go_sem, ↓k_cond, ↓x_idx, ↓k_block, Nat.reduceEqDiff, Nat.reduceBEq, ↓reduceIte, reduceCtorEq]
      refine callW_P hheldN (by kernel_rfl) rfl rfl ?_
      simp (disch := omega) only [go_sem, ↓k_cond, ↓x_idx, ↓k_block, Nat.reduceEqDiff, Nat.reduceBEq, ↓reduceIte, reduceCtorEq]
      rw [← hQ]
      exact post_one (.inl rfl) rfl (by simp [upd_app] <;> omega) rfl
  | some ts =>
    have htl := hlen ts rfl
    rw [optTL] at hI hS
    have heq := l_eq ts ts (by omega) (by omega)
    rw [decide_eq_true rfl] at heq
    have hheld := l_held (n := ts.length) (k := 101) (by omega) (by omega)
    (refine callOk_of_wpc (W := fun g => g == 10 || g == 23 || g == 22 || g == 16) false hm' Tryz.func7 rfl (by kernel_rfl) (Nat.le_of_ble_eq_true rfl) (go_start ?_); generalize hQ : Post Tryz.prog Tryz.f7 _ _ _ _ _ = Q; simp only [stIn, matL, matA, st00])
    simp (disch := omega) only [go_sem, ↓k_cond, ↓x_idx, ↓k_block, Nat.reduceEqDiff, Nat.reduceBEq, ↓reduceIte, reduceCtorEq, hsz_xs]
    (repeat (with_reducible refine Or.inr ?_))
    refine callW_O hT_xs cl_to (by simp [AV.pure, AV.pureL, natA_pure, natI_pure, natS_pure]) (strA_pure _) (strA_pure _) rfl ?_
    simp only [strA_length, strA_append]
    simp (disch := omega) only [go_sem, ↓k_cond, ↓x_idx, ↓k_block, Nat.reduceEqDiff, Nat.reduceBEq, ↓reduceIte, reduceCtorEq]
    refine callW_X hS (by kernel_rfl) (snap_more (sp := sp_xs) (by simp [upd_app]) rfl rfl rfl) (optTL_solid (some ts)) (matA_ownB (strA_pure ts) rfl) rfl ?_
    simp only [strA_length, List.length_nil, Nat.add_zero, List.append_nil]
    simp (disch := omega) only [go_sem, ↓k_cond, ↓x_idx, ↓k_block, Nat.reduceEqDiff, Nat.reduceBEq, ↓reduceIte, reduceCtorEq]
    refine callW_O hT_xs cl_to (by simp [AV.pure, AV.pureL, natA_pure, natI_pure, natS_pure]) (strA_pure _) (strA_pure _) rfl ?_
    simp only [strA_length, strA_append]
    simp (disch := omega) only [go_sem, ↓k_cond, ↓x_idx, ↓k_block, Nat.reduceEqDiff, Nat.reduceBEq, ↓reduceIte, reduceCtorEq]
    refine callW_X hI (by kernel_rfl) (snap_more (sp := sp_xs) (by simp [upd_app]) rfl rfl rfl) (optTL_solid (some ts)) (matA_ownB (strA_pure ts) rfl) rfl ?_
    simp only [strA_length, List.length_nil, Nat.add_zero, List.append_nil]
    simp (disch := omega) only [go_sem, ↓k_cond, ↓x_idx, ↓k_block, Nat.reduceEqDiff, Nat.reduceBEq, ↓reduceIte, reduceCtorEq]
    refine callW_S heq (by kernel_rfl) (snapS2 (ex := false) (gr := true) (ex' := false) (gr' := true) (by simp [upd_app]) (by simp [upd_app]) rfl rfl) rfl rfl ?_
    simp (disch := omega) only [go_sem, ↓k_cond, ↓x_idx, ↓k_block, Nat.reduceEqDiff, Nat.reduceBEq, ↓reduceIte, reduceCtorEq]
    refine callW_O hT_xs cl_to (by simp [AV.pure, AV.pureL, natA_pure, natI_pure, natS_pure]) (strA_pure _) (strA_pure _) rfl ?_
    simp only [strA_length, strA_append]
    simp (disch := omega) only [go_sem, ↓k_cond, ↓x_idx, ↓k_block, Nat.reduceEqDiff, Nat.reduceBEq, ↓reduceIte, reduceCtorEq]
    refine callW_I (i_intact (xs := xs) (sp := sp_xs) (by simp [upd_app]) (by simp [upd_app]) rfl (by rw [← hr_xs]) hr_xs hl_xs) (by kernel_rfl) (.inr ⟨rfl, rfl⟩) ?_
    simp (disch := omega) only [go_sem, ↓k_cond, ↓x_idx, ↓k_block, Nat.reduceEqDiff, Nat.reduceBEq, ↓reduceIte, reduceCtorEq]
    refine callW_I (i_mark (k := 101) (xs := xs) (sp := sp_xs) (ex := true) (gr := true) (by simp [upd_app]) rfl (by simp) (by omega) (by omega) (by omega)) (by kernel_rfl) (.inl rfl) ?_
    simp (disch := omega) only [go_sem, ↓k_cond, ↓x_idx, ↓k_block, Nat.reduceEqDiff, Nat.reduceBEq, ↓reduceIte, reduceCtorEq]
    refine callW_S heq (by kernel_rfl) (snapS2 (ex := false) (gr := true) (ex' := false) (gr' := true) (by simp [upd_app]) (by simp [upd_app]) rfl rfl) rfl rfl ?_
    simp (disch := omega) only [go_sem, ↓k_cond, ↓x_idx, ↓k_block, Nat.reduceEqDiff, Nat.reduceBEq, ↓reduceIte, reduceCtorEq]
    refine callW_I (i_mark (k := 101) (xs := ts) (sp := []) (n := ts.length) (N := ts.length) (ex := false) (gr := true) (by simp [upd_app]) rfl (by simp) (by omega) (by omega) (by omega)) (by kernel_rfl) (.inl rfl) ?_
    simp (disch := omega) only [go_sem, ↓k_cond, ↓x_idx, ↓k_block, Nat.reduceEqDiff, Nat.reduceBEq, ↓reduceIte, reduceCtorEq]
    refine callW_S hheld (by kernel_rfl) (snapS1 (ex := false) (gr := true) (xs := marksL 101 ts.length) (by simp [upd_app]) (marksL_len _ _) rfl) rfl rfl ?_
    simp (disch := omega) only [go_sem, ↓k_cond, ↓x_idx, ↓k_block, Nat.reduceEqDiff, Nat.reduceBEq, ↓reduceIte, reduceCtorEq]
    by_cases hnil : xs = []
    · subst hnil
      refine callW_P l_toNil cl_to (by simp [AV.pure, AV.pureL, natA_pure, natI_pure, natS_pure]) rfl ?_
      simp (disch := omega) only [go_sem, ↓k_cond, ↓x_idx, ↓k_block, Nat.reduceEqDiff, Nat.reduceBEq, ↓reduceIte, reduceCtorEq]
      refine callW_X (hI.args (SubL.cons sub_nil (SubL.cons (Sub.refl _) .nil))) (by kernel_rfl) (snapL_pure rfl) (optTL_solid (some ts)) (matA_ownB (strA_pure ts) rfl) rfl ?_
      simp only [strA_length, List.length_nil, Nat.add_zero, List.append_nil]
      simp (disch := omega) only [go_sem, ↓k_cond, ↓x_idx, ↓k_block, Nat.reduceEqDiff, Nat.reduceBEq, ↓reduceIte, reduceCtorEq]
      refine callW_S heq (by kernel_rfl) (snapS2 (ex := false) (gr := true) (ex' := false) (gr' := true) (by simp [upd_app]) (by simp [upd_app]) rfl rfl) rfl rfl ?_
      simp (disch := omega) only [go_sem, ↓k_cond, ↓x_idx, ↓k_block, Nat.reduceEqDiff, Nat.reduceBEq, ↓reduceIte, reduceCtorEq]
      refine callW_S hheld (by kernel_rfl) (snapS1 (ex := false) (gr := true) (xs := marksL 101 ts.length) (by simp [upd_app]) (marksL_len _ _) rfl) rfl rfl ?_
      simp (disch := omega) only [go_sem, ↓k_cond, ↓x_idx, ↓k_block, Nat.reduceEqDiff, Nat.reduceBEq, ↓reduceIte, reduceCtorEq]
      rw [← hQ]
      exact post_one (.inl rfl) rfl (by simp [upd_app] <;> omega) rfl
    · have hT2 := l_to xs true (.inr hnil) hl_xs
      rw [hsp_xs] at hT2
      refine callW_O hT2 cl_to (by simp [AV.pure, AV.pureL, natA_pure, natI_pure, natS_pure]) (strA_pure _) (strA_pure _) rfl ?_
      simp only [strA_length, strA_append]
      simp (disch := omega) only [go_sem, ↓k_cond, ↓x_idx, ↓k_block, Nat.reduceEqDiff, Nat.reduceBEq, ↓reduceIte, reduceCtorEq]
      refine callW_X hI (by kernel_rfl) (snap_more (sp := sp_xs) (by simp [upd_app]) rfl rfl rfl) (optTL_solid (some ts)) (matA_ownB (strA_pure ts) rfl) rfl ?_
      simp only [strA_length, List.length_nil, Nat.add_zero, List.append_nil]
      simp (disch := omega) only [go_sem, ↓k_cond, ↓x_idx, ↓k_block, Nat.reduceEqDiff, Nat.reduceBEq, ↓reduceIte, reduceCtorEq]
      refine callW_S heq (by kernel_rfl) (snapS2 (ex := false) (gr := true) (ex' := false) (gr' := true) (by simp [upd_app]) (by simp [upd_app]) rfl rfl) rfl rfl ?_
      simp (disch := omega) only [go_sem, ↓k_cond, ↓x_idx, ↓k_block, Nat.reduceEqDiff, Nat.reduceBEq, ↓reduceIte, reduceCtorEq]
      refine callW_S hheld (by kernel_rfl) (snapS1 (ex := false) (gr := true) (xs := marksL 101 ts.length) (by simp [upd_app]) (marksL_len _ _) rfl) rfl rfl ?_
      simp (disch := omega) only [go_sem, ↓k_cond, ↓x_idx, ↓k_block, Nat.reduceEqDiff, Nat.reduceBEq, ↓reduceIte, reduceCtorEq]
      rw [← hQ]
      exact post_one (.inl rfl) rfl (by simp [upd_app] <;> omega) rfl
theorem lawOk_LengthSeries : LawOk Tryz.prog 7 [.cell (.sl 9 .str), .cell (.int .i64)] := by
 intro xs h
 obtain ⟨x_xs, _, rfl, k_xs, ⟨x_n, _, rfl, k_n, rfl⟩⟩ := h
 obtain ⟨xs, rfl, h1_xs, h2_xs⟩ := isC_strs k_xs
 obtain ⟨n, rfl, _⟩ := k_n
 exact law_LengthSeries xs h1_xs h2_xs n
end Go.Proofs.YtjilbkkappobpaaGreatDoor
