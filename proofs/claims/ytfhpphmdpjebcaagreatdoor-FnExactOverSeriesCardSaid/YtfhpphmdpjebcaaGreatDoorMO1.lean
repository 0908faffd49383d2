/- A part of the proof that stands in YtfhpphmdpjebcaaGreatDoorMO3. -/
import Derived.Test.YtfhpphmdpjebcaaGreatDoorM14

set_option linter.unusedVariables false
set_option linter.unusedSimpArgs false
set_option maxRecDepth 100000
namespace Go.Proofs.YtfhpphmdpjebcaaGreatDoor
open Go

def bigO : Nat := 20000000
theorem pow_two13 {i : Nat} (h : i ≤ 13) : 2 ^ i ≤ 8192 := Nat.le_trans (Nat.pow_le_pow_right (by decide) h) (by decide)
theorem subO_M {x y : List Rat} {k i : Nat} (hx : ∀ i, fits 700 (x.getD i 0)) (hy : ∀ i, fits 700 (y.getD i 0)) (h0 : (y.getD 0 0).num ≠ 0) (hk : k < 13) (hi : i ≤ k) : fits bigO (subO (x.getD k 0) (overO x y k) y k i) := by
  have h1 := subO_fits (hx k) hy (overO_fits hx hy h0 k) i hi
  have h2 := pow_two13 (i := i) (by omega)
  exact fits_mono h1 (by unfold bigO; omega)
theorem overO_M {x y : List Rat} {k : Nat} (hx : ∀ i, fits 700 (x.getD i 0)) (hy : ∀ i, fits 700 (y.getD i 0)) (h0 : (y.getD 0 0).num ≠ 0) (hk : k ≤ 13) : ∀ q ∈ overO x y k, fits bigO q := by
  intro q hq
  obtain ⟨i, hi, rfl⟩ := List.mem_iff_getElem.1 hq
  have hl := overO_len x y k
  have h1 := overO_fits hx hy h0 k i (by omega)
  rw [List.getD_eq_getElem?_getD, List.getElem?_eq_getElem hi] at h1
  have h2 := pow_two13 (i := i) (by omega)
  exact fits_mono h1 (by unfold bigO; omega)
theorem overO_stays {x y : List Rat} {k i : Nat} (h : i < k) : (overO x y (k + 1))[i]? = (overO x y k)[i]? := by
  rw [overO, List.getElem?_append_left (by rw [overO_len]; exact h)]
theorem subO_step {x : Rat} {o y : List Rat} {k i : Nat} {p q : Rat} (ho : o[i]? = some p) (hy : y[k - i]? = some q) : subO x o y k (i + 1) = subO x o y k i - p * q := by
  rw [subO, getD_of ho, getD_of hy]
theorem w_l08Over {x y : List Rat} (hxf : ∀ q ∈ x, fits 700 q) (hyf : ∀ q ∈ y, fits 700 q) (hl : x.length ≤ 13) (hxy : x.length = y.length) (h1 : 1 ≤ x.length) (h0 : y.getD 0 0 ≠ 0) : CW Tryz.prog 77 [lS 700 x, lS 700 y] (lS bigO (ovrL x y)) := by
  refine cw (by kernel_rfl) (by simp [AV.pure, AV.pureL, natA_pure, natI_pure, natS_pure]) (by simp [AV.pure, AV.pureL, natA_pure, natI_pure, natS_pure]) ?_
  have hx := getD_fits hxf
  have hy := getD_fits hyf
  have hn0 : (y.getD 0 0).num ≠ 0 := fun e => h0 (num_zero.1 e)
  obtain ⟨L, hL⟩ : ∃ n, x.length = n := ⟨_, rfl⟩
  rw [ovrL]
  rw [hL] at hl hxy h1 ⊢
  obtain ⟨y0, hy0⟩ := get_some (xs := y) (i := 0) (by omega)
  have hy0' : y[Int.toNat 0]? = some y0 := hy0
  have hyn : y0.num ≠ 0 := by rw [← getD_of hy0]; exact hn0
  have hB : bigO = 20000000 := rfl
  (refine callOk_of_wpc (W := fun _ => false) false hm' Tryz.func77 rfl (by kernel_rfl) (Nat.le_of_ble_eq_true rfl) (go_start ?_); generalize hQ : Post Tryz.prog Tryz.f77 _ _ _ _ _ = Q; simp only [stIn, matL, matA, st00])
  simp (disch := omega) only [go_sem, ↓k_cond, ↓x_idx, ↓k_block, Nat.reduceEqDiff, Nat.reduceBEq, ↓reduceIte, reduceCtorEq, hL]
  refine k_loop (fun (k : Nat) st => st.fr 0 = lS 700 x ∧ st.fr 1 = lS 700 y ∧ st.fr 5 = .ref 0 k 0 k ∧ st.fr 6 = .int .i64 k ∧ st.h 0 = ⟨41, ratM bigO (overO x y k), (k == 0), true, true⟩ ∧ 0 < st.nx ∧ (k ≤ L)) (fun (k : Nat) => L - k) (0)
    ⟨(by simp [upd_app, ratM, overO] <;> omega), (by simp [upd_app, ratM, overO] <;> omega), (by simp [upd_app, ratM, overO] <;> omega), (by simp [upd_app, ratM, overO] <;> omega), (by simp [upd_app, ratM, overO] <;> omega), (by simp <;> omega), by omega⟩ ?_
  rintro k ⟨fr, h, nx⟩ ⟨g0, g1, g5, g6, hm0, hnx, hk⟩ J hJ
  simp only at g0 g1 g5 g6 hm0 hnx
  have n1 : (0 = nx) = False := by simp; omega
  have n2 : (nx = 0) = False := by simp; omega
  by_cases hin : k < L
  · obtain ⟨p, hp⟩ := get_some (xs := x) (i := k) (by omega)
    have hpx : x.getD k 0 = p := getD_of hp
    have hsf := fun i hi => subO_M (i := i) hx hy hn0 (k := k) (by omega) hi
    rw [hpx] at hsf
    have hof := overO_M hx hy hn0 (k := k) (by omega)
    have hol := overO_len x y k
    have hel : (ratM bigO (overO x y k)).length = k := by rw [ratM_length, hol]
    have hz1 : (k + 1 == 0) = false := by simp
    have keyJ := hJ (k + 1)
    clear hJ
    simp (disch := omega) only [go_sem, ↓k_cond, ↓x_idx, ↓k_block, Nat.reduceEqDiff, Nat.reduceBEq, ↓reduceIte, reduceCtorEq, g0, g1, g5, g6, hL, hp]
    refine k_loop (fun (i : Nat) st => st.fr 0 = lS 700 x ∧ st.fr 1 = lS 700 y ∧ st.fr 5 = .ref 0 k 0 k ∧ st.fr 6 = .int .i64 k ∧ st.fr 7 = .ptr nx 1 0 0 ∧ st.fr 8 = .int .i64 i ∧ st.h 0 = ⟨41, ratM bigO (overO x y k), (k == 0), true, true⟩ ∧ st.h nx = ⟨41, [rS bigO (subO p (overO x y k) y k i)], true, false, true⟩ ∧ nx < st.nx ∧ i ≤ k) (fun i => k - i) 0
      ⟨(by simp [upd_app, g0] <;> omega), (by simp [upd_app, g1] <;> omega), (by simp [upd_app, g5] <;> omega), (by simp [upd_app, g6] <;> omega), (by simp [upd_app] <;> omega), (by simp [upd_app] <;> omega), by simp only [upd_app, ↓reduceIte, n1, hm0], by simp only [upd_app, ↓reduceIte]; rw [subO, ← rS_re (q := p) (by rw [← hpx]; exact hx k) (hsf 0 (by omega))], by simp, by omega⟩ ?_
    rintro i ⟨fr2, h2, nx2⟩ ⟨r0, r1, r5, r6, r7, r8, m0, mx, hx2, hi⟩ J2 hJ2
    simp only at r0 r1 r5 r6 r7 r8 m0 mx hx2
    by_cases hin2 : i < k
    · obtain ⟨o, ho⟩ := get_some (xs := overO x y k) (i := i) (by omega)
      obtain ⟨q, hq⟩ := get_some (xs := y) (i := k - i) (by omega)
      have hqk : ((k : Int) - (i : Int)).toNat = k - i := by omega
      have hst := subO_step (x := p) ho hq
      have hfi := hsf (i + 1) (by omega)
      rw [hst] at hfi
      have hpr := fits_mul (hof o (List.mem_of_getElem? ho)) (hyf q (List.mem_of_getElem? hq)) (by decide)
      have hre : rS (bigO + (bigO + 700) + 1) (subO p (overO x y k) y k i - o * q) = rS bigO (subO p (overO x y k) y k (i + 1)) := by
        rw [hst]; exact rS_re (fits_sub (hsf i (by omega)) hpr) hfi
      simp (disch := omega) only [go_sem, ↓k_cond, ↓x_idx, ↓k_block, Nat.reduceEqDiff, Nat.reduceBEq, ↓reduceIte, reduceCtorEq, r0, r1, r5, r6, r7, r8, m0, mx, hel, hol, ho, hq, hqk, hxy, hre]
      (repeat (with_reducible refine Or.inr ?_))
      exact hJ2 (i + 1) _ ⟨(by simp [upd_app, r0] <;> omega), (by simp [upd_app, r1] <;> omega), (by simp [upd_app, r5] <;> omega), (by simp [upd_app, r6] <;> omega), (by simp [upd_app, r7] <;> omega), (by simp [upd_app] <;> omega), by simp only [upd_app, ↓reduceIte, n1, m0], by simp only [upd_app, ↓reduceIte], hx2, hin2⟩ (by omega)
    · obtain rfl : i = k := by omega
      have hqf := fits_over (hsf i (by omega)) (show fits 700 y0 from hyf y0 (List.mem_of_getElem? hy0)) hyn
      have hnew : subO p (overO x y i) y i i / y0 = subO (x.getD i 0) (overO x y i) y i i / y.getD 0 0 := by rw [hpx, getD_of hy0]
      have hof1 := overO_M hx hy hn0 (k := i + 1) (by omega) (subO p (overO x y i) y i i / y0) (by rw [overO, hnew]; simp)
      have hre : rS (bigO + 700) (subO p (overO x y i) y i i / y0) = rS bigO (subO p (overO x y i) y i i / y0) := rS_re hqf hof1
      have hsn : ratM bigO (overO x y i) ++ [rS bigO (subO p (overO x y i) y i i / y0)] = ratM bigO (overO x y (i + 1)) := by rw [ratM_snoc, overO, hnew]
      have hov := w_sOver (m := bigO) (n := 700) (a := subO p (overO x y i) y i i) (b := y0) (by decide) hyn
      simp (disch := omega) only [go_sem, ↓k_cond, ↓x_idx, ↓k_block, Nat.reduceEqDiff, Nat.reduceBEq, ↓reduceIte, reduceCtorEq, r0, r1, r5, r6, r7, r8, m0, mx, hel, hy0', hxy, hov, hre, reach]
      (repeat (with_reducible refine Or.inr ?_))
      exact keyJ _ ⟨(by simp [upd_app, r0] <;> omega), (by simp [upd_app, r1] <;> omega), (by simp [upd_app] <;> omega), (by simp [upd_app] <;> omega), by simp only [upd_app, ↓reduceIte, hsn, hz1], by simp only; omega, hin⟩ (by omega)
  · obtain rfl : k = L := by omega
    simp (disch := omega) only [go_sem, ↓k_cond, ↓x_idx, ↓k_block, Nat.reduceEqDiff, Nat.reduceBEq, ↓reduceIte, reduceCtorEq, g0, g1, g5, g6, hL]
    rw [← hQ]
    exact post_frozen (id := 0) (n := k) (off := 0) (len := k) (.inl rfl) rfl (by simp [upd_app] <;> omega) (by simp [hm0]) (by simp [hm0, ratM_length, overO_len]) (by simp [hm0]) (by omega) (Nat.zero_le _) (by simp only [hm0, List.drop_zero]; exact List.take_of_length_le (by rw [ratM_length, overO_len]; exact Nat.le_refl _)) (by simp [AV.pure, AV.pureL, natA_pure, natI_pure, natS_pure])
theorem s_OverSeries {xs ys : List (List UInt8)} (hl : xs.length < 9223372036854775808) (hs : ∀ x ∈ xs, x.length ≤ 1000000) (hl2 : ys.length < 9223372036854775808) (hs2 : ∀ x ∈ ys, x.length ≤ 1000000) : CallOk Tryz.prog 35 [.sl 9 (strA xs) [] false, .sl 9 (strA ys) [] false] (optTL (ovrT xs ys)) [] := by
  have h1 := w_l08Two (xs := xs) (ys := ys) hl hs hl2 hs2
  unfold ovrT opT
  have hbad : ∀ (a b : AV), a.pure = true → b.pure = true → CW Tryz.prog 70 [.sl 9 (strA xs) [] false, .sl 9 (strA ys) [] false] (.tup [a, b, .bool false]) → CallOk Tryz.prog 35 [.sl 9 (strA xs) [] false, .sl 9 (strA ys) [] false] (optTL none) [] := by
    intro a b ha hb h1
    (refine callOk_of_wpc (W := fun g => g == 48) true hm' Tryz.func35 rfl (by kernel_rfl) (Nat.le_of_ble_eq_true rfl) (go_start ?_); generalize hQ : Post Tryz.prog Tryz.f35 _ _ _ _ _ = Q; simp only [stIn, matL, matA, st00])
    simp (disch := omega) only [go_sem, ↓k_cond, ↓x_idx, ↓k_block, Nat.reduceEqDiff, Nat.reduceBEq, ↓reduceIte, reduceCtorEq, h1]
    (repeat (with_reducible refine Or.inr ?_))
    rw [← hQ]
    exact postT_two (.inl rfl) rfl (by simp [upd_app] <;> omega) (by simp [upd_app] <;> omega) rfl rfl
  cases hx : serR xs with
  | none =>
    rw [hx] at h1
    cases hy : serR ys with
    | none => rw [hy, twoS] at h1; exact hbad _ _ rfl rfl h1
    | some y =>
      rw [hy, twoS] at h1
      have : (if y.getD 0 0 = 0 then none else (none : Option (List (List UInt8)))) = none := by split <;> rfl
      simp only [this]
      exact hbad _ _ rfl (by simp [AV.pure, AV.pureL, natA_pure, natI_pure, natS_pure]) h1
  | some x =>
    rw [hx] at h1
    cases hy : serR ys with
    | none => rw [hy, twoS] at h1; exact hbad _ _ (by simp [AV.pure, AV.pureL, natA_pure, natI_pure, natS_pure]) rfl h1
    | some y =>
      obtain ⟨hxf, _, h4, h5⟩ := serR_some hx
      obtain ⟨hyf, _, h6, h7⟩ := serR_some hy
      rw [hy, twoS] at h1
      by_cases c : x.length = y.length
      · simp only [if_pos c]
        rw [decide_eq_true c] at h1
        obtain ⟨y0, hy0⟩ := get_some (xs := y) (i := 0) (by omega)
        have hy0' : y[Int.toNat 0]? = some y0 := hy0
        have hg := getD_of hy0
        by_cases hz : y.getD 0 0 = 0
        · rw [if_pos hz]
          have hze : decide (y0 = 0) = true := by rw [← hg]; simpa using hz
          (refine callOk_of_wpc (W := fun g => g == 48) true hm' Tryz.func35 rfl (by kernel_rfl) (Nat.le_of_ble_eq_true rfl) (go_start ?_); generalize hQ : Post Tryz.prog Tryz.f35 _ _ _ _ _ = Q; simp only [stIn, matL, matA, st00])
          simp (disch := omega) only [go_sem, ↓k_cond, ↓x_idx, ↓k_block, Nat.reduceEqDiff, Nat.reduceBEq, ↓reduceIte, reduceCtorEq, h1, hy0', hze]
          (repeat (with_reducible refine Or.inr ?_))
          rw [← hQ]
          exact postT_two (.inl rfl) rfl (by simp [upd_app] <;> omega) (by simp [upd_app] <;> omega) rfl rfl
        · rw [if_neg hz]
          have hze : decide (y0 = 0) = false := by rw [← hg]; simpa using hz
          have h2 := w_l08Over (x := x) (y := y) hxf hyf (by omega) c h4 hz
          have hll : (ovrL x y).length = x.length := overO_len _ _ _
          (refine callOk_of_wpc (W := fun g => g == 48) true hm' Tryz.func35 rfl (by kernel_rfl) (Nat.le_of_ble_eq_true rfl) (go_start ?_); generalize hQ : Post Tryz.prog Tryz.f35 _ _ _ _ _ = Q; simp only [stIn, matL, matA, st00])
          simp (disch := omega) only [go_sem, ↓k_cond, ↓x_idx, ↓k_block, Nat.reduceEqDiff, Nat.reduceBEq, ↓reduceIte, reduceCtorEq, h1, h2, hy0', hze]
          (repeat (with_reducible refine Or.inr ?_))
          refine endSP (m := bigO) (qs := ovrL x y) (by decide) (by omega) (by intro e; rw [e] at hll; simp at hll; omega) rfl (fun hn => ?_) (fun ts hts => ?_)
          · rw [hn] at hQ
            simp (disch := omega) only [go_sem, ↓k_cond, ↓x_idx, ↓k_block, Nat.reduceEqDiff, Nat.reduceBEq, ↓reduceIte, reduceCtorEq]
            rw [← hQ]
            exact postT_two (.inl rfl) rfl (by simp [upd_app] <;> omega) (by simp [upd_app] <;> omega) rfl rfl
          · rw [hts] at hQ
            simp (disch := omega) only [go_sem, ↓k_cond, ↓x_idx, ↓k_block, Nat.reduceEqDiff, Nat.reduceBEq, ↓reduceIte, reduceCtorEq]
            rw [← hQ]
            exact post_ownB (id := 0) (n := ts.length) (len := ts.length) (.inl rfl) rfl (by simp [upd_app] <;> omega) (by simp [upd_app] <;> omega) (by simp [upd_app]) (by simp [upd_app, strA_length]) (by simp [upd_app]) (by simp [upd_app]) (Nat.le_refl _) (by simp only [upd_app, if_true]; exact List.take_of_length_le (by rw [strA_length]; exact Nat.le_refl _)) (by simp [upd_app]) (by simp [upd_app]) (strA_pure _) rfl
      · simp only [if_neg c]
        rw [decide_eq_false c] at h1
        have : (if y.getD 0 0 = 0 then none else (none : Option (List (List UInt8)))) = none := by split <;> rfl
        simp only [this]
        exact hbad _ _ (by simp [AV.pure, AV.pureL, natA_pure, natI_pure, natS_pure]) (by simp [AV.pure, AV.pureL, natA_pure, natI_pure, natS_pure]) h1
attribute [go_sem] w_l08Over
theorem w_overSeries {x y : List Rat} (hxf : ∀ q ∈ x, fits 700 q) (hyf : ∀ q ∈ y, fits 700 q) (hl : x.length ≤ 13) (hxy : x.length = y.length) (h1 : 1 ≤ x.length) (h0 : y.getD 0 0 ≠ 0) : CW Tryz.prog 79 [lI 700 x, lI 700 y] (lI bigO (ovrL x y)) := by
  refine cw (by kernel_rfl) (by simp [AV.pure, AV.pureL, natA_pure, natI_pure, natS_pure]) (by simp [AV.pure, AV.pureL, natA_pure, natI_pure, natS_pure]) ?_
  have hx := getD_fits hxf
  have hy := getD_fits hyf
  have hn0 : (y.getD 0 0).num ≠ 0 := fun e => h0 (num_zero.1 e)
  obtain ⟨L, hL⟩ : ∃ n, x.length = n := ⟨_, rfl⟩
  rw [ovrL]
  rw [hL] at hl hxy h1 ⊢
  obtain ⟨y0, hy0⟩ := get_some (xs := y) (i := 0) (by omega)
  have hy0' : y[Int.toNat 0]? = some y0 := hy0
  have hyn : y0.num ≠ 0 := by rw [← getD_of hy0]; exact hn0
  have hB : bigO = 20000000 := rfl
  (refine callOk_of_wpc (W := fun _ => false) false hm' Tryz.func79 rfl (by kernel_rfl) (Nat.le_of_ble_eq_true rfl) (go_start ?_); generalize hQ : Post Tryz.prog Tryz.f79 _ _ _ _ _ = Q; simp only [stIn, matL, matA, st00])
  simp (disch := omega) only [go_sem, ↓k_cond, ↓x_idx, ↓k_block, Nat.reduceEqDiff, Nat.reduceBEq, ↓reduceIte, reduceCtorEq, hL]
  refine k_loop (fun (k : Nat) st => st.fr 0 = lI 700 x ∧ st.fr 1 = lI 700 y ∧ st.fr 5 = .ref 0 k 0 k ∧ st.fr 11 = .int .i64 L ∧ st.fr 12 = .int .i64 k ∧ st.h 0 = ⟨52, ratL bigO (overO x y k), (k == 0), true, true⟩ ∧ 0 < st.nx ∧ (k ≤ L)) (fun (k : Nat) => L - k) (0)
    ⟨(by simp [upd_app, ratL, overO] <;> omega), (by simp [upd_app, ratL, overO] <;> omega), (by simp [upd_app, ratL, overO] <;> omega), (by simp [upd_app, ratL, overO] <;> omega), (by simp [upd_app, ratL, overO] <;> omega), (by simp [upd_app, ratL, overO] <;> omega), (by simp <;> omega), by omega⟩ ?_
  rintro k ⟨fr, h, nx⟩ ⟨g0, g1, g5, g11, g12, hm0, hnx, hk⟩ J hJ
  simp only at g0 g1 g5 g11 g12 hm0 hnx
  have n1 : (0 = nx) = False := by simp; omega
  have n2 : (nx = 0) = False := by simp; omega
  by_cases hin : k < L
  · obtain ⟨p, hp⟩ := get_some (xs := x) (i := k) (by omega)
    have hpx : x.getD k 0 = p := getD_of hp
    have hsf := fun i hi => subO_M (i := i) hx hy hn0 (k := k) (by omega) hi
    rw [hpx] at hsf
    have hof := overO_M hx hy hn0 (k := k) (by omega)
    have hol := overO_len x y k
    have hel : (ratL bigO (overO x y k)).length = k := by rw [ratL_length, hol]
    have hz1 : (k + 1 == 0) = false := by simp
    have keyJ := hJ (k + 1)
    clear hJ
    simp (disch := omega) only [go_sem, ↓k_cond, ↓x_idx, ↓k_block, Nat.reduceEqDiff, Nat.reduceBEq, ↓reduceIte, reduceCtorEq, g0, g1, g5, g11, g12, hL, hp]
    refine k_loop (fun (i : Nat) st => st.fr 0 = lI 700 x ∧ st.fr 1 = lI 700 y ∧ st.fr 5 = .ref 0 k 0 k ∧ st.fr 6 = .int .i64 k ∧ st.fr 7 = .ptr nx 1 0 0 ∧ st.fr 11 = .int .i64 L ∧ st.fr 12 = .int .i64 k ∧ st.fr 19 = .int .i64 k ∧ st.fr 20 = .int .i64 i ∧ st.h 0 = ⟨52, ratL bigO (overO x y k), (k == 0), true, true⟩ ∧ st.h nx = ⟨52, [rI bigO (subO p (overO x y k) y k i)], true, false, true⟩ ∧ nx < st.nx ∧ i ≤ k) (fun i => k - i) 0
      ⟨(by simp [upd_app, g0] <;> omega), (by simp [upd_app, g1] <;> omega), (by simp [upd_app, g5] <;> omega), (by simp [upd_app] <;> omega), (by simp [upd_app] <;> omega), (by simp [upd_app, g11] <;> omega), (by simp [upd_app, g12] <;> omega), (by simp [upd_app] <;> omega), (by simp [upd_app] <;> omega), by simp only [upd_app, ↓reduceIte, n1, hm0], by simp only [upd_app, ↓reduceIte]; rw [subO, ← rI_re (q := p) (by rw [← hpx]; exact hx k) (hsf 0 (by omega))], by simp, by omega⟩ ?_
    rintro i ⟨fr2, h2, nx2⟩ ⟨r0, r1, r5, r6, r7, r11, r12, r19, r20, m0, mx, hx2, hi⟩ J2 hJ2
    simp only at r0 r1 r5 r6 r7 r11 r12 r19 r20 m0 mx hx2
    by_cases hin2 : i < k
    · obtain ⟨o, ho⟩ := get_some (xs := overO x y k) (i := i) (by omega)
      obtain ⟨q, hq⟩ := get_some (xs := y) (i := k - i) (by omega)
      have hqk : ((k : Int) - (i : Int)).toNat = k - i := by omega
      have hst := subO_step (x := p) ho hq
      have hfi := hsf (i + 1) (by omega)
      rw [hst] at hfi
      have hpr := fits_mul (hof o (List.mem_of_getElem? ho)) (hyf q (List.mem_of_getElem? hq)) (by decide)
      have hre : rI (bigO + (bigO + 700) + 1) (subO p (overO x y k) y k i - o * q) = rI bigO (subO p (overO x y k) y k (i + 1)) := by
        rw [hst]; exact rI_re (fits_sub (hsf i (by omega)) hpr) hfi
      simp (disch := omega) only [go_sem, ↓k_cond, ↓x_idx, ↓k_block, Nat.reduceEqDiff, Nat.reduceBEq, ↓reduceIte, reduceCtorEq, r0, r1, r5, r6, r7, r11, r12, r19, r20, m0, mx, hel, hol, ho, hq, hqk, hxy, hre]
      (repeat (with_reducible refine Or.inr ?_))
      exact hJ2 (i + 1) _ ⟨(by simp [upd_app, r0] <;> omega), (by simp [upd_app, r1] <;> omega), (by simp [upd_app, r5] <;> omega), (by simp [upd_app, r6] <;> omega), (by simp [upd_app, r7] <;> omega), (by simp [upd_app, r11] <;> omega), (by simp [upd_app, r12] <;> omega), (by simp [upd_app, r19] <;> omega), (by simp [upd_app] <;> omega), by simp only [upd_app, ↓reduceIte, n1, m0], by simp only [upd_app, ↓reduceIte], hx2, hin2⟩ (by omega)
    · obtain rfl : i = k := by omega
      have hqf := fits_over (hsf i (by omega)) (show fits 700 y0 from hyf y0 (List.mem_of_getElem? hy0)) hyn
      have hnew : subO p (overO x y i) y i i / y0 = subO (x.getD i 0) (overO x y i) y i i / y.getD 0 0 := by rw [hpx, getD_of hy0]
      have hof1 := overO_M hx hy hn0 (k := i + 1) (by omega) (subO p (overO x y i) y i i / y0) (by rw [overO, hnew]; simp)
      have hre : rI (bigO + 700) (subO p (overO x y i) y i i / y0) = rI bigO (subO p (overO x y i) y i i / y0) := rI_re hqf hof1
      have hsn : ratL bigO (overO x y i) ++ [rI bigO (subO p (overO x y i) y i i / y0)] = ratL bigO (overO x y (i + 1)) := by rw [ratL_snoc, overO, hnew]
      have hov := w_over (m := bigO) (n := 700) (a := subO p (overO x y i) y i i) (b := y0) (by decide) hyn
      simp (disch := omega) only [go_sem, ↓k_cond, ↓x_idx, ↓k_block, Nat.reduceEqDiff, Nat.reduceBEq, ↓reduceIte, reduceCtorEq, r0, r1, r5, r6, r7, r11, r12, r19, r20, m0, mx, hel, hy0', hxy, hov, hre, reach]
      (repeat (with_reducible refine Or.inr ?_))
      exact keyJ _ ⟨(by simp [upd_app, r0] <;> omega), (by simp [upd_app, r1] <;> omega), (by simp [upd_app] <;> omega), (by simp [upd_app, r11] <;> omega), (by simp [upd_app] <;> omega), by simp only [upd_app, ↓reduceIte, hsn, hz1], by simp only; omega, hin⟩ (by omega)
  · obtain rfl : k = L := by omega
    simp (disch := omega) only [go_sem, ↓k_cond, ↓x_idx, ↓k_block, Nat.reduceEqDiff, Nat.reduceBEq, ↓reduceIte, reduceCtorEq, g0, g1, g5, g11, g12, hL]
    rw [← hQ]
    exact post_frozen (id := 0) (n := k) (off := 0) (len := k) (.inl rfl) rfl (by simp [upd_app] <;> omega) (by simp [hm0]) (by simp [hm0, ratL_length, overO_len]) (by simp [hm0]) (by omega) (Nat.zero_le _) (by simp only [hm0, List.drop_zero]; exact List.take_of_length_le (by rw [ratL_length, overO_len]; exact Nat.le_refl _)) (by simp [AV.pure, AV.pureL, natA_pure, natI_pure, natS_pure])
theorem i_OverSeries {xs ys : List (List UInt8)} (hl : xs.length < 9223372036854775808) (hs : ∀ x ∈ xs, x.length < 9223372036854775808) (hl2 : ys.length < 9223372036854775808) (hs2 : ∀ x ∈ ys, x.length < 9223372036854775808) : CallOk Tryz.prog 36 [.sl 9 (strA xs) [] false, .sl 9 (strA ys) [] false] (optTL (ovrT xs ys)) [] := by
  have h2 := w_seriesOf (xs := ys) hl2 hs2
  unfold ovrT
  cases hy : serR ys with
  | none =>
    rw [hy] at h2
    (refine callOk_of_wpc (W := fun g => g == 71) true hm' Tryz.func36 rfl (by kernel_rfl) (Nat.le_of_ble_eq_true rfl) (go_start ?_); generalize hQ : Post Tryz.prog Tryz.f36 _ _ _ _ _ = Q; simp only [stIn, matL, matA, st00])
    simp (disch := omega) only [go_sem, ↓k_cond, ↓x_idx, ↓k_block, Nat.reduceEqDiff, Nat.reduceBEq, ↓reduceIte, reduceCtorEq, h2]
    (repeat (with_reducible refine Or.inr ?_))
    rw [← hQ]
    exact postT_two (.inl rfl) rfl (by simp [upd_app] <;> omega) (by simp [upd_app] <;> omega) rfl rfl
  | some y =>
    rw [hy] at h2
    obtain ⟨hyf, _, h6, h7⟩ := serR_some hy
    obtain ⟨y0, hy0⟩ := get_some (xs := y) (i := 0) (by omega)
    have hy0' : y[Int.toNat 0]? = some y0 := hy0
    have hg := getD_of hy0
    have hsg := w_sign (m := 700) (a := y0) (by omega)
    simp only [rI] at hsg
    by_cases hz : y.getD 0 0 = 0
    · simp only [if_pos hz]
      have hy00 : y0 = 0 := by rw [← hg]; exact hz
      have hs0 : y0.num.sign = 0 := by rw [hy00]; rfl
      rw [hs0] at hsg
      (refine callOk_of_wpc (W := fun g => g == 71) true hm' Tryz.func36 rfl (by kernel_rfl) (Nat.le_of_ble_eq_true rfl) (go_start ?_); generalize hQ : Post Tryz.prog Tryz.f36 _ _ _ _ _ = Q; simp only [stIn, matL, matA, st00])
      simp (disch := omega) only [go_sem, ↓k_cond, ↓x_idx, ↓k_block, Nat.reduceEqDiff, Nat.reduceBEq, ↓reduceIte, reduceCtorEq, h2, hy0', hsg]
      (repeat (with_reducible refine Or.inr ?_))
      rw [← hQ]
      exact postT_two (.inl rfl) rfl (by simp [upd_app] <;> omega) (by simp [upd_app] <;> omega) rfl rfl
    · simp only [if_neg hz]
      have hs0 : y0.num.sign ≠ 0 := sign_ne fun e => hz (by rw [hg]; exact num_zero.1 e)
      generalize y0.num.sign = s at hsg hs0
      have hc := i_ofSeries (F := 79) (m := bigO) (f := ovrL) (xs := xs) (ys := ys) hl hs hl2 hs2 rfl (by decide) (fun _ _ => overO_len _ _ _) (fun x y' hx hy' c => by
        rw [hy] at hy'; cases hy'
        obtain ⟨hxf, _, h4, h5⟩ := serR_some hx
        exact w_overSeries hxf hyf h5 c h4 hz)
      generalize opT ovrL xs ys = o at *
      (refine callOk_of_wpc (W := fun g => g == 71) true hm' Tryz.func36 rfl (by kernel_rfl) (Nat.le_of_ble_eq_true rfl) (go_start ?_); generalize hQ : Post Tryz.prog Tryz.f36 _ _ _ _ _ = Q; simp only [stIn, matL, matA, st00])
      simp (disch := omega) only [go_sem, ↓k_cond, ↓x_idx, ↓k_block, Nat.reduceEqDiff, Nat.reduceBEq, ↓reduceIte, reduceCtorEq, h2, hy0', hsg]
      (repeat (with_reducible refine Or.inr ?_))
      refine on_ofSeries hc (by simp [AV.pure, AV.pureL, natA_pure, natI_pure, natS_pure]) rfl (fun hn => ?_) (fun ts hts => ?_)
      · subst hn
        simp (disch := omega) only [go_sem, ↓k_cond, ↓x_idx, ↓k_block, Nat.reduceEqDiff, Nat.reduceBEq, ↓reduceIte, reduceCtorEq]
        rw [← hQ]
        exact postT_two (.inl rfl) rfl (by simp [upd_app] <;> omega) (by simp [upd_app] <;> omega) rfl rfl
      · subst hts
        simp (disch := omega) only [go_sem, ↓k_cond, ↓x_idx, ↓k_block, Nat.reduceEqDiff, Nat.reduceBEq, ↓reduceIte, reduceCtorEq]
        rw [← hQ]
        exact post_ownB (id := 0) (n := ts.length) (len := ts.length) (.inl rfl) rfl (by simp [upd_app] <;> omega) (by simp [upd_app] <;> omega) (by simp [upd_app]) (by simp [upd_app, strA_length]) (by simp [upd_app]) (by simp [upd_app]) (Nat.le_refl _) (by simp only [upd_app, if_true]; exact List.take_of_length_le (by rw [strA_length]; exact Nat.le_refl _)) (by simp [upd_app]) (by simp [upd_app]) (strA_pure _) rfl
attribute [go_sem] w_overSeries
set_option maxHeartbeats 1000000 in
theorem law_OverSeries (xs : List (List UInt8)) (hn_xs : xs.length < 4611686018427387904) (hs_xs : ∀ x ∈ xs, x.length < 4611686018427387904) (ys : List (List UInt8)) (hn_ys : ys.length < 4611686018427387904) (hs_ys : ∀ x ∈ ys, x.length < 4611686018427387904) : CallOk Tryz.prog 10 [.sl 9 (strA xs) [] false, .sl 9 (strA ys) [] false] (.bool true) [] := by
  have hsz_xs := cw (by kernel_rfl) (by simp [AV.pure, AV.pureL, natA_pure, natI_pure, natS_pure]) (by simp [AV.pure, AV.pureL, natA_pure, natI_pure, natS_pure]) (l_sz xs 1000000 (by omega) (by omega) hn_xs hs_xs)
  by_cases hneg_xs : szS xs 1000000 < 0
  · (refine callOk_of_wpc (W := fun g => g == 17 || g == 36 || g == 35 || g == 21) false hm' Tryz.func10 rfl (by kernel_rfl) (Nat.le_of_ble_eq_true rfl) (go_start ?_); generalize hQ : Post Tryz.prog Tryz.f10 _ _ _ _ _ = Q; simp only [stIn, matL, matA, st00])
    simp (disch := omega) only [go_sem, ↓k_cond, ↓x_idx, ↓k_block, Nat.reduceEqDiff, Nat.reduceBEq, ↓reduceIte, reduceCtorEq, hsz_xs]
    (repeat (with_reducible refine Or.inr ?_))
    rw [← hQ]
    exact post_one (.inl rfl) rfl (by simp [upd_app] <;> omega) rfl
  obtain ⟨b1_xs, b2_xs, b3_xs⟩ := szS_bd (by omega) (show 0 ≤ szS xs 1000000 by omega)
  have hl_xs : xs.length ≤ 1000000 := by omega
  have he_xs : ∀ x ∈ xs, x.length ≤ 1000000 := fun x hx => by have := b2_xs x hx; omega
  obtain ⟨z_xs, hz_xs⟩ : ∃ z, szS xs 1000000 = z := ⟨_, rfl⟩
  rw [hz_xs] at hsz_xs hneg_xs b3_xs
  have hsz_ys := cw (by kernel_rfl) (by simp [AV.pure, AV.pureL, natA_pure, natI_pure, natS_pure]) (by simp [AV.pure, AV.pureL, natA_pure, natI_pure, natS_pure]) (l_sz ys z_xs (by omega) (by omega) hn_ys hs_ys)
  by_cases hneg_ys : szS ys z_xs < 0
  · (refine callOk_of_wpc (W := fun g => g == 17 || g == 36 || g == 35 || g == 21) false hm' Tryz.func10 rfl (by kernel_rfl) (Nat.le_of_ble_eq_true rfl) (go_start ?_); generalize hQ : Post Tryz.prog Tryz.f10 _ _ _ _ _ = Q; simp only [stIn, matL, matA, st00])
    simp (disch := omega) only [go_sem, ↓k_cond, ↓x_idx, ↓k_block, Nat.reduceEqDiff, Nat.reduceBEq, ↓reduceIte, reduceCtorEq, hsz_xs, hsz_ys]
    (repeat (with_reducible refine Or.inr ?_))
    rw [← hQ]
    exact post_one (.inl rfl) rfl (by simp [upd_app] <;> omega) rfl
  obtain ⟨b1_ys, b2_ys, b3_ys⟩ := szS_bd (by omega) (show 0 ≤ szS ys z_xs by omega)
  have hl_ys : ys.length ≤ 1000000 := by omega
  have he_ys : ∀ x ∈ ys, x.length ≤ 1000000 := fun x hx => by have := b2_ys x hx; omega
  obtain ⟨z_ys, hz_ys⟩ : ∃ z, szS ys z_xs = z := ⟨_, rfl⟩
  rw [hz_ys] at hsz_ys hneg_ys b3_ys
  have hT_xs := l_to xs false (.inl rfl) hl_xs
  obtain ⟨sp_xs, hsp_xs⟩ : ∃ sp, spareL xs.length = sp := ⟨_, rfl⟩
  have hr_xs := room_pos _ _ hsp_xs
  have hrl_xs := room_le xs.length
  rw [hsp_xs] at hT_xs
  have hT_ys := l_to ys false (.inl rfl) hl_ys
  obtain ⟨sp_ys, hsp_ys⟩ : ∃ sp, spareL ys.length = sp := ⟨_, rfl⟩
  have hr_ys := room_pos _ _ hsp_ys
  have hrl_ys := room_le ys.length
  rw [hsp_ys] at hT_ys
  have hI := i_OverSeries (xs := xs) (ys := ys) (by omega) (fun x hx => by have := he_xs x hx; omega) (by omega) (fun x hx => by have := he_ys x hx; omega)
  have hS := s_OverSeries (xs := xs) (ys := ys) (by omega) (fun x hx => by have := he_xs x hx; omega) (by omega) (fun x hx => by have := he_ys x hx; omega)
  have hlen : ∀ ts, (ovrT xs ys) = some ts → ts.length ≤ 1000 := fun ts => ovrT_len
  generalize (ovrT xs ys) = o at *
  have heqN := (l_eq [] [] (by simp) (by simp)).args (SubL.cons sub_nil (SubL.cons sub_nil .nil))
  rw [decide_eq_true rfl] at heqN
  have hheldN := (l_held (n := 0) (k := 101) (by omega) (by omega)).args (SubL.cons sub_nil (SubL.cons (Sub.refl _) .nil))
  cases o with
  | none =>
    rw [optTL] at hI hS
    (refine callOk_of_wpc (W := fun g => g == 17 || g == 36 || g == 35 || g == 21) false hm' Tryz.func10 rfl (by kernel_rfl) (Nat.le_of_ble_eq_true rfl) (go_start ?_); generalize hQ : Post Tryz.prog Tryz.f10 _ _ _ _ _ = Q; simp only [stIn, matL, matA, st00])
    simp (disch := omega) only [go_sem, ↓k_cond, ↓x_idx, ↓k_block, Nat.reduceEqDiff, Nat.reduceBEq, ↓reduceIte, reduceCtorEq, hsz_xs, hsz_ys]
    (repeat (with_reducible refine Or.inr ?_))
    refine callW_O hT_xs cl_to (by simp [AV.pure, AV.pureL, natA_pure, natI_pure, natS_pure]) (strA_pure _) (strA_pure _) rfl ?_
    simp only [strA_length, strA_append]
    simp (disch := omega) only [go_sem, ↓k_cond, ↓x_idx, ↓k_block, Nat.reduceEqDiff, Nat.reduceBEq, ↓reduceIte, reduceCtorEq]
    refine callW_O hT_ys cl_to (by simp [AV.pure, AV.pureL, natA_pure, natI_pure, natS_pure]) (strA_pure _) (strA_pure _) rfl ?_
    simp only [strA_length, strA_append]
    simp (disch := omega) only [go_sem, ↓k_cond, ↓x_idx, ↓k_block, Nat.reduceEqDiff, Nat.reduceBEq, ↓reduceIte, reduceCtorEq]
    refine callW_X hS (by kernel_rfl) (snap_two (snapP (sp := sp_xs) (by simp [upd_app]) rfl rfl) (snapP (sp := sp_ys) (by simp [upd_app]) rfl rfl)) rfl (matA_pure _ _ _ rfl) rfl ?_
    simp (disch := omega) only [go_sem, ↓k_cond, ↓x_idx, ↓k_block, Nat.reduceEqDiff, Nat.reduceBEq, ↓reduceIte, reduceCtorEq]
    refine callW_O hT_xs cl_to (by simp [AV.pure, AV.pureL, natA_pure, natI_pure, natS_pure]) (strA_pure _) (strA_pure _) rfl ?_
    simp only [strA_length, strA_append]
    simp (disch := omega) only [go_sem, ↓k_cond, ↓x_idx, ↓k_block, Nat.reduceEqDiff, Nat.reduceBEq, ↓reduceIte, reduceCtorEq]
    refine callW_O hT_ys cl_to (by simp [AV.pure, AV.pureL, natA_pure, natI_pure, natS_pure]) (strA_pure _) (strA_pure _) rfl ?_
    simp only [strA_length, strA_append]
    simp (disch := omega) only [go_sem, ↓k_cond, ↓x_idx, ↓k_block, Nat.reduceEqDiff, Nat.reduceBEq, ↓reduceIte, reduceCtorEq]
    refine callW_X hI (by kernel_rfl) (snap_two (snapP (sp := sp_xs) (by simp [upd_app]) rfl rfl) (snapP (sp := sp_ys) (by simp [upd_app]) rfl rfl)) rfl (matA_pure _ _ _ rfl) rfl ?_
    simp (disch := omega) only [go_sem, ↓k_cond, ↓x_idx, ↓k_block, Nat.reduceEqDiff, Nat.reduceBEq, ↓reduceIte, reduceCtorEq]
    refine callW_P heqN (by kernel_rfl) rfl rfl ?_
    simp (disch := omega) only [go_sem, ↓k_cond, ↓x_idx, ↓k_block, Nat.reduceEqDiff, Nat.reduceBEq, ↓reduceIte, reduceCtorEq]
    refine callW_O hT_xs cl_to (by simp [AV.pure, AV.pureL, natA_pure, natI_pure, natS_pure]) (strA_pure _) (strA_pure _) rfl ?_
    simp only [strA_length, strA_append]
    simp (disch := omega) only [go_sem, ↓k_cond, ↓x_idx, ↓k_block, Nat.reduceEqDiff, Nat.reduceBEq, ↓reduceIte, reduceCtorEq]
    refine callW_I (i_intact (xs := xs) (sp := sp_xs) (by simp [upd_app]) (by simp [upd_app]) rfl (by rw [← hr_xs]) hr_xs hl_xs) (by kernel_rfl) (.inr ⟨rfl, rfl⟩) ?_
    simp (disch := omega) only [go_sem, ↓k_cond, ↓x_idx, ↓k_block, Nat.reduceEqDiff, Nat.reduceBEq, ↓reduceIte, reduceCtorEq]
    refine callW_O hT_ys cl_to (by simp [AV.pure, AV.pureL, natA_pure, natI_pure, natS_pure]) (strA_pure _) (strA_pure _) rfl ?_
    simp only [strA_length, strA_append]
    simp (disch := omega) only [go_sem, ↓k_cond, ↓x_idx, ↓k_block, Nat.reduceEqDiff, Nat.reduceBEq, ↓reduceIte, reduceCtorEq]
    refine callW_I (i_intact (xs := ys) (sp := sp_ys) (by simp [upd_app]) (by simp [upd_app]) rfl (by rw [← hr_ys]) hr_ys hl_ys) (by kernel_rfl) (.inr ⟨rfl, rfl⟩) ?_
    simp (disch := omega) only [go_sem, ↓k_cond, ↓x_idx, ↓k_block, Nat.reduceEqDiff, Nat.reduceBEq, ↓reduceIte, reduceCtorEq]
    refine callW_I (i_mark (k := 101) (xs := xs) (sp := sp_xs) (ex := true) (gr := true) (by simp [upd_app]) rfl (by simp) (by omega) (by omega) (by omega)) (by kernel_rfl) (.inl rfl) ?_
    simp (disch := omega) only [go_sem, ↓k_cond, ↓x_idx, ↓k_block, Nat.reduceEqDiff, Nat.reduceBEq, ↓reduceIte, reduceCtorEq]
    refine callW_I (i_mark (k := (101 + xs.length)) (xs := ys) (sp := sp_ys) (ex := true) (gr := true) (by simp [upd_app]) rfl (by simp) (by omega) (by omega) (by omega)) (by kernel_rfl) (.inl rfl) ?_
    simp (disch := omega) only [go_sem, ↓k_cond, ↓x_idx, ↓k_block, Nat.reduceEqDiff, Nat.reduceBEq, ↓reduceIte, reduceCtorEq]
    refine callW_P heqN (by kernel_rfl) rfl rfl ?_
    simp (disch := omega) only [go_sem, ↓k_cond, ↓x_idx, ↓k_block, Nat.reduceEqDiff, Nat.reduceBEq, ↓reduceIte, reduceCtorEq]
    (repeat (with_reducible refine Or.inr ?_))
    refine callW_P hheldN (by kernel_rfl) rfl rfl ?_
    simp (disch := omega) only [go_sem, ↓k_cond, ↓x_idx, ↓k_block, Nat.reduceEqDiff, Nat.reduceBEq, ↓reduceIte, reduceCtorEq]
    by_cases hnil_xs : xs = []
    · subst hnil_xs
      by_cases hnil_ys : ys = []
      · subst hnil_ys
        refine callW_P l_toNil cl_to (by simp [AV.pure, AV.pureL, natA_pure, natI_pure, natS_pure]) rfl ?_
        simp (disch := omega) only [go_sem, ↓k_cond, ↓x_idx, ↓k_block, Nat.reduceEqDiff, Nat.reduceBEq, ↓reduceIte, reduceCtorEq]
        refine callW_P l_toNil cl_to (by simp [AV.pure, AV.pureL, natA_pure, natI_pure, natS_pure]) rfl ?_
        simp (disch := omega) only [go_sem, ↓k_cond, ↓x_idx, ↓k_block, Nat.reduceEqDiff, Nat.reduceBEq, ↓reduceIte, reduceCtorEq]
        refine callW_X (hI.args (SubL.cons sub_nil (SubL.cons sub_nil .nil))) (by kernel_rfl) (snap_two snapN snapN) rfl (matA_pure _ _ _ rfl) rfl ?_
        simp (disch := omega) only [go_sem, ↓k_cond, ↓x_idx, ↓k_block, Nat.reduceEqDiff, Nat.reduceBEq, ↓reduceIte, reduceCtorEq]
        refine callW_P heqN (by kernel_rfl) rfl rfl ?_
        simp (disch := omega) only [go_sem, ↓k_cond, ↓x_idx, ↓k_block, Nat.reduceEqDiff, Nat.reduceBEq, ↓reduceIte, reduceCtorEq]
        refine callW_P hheldN (by kernel_rfl) rfl rfl ?_
        simp (disch := omega) only [go_sem, ↓k_cond, ↓x_idx, ↓k_block, Nat.reduceEqDiff, Nat.reduceBEq, ↓reduceIte, reduceCtorEq]
        rw [← hQ]
        exact post_one (.inl rfl) rfl (by simp [upd_app] <;> omega) rfl
      · have hT2_ys := l_to ys true (.inr hnil_ys) hl_ys
        rw [hsp_ys] at hT2_ys
        refine callW_P l_toNil cl_to (by simp [AV.pure, AV.pureL, natA_pure, natI_pure, natS_pure]) rfl ?_
        simp (disch := omega) only [go_sem, ↓k_cond, ↓x_idx, ↓k_block, Nat.reduceEqDiff, Nat.reduceBEq, ↓reduceIte, reduceCtorEq]
        refine callW_O hT2_ys cl_to (by simp [AV.pure, AV.pureL, natA_pure, natI_pure, natS_pure]) (strA_pure _) (strA_pure _) rfl ?_
        simp only [strA_length, strA_append]
        simp (disch := omega) only [go_sem, ↓k_cond, ↓x_idx, ↓k_block, Nat.reduceEqDiff, Nat.reduceBEq, ↓reduceIte, reduceCtorEq]
        refine callW_X (hI.args (SubL.cons sub_nil (SubL.cons (Sub.refl _) .nil))) (by kernel_rfl) (snap_two snapN (snapP (sp := sp_ys) (by simp [upd_app]) rfl rfl)) rfl (matA_pure _ _ _ rfl) rfl ?_
        simp (disch := omega) only [go_sem, ↓k_cond, ↓x_idx, ↓k_block, Nat.reduceEqDiff, Nat.reduceBEq, ↓reduceIte, reduceCtorEq]
        refine callW_P heqN (by kernel_rfl) rfl rfl ?_
        simp (disch := omega) only [go_sem, ↓k_cond, ↓x_idx, ↓k_block, Nat.reduceEqDiff, Nat.reduceBEq, ↓reduceIte, reduceCtorEq]
        refine callW_P hheldN (by kernel_rfl) rfl rfl ?_
        simp (disch := omega) only [go_sem, ↓k_cond, ↓x_idx, ↓k_block, Nat.reduceEqDiff, Nat.reduceBEq, ↓reduceIte, reduceCtorEq]
        rw [← hQ]
        exact post_one (.inl rfl) rfl (by simp [upd_app] <;> omega) rfl
    · have hT2_xs := l_to xs true (.inr hnil_xs) hl_xs
      rw [hsp_xs] at hT2_xs
      by_cases hnil_ys : ys = []
      · subst hnil_ys
        refine callW_O hT2_xs cl_to (by simp [AV.pure, AV.pureL, natA_pure, natI_pure, natS_pure]) (strA_pure _) (strA_pure _) rfl ?_
        simp only [strA_length, strA_append]
        simp (disch := omega) only [go_sem, ↓k_cond, ↓x_idx, ↓k_block, Nat.reduceEqDiff, Nat.reduceBEq, ↓reduceIte, reduceCtorEq]
        refine callW_P l_toNil cl_to (by simp [AV.pure, AV.pureL, natA_pure, natI_pure, natS_pure]) rfl ?_
        simp (disch := omega) only [go_sem, ↓k_cond, ↓x_idx, ↓k_block, Nat.reduceEqDiff, Nat.reduceBEq, ↓reduceIte, reduceCtorEq]
        refine callW_X (hI.args (SubL.cons (Sub.refl _) (SubL.cons sub_nil .nil))) (by kernel_rfl) (snap_two (snapP (sp := sp_xs) (by simp [upd_app]) rfl rfl) snapN) rfl (matA_pure _ _ _ rfl) rfl ?_
        simp (disch := omega) only [go_sem, ↓k_cond, ↓x_idx, ↓k_block, Nat.reduceEqDiff, Nat.reduceBEq, ↓reduceIte, reduceCtorEq]
        refine callW_P heqN (by kernel_rfl) rfl rfl ?_
        simp (disch := omega) only [go_sem, ↓k_cond, ↓x_idx, ↓k_block, Nat.reduceEqDiff, Nat.reduceBEq, ↓reduceIte, reduceCtorEq]
        refine callW_P hheldN (by kernel_rfl) rfl rfl ?_
        simp (disch := omega) only [go_sem, ↓k_cond, ↓x_idx, ↓k_block, Nat.reduceEqDiff, Nat.reduceBEq, ↓reduceIte, reduceCtorEq]
        rw [← hQ]
        exact post_one (.inl rfl) rfl (by simp [upd_app] <;> omega) rfl
      · have hT2_ys := l_to ys true (.inr hnil_ys) hl_ys
        rw [hsp_ys] at hT2_ys
        refine callW_O hT2_xs cl_to (by simp [AV.pure, AV.pureL, natA_pure, natI_pure, natS_pure]) (strA_pure _) (strA_pure _) rfl ?_
        simp only [strA_length, strA_append]
        simp (disch := omega) only [go_sem, ↓k_cond, ↓x_idx, ↓k_block, Nat.reduceEqDiff, Nat.reduceBEq, ↓reduceIte, reduceCtorEq]
        refine callW_O hT2_ys cl_to (by simp [AV.pure, AV.pureL, natA_pure, natI_pure, natS_pure]) (strA_pure _) (strA_pure _) rfl ?_
        simp only [strA_length, strA_append]
        simp (disch := omega) only [go_sem, ↓k_cond, ↓x_idx, ↓k_block, Nat.reduceEqDiff, Nat.reduceBEq, ↓reduceIte, reduceCtorEq]
        refine callW_X hI (by kernel_rfl) (snap_two (snapP (sp := sp_xs) (by simp [upd_app]) rfl rfl) (snapP (sp := sp_ys) (by simp [upd_app]) rfl rfl)) rfl (matA_pure _ _ _ rfl) rfl ?_
        simp (disch := omega) only [go_sem, ↓k_cond, ↓x_idx, ↓k_block, Nat.reduceEqDiff, Nat.reduceBEq, ↓reduceIte, reduceCtorEq]
        refine callW_P heqN (by kernel_rfl) rfl rfl ?_
        simp (disch := omega) only [go_sem, ↓k_cond, ↓x_idx, ↓k_block, Nat.reduceEqDiff, Nat.reduceBEq, ↓reduceIte, reduceCtorEq]
        refine callW_P hheldN (by kernel_rfl) rfl rfl ?_
        simp (disch := omega) only [go_sem, ↓k_cond, ↓x_idx, ↓k_block, Nat.reduceEqDiff, Nat.reduceBEq, ↓reduceIte, reduceCtorEq]
        rw [← hQ]
        exact post_one (.inl rfl) rfl (by simp [upd_app] <;> omega) rfl
  | some ts =>
    have htl := hlen ts rfl
    rw [optTL] at hI hS
    have heq := l_eq ts ts (by omega) (by omega)
    rw [decide_eq_true rfl] at heq
    have hheld := l_held (n := ts.length) (k := 101) (by omega) (by omega)
    (refine callOk_of_wpc (W := fun g => g == 17 || g == 36 || g == 35 || g == 21) false hm' Tryz.func10 rfl (by kernel_rfl) (Nat.le_of_ble_eq_true rfl) (go_start ?_); generalize hQ : Post Tryz.prog Tryz.f10 _ _ _ _ _ = Q; simp only [stIn, matL, matA, st00])
    simp (disch := omega) only [go_sem, ↓k_cond, ↓x_idx, ↓k_block, Nat.reduceEqDiff, Nat.reduceBEq, ↓reduceIte, reduceCtorEq, hsz_xs, hsz_ys]
    (repeat (with_reducible refine Or.inr ?_))
    refine callW_O hT_xs cl_to (by simp [AV.pure, AV.pureL, natA_pure, natI_pure, natS_pure]) (strA_pure _) (strA_pure _) rfl ?_
    simp only [strA_length, strA_append]
    simp (disch := omega) only [go_sem, ↓k_cond, ↓x_idx, ↓k_block, Nat.reduceEqDiff, Nat.reduceBEq, ↓reduceIte, reduceCtorEq]
    refine callW_O hT_ys cl_to (by simp [AV.pure, AV.pureL, natA_pure, natI_pure, natS_pure]) (strA_pure _) (strA_pure _) rfl ?_
    simp only [strA_length, strA_append]
    simp (disch := omega) only [go_sem, ↓k_cond, ↓x_idx, ↓k_block, Nat.reduceEqDiff, Nat.reduceBEq, ↓reduceIte, reduceCtorEq]
    refine callW_X hS (by kernel_rfl) (snap_two (snapP (sp := sp_xs) (by simp [upd_app]) rfl rfl) (snapP (sp := sp_ys) (by simp [upd_app]) rfl rfl)) (optTL_solid (some ts)) (matA_ownB (strA_pure ts) rfl) rfl ?_
    simp only [strA_length, List.length_nil, Nat.add_zero, List.append_nil]
    simp (disch := omega) only [go_sem, ↓k_cond, ↓x_idx, ↓k_block, Nat.reduceEqDiff, Nat.reduceBEq, ↓reduceIte, reduceCtorEq]
    refine callW_O hT_xs cl_to (by simp [AV.pure, AV.pureL, natA_pure, natI_pure, natS_pure]) (strA_pure _) (strA_pure _) rfl ?_
    simp only [strA_length, strA_append]
    simp (disch := omega) only [go_sem, ↓k_cond, ↓x_idx, ↓k_block, Nat.reduceEqDiff, Nat.reduceBEq, ↓reduceIte, reduceCtorEq]
    refine callW_O hT_ys cl_to (by simp [AV.pure, AV.pureL, natA_pure, natI_pure, natS_pure]) (strA_pure _) (strA_pure _) rfl ?_
    simp only [strA_length, strA_append]
    simp (disch := omega) only [go_sem, ↓k_cond, ↓x_idx, ↓k_block, Nat.reduceEqDiff, Nat.reduceBEq, ↓reduceIte, reduceCtorEq]
    refine callW_X hI (by kernel_rfl) (snap_two (snapP (sp := sp_xs) (by simp [upd_app]) rfl rfl) (snapP (sp := sp_ys) (by simp [upd_app]) rfl rfl)) (optTL_solid (some ts)) (matA_ownB (strA_pure ts) rfl) rfl ?_
    simp only [strA_length, List.length_nil, Nat.add_zero, List.append_nil]
    simp (disch := omega) only [go_sem, ↓k_cond, ↓x_idx, ↓k_block, Nat.reduceEqDiff, Nat.reduceBEq, ↓reduceIte, reduceCtorEq]
    refine callW_S heq (by kernel_rfl) (snapS2 (ex := false) (gr := true) (ex' := false) (gr' := true) (by simp [upd_app]) (by simp [upd_app]) rfl rfl) rfl rfl ?_
    simp (disch := omega) only [go_sem, ↓k_cond, ↓x_idx, ↓k_block, Nat.reduceEqDiff, Nat.reduceBEq, ↓reduceIte, reduceCtorEq]
    refine callW_O hT_xs cl_to (by simp [AV.pure, AV.pureL, natA_pure, natI_pure, natS_pure]) (strA_pure _) (strA_pure _) rfl ?_
    simp only [strA_length, strA_append]
    simp (disch := omega) only [go_sem, ↓k_cond, ↓x_idx, ↓k_block, Nat.reduceEqDiff, Nat.reduceBEq, ↓reduceIte, reduceCtorEq]
    refine callW_I (i_intact (xs := xs) (sp := sp_xs) (by simp [upd_app]) (by simp [upd_app]) rfl (by rw [← hr_xs]) hr_xs hl_xs) (by kernel_rfl) (.inr ⟨rfl, rfl⟩) ?_
    simp (disch := omega) only [go_sem, ↓k_cond, ↓x_idx, ↓k_block, Nat.reduceEqDiff, Nat.reduceBEq, ↓reduceIte, reduceCtorEq]
    refine callW_O hT_ys cl_to (by simp [AV.pure, AV.pureL, natA_pure, natI_pure, natS_pure]) (strA_pure _) (strA_pure _) rfl ?_
    simp only [strA_length, strA_append]
    simp (disch := omega) only [go_sem, ↓k_cond, ↓x_idx, ↓k_block, Nat.reduceEqDiff, Nat.reduceBEq, ↓reduceIte, reduceCtorEq]
    refine callW_I (i_intact (xs := ys) (sp := sp_ys) (by simp [upd_app]) (by simp [upd_app]) rfl (by rw [← hr_ys]) hr_ys hl_ys) (by kernel_rfl) (.inr ⟨rfl, rfl⟩) ?_
    simp (disch := omega) only [go_sem, ↓k_cond, ↓x_idx, ↓k_block, Nat.reduceEqDiff, Nat.reduceBEq, ↓reduceIte, reduceCtorEq]
    refine callW_I (i_mark (k := 101) (xs := xs) (sp := sp_xs) (ex := true) (gr := true) (by simp [upd_app]) rfl (by simp) (by omega) (by omega) (by omega)) (by kernel_rfl) (.inl rfl) ?_
    simp (disch := omega) only [go_sem, ↓k_cond, ↓x_idx, ↓k_block, Nat.reduceEqDiff, Nat.reduceBEq, ↓reduceIte, reduceCtorEq]
    refine callW_I (i_mark (k := (101 + xs.length)) (xs := ys) (sp := sp_ys) (ex := true) (gr := true) (by simp [upd_app]) rfl (by simp) (by omega) (by omega) (by omega)) (by kernel_rfl) (.inl rfl) ?_
    simp (disch := omega) only [go_sem, ↓k_cond, ↓x_idx, ↓k_block, Nat.reduceEqDiff, Nat.reduceBEq, ↓reduceIte, reduceCtorEq]
    refine callW_S heq (by kernel_rfl) (snapS2 (ex := false) (gr := true) (ex' := false) (gr' := true) (by simp [upd_app]) (by simp [upd_app]) rfl rfl) rfl rfl ?_
    simp (disch := omega) only [go_sem, ↓k_cond, ↓x_idx, ↓k_block, Nat.reduceEqDiff, Nat.reduceBEq, ↓reduceIte, reduceCtorEq]
    refine callW_I (i_mark (k := 101) (xs := ts) (sp := []) (n := ts.length) (N := ts.length) (ex := false) (gr := true) (by simp [upd_app]) rfl (by simp) (by omega) (by omega) (by omega)) (by kernel_rfl) (.inl rfl) ?_
    simp (disch := omega) only [go_sem, ↓k_cond, ↓x_idx, ↓k_block, Nat.reduceEqDiff, Nat.reduceBEq, ↓reduceIte, reduceCtorEq]
    refine callW_S hheld (by kernel_rfl) (snapS1 (ex := false) (gr := true) (xs := marksL 101 ts.length) (by simp [upd_app]) (marksL_len _ _) rfl) rfl rfl ?_
    simp (disch := omega) only [go_sem, ↓k_cond, ↓x_idx, ↓k_block, Nat.reduceEqDiff, Nat.reduceBEq, ↓reduceIte, reduceCtorEq]
    by_cases hnil_xs : xs = []
    · subst hnil_xs
      by_cases hnil_ys : ys = []
      · subst hnil_ys
        refine callW_P l_toNil cl_to (by simp [AV.pure, AV.pureL, natA_pure, natI_pure, natS_pure]) rfl ?_
        simp (disch := omega) only [go_sem, ↓k_cond, ↓x_idx, ↓k_block, Nat.reduceEqDiff, Nat.reduceBEq, ↓reduceIte, reduceCtorEq]
        refine callW_P l_toNil cl_to (by simp [AV.pure, AV.pureL, natA_pure, natI_pure, natS_pure]) rfl ?_
        simp (disch := omega) only [go_sem, ↓k_cond, ↓x_idx, ↓k_block, Nat.reduceEqDiff, Nat.reduceBEq, ↓reduceIte, reduceCtorEq]
        refine callW_X (hI.args (SubL.cons sub_nil (SubL.cons sub_nil .nil))) (by kernel_rfl) (snap_two snapN snapN) (optTL_solid (some ts)) (matA_ownB (strA_pure ts) rfl) rfl ?_
        simp only [strA_length, List.length_nil, Nat.add_zero, List.append_nil]
        simp (disch := omega) only [go_sem, ↓k_cond, ↓x_idx, ↓k_block, Nat.reduceEqDiff, Nat.reduceBEq, ↓reduceIte, reduceCtorEq]
        refine callW_S heq (by kernel_rfl) (snapS2 (ex := false) (gr := true) (ex' := false) (gr' := true) (by simp [upd_app]) (by simp [upd_app]) rfl rfl) rfl rfl ?_
        simp (disch := omega) only [go_sem, ↓k_cond, ↓x_idx, ↓k_block, Nat.reduceEqDiff, Nat.reduceBEq, ↓reduceIte, reduceCtorEq]
        refine callW_S hheld (by kernel_rfl) (snapS1 (ex := false) (gr := true) (xs := marksL 101 ts.length) (by simp [upd_app]) (marksL_len _ _) rfl) rfl rfl ?_
        simp (disch := omega) only [go_sem, ↓k_cond, ↓x_idx, ↓k_block, Nat.reduceEqDiff, Nat.reduceBEq, ↓reduceIte, reduceCtorEq]
        rw [← hQ]
        exact post_one (.inl rfl) rfl (by simp [upd_app] <;> omega) rfl
      · have hT2_ys := l_to ys true (.inr hnil_ys) hl_ys
        rw [hsp_ys] at hT2_ys
        refine callW_P l_toNil cl_to (by simp [AV.pure, AV.pureL, natA_pure, natI_pure, natS_pure]) rfl ?_
        simp (disch := omega) only [go_sem, ↓k_cond, ↓x_idx, ↓k_block, Nat.reduceEqDiff, Nat.reduceBEq, ↓reduceIte, reduceCtorEq]
        refine callW_O hT2_ys cl_to (by simp [AV.pure, AV.pureL, natA_pure, natI_pure, natS_pure]) (strA_pure _) (strA_pure _) rfl ?_
        simp only [strA_length, strA_append]
        simp (disch := omega) only [go_sem, ↓k_cond, ↓x_idx, ↓k_block, Nat.reduceEqDiff, Nat.reduceBEq, ↓reduceIte, reduceCtorEq]
        refine callW_X (hI.args (SubL.cons sub_nil (SubL.cons (Sub.refl _) .nil))) (by kernel_rfl) (snap_two snapN (snapP (sp := sp_ys) (by simp [upd_app]) rfl rfl)) (optTL_solid (some ts)) (matA_ownB (strA_pure ts) rfl) rfl ?_
        simp only [strA_length, List.length_nil, Nat.add_zero, List.append_nil]
        simp (disch := omega) only [go_sem, ↓k_cond, ↓x_idx, ↓k_block, Nat.reduceEqDiff, Nat.reduceBEq, ↓reduceIte, reduceCtorEq]
        refine callW_S heq (by kernel_rfl) (snapS2 (ex := false) (gr := true) (ex' := false) (gr' := true) (by simp [upd_app]) (by simp [upd_app]) rfl rfl) rfl rfl ?_
        simp (disch := omega) only [go_sem, ↓k_cond, ↓x_idx, ↓k_block, Nat.reduceEqDiff, Nat.reduceBEq, ↓reduceIte, reduceCtorEq]
        refine callW_S hheld (by kernel_rfl) (snapS1 (ex := false) (gr := true) (xs := marksL 101 ts.length) (by simp [upd_app]) (marksL_len _ _) rfl) rfl rfl ?_
        simp (disch := omega) only [go_sem, ↓k_cond, ↓x_idx, ↓k_block, Nat.reduceEqDiff, Nat.reduceBEq, ↓reduceIte, reduceCtorEq]
        rw [← hQ]
        exact post_one (.inl rfl) rfl (by simp [upd_app] <;> omega) rfl
    · have hT2_xs := l_to xs true (.inr hnil_xs) hl_xs
      rw [hsp_xs] at hT2_xs
      by_cases hnil_ys : ys = []
      · subst hnil_ys
        refine callW_O hT2_xs cl_to (by simp [AV.pure, AV.pureL, natA_pure, natI_pure, natS_pure]) (strA_pure _) (strA_pure _) rfl ?_
        simp only [strA_length, strA_append]
        simp (disch := omega) only [go_sem, ↓k_cond, ↓x_idx, ↓k_block, Nat.reduceEqDiff, Nat.reduceBEq, ↓reduceIte, reduceCtorEq]
        refine callW_P l_toNil cl_to (by simp [AV.pure, AV.pureL, natA_pure, natI_pure, natS_pure]) rfl ?_
        simp (disch := omega) only [go_sem, ↓k_cond, ↓x_idx, ↓k_block, Nat.reduceEqDiff, Nat.reduceBEq, ↓reduceIte, reduceCtorEq]
        refine callW_X (hI.args (SubL.cons (Sub.refl _) (SubL.cons sub_nil .nil))) (by kernel_rfl) (snap_two (snapP (sp := sp_xs) (by simp [upd_app]) rfl rfl) snapN) (optTL_solid (some ts)) (matA_ownB (strA_pure ts) rfl) rfl ?_
        simp only [strA_length, List.length_nil, Nat.add_zero, List.append_nil]
        simp (disch := omega) only [go_sem, ↓k_cond, ↓x_idx, ↓k_block, Nat.reduceEqDiff, Nat.reduceBEq, ↓reduceIte, reduceCtorEq]
        refine callW_S heq (by kernel_rfl) (snapS2 (ex := false) (gr := true) (ex' := false) (gr' := true) (by simp [upd_app]) (by simp [upd_app]) rfl rfl) rfl rfl ?_
        simp (disch := omega) only [go_sem, ↓k_cond, ↓x_idx, ↓k_block, Nat.reduceEqDiff, Nat.reduceBEq, ↓reduceIte, reduceCtorEq]
        refine callW_S hheld (by kernel_rfl) (snapS1 (ex := false) (gr := true) (xs := marksL 101 ts.length) (by simp [upd_app]) (marksL_len _ _) rfl) rfl rfl ?_
        simp (disch := omega) only [go_sem, ↓k_cond, ↓x_idx, ↓k_block, Nat.reduceEqDiff, Nat.reduceBEq, ↓reduceIte, reduceCtorEq]
        rw [← hQ]
        exact post_one (.inl rfl) rfl (by simp [upd_app] <;> omega) rfl
      · have hT2_ys := l_to ys true (.inr hnil_ys) hl_ys
        rw [hsp_ys] at hT2_ys
        refine callW_O hT2_xs cl_to (by simp [AV.pure, AV.pureL, natA_pure, natI_pure, natS_pure]) (strA_pure _) (strA_pure _) rfl ?_
        simp only [strA_length, strA_append]
        simp (disch := omega) only [go_sem, ↓k_cond, ↓x_idx, ↓k_block, Nat.reduceEqDiff, Nat.reduceBEq, ↓reduceIte, reduceCtorEq]
        refine callW_O hT2_ys cl_to (by simp [AV.pure, AV.pureL, natA_pure, natI_pure, natS_pure]) (strA_pure _) (strA_pure _) rfl ?_
        simp only [strA_length, strA_append]
        simp (disch := omega) only [go_sem, ↓k_cond, ↓x_idx, ↓k_block, Nat.reduceEqDiff, Nat.reduceBEq, ↓reduceIte, reduceCtorEq]
        refine callW_X hI (by kernel_rfl) (snap_two (snapP (sp := sp_xs) (by simp [upd_app]) rfl rfl) (snapP (sp := sp_ys) (by simp [upd_app]) rfl rfl)) (optTL_solid (some ts)) (matA_ownB (strA_pure ts) rfl) rfl ?_
        simp only [strA_length, List.length_nil, Nat.add_zero, List.append_nil]
        simp (disch := omega) only [go_sem, ↓k_cond, ↓x_idx, ↓k_block, Nat.reduceEqDiff, Nat.reduceBEq, ↓reduceIte, reduceCtorEq]
        refine callW_S heq (by kernel_rfl) (snapS2 (ex := false) (gr := true) (ex' := false) (gr' := true) (by simp [upd_app]) (by simp [upd_app]) rfl rfl) rfl rfl ?_
        simp (disch := omega) only [go_sem, ↓k_cond, ↓x_idx, ↓k_block, Nat.reduceEqDiff, Nat.reduceBEq, ↓reduceIte, reduceCtorEq]
        refine callW_S hheld (by kernel_rfl) (snapS1 (ex := false) (gr := true) (xs := marksL 101 ts.length) (by simp [upd_app]) (marksL_len _ _) rfl) rfl rfl ?_
        simp (disch := omega) only [go_sem, ↓k_cond, ↓x_idx, ↓k_block, Nat.reduceEqDiff, Nat.reduceBEq, ↓reduceIte, reduceCtorEq]
        rw [← hQ]
        exact post_one (.inl rfl) rfl (by simp [upd_app] <;> omega) rfl
theorem lawOk_OverSeries : LawOk Tryz.prog 10 [.cell (.sl 9 .str), .cell (.sl 9 .str)] := by
  intro xs h
  obtain ⟨x_xs, _, rfl, k_xs, ⟨x_ys, _, rfl, k_ys, rfl⟩⟩ := h
  obtain ⟨xs, rfl, h1_xs, h2_xs⟩ := isC_strs k_xs
  obtain ⟨ys, rfl, h1_ys, h2_ys⟩ := isC_strs k_ys
  exact law_OverSeries xs h1_xs h2_xs ys h1_ys h2_ys
end Go.Proofs.YtfhpphmdpjebcaaGreatDoor
