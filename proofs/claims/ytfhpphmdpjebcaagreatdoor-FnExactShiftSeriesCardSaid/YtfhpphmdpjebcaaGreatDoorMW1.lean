/- A part of the proof that stands in YtfhpphmdpjebcaaGreatDoorMW3. -/
import Derived.Test.YtfhpphmdpjebcaaGreatDoorM14

set_option linter.unusedVariables false
set_option linter.unusedSimpArgs false
set_option maxRecDepth 100000
namespace Go.Proofs.YtfhpphmdpjebcaaGreatDoor
open Go

def shfF (x : List Rat) (d k : Nat) : Rat := if k < d then 0 else x.getD (k - d) 0
def shfL (x : List Rat) (d : Nat) : List Rat := mapF x.length (shfF x d)
theorem shfL_len {x : List Rat} {d : Nat} : (shfL x d).length = x.length := mapF_len
def shfT (xs : List (List UInt8)) (n : Int) : Option (List (List UInt8)) :=
  match serR xs with
  | some x => if 0 ≤ n ∧ n ≤ 13 then (shfL x n.toNat).mapM toldR else none
  | none => none
theorem shfT_len {xs : List (List UInt8)} {n : Int} {ts : List (List UInt8)} (h : shfT xs n = some ts) : ts.length ≤ 1000 := by
  unfold shfT at h
  cases hx : serR xs with
  | none => rw [hx] at h; cases h
  | some x =>
    rw [hx] at h
    simp only at h
    split at h
    · obtain ⟨_, _, _, h4⟩ := serR_some hx
      have := toldL_len h
      rw [shfL_len] at this; omega
    · cases h
theorem shf_take {x : List Rat} {d : Nat} : (List.replicate d 0 ++ x).take x.length = shfL x d := by
  apply List.ext_getElem
  · simp [shfL, mapF]
  · intro i h1 h2
    simp only [shfL, mapF, List.getElem_take, List.getElem_map, List.getElem_range, shfF, List.getElem_append, List.length_replicate, List.getElem_replicate]
    have hi : i < x.length := by simpa [shfL, mapF] using h2
    split
    · rfl
    · rw [List.getD_eq_getElem?_getD, List.getElem?_eq_getElem (by omega)]; rfl
theorem fits_zero700 : fits 700 (0 : Rat) := fits_mono (fits_int (n := 0) (k := 64) (by decide) (by decide)) (by decide)
theorem w_l08Shift {x : List Rat} {d : Nat} (hx : ∀ q ∈ x, fits 700 q) (hl : x.length ≤ 1000) (h1 : 1 ≤ x.length) (hd : d ≤ 1000) : CW Tryz.prog 56 [lS 700 x, .int .i64 d] (lS 700 (shfL x d)) := by
  refine cw (by kernel_rfl) (by simp [AV.pure, AV.pureL, natA_pure, natI_pure, natS_pure]) (by simp [AV.pure, AV.pureL, natA_pure, natI_pure, natS_pure]) ?_
  obtain ⟨L, hL⟩ : ∃ n, x.length = n := ⟨_, rfl⟩
  rw [shfL]
  rw [hL] at hl h1 ⊢
  have h0 : rS 64 0 = rS 700 0 := rS_re (fits_int (n := 0) (by decide) (by decide)) fits_zero700
  (refine callOk_of_wpc (W := fun _ => false) false hm' Tryz.func56 rfl (by kernel_rfl) (Nat.le_of_ble_eq_true rfl) (go_start ?_); generalize hQ : Post Tryz.prog Tryz.f56 _ _ _ _ _ = Q; simp only [stIn, matL, matA, st00])
  simp (disch := omega) only [go_sem, ↓k_cond, ↓x_idx, ↓k_block, Nat.reduceEqDiff, Nat.reduceBEq, ↓reduceIte, reduceCtorEq, hL]
  refine k_loop (fun (k : Nat) st => st.fr 0 = lS 700 x ∧ st.fr 1 = .int .i64 d ∧ st.fr 5 = .ref 0 k 0 k ∧ st.fr 6 = .int .i64 k ∧ st.h 0 = ⟨41, ratM 700 (mapF k (shfF x d)), (k == 0), true, true⟩ ∧ 0 < st.nx ∧ (k ≤ L)) (fun (k : Nat) => L - k) (0)
    ⟨(by simp [upd_app, ratM, mapF] <;> omega), (by simp [upd_app, ratM, mapF] <;> omega), (by simp [upd_app, ratM, mapF] <;> omega), (by simp [upd_app, ratM, mapF] <;> omega), (by simp [upd_app, ratM, mapF] <;> omega), (by simp <;> omega), by omega⟩ ?_
  rintro k ⟨fr, h, nx⟩ ⟨g0, g1, g5, g6, hm0, hnx, hk⟩ J hJ
  simp only at g0 g1 g5 g6 hm0 hnx
  by_cases hin : k < L
  · have hel : (ratM 700 (mapF k (shfF x d))).length = k := by rw [ratM_length, mapF_len]
    have hz1 : (k + 1 == 0) = false := by simp
    by_cases hkd : k < d
    · have hsn : ratM 700 (mapF k (shfF x d)) ++ [rS 64 0] = ratM 700 (mapF (k + 1) (shfF x d)) := by rw [h0, mapF_succ, ratM_snoc, shfF, if_pos hkd]
      simp (disch := omega) only [go_sem, ↓k_cond, ↓x_idx, ↓k_block, Nat.reduceEqDiff, Nat.reduceBEq, ↓reduceIte, reduceCtorEq, g0, g1, g5, g6, hL, hm0, hel, reach]
      (repeat (with_reducible refine Or.inr ?_))
      exact hJ (k + 1) _ ⟨(by simp [upd_app, g0] <;> omega), (by simp [upd_app, g1] <;> omega), (by simp [upd_app] <;> omega), (by simp [upd_app] <;> omega), by simp only [upd_app, ↓reduceIte, Nat.reduceEqDiff, hsn, hz1], by simp only; omega, by omega⟩ (by first | omega | (simp only; omega))
    · obtain ⟨q, hq⟩ := get_some (xs := x) (i := k - d) (by omega)
      have hqk : ((k : Int) - (d : Int)).toNat = k - d := by omega
      have hsn : ratM 700 (mapF k (shfF x d)) ++ [rS 700 q] = ratM 700 (mapF (k + 1) (shfF x d)) := by rw [mapF_succ, ratM_snoc, shfF, if_neg hkd, getD_of hq]
      simp (disch := omega) only [go_sem, ↓k_cond, ↓x_idx, ↓k_block, Nat.reduceEqDiff, Nat.reduceBEq, ↓reduceIte, reduceCtorEq, g0, g1, g5, g6, hL, hm0, hel, hq, hqk, reach]
      (repeat (with_reducible refine Or.inr ?_))
      exact hJ (k + 1) _ ⟨(by simp [upd_app, g0] <;> omega), (by simp [upd_app, g1] <;> omega), (by simp [upd_app] <;> omega), (by simp [upd_app] <;> omega), by simp only [upd_app, ↓reduceIte, Nat.reduceEqDiff, hsn, hz1], by simp only; omega, by omega⟩ (by first | omega | (simp only; omega))
  · obtain rfl : k = L := by omega
    simp (disch := omega) only [go_sem, ↓k_cond, ↓x_idx, ↓k_block, Nat.reduceEqDiff, Nat.reduceBEq, ↓reduceIte, reduceCtorEq, g0, g1, g5, g6, hL]
    rw [← hQ]
    exact post_frozen (id := 0) (n := k) (off := 0) (len := k) (.inl rfl) rfl (by simp [upd_app] <;> omega) (by simp [hm0]) (by simp [hm0, ratM_length, mapF_len]) (by simp [hm0]) (by omega) (Nat.zero_le _) (by simp only [hm0, List.drop_zero]; exact List.take_of_length_le (by rw [ratM_length, mapF_len]; exact Nat.le_refl _)) (by simp [AV.pure, AV.pureL, natA_pure, natI_pure, natS_pure])
theorem s_ShiftSeries {xs : List (List UInt8)} {n : Int} (hl : xs.length < 9223372036854775808) (hs : ∀ x ∈ xs, x.length ≤ 1000000) : CallOk Tryz.prog 23 [.sl 9 (strA xs) [] false, .int .i64 n] (optTL (shfT xs n)) [] := by
  have h1 := w_l08Parse (xs := xs) hl hs
  have h2 := w_sIn (n := n) (a := 0) (b := 13)
  unfold shfT
  cases hq : serR xs with
  | none =>
    rw [hq] at h1
    (refine callOk_of_wpc (W := fun g => g == 48) true hm' Tryz.func23 rfl (by kernel_rfl) (Nat.le_of_ble_eq_true rfl) (go_start ?_); generalize hQ : Post Tryz.prog Tryz.f23 _ _ _ _ _ = Q; simp only [stIn, matL, matA, st00])
    simp (disch := omega) only [go_sem, ↓k_cond, ↓x_idx, ↓k_block, Nat.reduceEqDiff, Nat.reduceBEq, ↓reduceIte, reduceCtorEq, h1]
    (repeat (with_reducible refine Or.inr ?_))
    rw [← hQ]
    exact postT_two (.inl rfl) rfl (by simp [upd_app] <;> omega) (by simp [upd_app] <;> omega) rfl rfl
  | some x =>
    rw [hq] at h1
    obtain ⟨hxf, _, h4, h5⟩ := serR_some hq
    by_cases c : 0 ≤ n ∧ n ≤ 13
    · obtain ⟨k, rfl⟩ : ∃ k : Nat, n = k := ⟨n.toNat, by omega⟩
      simp only [if_pos c, Int.toNat_natCast]
      have h3 := w_l08Shift (x := x) (d := k) hxf (by omega) h4 (by omega)
      simp only [decide_eq_true c] at h2
      have hll : (shfL x k).length = x.length := shfL_len
      (refine callOk_of_wpc (W := fun g => g == 48) true hm' Tryz.func23 rfl (by kernel_rfl) (Nat.le_of_ble_eq_true rfl) (go_start ?_); generalize hQ : Post Tryz.prog Tryz.f23 _ _ _ _ _ = Q; simp only [stIn, matL, matA, st00])
      simp (disch := omega) only [go_sem, ↓k_cond, ↓x_idx, ↓k_block, Nat.reduceEqDiff, Nat.reduceBEq, ↓reduceIte, reduceCtorEq, h1, h2, h3]
      (repeat (with_reducible refine Or.inr ?_))
      refine endSP (m := 700) (qs := shfL x k) (by omega) (by omega) (by intro e; rw [e] at hll; simp at hll; omega) rfl (fun hn => ?_) (fun ts hts => ?_)
      · rw [hn] at hQ
        simp (disch := omega) only [go_sem, ↓k_cond, ↓x_idx, ↓k_block, Nat.reduceEqDiff, Nat.reduceBEq, ↓reduceIte, reduceCtorEq]
        rw [← hQ]
        exact postT_two (.inl rfl) rfl (by simp [upd_app] <;> omega) (by simp [upd_app] <;> omega) rfl rfl
      · rw [hts] at hQ
        simp (disch := omega) only [go_sem, ↓k_cond, ↓x_idx, ↓k_block, Nat.reduceEqDiff, Nat.reduceBEq, ↓reduceIte, reduceCtorEq]
        rw [← hQ]
        exact post_ownB (id := 0) (n := ts.length) (len := ts.length) (.inl rfl) rfl (by simp [upd_app] <;> omega) (by simp [upd_app] <;> omega) (by simp [upd_app]) (by simp [upd_app, strA_length]) (by simp [upd_app]) (by simp [upd_app]) (Nat.le_refl _) (by simp only [upd_app, if_true]; exact List.take_of_length_le (by rw [strA_length]; exact Nat.le_refl _)) (by simp [upd_app]) (by simp [upd_app]) (strA_pure _) rfl
    · rw [decide_eq_false c] at h2
      simp only [if_neg c]
      (refine callOk_of_wpc (W := fun g => g == 48) true hm' Tryz.func23 rfl (by kernel_rfl) (Nat.le_of_ble_eq_true rfl) (go_start ?_); generalize hQ : Post Tryz.prog Tryz.f23 _ _ _ _ _ = Q; simp only [stIn, matL, matA, st00])
      simp (disch := omega) only [go_sem, ↓k_cond, ↓x_idx, ↓k_block, Nat.reduceEqDiff, Nat.reduceBEq, ↓reduceIte, reduceCtorEq, h1, h2]
      (repeat (with_reducible refine Or.inr ?_))
      rw [← hQ]
      exact postT_two (.inl rfl) rfl (by simp [upd_app] <;> omega) (by simp [upd_app] <;> omega) rfl rfl
attribute [go_sem] w_l08Shift
theorem w_Mul64 {c : Nat} (hc : c ≤ 13) : CW Tryz.prog 163 [.int .u64 1, .int .u64 c] (.tup [.int .u64 0, .int .u64 c]) := by
  refine cw (by kernel_rfl) (by simp [AV.pure, AV.pureL, natA_pure, natI_pure, natS_pure]) (by simp [AV.pure, AV.pureL, natA_pure, natI_pure, natS_pure]) ?_
  (refine callOk_of_wpc (W := fun _ => false) false hm' Tryz.func163 rfl (by kernel_rfl) (Nat.le_of_ble_eq_true rfl) (go_start ?_); generalize hQ : Post Tryz.prog Tryz.f163 _ _ _ _ _ = Q; simp only [stIn, matL, matA, st00])
  simp (disch := omega) only [go_sem, ↓k_cond, ↓x_idx, ↓k_block, Nat.reduceEqDiff, Nat.reduceBEq, ↓reduceIte, reduceCtorEq]
  (repeat (with_reducible refine Or.inr ?_))
  rw [← hQ]
  exact post_two (.inl rfl) rfl (by first | (simp [upd_app]; done) | (simp [upd_app]; clear hQ; revert hc; revert c; decide +kernel)) (by first | (simp [upd_app]; done) | (simp [upd_app]; clear hQ; revert hc; revert c; decide +kernel)) rfl rfl
attribute [go_sem] w_Mul64
theorem w_Mul {c : Nat} (hc : c ≤ 13) : CW Tryz.prog 134 [.int .u64 1, .int .u64 c] (.tup [.int .u64 0, .int .u64 c]) := by
  refine cw (by kernel_rfl) (by simp [AV.pure, AV.pureL, natA_pure, natI_pure, natS_pure]) (by simp [AV.pure, AV.pureL, natA_pure, natI_pure, natS_pure]) ?_
  have h1 := w_Mul64 (c := c) hc
  (refine callOk_of_wpc (W := fun _ => false) false hm' Tryz.func134 rfl (by kernel_rfl) (Nat.le_of_ble_eq_true rfl) (go_start ?_); generalize hQ : Post Tryz.prog Tryz.f134 _ _ _ _ _ = Q; simp only [stIn, matL, matA, st00])
  simp (disch := omega) only [go_sem, ↓k_cond, ↓x_idx, ↓k_block, Nat.reduceEqDiff, Nat.reduceBEq, ↓reduceIte, reduceCtorEq, h1]
  (repeat (with_reducible refine Or.inr ?_))
  rw [← hQ]
  exact post_two (.inl rfl) rfl (by simp [upd_app] <;> omega) (by simp [upd_app] <;> omega) rfl rfl
theorem rep_step {X : List AV} {c i m : Nat} {v : AV} (hl : X.length = c) (ht : X.take i = List.replicate i v) (h : i + m ≤ c) :
    (List.replicate i v ++ List.replicate m v ++ X.drop (i + m)).length = c ∧ (List.replicate i v ++ List.replicate m v ++ X.drop (i + m)).take (i + m) = List.replicate (i + m) v := by
  refine ⟨by simp; omega, ?_⟩
  rw [List.take_left' (by simp), List.replicate_append_replicate]
theorem i_Repeat1 {c : Nat} (hc : c ≤ 13) (h1 : 1 ≤ c) : CallOk Tryz.prog 102 [.sl 52 [rI 64 0] [] true, .int .i64 c] (.own 52 (ratL 64 (List.replicate c 0)) [] true) [] := by
  have hm := w_Mul (c := c) hc
  have hrep : ratL 64 (List.replicate c 0) = List.replicate c (rI 64 0) := by rw [ratL, List.map_replicate]
  rw [hrep]
  (refine callOk_of_wpc (W := fun _ => false) true hm' Tryz.func102 rfl (by kernel_rfl) (Nat.le_of_ble_eq_true rfl) (go_start ?_); generalize hQ : Post Tryz.prog Tryz.f102 _ _ _ _ _ = Q; simp only [stIn, matL, matA, st00])
  have u1 : Tryz.prog.underlying 114 = some (.int .u64) := by kernel_rfl
  have u2 : okT Tryz.prog 114 = true := by kernel_rfl
  have w1 : IntKind.u64.wrap (c : Int) = c := by simp only [IntKind.wrap, IntKind.signed, IntKind.bits, Bool.false_and, Bool.false_eq_true, if_false]; omega
  have w2 : IntKind.u64.wrap 1 = 1 := by decide
  have w3 : IntKind.u64.wrap ((1 : Nat) : Int) = 1 := by decide
  simp (disch := omega) only [go_sem, ↓k_cond, ↓x_idx, ↓k_block, Nat.reduceEqDiff, Nat.reduceBEq, ↓reduceIte, reduceCtorEq, hm, reach, u1, u2, w1, w2, w3, copyA, List.length_cons, List.length_nil, List.length_replicate, List.take_zero, List.nil_append]
  (repeat (with_reducible refine Or.inr ?_))
  refine k_loop (fun (p : Nat × List AV) st => st.fr 7 = .ref 0 c 0 c ∧ st.fr 8 = .int .i64 p.1 ∧ st.h 0 = ⟨52, p.2, true, true, true⟩ ∧ p.2.length = c ∧ p.2.take p.1 = List.replicate p.1 (rI 64 0) ∧ 1 ≤ p.1 ∧ p.1 ≤ c) (fun p => c - p.1) (1, rI 64 0 :: List.replicate (c - 1) (.agg [.bool false, .nil, .nil]))
    ⟨(by simp [upd_app] <;> omega), (by simp [upd_app] <;> omega), by simp [upd_app], by simp; omega, by simp, by simp, h1⟩ ?_
  rintro ⟨i, X⟩ ⟨fr, h, nx⟩ ⟨g7, g8, hm0, hl, ht, hi1, hi⟩ J hJ
  simp only at g7 g8 hm0 hl ht hi1 hi
  by_cases hin : i < c
  · by_cases hc2 : i ≤ c - i
    · obtain ⟨k1, k2⟩ := rep_step hl ht (m := i) (by omega)
      simp (disch := omega) only [go_sem, ↓k_cond, ↓x_idx, ↓k_block, Nat.reduceEqDiff, Nat.reduceBEq, ↓reduceIte, reduceCtorEq, g7, g8, hm0, hl, ht, copyA, List.length_replicate, List.drop_zero, Nat.sub_zero]
      (repeat (with_reducible refine Or.inr ?_))
      exact hJ (i + i, List.replicate i (rI 64 0) ++ List.replicate i (rI 64 0) ++ X.drop (i + i)) _ ⟨(by simp [upd_app, g7] <;> omega), (by simp [upd_app] <;> omega), (by simp [upd_app] <;> omega), k1, k2, by simp only; omega, by simp only; omega⟩ (by simp only; omega)
    · obtain ⟨k1, k2⟩ := rep_step hl ht (m := c - i) (by omega)
      have ht2 : X.take (c - i) = List.replicate (c - i) (rI 64 0) := by
        have := congrArg (List.take (c - i)) ht
        rwa [List.take_take, Nat.min_eq_left (by omega), List.take_replicate, Nat.min_eq_left (by omega)] at this
      simp (disch := omega) only [go_sem, ↓k_cond, ↓x_idx, ↓k_block, Nat.reduceEqDiff, Nat.reduceBEq, ↓reduceIte, reduceCtorEq, g7, g8, hm0, hl, ht, ht2, copyA, List.length_replicate, List.drop_zero, Nat.sub_zero]
      (repeat (with_reducible refine Or.inr ?_))
      exact hJ (i + (c - i), List.replicate i (rI 64 0) ++ List.replicate (c - i) (rI 64 0) ++ X.drop (i + (c - i))) _ ⟨(by simp [upd_app, g7] <;> omega), (by simp [upd_app] <;> omega), (by simp [upd_app] <;> omega), k1, k2, by simp only; omega, by simp only; omega⟩ (by simp only; omega)
  · obtain rfl : i = c := by omega
    rw [List.take_of_length_le (by omega)] at ht
    subst ht
    simp (disch := omega) only [go_sem, ↓k_cond, ↓x_idx, ↓k_block, Nat.reduceEqDiff, Nat.reduceBEq, ↓reduceIte, reduceCtorEq, g7, g8, hm0]
    rw [← hQ]
    exact post_own (id := 0) (n := i) (len := i) (.inl rfl) rfl (by simp [upd_app] <;> omega) (by simp [hm0]) (by simp [hm0]) (by simp [hm0]) (by simp [hm0]) (Nat.le_refl _) (by simp [hm0]) (by simp [hm0]) (by simp [hm0]) (by rw [← hrep]; simp) rfl
theorem c_nothing {n : Nat} (hn : n ≤ 13) (h1 : 1 ≤ n) : CallOk Tryz.prog 59 [.int .i64 n] (.own 52 (ratL 64 (List.replicate n 0)) [] true) [] := by
  have hw : CW Tryz.prog 52 [.int .i64 0] (rI 64 0) := w_whole (n := 0) (by omega) (by omega)
  (refine callOk_of_wpc (W := fun g => g == 102) true hm' Tryz.func59 rfl (by kernel_rfl) (Nat.le_of_ble_eq_true rfl) (go_start ?_); generalize hQ : Post Tryz.prog Tryz.f59 _ _ _ _ _ = Q; simp only [stIn, matL, matA, st00])
  simp (disch := omega) only [go_sem, ↓k_cond, ↓x_idx, ↓k_block, Nat.reduceEqDiff, Nat.reduceBEq, ↓reduceIte, reduceCtorEq, hw]
  (repeat (with_reducible refine Or.inr ?_))
  refine callW_O (i_Repeat1 (c := n) hn h1) (by kernel_rfl) (by simp [AV.pure, AV.pureL, natA_pure, natI_pure, natS_pure]) ratL_pure rfl rfl ?_
  simp only [List.length_nil, Nat.add_zero, List.append_nil, ratL_length, List.length_replicate]
  simp (disch := omega) only [go_sem, ↓k_cond, ↓x_idx, ↓k_block, Nat.reduceEqDiff, Nat.reduceBEq, ↓reduceIte, reduceCtorEq]
  rw [← hQ]
  exact post_own (id := 0) (n := n) (len := n) (.inl rfl) rfl (by simp [upd_app] <;> omega) (by simp [upd_app]) (by simp [upd_app, ratL_length]) (by simp [upd_app]) (by simp [upd_app]) (Nat.le_refl _) (by simp only [upd_app, if_true]; exact List.take_of_length_le (by rw [ratL_length, List.length_replicate]; exact Nat.le_refl _)) (by simp [upd_app, ratL_length]) (by simp [upd_app]) (by simp) rfl
attribute [go_sem] w_Mul
theorem t_rows : elT Tryz.prog 92 = some 46 := by kernel_rfl
theorem o_rats : okT Tryz.prog 46 = true := by kernel_rfl
theorem g_rats : aggT Tryz.prog 46 = false := by kernel_rfl
theorem in_rats : (Tryz.prog.info? 46).isSome = true := by kernel_rfl
theorem s_rats : szT Tryz.prog 46 = 1 := by kernel_rfl
theorem zk_rats : zokT Tryz.prog 46 = true := by kernel_rfl
theorem u_rats : u32T Tryz.prog 46 = false := by kernel_rfl
theorem el_rats {t : Nat} {xs sp : List AV} {ex : Bool} : AV.el Tryz.prog 46 (.sl t xs sp ex) = true := by simp [AV.el, s_rats, AV.cells, AV.one]
attribute [go_sem] t_rows o_rats g_rats in_rats s_rats zk_rats u_rats el_rats
theorem i_Repeat0 : CallOk Tryz.prog 102 [.sl 52 [rI 64 0] [] true, .int .i64 0] (.own 52 [] [] true) [] := by
  have hm : CW Tryz.prog 134 [.int .u64 1, .int .u64 0] (.tup [.int .u64 0, .int .u64 0]) := w_Mul (c := 0) (by omega)
  (refine callOk_of_wpc (W := fun _ => false) true hm' Tryz.func102 rfl (by kernel_rfl) (Nat.le_of_ble_eq_true rfl) (go_start ?_); generalize hQ : Post Tryz.prog Tryz.f102 _ _ _ _ _ = Q; simp only [stIn, matL, matA, st00])
  have u1 : Tryz.prog.underlying 114 = some (.int .u64) := by kernel_rfl
  have u2 : okT Tryz.prog 114 = true := by kernel_rfl
  have w1 : IntKind.u64.wrap 0 = 0 := by decide
  have w2 : IntKind.u64.wrap 1 = 1 := by decide
  have w3 : IntKind.u64.wrap ((1 : Nat) : Int) = 1 := by decide
  simp (disch := omega) only [go_sem, ↓k_cond, ↓x_idx, ↓k_block, Nat.reduceEqDiff, Nat.reduceBEq, ↓reduceIte, reduceCtorEq, hm, reach, u1, u2, w1, w2, w3, copyA, List.length_cons, List.length_nil, List.length_replicate, List.take_zero, List.nil_append]
  (repeat (with_reducible refine Or.inr ?_))
  refine k_loop (fun (_ : Nat) st => st.fr 7 = .ref 0 0 0 0 ∧ st.fr 8 = .int .i64 0 ∧ st.h 0 = ⟨52, [], true, true, true⟩) (fun i => i) 0 ⟨(by simp [upd_app] <;> omega), (by simp [upd_app] <;> omega), by simp [upd_app]⟩ ?_
  rintro i ⟨fr, h, nx⟩ ⟨g7, g8, hm0⟩ J hJ
  simp only at g7 g8 hm0
  simp (disch := omega) only [go_sem, ↓k_cond, ↓x_idx, ↓k_block, Nat.reduceEqDiff, Nat.reduceBEq, ↓reduceIte, reduceCtorEq, g7, g8, hm0]
  rw [← hQ]
  exact post_own (id := 0) (n := 0) (len := 0) (.inl rfl) rfl (by simp [upd_app] <;> omega) (by simp [hm0]) (by simp [hm0]) (by simp [hm0]) (by simp [hm0]) (Nat.le_refl _) (by simp [hm0]) (by simp [hm0]) (by simp [hm0]) rfl rfl
theorem c_nothing0 : CallOk Tryz.prog 59 [.int .i64 0] (lI 64 []) [] := by
  have hw : CW Tryz.prog 52 [.int .i64 0] (rI 64 0) := w_whole (n := 0) (by omega) (by omega)
  (refine callOk_of_wpc (W := fun g => g == 102) false hm' Tryz.func59 rfl (by kernel_rfl) (Nat.le_of_ble_eq_true rfl) (go_start ?_); generalize hQ : Post Tryz.prog Tryz.f59 _ _ _ _ _ = Q; simp only [stIn, matL, matA, st00])
  simp (disch := omega) only [go_sem, ↓k_cond, ↓x_idx, ↓k_block, Nat.reduceEqDiff, Nat.reduceBEq, ↓reduceIte, reduceCtorEq, hw]
  (repeat (with_reducible refine Or.inr ?_))
  refine callW_O i_Repeat0 (by kernel_rfl) (by simp [AV.pure, AV.pureL, natA_pure, natI_pure, natS_pure]) rfl rfl rfl ?_
  simp only [List.length_nil, Nat.add_zero, List.append_nil]
  simp (disch := omega) only [go_sem, ↓k_cond, ↓x_idx, ↓k_block, Nat.reduceEqDiff, Nat.reduceBEq, ↓reduceIte, reduceCtorEq]
  rw [← hQ]
  exact post_frozen (id := 0) (n := 0) (off := 0) (len := 0) (.inl rfl) rfl (by simp [upd_app] <;> omega) (by simp [upd_app]) (by simp [upd_app]) (by simp [upd_app]) (by omega) (Nat.zero_le _) (by simp [upd_app, ratL]) (by simp [AV.pure, AV.pureL, natA_pure, natI_pure, natS_pure])
theorem w_nothing {n : Nat} (hn : n ≤ 13) : CW Tryz.prog 59 [.int .i64 n] (lI 64 (List.replicate n 0)) := by
  refine cw (by kernel_rfl) (by simp [AV.pure, AV.pureL, natA_pure, natI_pure, natS_pure]) (by simp [AV.pure, AV.pureL, natA_pure, natI_pure, natS_pure]) ?_
  rcases Nat.eq_zero_or_pos n with rfl | h1
  · exact c_nothing0
  · have hw : CW Tryz.prog 52 [.int .i64 0] (rI 64 0) := w_whole (n := 0) (by omega) (by omega)
    (refine callOk_of_wpc (W := fun g => g == 102) false hm' Tryz.func59 rfl (by kernel_rfl) (Nat.le_of_ble_eq_true rfl) (go_start ?_); generalize hQ : Post Tryz.prog Tryz.f59 _ _ _ _ _ = Q; simp only [stIn, matL, matA, st00])
    simp (disch := omega) only [go_sem, ↓k_cond, ↓x_idx, ↓k_block, Nat.reduceEqDiff, Nat.reduceBEq, ↓reduceIte, reduceCtorEq, hw]
    (repeat (with_reducible refine Or.inr ?_))
    refine callW_O (i_Repeat1 (c := n) hn h1) (by kernel_rfl) (by simp [AV.pure, AV.pureL, natA_pure, natI_pure, natS_pure]) ratL_pure rfl rfl ?_
    simp only [List.length_nil, Nat.add_zero, List.append_nil, ratL_length, List.length_replicate]
    simp (disch := omega) only [go_sem, ↓k_cond, ↓x_idx, ↓k_block, Nat.reduceEqDiff, Nat.reduceBEq, ↓reduceIte, reduceCtorEq]
    rw [← hQ]
    exact post_frozen (id := 0) (n := n) (off := 0) (len := n) (.inl rfl) rfl (by simp [upd_app] <;> omega) (by simp [upd_app]) (by simp [upd_app, ratL_length]) (by simp [upd_app]) (by omega) (Nat.zero_le _) (by simp only [upd_app, if_true, List.drop_zero]; exact List.take_of_length_le (by rw [ratL_length, List.length_replicate]; exact Nat.le_refl _)) (by simp [AV.pure, AV.pureL, natA_pure, natI_pure, natS_pure])
theorem c_Grow {s : Nat} (h1 : 1 ≤ s) (hs : s ≤ 1000) : CallOk Tryz.prog 101 [.nil, .int .i64 s] (.own 52 [] [] false) [] := by
  have cnt : cntT Tryz.prog 3 = true := by kernel_rfl
  (refine callOk_of_wpc (W := fun _ => false) true hm' Tryz.func101 rfl (by kernel_rfl) (Nat.le_of_ble_eq_true rfl) (go_start ?_); generalize hQ : Post Tryz.prog Tryz.f101 _ _ _ _ _ = Q; simp only [stIn, matL, matA, st00])
  have en : elT Tryz.prog 3 = none := by kernel_rfl
  simp (disch := omega) only [go_sem, ↓k_cond, ↓x_idx, ↓k_block, Nat.reduceEqDiff, Nat.reduceBEq, ↓reduceIte, reduceCtorEq, reach, appendN, cnt, en, Int.sub_zero, List.length_replicate]
  rw [← hQ]
  exact post_own (id := 0) (n := s) (len := 0) (.inl rfl) rfl (by simp [upd_app] <;> omega) (by simp [upd_app]) (by simp [upd_app]) (by simp [upd_app]) (by simp [upd_app]) (Nat.zero_le _) (by simp [upd_app]) (by simp [upd_app]) (by simp [upd_app]) rfl rfl
def cutN (a b i : Nat) : Nat := if i = 0 then 0 else if i = 1 then a else a + b
def catL (a b : List AV) (i : Nat) : List AV := if i = 0 then [] else if i = 1 then a else a ++ b
attribute [go_sem] w_nothing
theorem w_Concat {a b : List Rat} {m n : Nat} (hl : a.length + b.length ≤ 1000) (h1 : 1 ≤ a.length + b.length) : CW Tryz.prog 58 [.sl 46 [lI m a, lI n b] [] true] (.sl 52 (ratL m a ++ ratL n b) [] false) := by
  refine cw (by kernel_rfl) (by simp [AV.pure, AV.pureL]) (by simp [AV.pure, AV.pureL, pureL_append]) ?_
  obtain ⟨la, hla⟩ : ∃ k, a.length = k := ⟨_, rfl⟩
  obtain ⟨lb, hlb⟩ : ∃ k, b.length = k := ⟨_, rfl⟩
  rw [hla, hlb] at hl h1
  have e0 : cutN la lb 0 = 0 := rfl
  have e1 : cutN la lb 1 = la := rfl
  have e2 : cutN la lb 2 = la + lb := rfl
  have c0 : catL (ratL m a) (ratL n b) 0 = [] := rfl
  have c1 : catL (ratL m a) (ratL n b) 1 = ratL m a := rfl
  have c2 : catL (ratL m a) (ratL n b) 2 = ratL m a ++ ratL n b := rfl
  (refine callOk_of_wpc (W := fun g => g == 101) false hm' Tryz.func58 rfl (by kernel_rfl) (Nat.le_of_ble_eq_true rfl) (go_start ?_); generalize hQ : Post Tryz.prog Tryz.f58 _ _ _ _ _ = Q; simp only [stIn, matL, matA, st00])
  simp (disch := omega) only [go_sem, ↓k_cond, ↓x_idx, ↓k_block, Nat.reduceEqDiff, Nat.reduceBEq, ↓reduceIte, reduceCtorEq]
  refine k_loop (fun (i : Nat) st => st.fr 0 = .sl 46 [lI m a, lI n b] [] true ∧ st.fr 3 = .int .i64 (cutN la lb i) ∧ st.fr 9 = .sl 46 [lI m a, lI n b] [] true ∧ st.fr 10 = .int .i64 2 ∧ st.fr 11 = .int .i64 i ∧ st.nx = 0 ∧ i ≤ 2) (fun i => 2 - i) 0 ⟨(by simp [upd_app] <;> omega), (by simp [upd_app, e0] <;> omega), (by simp [upd_app] <;> omega), (by simp [upd_app] <;> omega), (by simp [upd_app] <;> omega), rfl, by omega⟩ ?_
  rintro i ⟨fr, h, nx⟩ ⟨g0, g3, g9, g10, g11, gx, hi⟩ J hJ
  simp only at g0 g3 g9 g10 g11 gx
  by_cases hin : i < 2
  · rcases (show i = 0 ∨ i = 1 by omega) with rfl | rfl
    · rw [e0] at g3
      simp (disch := omega) only [go_sem, ↓k_cond, ↓x_idx, ↓k_block, Nat.reduceEqDiff, Nat.reduceBEq, ↓reduceIte, reduceCtorEq, g0, g3, g9, g10, g11, ratL_length, hla]
      exact hJ 1 _ ⟨(by simp [upd_app, g0] <;> omega), (by simp [upd_app, e1] <;> omega), (by simp [upd_app, g9] <;> omega), (by simp [upd_app, g10] <;> omega), (by simp [upd_app] <;> omega), gx, by omega⟩ (by omega)
    · rw [e1] at g3
      simp (disch := omega) only [go_sem, ↓k_cond, ↓x_idx, ↓k_block, Nat.reduceEqDiff, Nat.reduceBEq, ↓reduceIte, reduceCtorEq, g0, g3, g9, g10, g11, ratL_length, hlb]
      exact hJ 2 _ ⟨(by simp [upd_app, g0] <;> omega), by simp [upd_app, e2], (by simp [upd_app, g9] <;> omega), (by simp [upd_app, g10] <;> omega), (by simp [upd_app] <;> omega), gx, by omega⟩ (by omega)
  · obtain rfl : i = 2 := by omega
    rw [e2] at g3
    subst gx
    simp (disch := omega) only [go_sem, ↓k_cond, ↓x_idx, ↓k_block, Nat.reduceEqDiff, Nat.reduceBEq, ↓reduceIte, reduceCtorEq, g0, g3, g9, g10, g11]
    refine callW_O (c_Grow (s := la + lb) h1 hl) (by kernel_rfl) (by simp [AV.pure, AV.pureL, natA_pure, natI_pure, natS_pure]) rfl rfl rfl ?_
    simp only [List.length_nil, Nat.add_zero, List.append_nil]
    simp (disch := omega) only [go_sem, ↓k_cond, ↓x_idx, ↓k_block, Nat.reduceEqDiff, Nat.reduceBEq, ↓reduceIte, reduceCtorEq, g0]
    refine k_loop (fun (i : Nat) st => st.fr 6 = .ref 0 (cutN la lb i) 0 (cutN la lb i) ∧ st.fr 25 = .sl 46 [lI m a, lI n b] [] true ∧ st.fr 26 = .int .i64 2 ∧ st.fr 27 = .int .i64 i ∧ st.h 0 = ⟨52, catL (ratL m a) (ratL n b) i, false, true, true⟩ ∧ i ≤ 2) (fun i => 2 - i) 0 ⟨(by simp [upd_app, e0] <;> omega), (by simp [upd_app] <;> omega), (by simp [upd_app] <;> omega), (by simp [upd_app] <;> omega), by simp [upd_app, c0], by omega⟩ ?_
    rintro i ⟨fr, h, nx⟩ ⟨g6, g25, g26, g27, hm, hi⟩ J hJ
    simp only at g6 g25 g26 g27 hm
    by_cases hin : i < 2
    · rcases (show i = 0 ∨ i = 1 by omega) with rfl | rfl
      · rw [e0] at g6
        rw [c0] at hm
        by_cases hz : la = 0
        · subst hz
          have ha0 : ratL m a = [] := by rw [ratL, List.map_eq_nil_iff]; exact List.length_eq_zero_iff.1 (by omega)
          simp (disch := omega) only [go_sem, ↓k_cond, ↓x_idx, ↓k_block, Nat.reduceEqDiff, Nat.reduceBEq, ↓reduceIte, reduceCtorEq, g6, g25, g26, g27, hm, ha0, reach]
          exact hJ 1 _ ⟨by simp [upd_app, e1], (by simp [upd_app, g25] <;> omega), (by simp [upd_app, g26] <;> omega), (by simp [upd_app] <;> omega), by simp [upd_app, catL, ha0, hm], by omega⟩ (by omega)
        · simp (disch := omega) only [go_sem, ↓k_cond, ↓x_idx, ↓k_block, Nat.reduceEqDiff, Nat.reduceBEq, ↓reduceIte, reduceCtorEq, g6, g25, g26, g27, hm, ratL_length, hla, reach]
          exact hJ 1 _ ⟨by simp [upd_app, e1], (by simp [upd_app, g25] <;> omega), (by simp [upd_app, g26] <;> omega), (by simp [upd_app] <;> omega), by simp [upd_app, c1], by omega⟩ (by omega)
      · rw [e1] at g6
        rw [c1] at hm
        have hal : (ratL m a).length = la := by rw [ratL_length, hla]
        by_cases hz : lb = 0
        · subst hz
          have hb0 : ratL n b = [] := by rw [ratL, List.map_eq_nil_iff]; exact List.length_eq_zero_iff.1 (by omega)
          have htk : List.take la (ratL m a) = ratL m a := List.take_of_length_le (by omega)
          have hdr : List.drop la (ratL m a) = [] := List.drop_eq_nil_of_le (by omega)
          simp (disch := omega) only [go_sem, ↓k_cond, ↓x_idx, ↓k_block, Nat.reduceEqDiff, Nat.reduceBEq, ↓reduceIte, reduceCtorEq, g6, g25, g26, g27, hm, hal, hb0, htk, hdr, reach]
          exact hJ 2 _ ⟨by simp [upd_app, e2], (by simp [upd_app, g25] <;> omega), (by simp [upd_app, g26] <;> omega), (by simp [upd_app] <;> omega), by simp [upd_app, catL, hb0, hm, htk, hdr], by omega⟩ (by omega)
        · simp (disch := omega) only [go_sem, ↓k_cond, ↓x_idx, ↓k_block, Nat.reduceEqDiff, Nat.reduceBEq, ↓reduceIte, reduceCtorEq, g6, g25, g26, g27, hm, hal, ratL_length, hlb, reach]
          exact hJ 2 _ ⟨by simp [upd_app, e2], (by simp [upd_app, g25] <;> omega), (by simp [upd_app, g26] <;> omega), (by simp [upd_app] <;> omega), by simp [upd_app, c2], by omega⟩ (by omega)
    · obtain rfl : i = 2 := by omega
      rw [e2] at g6
      rw [c2] at hm
      have hal : (ratL m a ++ ratL n b).length = la + lb := by rw [List.length_append, ratL_length, ratL_length, hla, hlb]
      simp (disch := omega) only [go_sem, ↓k_cond, ↓x_idx, ↓k_block, Nat.reduceEqDiff, Nat.reduceBEq, ↓reduceIte, reduceCtorEq, g6, g25, g26, g27]
      rw [← hQ]
      exact post_frozen (id := 0) (n := la + lb) (off := 0) (len := la + lb) (.inl rfl) rfl (by simp [upd_app] <;> omega) (by simp [hm]) (by simp only [hm]; exact hal) (by simp [hm]) (by omega) (Nat.zero_le _) (by simp only [hm, List.drop_zero]; exact List.take_of_length_le (by omega)) (by simp [pureL_append])
theorem i_ShiftSeries {xs : List (List UInt8)} {n : Int} (hl : xs.length < 9223372036854775808) (hs : ∀ x ∈ xs, x.length < 9223372036854775808) : CallOk Tryz.prog 24 [.sl 9 (strA xs) [] false, .int .i64 n] (optTL (shfT xs n)) [] := by
  have h1 := w_seriesOf (xs := xs) hl hs
  have h2 := w_in (n := n) (a := 0) (b := 13)
  unfold shfT
  cases hq : serR xs with
  | none =>
    rw [hq] at h1
    (refine callOk_of_wpc (W := fun g => g == 53) true hm' Tryz.func24 rfl (by kernel_rfl) (Nat.le_of_ble_eq_true rfl) (go_start ?_); generalize hQ : Post Tryz.prog Tryz.f24 _ _ _ _ _ = Q; simp only [stIn, matL, matA, st00])
    simp (disch := omega) only [go_sem, ↓k_cond, ↓x_idx, ↓k_block, Nat.reduceEqDiff, Nat.reduceBEq, ↓reduceIte, reduceCtorEq, h1]
    (repeat (with_reducible refine Or.inr ?_))
    rw [← hQ]
    exact postT_two (.inl rfl) rfl (by simp [upd_app] <;> omega) (by simp [upd_app] <;> omega) rfl rfl
  | some x =>
    rw [hq] at h1
    obtain ⟨hxf, _, h4, h5⟩ := serR_some hq
    by_cases c : 0 ≤ n ∧ n ≤ 13
    · obtain ⟨k, rfl⟩ : ∃ k : Nat, n = k := ⟨n.toNat, by omega⟩
      simp only [if_pos c, Int.toNat_natCast]
      have hn := w_nothing (n := k) (by omega)
      have hcat := w_Concat (a := List.replicate k 0) (b := x) (m := 64) (n := 700) (by simp; omega) (by omega)
      have h64 : ratL 64 (List.replicate k 0) = ratL 700 (List.replicate k 0) := List.map_congr_left fun q hq => by
        obtain rfl := List.eq_of_mem_replicate hq
        exact rI_re (fits_int (n := 0) (by decide) (by decide)) fits_zero700
      have happ : ratL 64 (List.replicate k 0) ++ ratL 700 x = ratL 700 (List.replicate k 0 ++ x) := by rw [h64, ratL, ratL, ratL, List.map_append]
      rw [happ] at hcat
      have hlen : (ratL 700 (List.replicate k 0 ++ x)).length = k + x.length := by rw [ratL_length]; simp
      have htk : List.take x.length (ratL 700 (List.replicate k 0 ++ x)) = ratL 700 (shfL x k) := by rw [ratL_take, shf_take]
      simp only [decide_eq_true c] at h2
      have hll : (shfL x k).length = x.length := shfL_len
      (refine callOk_of_wpc (W := fun g => g == 53) true hm' Tryz.func24 rfl (by kernel_rfl) (Nat.le_of_ble_eq_true rfl) (go_start ?_); generalize hQ : Post Tryz.prog Tryz.f24 _ _ _ _ _ = Q; simp only [stIn, matL, matA, st00])
      simp (disch := omega) only [go_sem, ↓k_cond, ↓x_idx, ↓k_block, Nat.reduceEqDiff, Nat.reduceBEq, ↓reduceIte, reduceCtorEq, h1, h2, hn, hcat, ratL_length, hlen, List.append_nil, List.drop_zero, htk]
      (repeat (with_reducible refine Or.inr ?_))
      refine endIP (m := 700) (qs := shfL x k) (by omega) (by omega) (by intro e; rw [e] at hll; simp at hll; omega) rfl (fun hn => ?_) (fun ts hts => ?_)
      · rw [hn] at hQ
        simp (disch := omega) only [go_sem, ↓k_cond, ↓x_idx, ↓k_block, Nat.reduceEqDiff, Nat.reduceBEq, ↓reduceIte, reduceCtorEq]
        rw [← hQ]
        exact postT_two (.inl rfl) rfl (by simp [upd_app] <;> omega) (by simp [upd_app] <;> omega) rfl rfl
      · rw [hts] at hQ
        simp (disch := omega) only [go_sem, ↓k_cond, ↓x_idx, ↓k_block, Nat.reduceEqDiff, Nat.reduceBEq, ↓reduceIte, reduceCtorEq]
        rw [← hQ]
        exact post_ownB (id := 0) (n := ts.length) (len := ts.length) (.inl rfl) rfl (by simp [upd_app] <;> omega) (by simp [upd_app] <;> omega) (by simp [upd_app]) (by simp [upd_app, strA_length]) (by simp [upd_app]) (by simp [upd_app]) (Nat.le_refl _) (by simp only [upd_app, if_true]; exact List.take_of_length_le (by rw [strA_length]; exact Nat.le_refl _)) (by simp [upd_app]) (by simp [upd_app]) (strA_pure _) rfl
    · rw [decide_eq_false c] at h2
      simp only [if_neg c]
      (refine callOk_of_wpc (W := fun g => g == 53) true hm' Tryz.func24 rfl (by kernel_rfl) (Nat.le_of_ble_eq_true rfl) (go_start ?_); generalize hQ : Post Tryz.prog Tryz.f24 _ _ _ _ _ = Q; simp only [stIn, matL, matA, st00])
      simp (disch := omega) only [go_sem, ↓k_cond, ↓x_idx, ↓k_block, Nat.reduceEqDiff, Nat.reduceBEq, ↓reduceIte, reduceCtorEq, h1, h2]
      (repeat (with_reducible refine Or.inr ?_))
      rw [← hQ]
      exact postT_two (.inl rfl) rfl (by simp [upd_app] <;> omega) (by simp [upd_app] <;> omega) rfl rfl
attribute [go_sem] w_Concat
set_option maxHeartbeats 1000000 in
theorem law_ShiftSeries (xs : List (List UInt8)) (hn_xs : xs.length < 4611686018427387904) (hs_xs : ∀ x ∈ xs, x.length < 4611686018427387904) (n : Int) : CallOk Tryz.prog 4 [.sl 9 (strA xs) [] false, .int .i64 n] (.bool true) [] := by
  have hsz_xs := cw (by kernel_rfl) (by simp [AV.pure, AV.pureL, natA_pure, natI_pure, natS_pure]) (by simp [AV.pure, AV.pureL, natA_pure, natI_pure, natS_pure]) (l_sz xs 1000000 (by omega) (by omega) hn_xs hs_xs)
  by_cases hneg_xs : szS xs 1000000 < 0
  · (refine callOk_of_wpc (W := fun g => g == 17 || g == 24 || g == 23 || g == 21) false hm' Tryz.func4 rfl (by kernel_rfl) (Nat.le_of_ble_eq_true rfl) (go_start ?_); generalize hQ : Post Tryz.prog Tryz.f4 _ _ _ _ _ = Q; simp only [stIn, matL, matA, st00])
    simp (disch := omega) only [go_sem, ↓k_cond, ↓x_idx, ↓k_block, Nat.reduceEqDiff, Nat.reduceBEq, ↓reduceIte, reduceCtorEq, hsz_xs]
    (repeat (with_reducible refine Or.inr ?_))
    rw [← hQ]
    exact post_one (.inl rfl) rfl (by simp [upd_app] <;> omega) rfl
  obtain ⟨b1_xs, b2_xs, b3_xs⟩ := szS_bd (by omega) (show 0 ≤ szS xs 1000000 by omega)
  have hl_xs : xs.length ≤ 1000000 := by omega
  have he_xs : ∀ x ∈ xs, x.length ≤ 1000000 := fun x hx => by have := b2_xs x hx; omega
  obtain ⟨z_xs, hz_xs⟩ : ∃ z, szS xs 1000000 = z := ⟨_, rfl⟩
  rw [hz_xs] at hsz_xs hneg_xs b3_xs
  have hT_xs := l_to xs false (.inl rfl) hl_xs
  obtain ⟨sp_xs, hsp_xs⟩ : ∃ sp, spareL xs.length = sp := ⟨_, rfl⟩
  have hr_xs : sp_xs.length = roomB xs.length := by rw [← hsp_xs, spareL]; simp
  have hrl_xs := room_le xs.length
  rw [hsp_xs] at hT_xs
  have hI := i_ShiftSeries (xs := xs) (n := n) (by omega) (fun x hx => by have := he_xs x hx; omega)
  have hS := s_ShiftSeries (xs := xs) (n := n) (by omega) (fun x hx => by have := he_xs x hx; omega)
  have hlen : ∀ ts, (shfT xs n) = some ts → ts.length ≤ 1000 := fun ts => shfT_len
  generalize (shfT xs n) = o at *
  have heqN := (l_eq [] [] (by simp) (by simp)).args (SubL.cons sub_nil (SubL.cons sub_nil .nil))
  rw [decide_eq_true rfl] at heqN
  have hheldN := (l_held (n := 0) (k := 101) (by omega) (by omega)).args (SubL.cons sub_nil (SubL.cons (Sub.refl _) .nil))
  cases o with
  | none =>
    rw [optTL] at hI hS
    (refine callOk_of_wpc (W := fun g => g == 17 || g == 24 || g == 23 || g == 21) false hm' Tryz.func4 rfl (by kernel_rfl) (Nat.le_of_ble_eq_true rfl) (go_start ?_); generalize hQ : Post Tryz.prog Tryz.f4 _ _ _ _ _ = Q; simp only [stIn, matL, matA, st00])
    simp (disch := omega) only [go_sem, ↓k_cond, ↓x_idx, ↓k_block, Nat.reduceEqDiff, Nat.reduceBEq, ↓reduceIte, reduceCtorEq, hsz_xs]
    (repeat (with_reducible refine Or.inr ?_))
    refine callW_O hT_xs cl_to (by simp [AV.pure, AV.pureL, natA_pure, natI_pure, natS_pure]) (strA_pure _) (strA_pure _) rfl ?_
    simp only [strA_length, strA_append]
    simp (disch := omega) only [go_sem, ↓k_cond, ↓x_idx, ↓k_block, Nat.reduceEqDiff, Nat.reduceBEq, ↓reduceIte, reduceCtorEq]
    refine callW_X hS (by kernel_rfl) (snap_more (sp := sp_xs) (by simp [upd_app]) rfl rfl rfl) rfl (matA_pure _ _ _ rfl) rfl ?_
    simp (disch := omega) only [go_sem, ↓k_cond, ↓x_idx, ↓k_block, Nat.reduceEqDiff, Nat.reduceBEq, ↓reduceIte, reduceCtorEq]
    refine callW_O hT_xs cl_to (by simp [AV.pure, AV.pureL, natA_pure, natI_pure, natS_pure]) (strA_pure _) (strA_pure _) rfl ?_
    simp only [strA_length, strA_append]
    simp (disch := omega) only [go_sem, ↓k_cond, ↓x_idx, ↓k_block, Nat.reduceEqDiff, Nat.reduceBEq, ↓reduceIte, reduceCtorEq]
    refine callW_X hI (by kernel_rfl) (snap_more (sp := sp_xs) (by simp [upd_app]) rfl rfl rfl) rfl (matA_pure _ _ _ rfl) rfl ?_
    simp (disch := omega) only [go_sem, ↓k_cond, ↓x_idx, ↓k_block, Nat.reduceEqDiff, Nat.reduceBEq, ↓reduceIte, reduceCtorEq]
    refine callW_P heqN (by kernel_rfl) rfl rfl ?_
    simp (disch := omega) only [go_sem, ↓k_cond, ↓x_idx, ↓k_block, Nat.reduceEqDiff, Nat.reduceBEq, ↓reduceIte, reduceCtorEq]
    refine callW_O hT_xs cl_to (by simp [AV.pure, AV.pureL, natA_pure, natI_pure, natS_pure]) (strA_pure _) (strA_pure _) rfl ?_
    simp only [strA_length, strA_append]
    simp (disch := omega) only [go_sem, ↓k_cond, ↓x_idx, ↓k_block, Nat.reduceEqDiff, Nat.reduceBEq, ↓reduceIte, reduceCtorEq]
    refine callW_I (i_intact (xs := xs) (sp := sp_xs) (by simp [upd_app]) (by simp [upd_app]) rfl (by rw [← hr_xs]) hr_xs hl_xs) (by kernel_rfl) (.inr ⟨rfl, rfl⟩) ?_
    simp (disch := omega) only [go_sem, ↓k_cond, ↓x_idx, ↓k_block, Nat.reduceEqDiff, Nat.reduceBEq, ↓reduceIte, reduceCtorEq]
    refine callW_I (i_mark (k := 101) (xs := xs) (sp := sp_xs) (ex := true) (gr := true) (by simp [upd_app]) rfl (by simp) (by omega) (by omega) (by omega)) (by kernel_rfl) (.inl rfl) ?_
    simp (disch := omega) only [go_sem, ↓k_cond, ↓x_idx, ↓k_block, Nat.reduceEqDiff, Nat.reduceBEq, ↓reduceIte, reduceCtorEq]
    refine callW_P heqN (by kernel_rfl) rfl rfl ?_
    simp (disch := omega) only [go_sem, ↓k_cond, ↓x_idx, ↓k_block, Nat.reduceEqDiff, Nat.reduceBEq, ↓reduceIte, reduceCtorEq]
    (repeat (with_reducible refine Or.inr ?_))
    refine callW_P hheldN (by kernel_rfl) rfl rfl ?_
    simp (disch := omega) only [go_sem, ↓k_cond, ↓x_idx, ↓k_block, Nat.reduceEqDiff, Nat.reduceBEq, ↓reduceIte, reduceCtorEq]
    by_cases hnil : xs = []
    · subst hnil
      refine callW_P l_toNil cl_to (by simp [AV.pure, AV.pureL, natA_pure, natI_pure, natS_pure]) rfl ?_
      simp (disch := omega) only [go_sem, ↓k_cond, ↓x_idx, ↓k_block, Nat.reduceEqDiff, Nat.reduceBEq, ↓reduceIte, reduceCtorEq]
      refine callW_X (hI.args (SubL.cons sub_nil (SubL.cons (Sub.refl _) .nil))) (by kernel_rfl) (snapL_pure rfl) rfl (matA_pure _ _ _ rfl) rfl ?_
      simp (disch := omega) only [go_sem, ↓k_cond, ↓x_idx, ↓k_block, Nat.reduceEqDiff, Nat.reduceBEq, ↓reduceIte, reduceCtorEq]
      refine callW_P heqN (by kernel_rfl) rfl rfl ?_
      simp (disch := omega) only [go_sem, ↓k_cond, ↓x_idx, ↓k_block, Nat.reduceEqDiff, Nat.reduceBEq, ↓reduceIte, reduceCtorEq]
      refine callW_P hheldN (by kernel_rfl) rfl rfl ?_
      simp (disch := omega) only [go_sem, ↓k_cond, ↓x_idx, ↓k_block, Nat.reduceEqDiff, Nat.reduceBEq, ↓reduceIte, reduceCtorEq]
      rw [← hQ]
      exact post_one (.inl rfl) rfl (by simp [upd_app] <;> omega) rfl
    · have hT2 := l_to xs true (.inr hnil) hl_xs
      rw [hsp_xs] at hT2
      refine callW_O hT2 cl_to (by simp [AV.pure, AV.pureL, natA_pure, natI_pure, natS_pure]) (strA_pure _) (strA_pure _) rfl ?_
      simp only [strA_length, strA_append]
      simp (disch := omega) only [go_sem, ↓k_cond, ↓x_idx, ↓k_block, Nat.reduceEqDiff, Nat.reduceBEq, ↓reduceIte, reduceCtorEq]
      refine callW_X hI (by kernel_rfl) (snap_more (sp := sp_xs) (by simp [upd_app]) rfl rfl rfl) rfl (matA_pure _ _ _ rfl) rfl ?_
      simp (disch := omega) only [go_sem, ↓k_cond, ↓x_idx, ↓k_block, Nat.reduceEqDiff, Nat.reduceBEq, ↓reduceIte, reduceCtorEq]
      refine callW_P heqN (by kernel_rfl) rfl rfl ?_
      simp (disch := omega) only [go_sem, ↓k_cond, ↓x_idx, ↓k_block, Nat.reduceEqDiff, Nat.reduceBEq, ↓reduceIte, reduceCtorEq]
      refine callW_P hheldN (by kernel_rfl) rfl rfl ?_
      simp (disch := omega) only [go_sem, ↓k_cond, ↓x_idx, ↓k_block, Nat.reduceEqDiff, Nat.reduceBEq, ↓reduceIte, reduceCtorEq]
      rw [← hQ]
      exact post_one (.inl rfl) rfl (by simp [upd_app] <;> omega) rfl
  | some ts =>
    have htl := hlen ts rfl
    rw [optTL] at hI hS
    have heq := l_eq ts ts (by omega) (by omega)
    rw [decide_eq_true rfl] at heq
    have hheld := l_held (n := ts.length) (k := 101) (by omega) (by omega)
    (refine callOk_of_wpc (W := fun g => g == 17 || g == 24 || g == 23 || g == 21) false hm' Tryz.func4 rfl (by kernel_rfl) (Nat.le_of_ble_eq_true rfl) (go_start ?_); generalize hQ : Post Tryz.prog Tryz.f4 _ _ _ _ _ = Q; simp only [stIn, matL, matA, st00])
    simp (disch := omega) only [go_sem, ↓k_cond, ↓x_idx, ↓k_block, Nat.reduceEqDiff, Nat.reduceBEq, ↓reduceIte, reduceCtorEq, hsz_xs]
    (repeat (with_reducible refine Or.inr ?_))
    refine callW_O hT_xs cl_to (by simp [AV.pure, AV.pureL, natA_pure, natI_pure, natS_pure]) (strA_pure _) (strA_pure _) rfl ?_
    simp only [strA_length, strA_append]
    simp (disch := omega) only [go_sem, ↓k_cond, ↓x_idx, ↓k_block, Nat.reduceEqDiff, Nat.reduceBEq, ↓reduceIte, reduceCtorEq]
    refine callW_X hS (by kernel_rfl) (snap_more (sp := sp_xs) (by simp [upd_app]) rfl rfl rfl) (optTL_solid (some ts)) (matA_ownB (strA_pure ts) rfl) rfl ?_
    simp only [strA_length, List.length_nil, Nat.add_zero, List.append_nil]
    simp (disch := omega) only [go_sem, ↓k_cond, ↓x_idx, ↓k_block, Nat.reduceEqDiff, Nat.reduceBEq, ↓reduceIte, reduceCtorEq]
    refine callW_O hT_xs cl_to (by simp [AV.pure, AV.pureL, natA_pure, natI_pure, natS_pure]) (strA_pure _) (strA_pure _) rfl ?_
    simp only [strA_length, strA_append]
    simp (disch := omega) only [go_sem, ↓k_cond, ↓x_idx, ↓k_block, Nat.reduceEqDiff, Nat.reduceBEq, ↓reduceIte, reduceCtorEq]
    refine callW_X hI (by kernel_rfl) (snap_more (sp := sp_xs) (by simp [upd_app]) rfl rfl rfl) (optTL_solid (some ts)) (matA_ownB (strA_pure ts) rfl) rfl ?_
    simp only [strA_length, List.length_nil, Nat.add_zero, List.append_nil]
    simp (disch := omega) only [go_sem, ↓k_cond, ↓x_idx, ↓k_block, Nat.reduceEqDiff, Nat.reduceBEq, ↓reduceIte, reduceCtorEq]
    refine callW_S heq (by kernel_rfl) (snapS2 (ex := false) (gr := true) (ex' := false) (gr' := true) (by simp [upd_app]) (by simp [upd_app]) rfl rfl) rfl rfl ?_
    simp (disch := omega) only [go_sem, ↓k_cond, ↓x_idx, ↓k_block, Nat.reduceEqDiff, Nat.reduceBEq, ↓reduceIte, reduceCtorEq]
    refine callW_O hT_xs cl_to (by simp [AV.pure, AV.pureL, natA_pure, natI_pure, natS_pure]) (strA_pure _) (strA_pure _) rfl ?_
    simp only [strA_length, strA_append]
    simp (disch := omega) only [go_sem, ↓k_cond, ↓x_idx, ↓k_block, Nat.reduceEqDiff, Nat.reduceBEq, ↓reduceIte, reduceCtorEq]
    refine callW_I (i_intact (xs := xs) (sp := sp_xs) (by simp [upd_app]) (by simp [upd_app]) rfl (by rw [← hr_xs]) hr_xs hl_xs) (by kernel_rfl) (.inr ⟨rfl, rfl⟩) ?_
    simp (disch := omega) only [go_sem, ↓k_cond, ↓x_idx, ↓k_block, Nat.reduceEqDiff, Nat.reduceBEq, ↓reduceIte, reduceCtorEq]
    refine callW_I (i_mark (k := 101) (xs := xs) (sp := sp_xs) (ex := true) (gr := true) (by simp [upd_app]) rfl (by simp) (by omega) (by omega) (by omega)) (by kernel_rfl) (.inl rfl) ?_
    simp (disch := omega) only [go_sem, ↓k_cond, ↓x_idx, ↓k_block, Nat.reduceEqDiff, Nat.reduceBEq, ↓reduceIte, reduceCtorEq]
    refine callW_S heq (by kernel_rfl) (snapS2 (ex := false) (gr := true) (ex' := false) (gr' := true) (by simp [upd_app]) (by simp [upd_app]) rfl rfl) rfl rfl ?_
    simp (disch := omega) only [go_sem, ↓k_cond, ↓x_idx, ↓k_block, Nat.reduceEqDiff, Nat.reduceBEq, ↓reduceIte, reduceCtorEq]
    refine callW_I (i_mark (k := 101) (xs := ts) (sp := []) (n := ts.length) (N := ts.length) (ex := false) (gr := true) (by simp [upd_app]) rfl (by simp) (by omega) (by omega) (by omega)) (by kernel_rfl) (.inl rfl) ?_
    simp (disch := omega) only [go_sem, ↓k_cond, ↓x_idx, ↓k_block, Nat.reduceEqDiff, Nat.reduceBEq, ↓reduceIte, reduceCtorEq]
    refine callW_S hheld (by kernel_rfl) (snapS1 (ex := false) (gr := true) (xs := marksL 101 ts.length) (by simp [upd_app]) (marksL_len _ _) rfl) rfl rfl ?_
    simp (disch := omega) only [go_sem, ↓k_cond, ↓x_idx, ↓k_block, Nat.reduceEqDiff, Nat.reduceBEq, ↓reduceIte, reduceCtorEq]
    by_cases hnil : xs = []
    · subst hnil
      refine callW_P l_toNil cl_to (by simp [AV.pure, AV.pureL, natA_pure, natI_pure, natS_pure]) rfl ?_
      simp (disch := omega) only [go_sem, ↓k_cond, ↓x_idx, ↓k_block, Nat.reduceEqDiff, Nat.reduceBEq, ↓reduceIte, reduceCtorEq]
      refine callW_X (hI.args (SubL.cons sub_nil (SubL.cons (Sub.refl _) .nil))) (by kernel_rfl) (snapL_pure rfl) (optTL_solid (some ts)) (matA_ownB (strA_pure ts) rfl) rfl ?_
      simp only [strA_length, List.length_nil, Nat.add_zero, List.append_nil]
      simp (disch := omega) only [go_sem, ↓k_cond, ↓x_idx, ↓k_block, Nat.reduceEqDiff, Nat.reduceBEq, ↓reduceIte, reduceCtorEq]
      refine callW_S heq (by kernel_rfl) (snapS2 (ex := false) (gr := true) (ex' := false) (gr' := true) (by simp [upd_app]) (by simp [upd_app]) rfl rfl) rfl rfl ?_
      simp (disch := omega) only [go_sem, ↓k_cond, ↓x_idx, ↓k_block, Nat.reduceEqDiff, Nat.reduceBEq, ↓reduceIte, reduceCtorEq]
      refine callW_S hheld (by kernel_rfl) (snapS1 (ex := false) (gr := true) (xs := marksL 101 ts.length) (by simp [upd_app]) (marksL_len _ _) rfl) rfl rfl ?_
      simp (disch := omega) only [go_sem, ↓k_cond, ↓x_idx, ↓k_block, Nat.reduceEqDiff, Nat.reduceBEq, ↓reduceIte, reduceCtorEq]
      rw [← hQ]
      exact post_one (.inl rfl) rfl (by simp [upd_app] <;> omega) rfl
    · have hT2 := l_to xs true (.inr hnil) hl_xs
      rw [hsp_xs] at hT2
      refine callW_O hT2 cl_to (by simp [AV.pure, AV.pureL, natA_pure, natI_pure, natS_pure]) (strA_pure _) (strA_pure _) rfl ?_
      simp only [strA_length, strA_append]
      simp (disch := omega) only [go_sem, ↓k_cond, ↓x_idx, ↓k_block, Nat.reduceEqDiff, Nat.reduceBEq, ↓reduceIte, reduceCtorEq]
      refine callW_X hI (by kernel_rfl) (snap_more (sp := sp_xs) (by simp [upd_app]) rfl rfl rfl) (optTL_solid (some ts)) (matA_ownB (strA_pure ts) rfl) rfl ?_
      simp only [strA_length, List.length_nil, Nat.add_zero, List.append_nil]
      simp (disch := omega) only [go_sem, ↓k_cond, ↓x_idx, ↓k_block, Nat.reduceEqDiff, Nat.reduceBEq, ↓reduceIte, reduceCtorEq]
      refine callW_S heq (by kernel_rfl) (snapS2 (ex := false) (gr := true) (ex' := false) (gr' := true) (by simp [upd_app]) (by simp [upd_app]) rfl rfl) rfl rfl ?_
      simp (disch := omega) only [go_sem, ↓k_cond, ↓x_idx, ↓k_block, Nat.reduceEqDiff, Nat.reduceBEq, ↓reduceIte, reduceCtorEq]
      refine callW_S hheld (by kernel_rfl) (snapS1 (ex := false) (gr := true) (xs := marksL 101 ts.length) (by simp [upd_app]) (marksL_len _ _) rfl) rfl rfl ?_
      simp (disch := omega) only [go_sem, ↓k_cond, ↓x_idx, ↓k_block, Nat.reduceEqDiff, Nat.reduceBEq, ↓reduceIte, reduceCtorEq]
      rw [← hQ]
      exact post_one (.inl rfl) rfl (by simp [upd_app] <;> omega) rfl
theorem lawOk_ShiftSeries : LawOk Tryz.prog 4 [.cell (.sl 9 .str), .cell (.int .i64)] := by
  intro xs h
  obtain ⟨x_xs, _, rfl, k_xs, ⟨x_n, _, rfl, k_n, rfl⟩⟩ := h
  obtain ⟨xs, rfl, h1_xs, h2_xs⟩ := isC_strs k_xs
  obtain ⟨n, rfl, _⟩ := k_n
  exact law_ShiftSeries xs h1_xs h2_xs n
end Go.Proofs.YtfhpphmdpjebcaaGreatDoor
