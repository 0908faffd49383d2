/- Part 12 of the ground of the proofs of this seat. -/
import Derived.ProofKit
import Derived.LaidMore
import Derived.LaidLaws
import Derived.LaidHandle
import Derived.OpenShut
import Derived.WalkKit
import Derived.ShutString
import Derived.SizedLaws
import Derived.SliceStrings
import Derived.Below
import Derived.Carry
import Derived.Stop.Joined
import Derived.SevenTiedAt
import Derived.Stop.LaidErr
import Derived.Test.YtjilbkkappobpaaGreatDoorM11

set_option linter.unusedVariables false
set_option linter.unusedSimpArgs false
set_option maxRecDepth 100000
namespace Go.Proofs.YtjilbkkappobpaaGreatDoor
open Go

theorem w_indexNeg {qs : List Rat} (hl : qs.length ≤ 1000) : CW Tryz.prog 149 [lI 700 qs, .fn (.func 126) [] []] (.int .i64 (negI qs 0)) := by
  refine cw (by kernel_rfl) (by simp [AV.pure, AV.pureL, natA_pure, natI_pure, natS_pure]) (by simp [AV.pure, AV.pureL, natA_pure, natI_pure, natS_pure]) ?_
  obtain ⟨L, hL⟩ : ∃ n, qs.length = n := ⟨_, rfl⟩
  rw [hL] at hl
  (refine callOk_of_wpc (W := fun _ => false) false hm' Tryz.func149 rfl (by kernel_rfl) (Nat.le_of_ble_eq_true rfl) (go_start ?_); generalize hQ : Post Tryz.prog Tryz.f149 _ _ _ _ _ = Q; simp only [stIn, matL, matA, st00])
  simp (disch := omega) only [go_sem, ↓k_cond, ↓x_idx, ↓k_block, Nat.reduceEqDiff, Nat.reduceBEq, ↓reduceIte, reduceCtorEq, hL]
  refine k_loop (fun (i : Nat) st => st.fr 0 = lI 700 qs ∧ st.fr 1 = .fn (.func 126) [] [] ∧ st.fr 7 = .int .i64 L ∧ st.fr 8 = .int .i64 i ∧ i ≤ L ∧ negI (qs.drop i) i = negI qs 0) (fun i => L - i) 0 ⟨(by simp [upd_app] <;> omega), (by simp [upd_app] <;> omega), (by simp [upd_app] <;> omega), (by simp [upd_app] <;> omega), by omega, rfl⟩ ?_
  rintro i ⟨fr, h, nx⟩ ⟨g0, g1, g7, g8, hi, ha⟩ J hJ
  simp only at g0 g1 g7 g8
  by_cases hin : i < L
  · obtain ⟨q, hq⟩ := get_some (xs := qs) (i := i) (by omega)
    have hat := negI_at hq
    have hm := w_isMinus (m := 700) (a := q) (by omega)
    simp only [rI] at hm
    simp (disch := omega) only [go_sem, ↓k_cond, ↓x_idx, ↓k_block, Nat.reduceEqDiff, Nat.reduceBEq, ↓reduceIte, reduceCtorEq, g0, g1, g7, g8, hq]
    rw [x_callT (g := 126) (by simp [upd_app]) rfl]
    by_cases hneg : q < 0
    · rw [if_pos hneg] at hat
      rw [decide_eq_true hneg] at hm
      rw [← ha, hat] at hQ
      simp (disch := omega) only [go_sem, ↓k_cond, ↓x_idx, ↓k_block, Nat.reduceEqDiff, Nat.reduceBEq, ↓reduceIte, reduceCtorEq, g0, g1, g7, g8, hm]
      (repeat (with_reducible refine Or.inr ?_))
      rw [← hQ]
      exact post_one (.inl rfl) rfl (by simp [upd_app] <;> omega) rfl
    · rw [if_neg hneg] at hat
      rw [decide_eq_false hneg] at hm
      simp (disch := omega) only [go_sem, ↓k_cond, ↓x_idx, ↓k_block, Nat.reduceEqDiff, Nat.reduceBEq, ↓reduceIte, reduceCtorEq, g0, g1, g7, g8, hm]
      (repeat (with_reducible refine Or.inr ?_))
      exact hJ (i + 1) _ ⟨(by simp [upd_app, g0] <;> omega), (by simp [upd_app, g1] <;> omega), (by simp [upd_app, g7] <;> omega), (by simp [upd_app] <;> omega), hin, by rw [← hat, ha]⟩ (by omega)
  · obtain rfl : i = L := by omega
    rw [List.drop_eq_nil_of_le (by omega), negI] at ha
    rw [← ha] at hQ
    simp (disch := omega) only [go_sem, ↓k_cond, ↓x_idx, ↓k_block, Nat.reduceEqDiff, Nat.reduceBEq, ↓reduceIte, reduceCtorEq, g0, g1, g7, g8]
    rw [← hQ]
    exact post_one (.inl rfl) rfl (by simp [upd_app] <;> omega) rfl
attribute [go_sem] w_indexNeg
theorem w_hasNeg {qs : List Rat} (hl : qs.length ≤ 1000) : CW Tryz.prog 125 [lI 700 qs, .fn (.func 126) [] []] (.bool (!(qs.all fun q => !decide (q < 0)))) := by
 refine cw (by kernel_rfl) (by simp [AV.pure, AV.pureL, natA_pure, natI_pure, natS_pure]) (by simp [AV.pure, AV.pureL, natA_pure, natI_pure, natS_pure]) ?_
 have h1 := w_indexNeg (qs := qs) hl
 have h2 := negI_ge qs 0
 generalize negI qs 0 = z at *
 generalize (qs.all fun q => !decide (q < 0)) = p at *
 rw [← h2]
 (refine callOk_of_wpc (W := fun _ => false) false hm' Tryz.func125 rfl (by kernel_rfl) (Nat.le_of_ble_eq_true rfl) (go_start ?_); generalize hQ : Post Tryz.prog Tryz.f125 _ _ _ _ _ = Q; simp only [stIn, matL, matA, st00])
 simp (disch := omega) only [go_sem, ↓k_cond, ↓x_idx, ↓k_block, Nat.reduceEqDiff, Nat.reduceBEq, ↓reduceIte, reduceCtorEq, h1]
 (repeat (with_reducible refine Or.inr ?_))
 rw [← hQ]
 exact post_one (.inl rfl) rfl (by simp [upd_app]) rfl
attribute [go_sem] w_hasNeg
theorem w_isOne {m : Nat} {a : Rat} (h : m ≤ 200000000) : CW Tryz.prog 128 [rI m a] (.bool (decide (a = 1))) := by
  refine cw (by kernel_rfl) (by simp [AV.pure, AV.pureL, natA_pure, natI_pure, natS_pure]) (by simp [AV.pure, AV.pureL, natA_pure, natI_pure, natS_pure]) ?_
  have h1 := w_cmp (m := m) (n := 64) (a := a) (b := 1) (by omega)
  have h2 := cmpR_eq (a := a) (b := 1)
  have h3 : (((1 : Int)) : Rat) = 1 := rfl
  have h4 := w_whole (n := 1) (by omega) (by omega)
  rw [h3] at h4
  have e : (cmpR a 1 == 0) = decide (a = 1) := by
    by_cases c : a = 1
    · rw [decide_eq_true c, h2.2 c]; rfl
    · rw [decide_eq_false c]; simpa using fun e => c (h2.1 e)
  rw [← e]
  generalize cmpR a 1 = z at *
  simp only [rI] at h1
  (refine callOk_of_wpc (W := fun _ => false) false hm' Tryz.func128 rfl (by kernel_rfl) (Nat.le_of_ble_eq_true rfl) (go_start ?_); generalize hQ : Post Tryz.prog Tryz.f128 _ _ _ _ _ = Q; simp only [stIn, matL, matA, st00])
  simp (disch := omega) only [go_sem, ↓k_cond, ↓x_idx, ↓k_block, Nat.reduceEqDiff, Nat.reduceBEq, ↓reduceIte, reduceCtorEq, h4, h1]
  (repeat (with_reducible refine Or.inr ?_))
  rw [← hQ]
  exact post_one (.inl rfl) rfl (by simp [upd_app]) rfl
attribute [go_sem] w_isOne
theorem w_weightsOf {xs : List (List UInt8)} (hl : xs.length < 9223372036854775808) (hs : ∀ x ∈ xs, x.length < 9223372036854775808) : CW Tryz.prog 103 [.sl 9 (strA xs) [] false] (optLI (wtsR xs)) := by
  refine cw (by kernel_rfl) (by simp [AV.pure, AV.pureL, natA_pure, natI_pure, natS_pure]) (by simp [AV.pure, AV.pureL, natA_pure, natI_pure, natS_pure]) ?_
  have h1 := w_rats (xs := xs) hl hs
  unfold wtsR
  cases hq : listR xs with
  | none =>
    rw [hq] at h1
    (refine callOk_of_wpc (W := fun _ => false) false hm' Tryz.func103 rfl (by kernel_rfl) (Nat.le_of_ble_eq_true rfl) (go_start ?_); generalize hQ : Post Tryz.prog Tryz.f103 _ _ _ _ _ = Q; simp only [stIn, matL, matA, st00])
    simp (disch := omega) only [go_sem, ↓k_cond, ↓x_idx, ↓k_block, Nat.reduceEqDiff, Nat.reduceBEq, ↓reduceIte, reduceCtorEq, h1]
    (repeat (with_reducible refine Or.inr ?_))
    rw [← hQ]
    exact post_two (.inl rfl) rfl (by simp [upd_app] <;> omega) (by simp [upd_app] <;> omega) rfl rfl
  | some qs =>
    rw [hq] at h1
    obtain ⟨_, _, h3⟩ := list_fits hq
    have h2 := w_hasNeg (qs := qs) (by omega)
    have h4 := w_sum (m := 700) (qs := qs) (by omega) (by omega)
    have h5 := w_isOne (m := 64 + qs.length * (700 + 1)) (a := sumL qs) (by omega)
    show CallOk Tryz.prog _ _ (optLI (if wgt qs = true then some qs else none)) []
    by_cases hw : wgt qs = true
    · rw [if_pos hw]
      simp only [wgt, Bool.and_eq_true, decide_eq_true_eq] at hw
      obtain ⟨hp, c⟩ := hw
      rw [hp] at h2
      rw [decide_eq_true c] at h5
      (refine callOk_of_wpc (W := fun _ => false) false hm' Tryz.func103 rfl (by kernel_rfl) (Nat.le_of_ble_eq_true rfl) (go_start ?_); generalize hQ : Post Tryz.prog Tryz.f103 _ _ _ _ _ = Q; simp only [stIn, matL, matA, st00])
      simp (disch := omega) only [go_sem, ↓k_cond, ↓x_idx, ↓k_block, Nat.reduceEqDiff, Nat.reduceBEq, ↓reduceIte, reduceCtorEq, h1, h2, h4, h5]
      (repeat (with_reducible refine Or.inr ?_))
      rw [← hQ]
      exact post_two (.inl rfl) rfl (by simp [upd_app] <;> omega) (by simp [upd_app] <;> omega) (by simp [AV.pure, AV.pureL, natA_pure, natI_pure, natS_pure]) rfl
    · rw [if_neg hw]
      cases hp : (qs.all fun q => !decide (q < 0)) with
      | false =>
        rw [hp] at h2
        (refine callOk_of_wpc (W := fun _ => false) false hm' Tryz.func103 rfl (by kernel_rfl) (Nat.le_of_ble_eq_true rfl) (go_start ?_); generalize hQ : Post Tryz.prog Tryz.f103 _ _ _ _ _ = Q; simp only [stIn, matL, matA, st00])
        simp (disch := omega) only [go_sem, ↓k_cond, ↓x_idx, ↓k_block, Nat.reduceEqDiff, Nat.reduceBEq, ↓reduceIte, reduceCtorEq, h1, h2]
        (repeat (with_reducible refine Or.inr ?_))
        rw [← hQ]
        exact post_two (.inl rfl) rfl (by simp [upd_app] <;> omega) (by simp [upd_app] <;> omega) rfl rfl
      | true =>
        have c : sumL qs ≠ 1 := fun c => hw (by rw [wgt, hp, decide_eq_true c]; rfl)
        rw [hp] at h2
        rw [decide_eq_false c] at h5
        (refine callOk_of_wpc (W := fun _ => false) false hm' Tryz.func103 rfl (by kernel_rfl) (Nat.le_of_ble_eq_true rfl) (go_start ?_); generalize hQ : Post Tryz.prog Tryz.f103 _ _ _ _ _ = Q; simp only [stIn, matL, matA, st00])
        simp (disch := omega) only [go_sem, ↓k_cond, ↓x_idx, ↓k_block, Nat.reduceEqDiff, Nat.reduceBEq, ↓reduceIte, reduceCtorEq, h1, h2, h4, h5]
        (repeat (with_reducible refine Or.inr ?_))
        rw [← hQ]
        exact post_two (.inl rfl) rfl (by simp [upd_app] <;> omega) (by simp [upd_app] <;> omega) rfl rfl
attribute [go_sem] w_weightsOf
theorem w_IsSeries2 {xs : List (List UInt8)} (hl : xs.length < 9223372036854775808) (hs : ∀ x ∈ xs, x.length < 9223372036854775808) : CW Tryz.prog 102 [.sl 9 (strA xs) [] false] (.bool (serR xs).isSome) := by
 refine cw (by kernel_rfl) (by simp [AV.pure, AV.pureL, natA_pure, natI_pure, natS_pure]) (by simp [AV.pure, AV.pureL, natA_pure, natI_pure, natS_pure]) ?_
 have h1 := w_seriesOf (xs := xs) hl hs
 cases hq : serR xs with
 | none =>
  rw [hq] at h1
  (refine callOk_of_wpc (W := fun _ => false) false hm' Tryz.func102 rfl (by kernel_rfl) (Nat.le_of_ble_eq_true rfl) (go_start ?_); generalize hQ : Post Tryz.prog Tryz.f102 _ _ _ _ _ = Q; simp only [stIn, matL, matA, st00])
  simp (disch := omega) only [go_sem, ↓k_cond, ↓x_idx, ↓k_block, Nat.reduceEqDiff, Nat.reduceBEq, ↓reduceIte, reduceCtorEq, h1]
  (repeat (with_reducible refine Or.inr ?_))
  rw [← hQ]
  exact post_one (.inl rfl) rfl (by simp [upd_app] <;> omega) rfl
 | some qs =>
  rw [hq] at h1
  (refine callOk_of_wpc (W := fun _ => false) false hm' Tryz.func102 rfl (by kernel_rfl) (Nat.le_of_ble_eq_true rfl) (go_start ?_); generalize hQ : Post Tryz.prog Tryz.f102 _ _ _ _ _ = Q; simp only [stIn, matL, matA, st00])
  simp (disch := omega) only [go_sem, ↓k_cond, ↓x_idx, ↓k_block, Nat.reduceEqDiff, Nat.reduceBEq, ↓reduceIte, reduceCtorEq, h1]
  (repeat (with_reducible refine Or.inr ?_))
  rw [← hQ]
  exact post_one (.inl rfl) rfl (by simp [upd_app] <;> omega) rfl
theorem wts_ser {xs : List (List UInt8)} {qs : List Rat} (h : serR xs = some qs) : wtsR xs = wgtR xs := by
  unfold wgtR wtsR
  rw [h]
  unfold serR at h
  split at h
  · rw [h]
  · cases h
attribute [go_sem] w_IsSeries2
theorem w_gapsOf {xs : List (List UInt8)} (hl : xs.length < 9223372036854775808) (hs : ∀ x ∈ xs, x.length < 9223372036854775808) : CW Tryz.prog 52 [.sl 9 (strA xs) [] false] (optLI (wgtR xs)) := by
 refine cw (by kernel_rfl) (by simp [AV.pure, AV.pureL, natA_pure, natI_pure, natS_pure]) (by simp [AV.pure, AV.pureL, natA_pure, natI_pure, natS_pure]) ?_
 have h1 := w_IsSeries2 (xs := xs) hl hs
 have h2 := w_weightsOf (xs := xs) hl hs
 cases hq : serR xs with
 | none =>
  rw [hq] at h1
  have e : wgtR xs = none := by unfold wgtR; rw [hq]
  rw [e]
  (refine callOk_of_wpc (W := fun _ => false) false hm' Tryz.func52 rfl (by kernel_rfl) (Nat.le_of_ble_eq_true rfl) (go_start ?_); generalize hQ : Post Tryz.prog Tryz.f52 _ _ _ _ _ = Q; simp only [stIn, matL, matA, st00])
  simp (disch := omega) only [go_sem, ↓k_cond, ↓x_idx, ↓k_block, Nat.reduceEqDiff, Nat.reduceBEq, ↓reduceIte, reduceCtorEq, h1]
  (repeat (with_reducible refine Or.inr ?_))
  rw [← hQ]
  exact post_two (.inl rfl) rfl (by simp [upd_app] <;> omega) (by simp [upd_app] <;> omega) rfl rfl
 | some qs =>
  rw [hq] at h1
  rw [wts_ser hq] at h2
  cases hw : wgtR xs with
  | none =>
   rw [hw] at h2
   (refine callOk_of_wpc (W := fun _ => false) false hm' Tryz.func52 rfl (by kernel_rfl) (Nat.le_of_ble_eq_true rfl) (go_start ?_); generalize hQ : Post Tryz.prog Tryz.f52 _ _ _ _ _ = Q; simp only [stIn, matL, matA, st00])
   simp (disch := omega) only [go_sem, ↓k_cond, ↓x_idx, ↓k_block, Nat.reduceEqDiff, Nat.reduceBEq, ↓reduceIte, reduceCtorEq, h1, h2]
   (repeat (with_reducible refine Or.inr ?_))
   rw [← hQ]
   exact post_two (.inl rfl) rfl (by simp [upd_app] <;> omega) (by simp [upd_app] <;> omega) rfl rfl
  | some q2 =>
   rw [hw] at h2
   (refine callOk_of_wpc (W := fun _ => false) false hm' Tryz.func52 rfl (by kernel_rfl) (Nat.le_of_ble_eq_true rfl) (go_start ?_); generalize hQ : Post Tryz.prog Tryz.f52 _ _ _ _ _ = Q; simp only [stIn, matL, matA, st00])
   simp (disch := omega) only [go_sem, ↓k_cond, ↓x_idx, ↓k_block, Nat.reduceEqDiff, Nat.reduceBEq, ↓reduceIte, reduceCtorEq, h1, h2]
   (repeat (with_reducible refine Or.inr ?_))
   rw [← hQ]
   exact post_two (.inl rfl) rfl (by simp [upd_app] <;> omega) (by simp [upd_app] <;> omega) (by simp [AV.pure, AV.pureL, natA_pure, natI_pure, natS_pure]) rfl
attribute [go_sem] w_gapsOf
theorem w_Mul64 {c : Nat} (hc : c ≤ 13) : CW Tryz.prog 152 [.int .u64 1, .int .u64 c] (.tup [.int .u64 0, .int .u64 c]) := by
 refine cw (by kernel_rfl) (by simp [AV.pure, AV.pureL, natA_pure, natI_pure, natS_pure]) (by simp [AV.pure, AV.pureL, natA_pure, natI_pure, natS_pure]) ?_
 (refine callOk_of_wpc (W := fun _ => false) false hm' Tryz.func152 rfl (by kernel_rfl) (Nat.le_of_ble_eq_true rfl) (go_start ?_); generalize hQ : Post Tryz.prog Tryz.f152 _ _ _ _ _ = Q; simp only [stIn, matL, matA, st00])
 simp (disch := omega) only [go_sem, ↓k_cond, ↓x_idx, ↓k_block, Nat.reduceEqDiff, Nat.reduceBEq, ↓reduceIte, reduceCtorEq]
 (repeat (with_reducible refine Or.inr ?_))
 rw [← hQ]
 exact post_two (.inl rfl) rfl (by first | (simp [upd_app]; done) | (simp [upd_app]; clear hQ; revert hc; revert c; decide +kernel)) (by first | (simp [upd_app]; done) | (simp [upd_app]; clear hQ; revert hc; revert c; decide +kernel)) rfl rfl
attribute [go_sem] w_Mul64
theorem w_Mul {c : Nat} (hc : c ≤ 13) : CW Tryz.prog 129 [.int .u64 1, .int .u64 c] (.tup [.int .u64 0, .int .u64 c]) := by
 refine cw (by kernel_rfl) (by simp [AV.pure, AV.pureL, natA_pure, natI_pure, natS_pure]) (by simp [AV.pure, AV.pureL, natA_pure, natI_pure, natS_pure]) ?_
 have h1 := w_Mul64 (c := c) hc
 (refine callOk_of_wpc (W := fun _ => false) false hm' Tryz.func129 rfl (by kernel_rfl) (Nat.le_of_ble_eq_true rfl) (go_start ?_); generalize hQ : Post Tryz.prog Tryz.f129 _ _ _ _ _ = Q; simp only [stIn, matL, matA, st00])
 simp (disch := omega) only [go_sem, ↓k_cond, ↓x_idx, ↓k_block, Nat.reduceEqDiff, Nat.reduceBEq, ↓reduceIte, reduceCtorEq, h1]
 (repeat (with_reducible refine Or.inr ?_))
 rw [← hQ]
 exact post_two (.inl rfl) rfl (by simp [upd_app] <;> omega) (by simp [upd_app] <;> omega) rfl rfl
theorem rep_step {X : List AV} {c i m : Nat} {v : AV} (hl : X.length = c) (ht : X.take i = List.replicate i v) (h : i + m ≤ c) :
  (List.replicate i v ++ List.replicate m v ++ X.drop (i + m)).length = c ∧ (List.replicate i v ++ List.replicate m v ++ X.drop (i + m)).take (i + m) = List.replicate (i + m) v := by
 refine ⟨by simp; omega, ?_⟩
 rw [List.take_left' (by simp), List.replicate_append_replicate]
theorem i_Repeat1 {c : Nat} (hc : c ≤ 13) (h1 : 1 ≤ c) : CallOk Tryz.prog 106 [.sl 52 [rI 64 0] [] true, .int .i64 c] (.own 52 (ratL 64 (List.replicate c 0)) [] true) [] := by
  have hm := w_Mul (c := c) hc
  have hrep : ratL 64 (List.replicate c 0) = List.replicate c (rI 64 0) := by rw [ratL, List.map_replicate]
  rw [hrep]
  (refine callOk_of_wpc (W := fun _ => false) true hm' Tryz.func106 rfl (by kernel_rfl) (Nat.le_of_ble_eq_true rfl) (go_start ?_); generalize hQ : Post Tryz.prog Tryz.f106 _ _ _ _ _ = Q; simp only [stIn, matL, matA, st00])
  have u1 : Tryz.prog.underlying 118 = some (.int .u64) := by kernel_rfl
  have u2 : okT Tryz.prog 118 = true := by kernel_rfl
  have w1 : IntKind.u64.wrap (c : Int) = c := by simp only [IntKind.wrap, IntKind.signed, IntKind.bits, Bool.false_and, Bool.false_eq_true, if_false]; omega
  have w2 : IntKind.u64.wrap 1 = 1 := by decide
  have w3 : IntKind.u64.wrap ((1 : Nat) : Int) = 1 := by decide
  simp (disch := omega) only [go_sem, ↓k_cond, ↓x_idx, ↓k_block, Nat.reduceEqDiff, Nat.reduceBEq, ↓reduceIte, reduceCtorEq, hm, reach, u1, u2, w1, w2, w3, copyA, List.length_cons, List.length_nil, List.length_replicate, List.take_zero, List.nil_append]
  (repeat (with_reducible refine Or.inr ?_))
  refine k_loop (fun (p : Nat × List AV) st => st.fr 7 = .ref 0 c 0 c ∧ st.fr 8 = .int .i64 p.1 ∧ st.h 0 = ⟨52, p.2, true, true, true⟩ ∧ p.2.length = c ∧ p.2.take p.1 = List.replicate p.1 (rI 64 0) ∧ 1 ≤ p.1 ∧ p.1 ≤ c) (fun p => c - p.1) (1, rI 64 0 :: List.replicate (c - 1) (.agg [.bool false, .nil, .nil]))
    ⟨(by simp [upd_app] <;> omega), (by simp [upd_app] <;> omega), by simp [upd_app], by simp; omega, by simp, by simp, h1⟩ ?_
  rintro ⟨i, X⟩ ⟨fr, h, nx⟩ ⟨g7, g8, hm0, hl, ht, hi1, hi⟩ J hJ
  simp only at g7 g8 hm0 hl ht hi1 hi
  by_cases hin : i < c
  · by_cases hc2 : i ≤ c - i
    · obtain ⟨k1, k2⟩ := rep_step hl ht (m := i) (by omega)
      simp (disch := omega) only [go_sem, ↓k_cond, ↓x_idx, ↓k_block, Nat.reduceEqDiff, Nat.reduceBEq, ↓reduceIte, reduceCtorEq, g7, g8, hm0, hl, ht, copyA, List.length_replicate, List.drop_zero, Nat.sub_zero]
      (repeat (with_reducible refine Or.inr ?_))
      exact hJ (i + i, List.replicate i (rI 64 0) ++ List.replicate i (rI 64 0) ++ X.drop (i + i)) _ ⟨(by simp [upd_app, g7] <;> omega), (by simp [upd_app] <;> omega), (by simp [upd_app] <;> omega), k1, k2, by simp only; omega, by simp only; omega⟩ (by simp only; omega)
    · obtain ⟨k1, k2⟩ := rep_step hl ht (m := c - i) (by omega)
      have ht2 : X.take (c - i) = List.replicate (c - i) (rI 64 0) := by
        have := congrArg (List.take (c - i)) ht
        rwa [List.take_take, Nat.min_eq_left (by omega), List.take_replicate, Nat.min_eq_left (by omega)] at this
      simp (disch := omega) only [go_sem, ↓k_cond, ↓x_idx, ↓k_block, Nat.reduceEqDiff, Nat.reduceBEq, ↓reduceIte, reduceCtorEq, g7, g8, hm0, hl, ht, ht2, copyA, List.length_replicate, List.drop_zero, Nat.sub_zero]
      (repeat (with_reducible refine Or.inr ?_))
      exact hJ (i + (c - i), List.replicate i (rI 64 0) ++ List.replicate (c - i) (rI 64 0) ++ X.drop (i + (c - i))) _ ⟨(by simp [upd_app, g7] <;> omega), (by simp [upd_app] <;> omega), (by simp [upd_app] <;> omega), k1, k2, by simp only; omega, by simp only; omega⟩ (by simp only; omega)
  · obtain rfl : i = c := by omega
    rw [List.take_of_length_le (by omega)] at ht
    subst ht
    simp (disch := omega) only [go_sem, ↓k_cond, ↓x_idx, ↓k_block, Nat.reduceEqDiff, Nat.reduceBEq, ↓reduceIte, reduceCtorEq, g7, g8, hm0]
    rw [← hQ]
    exact post_own (id := 0) (n := i) (len := i) (.inl rfl) rfl (by simp [upd_app] <;> omega) (by simp [hm0]) (by simp [hm0]) (by simp [hm0]) (by simp [hm0]) (Nat.le_refl _) (by simp [hm0]) (by simp [hm0]) (by simp [hm0]) (by rw [← hrep]; simp) rfl
theorem c_nothing {n : Nat} (hn : n ≤ 13) (h1 : 1 ≤ n) : CallOk Tryz.prog 58 [.int .i64 n] (.own 52 (ratL 64 (List.replicate n 0)) [] true) [] := by
 have hw : CW Tryz.prog 33 [.int .i64 0] (rI 64 0) := w_whole (n := 0) (by omega) (by omega)
 (refine callOk_of_wpc (W := fun g => g == 106) true hm' Tryz.func58 rfl (by kernel_rfl) (Nat.le_of_ble_eq_true rfl) (go_start ?_); generalize hQ : Post Tryz.prog Tryz.f58 _ _ _ _ _ = Q; simp only [stIn, matL, matA, st00])
 simp (disch := omega) only [go_sem, ↓k_cond, ↓x_idx, ↓k_block, Nat.reduceEqDiff, Nat.reduceBEq, ↓reduceIte, reduceCtorEq, hw]
 (repeat (with_reducible refine Or.inr ?_))
 refine callW_O (i_Repeat1 (c := n) hn h1) (by kernel_rfl) (by simp [AV.pure, AV.pureL, natA_pure, natI_pure, natS_pure]) ratL_pure rfl rfl ?_
 simp only [List.length_nil, Nat.add_zero, List.append_nil, ratL_length, List.length_replicate]
 simp (disch := omega) only [go_sem, ↓k_cond, ↓x_idx, ↓k_block, Nat.reduceEqDiff, Nat.reduceBEq, ↓reduceIte, reduceCtorEq]
 rw [← hQ]
 exact post_own (id := 0) (n := n) (len := n) (.inl rfl) rfl (by simp [upd_app] <;> omega) (by simp [upd_app]) (by simp [upd_app, ratL_length]) (by simp [upd_app]) (by simp [upd_app]) (Nat.le_refl _) (by simp only [upd_app, if_true]; exact List.take_of_length_le (by rw [ratL_length, List.length_replicate]; exact Nat.le_refl _)) (by simp [upd_app, ratL_length]) (by simp [upd_app]) (by simp) rfl
attribute [go_sem] w_Mul
theorem c_times {m n M : Nat} {x y : List Rat} (hM : M ≤ 10000000) (hm : m ≤ 10000000) (hn : n ≤ 10000000) (hM0 : 0 < M) (hl : x.length ≤ 13) (hl2 : y.length ≤ 1000) (h1 : 1 ≤ x.length) (hp : ∀ k i, k < x.length → i ≤ k + 1 → fits M (pcv x y k i)) : CallOk Tryz.prog 70 [lI m x, lI n y] (.own 52 (ratL M (timL x y)) [] true) [] := by
  have hend := pcv_end (x := x) (y := y)
  obtain ⟨L, hL⟩ : ∃ n, x.length = n := ⟨_, rfl⟩
  obtain ⟨Ly, hLy⟩ : ∃ n, y.length = n := ⟨_, rfl⟩
  rw [← hend]
  rw [hL] at hl h1 hp ⊢
  rw [hLy] at hl2
  have hz := zeros_F (m := 64) (M := M) (L := L) (x := x) (y := y) (by decide) hM0
  (refine callOk_of_wpc (W := fun g => g == 58) true hm' Tryz.func70 rfl (by kernel_rfl) (Nat.le_of_ble_eq_true rfl) (go_start ?_); generalize hQ : Post Tryz.prog Tryz.f70 _ _ _ _ _ = Q; simp only [stIn, matL, matA, st00])
  simp (disch := omega) only [go_sem, ↓k_cond, ↓x_idx, ↓k_block, Nat.reduceEqDiff, Nat.reduceBEq, ↓reduceIte, reduceCtorEq, hL]
  refine callW_O (c_nothing (n := L) hl h1) (by kernel_rfl) (by simp [AV.pure, AV.pureL, natA_pure, natI_pure, natS_pure]) ratL_pure rfl rfl ?_
  simp only [List.length_nil, Nat.add_zero, List.append_nil, ratL_length, List.length_replicate]
  simp (disch := omega) only [go_sem, ↓k_cond, ↓x_idx, ↓k_block, Nat.reduceEqDiff, Nat.reduceBEq, ↓reduceIte, reduceCtorEq, hL]
  refine k_loop (fun (i : Nat) st => st.fr 0 = lI m x ∧ st.fr 1 = lI n y ∧ st.fr 5 = .ref 0 L 0 L ∧ st.fr 12 = lI m x ∧ st.fr 13 = .int .i64 L ∧ st.fr 14 = .int .i64 i ∧ st.h 0 = ⟨52, ratL M (mapF L (fun k => pcv x y k i)), true, true, true⟩ ∧ 0 < st.nx ∧ i ≤ L) (fun i => L - i) 0
    ⟨(by simp [upd_app] <;> omega), (by simp [upd_app] <;> omega), (by simp [upd_app] <;> omega), (by simp [upd_app] <;> omega), (by simp [upd_app] <;> omega), (by simp [upd_app] <;> omega), by simp only [upd_app, ↓reduceIte]; rw [hz], by simp, by omega⟩ ?_
  rintro i ⟨fr, h, nx⟩ ⟨g0, g1, g5, g12, g13, g14, hm0, hnx, hi⟩ J hJ
  simp only at g0 g1 g5 g12 g13 g14 hm0 hnx
  have n1 : (0 = nx) = False := by simp; omega
  have n2 : (nx = 0) = False := by simp; omega
  by_cases hin : i < L
  · obtain ⟨p, hpx⟩ := get_some (xs := x) (i := i) (by omega)
    have keyJ := hJ (i + 1)
    clear hJ
    simp (disch := omega) only [go_sem, ↓k_cond, ↓x_idx, ↓k_block, Nat.reduceEqDiff, Nat.reduceBEq, ↓reduceIte, reduceCtorEq, g0, g1, g5, g12, g13, g14, hpx]
    (repeat (with_reducible refine Or.inr ?_))
    refine k_loop (fun (j : Nat) st => st.fr 0 = lI m x ∧ st.fr 1 = lI n y ∧ st.fr 5 = .ref 0 L 0 L ∧ st.fr 6 = .int .i64 i ∧ st.fr 7 = .ptr nx 1 0 0 ∧ st.fr 8 = .int .i64 j ∧ st.fr 12 = lI m x ∧ st.fr 13 = .int .i64 L ∧ st.fr 14 = .int .i64 i ∧ st.h 0 = ⟨52, ratL M (mapF L (stT x y i j)), true, true, true⟩ ∧ st.h nx = ⟨52, [rI m p], true, false, true⟩ ∧ nx < st.nx ∧ j ≤ Ly ∧ i + j ≤ L) (fun j => Ly - j) 0
      ⟨(by simp [upd_app, g0] <;> omega), (by simp [upd_app, g1] <;> omega), (by simp [upd_app, g5] <;> omega), (by simp [upd_app] <;> omega), (by simp [upd_app] <;> omega), (by simp [upd_app] <;> omega), (by simp [upd_app, g12] <;> omega), (by simp [upd_app, g13] <;> omega), (by simp [upd_app, g14] <;> omega), by simp only [upd_app, ↓reduceIte, n1, hm0, stT_zero], by simp only [upd_app, ↓reduceIte], by simp, by omega, by omega⟩ ?_
    rintro j ⟨fr2, h2, nx2⟩ ⟨r0, r1, r5, r6, r7, r8, r12, r13, r14, m0, mx, hx2, hj, hij⟩ J2 hJ2
    simp only at r0 r1 r5 r6 r7 r8 r12 r13 r14 m0 mx hx2
    have hel : (ratL M (mapF L (stT x y i j))).length = L := by rw [ratL_length, mapF_len]
    by_cases c1 : j < Ly
    · by_cases c2 : i + j < L
      · obtain ⟨q, hq⟩ := get_some (xs := y) (i := j) (by omega)
        have hqk : ((i : Int) + (j : Int)).toNat = i + j := by omega
        have hat : (mapF L (stT x y i j))[i + j]? = some (pcv x y (i + j) i) := by rw [mapF_at c2, stT_at]
        have hst := pcv_step (x := x) (y := y) (k := i + j) (by omega) hpx (by rw [show i + j - i = j by omega]; exact hq)
        have hre : rI (M + (m + n) + 1) (pcv x y (i + j) i + p * q) = rI M (pcv x y (i + j) (i + 1)) := by
          rw [← hst]; exact rI_re (fits_mono (hp (i + j) (i + 1) c2 (by omega)) (by omega)) (hp (i + j) (i + 1) c2 (by omega))
        have hset : (ratL M (mapF L (stT x y i j))).set (i + j) (rI M (pcv x y (i + j) (i + 1))) = ratL M (mapF L (stT x y i (j + 1))) := by rw [ratL_put, stT_next]
        simp (disch := omega) only [go_sem, ↓k_cond, ↓x_idx, ↓k_block, Nat.reduceEqDiff, Nat.reduceBEq, ↓reduceIte, reduceCtorEq, r0, r1, r5, r6, r7, r8, r12, r13, r14, m0, mx, hq, hqk, hel, hat, hL, hLy, hre, hset]
        (repeat (with_reducible refine Or.inr ?_))
        exact hJ2 (j + 1) _ ⟨(by simp [upd_app, r0] <;> omega), (by simp [upd_app, r1] <;> omega), (by simp [upd_app, r5] <;> omega), (by simp [upd_app, r6] <;> omega), (by simp [upd_app, r7] <;> omega), (by simp [upd_app] <;> omega), (by simp [upd_app, r12] <;> omega), (by simp [upd_app, r13] <;> omega), (by simp [upd_app, r14] <;> omega), by simp only [upd_app, ↓reduceIte, n1, hset], by simp only [upd_app, ↓reduceIte, n2, mx], hx2, by omega, by omega⟩ (by first | omega | (simp only; omega))
      · have he := stT_end (x := x) (y := y) (L := L) (i := i) (j := j) (.inr (by omega))
        rw [he] at m0
        simp (disch := omega) only [go_sem, ↓k_cond, ↓x_idx, ↓k_block, Nat.reduceEqDiff, Nat.reduceBEq, ↓reduceIte, reduceCtorEq, r0, r1, r5, r6, r7, r8, r12, r13, r14, hL, hLy]
        exact keyJ _ ⟨(by simp [upd_app, r0] <;> omega), (by simp [upd_app, r1] <;> omega), (by simp [upd_app, r5] <;> omega), (by simp [upd_app, r12] <;> omega), (by simp [upd_app, r13] <;> omega), (by simp [upd_app] <;> omega), by simp only [m0], by simp only; omega, by omega⟩ (by omega)
    · have he := stT_end (x := x) (y := y) (L := L) (i := i) (j := j) (.inl (by omega))
      rw [he] at m0
      simp (disch := omega) only [go_sem, ↓k_cond, ↓x_idx, ↓k_block, Nat.reduceEqDiff, Nat.reduceBEq, ↓reduceIte, reduceCtorEq, r0, r1, r5, r6, r7, r8, r12, r13, r14, hL, hLy]
      exact keyJ _ ⟨(by simp [upd_app, r0] <;> omega), (by simp [upd_app, r1] <;> omega), (by simp [upd_app, r5] <;> omega), (by simp [upd_app, r12] <;> omega), (by simp [upd_app, r13] <;> omega), (by simp [upd_app] <;> omega), by simp only [m0], by simp only; omega, by omega⟩ (by omega)
  · obtain rfl : i = L := by omega
    simp (disch := omega) only [go_sem, ↓k_cond, ↓x_idx, ↓k_block, Nat.reduceEqDiff, Nat.reduceBEq, ↓reduceIte, reduceCtorEq, g0, g1, g5, g12, g13, g14, hL]
    rw [← hQ]
    exact post_own (id := 0) (n := i) (len := i) (.inl rfl) rfl (by simp [upd_app] <;> omega) (by simp [hm0]) (by simp [hm0, ratL_length, mapF_len]) (by simp [hm0]) (by simp [hm0]) (Nat.le_refl _) (by simp only [hm0]; exact List.take_of_length_le (by rw [ratL_length, mapF_len]; exact Nat.le_refl _)) (by simp only [hm0, ↓reduceIte]; exact List.drop_eq_nil_of_le (by rw [ratL_length, mapF_len]; exact Nat.le_refl _)) (by simp [hm0]) (by simp) rfl
theorem w_times {m n M : Nat} {x y : List Rat} (hM : M ≤ 10000000) (hm : m ≤ 10000000) (hn : n ≤ 10000000) (hM0 : 0 < M) (hl : x.length ≤ 13) (hl2 : y.length ≤ 1000) (h1 : 1 ≤ x.length) (hp : ∀ k i, k < x.length → i ≤ k + 1 → fits M (pcv x y k i)) : CW Tryz.prog 70 [lI m x, lI n y] (lI M (timL x y)) :=
 cw (by kernel_rfl) (by simp [AV.pure, AV.pureL, natA_pure, natI_pure, natS_pure]) (by simp [AV.pure, AV.pureL, natA_pure, natI_pure, natS_pure]) ((c_times hM hm hn hM0 hl hl2 h1 hp).freeze1 (by simp))
attribute [go_sem] w_times
theorem w_unit {n : Nat} (hn : n ≤ 13) (h1 : 1 ≤ n) : CW Tryz.prog 72 [.int .i64 n] (lI 64 (oneL n)) := by
 refine cw (by kernel_rfl) (by simp [AV.pure, AV.pureL, natA_pure, natI_pure, natS_pure]) (by simp [AV.pure, AV.pureL, natA_pure, natI_pure, natS_pure]) ?_
 have hw : CW Tryz.prog 33 [.int .i64 1] (rI 64 1) := w_whole (n := 1) (by omega) (by omega)
 have hel : (ratL 64 (List.replicate n 0)).length = n := by rw [ratL_length, List.length_replicate]
 have hg : (List.replicate n (0 : Rat))[Int.toNat 0]? = some 0 := by
  rw [List.getElem?_replicate, if_pos (show Int.toNat 0 < n from h1)]
 have hset2 : (ratL 64 (List.replicate n 0)).set (Int.toNat 0) (rI 64 1) = ratL 64 (oneL n) := by
  show (ratL 64 (List.replicate n 0)).set 0 (rI 64 1) = ratL 64 (oneL n)
  rw [ratL_put, oneL_set h1]
 (refine callOk_of_wpc (W := fun g => g == 58) false hm' Tryz.func72 rfl (by kernel_rfl) (Nat.le_of_ble_eq_true rfl) (go_start ?_); generalize hQ : Post Tryz.prog Tryz.f72 _ _ _ _ _ = Q; simp only [stIn, matL, matA, st00])
 simp (disch := omega) only [go_sem, ↓k_cond, ↓x_idx, ↓k_block, Nat.reduceEqDiff, Nat.reduceBEq, ↓reduceIte, reduceCtorEq]
 refine callW_O (c_nothing (n := n) hn h1) (by kernel_rfl) (by simp [AV.pure, AV.pureL, natA_pure, natI_pure, natS_pure]) ratL_pure rfl rfl ?_
 simp only [List.length_nil, Nat.add_zero, List.append_nil, ratL_length, List.length_replicate]
 simp (disch := omega) only [go_sem, ↓k_cond, ↓x_idx, ↓k_block, Nat.reduceEqDiff, Nat.reduceBEq, ↓reduceIte, reduceCtorEq, hw, hel, hg, hset2]
 (repeat (with_reducible refine Or.inr ?_))
 rw [← hQ]
 exact post_frozen (id := 0) (n := n) (off := 0) (len := n) (.inl rfl) rfl (by simp [upd_app] <;> omega) (by simp [upd_app]) (by simp [upd_app, ratL_length, oneL, mapF_len]) (by simp [upd_app]) (by omega) (Nat.zero_le _) (by simp only [upd_app, if_true, List.drop_zero]; exact List.take_of_length_le (by rw [ratL_length, oneL, mapF_len]; exact Nat.le_refl _)) (by simp [AV.pure, AV.pureL, natA_pure, natI_pure, natS_pure])
attribute [go_sem] w_unit
theorem w_powerSeries {x : List Rat} {n : Nat} (hx : ∀ q ∈ x, fits 700 q) (hl : x.length ≤ 13) (h1 : 1 ≤ x.length) (hn : n ≤ 20) : CW Tryz.prog 104 [lI 700 x, .int .i64 n] (lI bigP (powL x n)) := by
  refine cw (by kernel_rfl) (by simp [AV.pure, AV.pureL, natA_pure, natI_pure, natS_pure]) (by simp [AV.pure, AV.pureL, natA_pure, natI_pure, natS_pure]) ?_
  obtain ⟨L, hL⟩ : ∃ n, x.length = n := ⟨_, rfl⟩
  have hone := w_unit (n := L) (by omega) (by omega)
  have hB : bigP = 262144 := rfl
  have h0 : lI 64 (oneL L) = lI bigP (powL x 0) := by
    have : ratL 64 (powL x 0) = ratL bigP (powL x 0) := List.map_congr_left fun q hq => by
      have h := (pow_fits hx hl h1 (n := 0) (by omega)).1 q hq
      have hq1 : fits 64 q := by
        have := oneL_cd q hq
        exact cd_fits this (by decide) (by decide) (by decide)
      exact rI_re hq1 h
    rw [lI, lI, ← this, powL, hL]
  have ht := fun k (hk : k < 20) => w_times (m := bigP) (n := 700) (M := bigP) (x := powL x k) (y := x) (by omega) (by omega) (by omega) (by omega) (by rw [powL_len]; omega) (by omega) (by rw [powL_len]; exact h1) (fun a i ha hi => (pow_fits hx hl h1 (n := k) (by omega)).2 a i (by rw [powL_len] at ha; omega) hk)
  (refine callOk_of_wpc (W := fun _ => false) false hm' Tryz.func104 rfl (by kernel_rfl) (Nat.le_of_ble_eq_true rfl) (go_start ?_); generalize hQ : Post Tryz.prog Tryz.f104 _ _ _ _ _ = Q; simp only [stIn, matL, matA, st00])
  simp (disch := omega) only [go_sem, ↓k_cond, ↓x_idx, ↓k_block, Nat.reduceEqDiff, Nat.reduceBEq, ↓reduceIte, reduceCtorEq, hL, hone]
  (repeat (with_reducible refine Or.inr ?_))
  refine k_loop (fun (k : Nat) st => st.fr 0 = lI 700 x ∧ st.fr 9 = .int .i64 n ∧ st.fr 10 = .int .i64 k ∧ st.fr 5 = lI bigP (powL x k) ∧ k ≤ n) (fun k => n - k) 0 ⟨(by simp [upd_app] <;> omega), (by simp [upd_app] <;> omega), (by simp [upd_app] <;> omega), by rw [← h0]; simp [upd_app], by omega⟩ ?_
  rintro k ⟨fr, h, nx⟩ ⟨g0, g9, g10, g5, hk⟩ J hJ
  simp only at g0 g9 g10 g5
  by_cases hin : k < n
  · have htk := ht k (by omega)
    have hpow : timL (powL x k) x = powL x (k + 1) := rfl
    rw [hpow] at htk
    simp (disch := omega) only [go_sem, ↓k_cond, ↓x_idx, ↓k_block, Nat.reduceEqDiff, Nat.reduceBEq, ↓reduceIte, reduceCtorEq, g0, g9, g10, g5, htk]
    (repeat (with_reducible refine Or.inr ?_))
    exact hJ (k + 1) _ ⟨(by simp [upd_app, g0] <;> omega), (by simp [upd_app, g9] <;> omega), (by simp [upd_app] <;> omega), (by simp [upd_app] <;> omega), hin⟩ (by omega)
  · obtain rfl : k = n := by omega
    simp (disch := omega) only [go_sem, ↓k_cond, ↓x_idx, ↓k_block, Nat.reduceEqDiff, Nat.reduceBEq, ↓reduceIte, reduceCtorEq, g0, g9, g10, g5]
    rw [← hQ]
    exact post_one (.inl rfl) rfl (by simp [upd_app] <;> omega) (by simp [AV.pure, AV.pureL, natA_pure, natI_pure, natS_pure])
attribute [go_sem] w_powerSeries
def shfF (x : List Rat) (d k : Nat) : Rat := if k < d then 0 else x.getD (k - d) 0
def shfL (x : List Rat) (d : Nat) : List Rat := mapF x.length (shfF x d)
theorem fits_zero700 : fits 700 (0 : Rat) := fits_mono (fits_int (n := 0) (k := 64) (by decide) (by decide)) (by decide)
theorem w_l08Shift {x : List Rat} {d : Nat} (hx : ∀ q ∈ x, fits 700 q) (hl : x.length ≤ 1000) (h1 : 1 ≤ x.length) (hd : d ≤ 1000) : CW Tryz.prog 57 [lS 700 x, .int .i64 d] (lS 700 (shfL x d)) := by
  refine cw (by kernel_rfl) (by simp [AV.pure, AV.pureL, natA_pure, natI_pure, natS_pure]) (by simp [AV.pure, AV.pureL, natA_pure, natI_pure, natS_pure]) ?_
  obtain ⟨L, hL⟩ : ∃ n, x.length = n := ⟨_, rfl⟩
  rw [shfL]
  rw [hL] at hl h1 ⊢
  have h0 : rS 64 0 = rS 700 0 := rS_re (fits_int (n := 0) (by decide) (by decide)) fits_zero700
  (refine callOk_of_wpc (W := fun _ => false) false hm' Tryz.func57 rfl (by kernel_rfl) (Nat.le_of_ble_eq_true rfl) (go_start ?_); generalize hQ : Post Tryz.prog Tryz.f57 _ _ _ _ _ = Q; simp only [stIn, matL, matA, st00])
  simp (disch := omega) only [go_sem, ↓k_cond, ↓x_idx, ↓k_block, Nat.reduceEqDiff, Nat.reduceBEq, ↓reduceIte, reduceCtorEq, hL]
  refine k_loop (fun (k : Nat) st => st.fr 0 = lS 700 x ∧ st.fr 1 = .int .i64 d ∧ st.fr 5 = .ref 0 k 0 k ∧ st.fr 6 = .int .i64 k ∧ st.h 0 = ⟨39, ratM 700 (mapF k (shfF x d)), (k == 0), true, true⟩ ∧ 0 < st.nx ∧ (k ≤ L)) (fun (k : Nat) => L - k) (0)
    ⟨(by simp [upd_app, ratM, mapF] <;> omega), (by simp [upd_app, ratM, mapF] <;> omega), (by simp [upd_app, ratM, mapF] <;> omega), (by simp [upd_app, ratM, mapF] <;> omega), (by simp [upd_app, ratM, mapF] <;> omega), (by simp <;> omega), by omega⟩ ?_
  rintro k ⟨fr, h, nx⟩ ⟨g0, g1, g5, g6, hm0, hnx, hk⟩ J hJ
  simp only at g0 g1 g5 g6 hm0 hnx
  by_cases hin : k < L
  · have hel : (ratM 700 (mapF k (shfF x d))).length = k := by rw [ratM_length, mapF_len]
    have hz1 : (k + 1 == 0) = false := by simp
    by_cases hkd : k < d
    · have hsn : ratM 700 (mapF k (shfF x d)) ++ [rS 64 0] = ratM 700 (mapF (k + 1) (shfF x d)) := by rw [h0, mapF_succ, ratM_snoc, shfF, if_pos hkd]
      simp (disch := omega) only [go_sem, ↓k_cond, ↓x_idx, ↓k_block, Nat.reduceEqDiff, Nat.reduceBEq, ↓reduceIte, reduceCtorEq, g0, g1, g5, g6, hL, hm0, hel, reach]
      (repeat (with_reducible refine Or.inr ?_))
      exact hJ (k + 1) _ ⟨(by simp [upd_app, g0] <;> omega), (by simp [upd_app, g1] <;> omega), (by simp [upd_app] <;> omega), (by simp [upd_app] <;> omega), by simp only [upd_app, ↓reduceIte, Nat.reduceEqDiff, hsn, hz1], by simp only; omega, by omega⟩ (by first | omega | (simp only; omega))
    · obtain ⟨q, hq⟩ := get_some (xs := x) (i := k - d) (by omega)
      have hqk : ((k : Int) - (d : Int)).toNat = k - d := by omega
      have hsn : ratM 700 (mapF k (shfF x d)) ++ [rS 700 q] = ratM 700 (mapF (k + 1) (shfF x d)) := by rw [mapF_succ, ratM_snoc, shfF, if_neg hkd, getD_of hq]
      simp (disch := omega) only [go_sem, ↓k_cond, ↓x_idx, ↓k_block, Nat.reduceEqDiff, Nat.reduceBEq, ↓reduceIte, reduceCtorEq, g0, g1, g5, g6, hL, hm0, hel, hq, hqk, reach]
      (repeat (with_reducible refine Or.inr ?_))
      exact hJ (k + 1) _ ⟨(by simp [upd_app, g0] <;> omega), (by simp [upd_app, g1] <;> omega), (by simp [upd_app] <;> omega), (by simp [upd_app] <;> omega), by simp only [upd_app, ↓reduceIte, Nat.reduceEqDiff, hsn, hz1], by simp only; omega, by omega⟩ (by first | omega | (simp only; omega))
  · obtain rfl : k = L := by omega
    simp (disch := omega) only [go_sem, ↓k_cond, ↓x_idx, ↓k_block, Nat.reduceEqDiff, Nat.reduceBEq, ↓reduceIte, reduceCtorEq, g0, g1, g5, g6, hL]
    rw [← hQ]
    exact post_frozen (id := 0) (n := k) (off := 0) (len := k) (.inl rfl) rfl (by simp [upd_app] <;> omega) (by simp [hm0]) (by simp [hm0, ratM_length, mapF_len]) (by simp [hm0]) (by omega) (Nat.zero_le _) (by simp only [hm0, List.drop_zero]; exact List.take_of_length_le (by rw [ratM_length, mapF_len]; exact Nat.le_refl _)) (by simp [AV.pure, AV.pureL, natA_pure, natI_pure, natS_pure])
attribute [go_sem] w_l08Shift
theorem t_rows : elT Tryz.prog 132 = some 46 := by kernel_rfl
theorem o_rats : okT Tryz.prog 46 = true := by kernel_rfl
theorem g_rats : aggT Tryz.prog 46 = false := by kernel_rfl
theorem in_rats : (Tryz.prog.info? 46).isSome = true := by kernel_rfl
theorem s_rats : szT Tryz.prog 46 = 1 := by kernel_rfl
theorem zk_rats : zokT Tryz.prog 46 = true := by kernel_rfl
theorem u_rats : u32T Tryz.prog 46 = false := by kernel_rfl
theorem el_rats {t : Nat} {xs sp : List AV} {ex : Bool} : AV.el Tryz.prog 46 (.sl t xs sp ex) = true := by simp [AV.el, s_rats, AV.cells, AV.one]
attribute [go_sem] t_rows o_rats g_rats in_rats s_rats zk_rats u_rats el_rats
theorem i_Repeat0 : CallOk Tryz.prog 106 [.sl 52 [rI 64 0] [] true, .int .i64 0] (.own 52 [] [] true) [] := by
 have hm : CW Tryz.prog 129 [.int .u64 1, .int .u64 0] (.tup [.int .u64 0, .int .u64 0]) := w_Mul (c := 0) (by omega)
 (refine callOk_of_wpc (W := fun _ => false) true hm' Tryz.func106 rfl (by kernel_rfl) (Nat.le_of_ble_eq_true rfl) (go_start ?_); generalize hQ : Post Tryz.prog Tryz.f106 _ _ _ _ _ = Q; simp only [stIn, matL, matA, st00])
 have u1 : Tryz.prog.underlying 118 = some (.int .u64) := by kernel_rfl
 have u2 : okT Tryz.prog 118 = true := by kernel_rfl
 have w1 : IntKind.u64.wrap 0 = 0 := by decide
 have w2 : IntKind.u64.wrap 1 = 1 := by decide
 have w3 : IntKind.u64.wrap ((1 : Nat) : Int) = 1 := by decide
 simp (disch := omega) only [go_sem, ↓k_cond, ↓x_idx, ↓k_block, Nat.reduceEqDiff, Nat.reduceBEq, ↓reduceIte, reduceCtorEq, hm, reach, u1, u2, w1, w2, w3, copyA, List.length_cons, List.length_nil, List.length_replicate, List.take_zero, List.nil_append]
 (repeat (with_reducible refine Or.inr ?_))
 refine k_loop (fun (_ : Nat) st => st.fr 7 = .ref 0 0 0 0 ∧ st.fr 8 = .int .i64 0 ∧ st.h 0 = ⟨52, [], true, true, true⟩) (fun i => i) 0 ⟨(by simp [upd_app] <;> omega), (by simp [upd_app] <;> omega), by simp [upd_app]⟩ ?_
 rintro i ⟨fr, h, nx⟩ ⟨g7, g8, hm0⟩ J hJ
 simp only at g7 g8 hm0
 simp (disch := omega) only [go_sem, ↓k_cond, ↓x_idx, ↓k_block, Nat.reduceEqDiff, Nat.reduceBEq, ↓reduceIte, reduceCtorEq, g7, g8, hm0]
 rw [← hQ]
 exact post_own (id := 0) (n := 0) (len := 0) (.inl rfl) rfl (by simp [upd_app] <;> omega) (by simp [hm0]) (by simp [hm0]) (by simp [hm0]) (by simp [hm0]) (Nat.le_refl _) (by simp [hm0]) (by simp [hm0]) (by simp [hm0]) rfl rfl
theorem c_nothing0 : CallOk Tryz.prog 58 [.int .i64 0] (lI 64 []) [] := by
 have hw : CW Tryz.prog 33 [.int .i64 0] (rI 64 0) := w_whole (n := 0) (by omega) (by omega)
 (refine callOk_of_wpc (W := fun g => g == 106) false hm' Tryz.func58 rfl (by kernel_rfl) (Nat.le_of_ble_eq_true rfl) (go_start ?_); generalize hQ : Post Tryz.prog Tryz.f58 _ _ _ _ _ = Q; simp only [stIn, matL, matA, st00])
 simp (disch := omega) only [go_sem, ↓k_cond, ↓x_idx, ↓k_block, Nat.reduceEqDiff, Nat.reduceBEq, ↓reduceIte, reduceCtorEq, hw]
 (repeat (with_reducible refine Or.inr ?_))
 refine callW_O i_Repeat0 (by kernel_rfl) (by simp [AV.pure, AV.pureL, natA_pure, natI_pure, natS_pure]) rfl rfl rfl ?_
 simp only [List.length_nil, Nat.add_zero, List.append_nil]
 simp (disch := omega) only [go_sem, ↓k_cond, ↓x_idx, ↓k_block, Nat.reduceEqDiff, Nat.reduceBEq, ↓reduceIte, reduceCtorEq]
 rw [← hQ]
 exact post_frozen (id := 0) (n := 0) (off := 0) (len := 0) (.inl rfl) rfl (by simp [upd_app] <;> omega) (by simp [upd_app]) (by simp [upd_app]) (by simp [upd_app]) (by omega) (Nat.zero_le _) (by simp [upd_app, ratL]) (by simp [AV.pure, AV.pureL, natA_pure, natI_pure, natS_pure])
theorem w_nothing {n : Nat} (hn : n ≤ 13) : CW Tryz.prog 58 [.int .i64 n] (lI 64 (List.replicate n 0)) := by
  refine cw (by kernel_rfl) (by simp [AV.pure, AV.pureL, natA_pure, natI_pure, natS_pure]) (by simp [AV.pure, AV.pureL, natA_pure, natI_pure, natS_pure]) ?_
  rcases Nat.eq_zero_or_pos n with rfl | h1
  · exact c_nothing0
  · have hw : CW Tryz.prog 33 [.int .i64 0] (rI 64 0) := w_whole (n := 0) (by omega) (by omega)
    (refine callOk_of_wpc (W := fun g => g == 106) false hm' Tryz.func58 rfl (by kernel_rfl) (Nat.le_of_ble_eq_true rfl) (go_start ?_); generalize hQ : Post Tryz.prog Tryz.f58 _ _ _ _ _ = Q; simp only [stIn, matL, matA, st00])
    simp (disch := omega) only [go_sem, ↓k_cond, ↓x_idx, ↓k_block, Nat.reduceEqDiff, Nat.reduceBEq, ↓reduceIte, reduceCtorEq, hw]
    (repeat (with_reducible refine Or.inr ?_))
    refine callW_O (i_Repeat1 (c := n) hn h1) (by kernel_rfl) (by simp [AV.pure, AV.pureL, natA_pure, natI_pure, natS_pure]) ratL_pure rfl rfl ?_
    simp only [List.length_nil, Nat.add_zero, List.append_nil, ratL_length, List.length_replicate]
    simp (disch := omega) only [go_sem, ↓k_cond, ↓x_idx, ↓k_block, Nat.reduceEqDiff, Nat.reduceBEq, ↓reduceIte, reduceCtorEq]
    rw [← hQ]
    exact post_frozen (id := 0) (n := n) (off := 0) (len := n) (.inl rfl) rfl (by simp [upd_app] <;> omega) (by simp [upd_app]) (by simp [upd_app, ratL_length]) (by simp [upd_app]) (by omega) (Nat.zero_le _) (by simp only [upd_app, if_true, List.drop_zero]; exact List.take_of_length_le (by rw [ratL_length, List.length_replicate]; exact Nat.le_refl _)) (by simp [AV.pure, AV.pureL, natA_pure, natI_pure, natS_pure])
theorem c_Grow {s : Nat} (h1 : 1 ≤ s) (hs : s ≤ 1000) : CallOk Tryz.prog 130 [.nil, .int .i64 s] (.own 52 [] [] false) [] := by
 have cnt : cntT Tryz.prog 3 = true := by kernel_rfl
 (refine callOk_of_wpc (W := fun _ => false) true hm' Tryz.func130 rfl (by kernel_rfl) (Nat.le_of_ble_eq_true rfl) (go_start ?_); generalize hQ : Post Tryz.prog Tryz.f130 _ _ _ _ _ = Q; simp only [stIn, matL, matA, st00])
 have en : elT Tryz.prog 3 = none := by kernel_rfl
 simp (disch := omega) only [go_sem, ↓k_cond, ↓x_idx, ↓k_block, Nat.reduceEqDiff, Nat.reduceBEq, ↓reduceIte, reduceCtorEq, reach, appendN, cnt, en, Int.sub_zero, List.length_replicate]
 rw [← hQ]
 exact post_own (id := 0) (n := s) (len := 0) (.inl rfl) rfl (by simp [upd_app] <;> omega) (by simp [upd_app]) (by simp [upd_app]) (by simp [upd_app]) (by simp [upd_app]) (Nat.zero_le _) (by simp [upd_app]) (by simp [upd_app]) (by simp [upd_app]) rfl rfl
def cutN (a b i : Nat) : Nat := if i = 0 then 0 else if i = 1 then a else a + b
def catL (a b : List AV) (i : Nat) : List AV := if i = 0 then [] else if i = 1 then a else a ++ b
attribute [go_sem] w_nothing
theorem w_Concat {a b : List Rat} {m n : Nat} (hl : a.length + b.length ≤ 1000) (h1 : 1 ≤ a.length + b.length) : CW Tryz.prog 109 [.sl 46 [lI m a, lI n b] [] true] (.sl 52 (ratL m a ++ ratL n b) [] false) := by
  refine cw (by kernel_rfl) (by simp [AV.pure, AV.pureL]) (by simp [AV.pure, AV.pureL, pureL_append]) ?_
  obtain ⟨la, hla⟩ : ∃ k, a.length = k := ⟨_, rfl⟩
  obtain ⟨lb, hlb⟩ : ∃ k, b.length = k := ⟨_, rfl⟩
  rw [hla, hlb] at hl h1
  have e0 : cutN la lb 0 = 0 := rfl
  have e1 : cutN la lb 1 = la := rfl
  have e2 : cutN la lb 2 = la + lb := rfl
  have c0 : catL (ratL m a) (ratL n b) 0 = [] := rfl
  have c1 : catL (ratL m a) (ratL n b) 1 = ratL m a := rfl
  have c2 : catL (ratL m a) (ratL n b) 2 = ratL m a ++ ratL n b := rfl
  (refine callOk_of_wpc (W := fun g => g == 130) false hm' Tryz.func109 rfl (by kernel_rfl) (Nat.le_of_ble_eq_true rfl) (go_start ?_); generalize hQ : Post Tryz.prog Tryz.f109 _ _ _ _ _ = Q; simp only [stIn, matL, matA, st00])
  simp (disch := omega) only [go_sem, ↓k_cond, ↓x_idx, ↓k_block, Nat.reduceEqDiff, Nat.reduceBEq, ↓reduceIte, reduceCtorEq]
  refine k_loop (fun (i : Nat) st => st.fr 0 = .sl 46 [lI m a, lI n b] [] true ∧ st.fr 3 = .int .i64 (cutN la lb i) ∧ st.fr 9 = .sl 46 [lI m a, lI n b] [] true ∧ st.fr 10 = .int .i64 2 ∧ st.fr 11 = .int .i64 i ∧ st.nx = 0 ∧ i ≤ 2) (fun i => 2 - i) 0 ⟨(by simp [upd_app] <;> omega), (by simp [upd_app, e0] <;> omega), (by simp [upd_app] <;> omega), (by simp [upd_app] <;> omega), (by simp [upd_app] <;> omega), rfl, by omega⟩ ?_
  rintro i ⟨fr, h, nx⟩ ⟨g0, g3, g9, g10, g11, gx, hi⟩ J hJ
  simp only at g0 g3 g9 g10 g11 gx
  by_cases hin : i < 2
  · rcases (show i = 0 ∨ i = 1 by omega) with rfl | rfl
    · rw [e0] at g3
      simp (disch := omega) only [go_sem, ↓k_cond, ↓x_idx, ↓k_block, Nat.reduceEqDiff, Nat.reduceBEq, ↓reduceIte, reduceCtorEq, g0, g3, g9, g10, g11, ratL_length, hla]
      exact hJ 1 _ ⟨(by simp [upd_app, g0] <;> omega), (by simp [upd_app, e1] <;> omega), (by simp [upd_app, g9] <;> omega), (by simp [upd_app, g10] <;> omega), (by simp [upd_app] <;> omega), gx, by omega⟩ (by omega)
    · rw [e1] at g3
      simp (disch := omega) only [go_sem, ↓k_cond, ↓x_idx, ↓k_block, Nat.reduceEqDiff, Nat.reduceBEq, ↓reduceIte, reduceCtorEq, g0, g3, g9, g10, g11, ratL_length, hlb]
      exact hJ 2 _ ⟨(by simp [upd_app, g0] <;> omega), by simp [upd_app, e2], (by simp [upd_app, g9] <;> omega), (by simp [upd_app, g10] <;> omega), (by simp [upd_app] <;> omega), gx, by omega⟩ (by omega)
  · obtain rfl : i = 2 := by omega
    rw [e2] at g3
    subst gx
    simp (disch := omega) only [go_sem, ↓k_cond, ↓x_idx, ↓k_block, Nat.reduceEqDiff, Nat.reduceBEq, ↓reduceIte, reduceCtorEq, g0, g3, g9, g10, g11]
    refine callW_O (c_Grow (s := la + lb) h1 hl) (by kernel_rfl) (by simp [AV.pure, AV.pureL, natA_pure, natI_pure, natS_pure]) rfl rfl rfl ?_
    simp only [List.length_nil, Nat.add_zero, List.append_nil]
    simp (disch := omega) only [go_sem, ↓k_cond, ↓x_idx, ↓k_block, Nat.reduceEqDiff, Nat.reduceBEq, ↓reduceIte, reduceCtorEq, g0]
    refine k_loop (fun (i : Nat) st => st.fr 6 = .ref 0 (cutN la lb i) 0 (cutN la lb i) ∧ st.fr 25 = .sl 46 [lI m a, lI n b] [] true ∧ st.fr 26 = .int .i64 2 ∧ st.fr 27 = .int .i64 i ∧ st.h 0 = ⟨52, catL (ratL m a) (ratL n b) i, false, true, true⟩ ∧ i ≤ 2) (fun i => 2 - i) 0 ⟨(by simp [upd_app, e0] <;> omega), (by simp [upd_app] <;> omega), (by simp [upd_app] <;> omega), (by simp [upd_app] <;> omega), by simp [upd_app, c0], by omega⟩ ?_
    rintro i ⟨fr, h, nx⟩ ⟨g6, g25, g26, g27, hm, hi⟩ J hJ
    simp only at g6 g25 g26 g27 hm
    by_cases hin : i < 2
    · rcases (show i = 0 ∨ i = 1 by omega) with rfl | rfl
      · rw [e0] at g6
        rw [c0] at hm
        by_cases hz : la = 0
        · subst hz
          have ha0 : ratL m a = [] := by rw [ratL, List.map_eq_nil_iff]; exact List.length_eq_zero_iff.1 (by omega)
          simp (disch := omega) only [go_sem, ↓k_cond, ↓x_idx, ↓k_block, Nat.reduceEqDiff, Nat.reduceBEq, ↓reduceIte, reduceCtorEq, g6, g25, g26, g27, hm, ha0, reach]
          exact hJ 1 _ ⟨by simp [upd_app, e1], (by simp [upd_app, g25] <;> omega), (by simp [upd_app, g26] <;> omega), (by simp [upd_app] <;> omega), by simp [upd_app, catL, ha0, hm], by omega⟩ (by omega)
        · simp (disch := omega) only [go_sem, ↓k_cond, ↓x_idx, ↓k_block, Nat.reduceEqDiff, Nat.reduceBEq, ↓reduceIte, reduceCtorEq, g6, g25, g26, g27, hm, ratL_length, hla, reach]
          exact hJ 1 _ ⟨by simp [upd_app, e1], (by simp [upd_app, g25] <;> omega), (by simp [upd_app, g26] <;> omega), (by simp [upd_app] <;> omega), by simp [upd_app, c1], by omega⟩ (by omega)
      · rw [e1] at g6
        rw [c1] at hm
        have hal : (ratL m a).length = la := by rw [ratL_length, hla]
        by_cases hz : lb = 0
        · subst hz
          have hb0 : ratL n b = [] := by rw [ratL, List.map_eq_nil_iff]; exact List.length_eq_zero_iff.1 (by omega)
          have htk : List.take la (ratL m a) = ratL m a := List.take_of_length_le (by omega)
          have hdr : List.drop la (ratL m a) = [] := List.drop_eq_nil_of_le (by omega)
          simp (disch := omega) only [go_sem, ↓k_cond, ↓x_idx, ↓k_block, Nat.reduceEqDiff, Nat.reduceBEq, ↓reduceIte, reduceCtorEq, g6, g25, g26, g27, hm, hal, hb0, htk, hdr, reach]
          exact hJ 2 _ ⟨by simp [upd_app, e2], (by simp [upd_app, g25] <;> omega), (by simp [upd_app, g26] <;> omega), (by simp [upd_app] <;> omega), by simp [upd_app, catL, hb0, hm, htk, hdr], by omega⟩ (by omega)
        · simp (disch := omega) only [go_sem, ↓k_cond, ↓x_idx, ↓k_block, Nat.reduceEqDiff, Nat.reduceBEq, ↓reduceIte, reduceCtorEq, g6, g25, g26, g27, hm, hal, ratL_length, hlb, reach]
          exact hJ 2 _ ⟨by simp [upd_app, e2], (by simp [upd_app, g25] <;> omega), (by simp [upd_app, g26] <;> omega), (by simp [upd_app] <;> omega), by simp [upd_app, c2], by omega⟩ (by omega)
    · obtain rfl : i = 2 := by omega
      rw [e2] at g6
      rw [c2] at hm
      have hal : (ratL m a ++ ratL n b).length = la + lb := by rw [List.length_append, ratL_length, ratL_length, hla, hlb]
      simp (disch := omega) only [go_sem, ↓k_cond, ↓x_idx, ↓k_block, Nat.reduceEqDiff, Nat.reduceBEq, ↓reduceIte, reduceCtorEq, g6, g25, g26, g27]
      rw [← hQ]
      exact post_frozen (id := 0) (n := la + lb) (off := 0) (len := la + lb) (.inl rfl) rfl (by simp [upd_app] <;> omega) (by simp [hm]) (by simp only [hm]; exact hal) (by simp [hm]) (by omega) (Nat.zero_le _) (by simp only [hm, List.drop_zero]; exact List.take_of_length_le (by omega)) (by simp [pureL_append])
attribute [go_sem] w_Concat
theorem c_fitted {x : List Rat} {t : Nat} (hx : ∀ q ∈ x, fits 700 q) (hl : x.length ≤ 13) (h1 : 1 ≤ t) (ht : t ≤ 13) : CallOk Tryz.prog 69 [lI 700 x, .int .i64 t] (lI 700 (fitL x t)) [] := by
 have hn := w_nothing (n := t) (by omega)
 have hcat := w_Concat (a := x) (b := List.replicate t 0) (m := 700) (n := 64) (by simp; omega) (by simp; omega)
 have h64 : ratL 64 (List.replicate t 0) = ratL 700 (List.replicate t 0) := List.map_congr_left fun q hq => by
  obtain rfl := List.eq_of_mem_replicate hq
  exact rI_re (fits_int (n := 0) (by decide) (by decide)) fits_zero700
 have happ : ratL 700 x ++ ratL 64 (List.replicate t 0) = ratL 700 (x ++ List.replicate t 0) := by rw [h64, ratL, ratL, ratL, List.map_append]
 rw [happ] at hcat
 have hlen : (ratL 700 (x ++ List.replicate t 0)).length = x.length + t := by rw [ratL_length]; simp
 have htk : List.take t (ratL 700 (x ++ List.replicate t 0)) = ratL 700 (fitL x t) := by rw [ratL_take, fit_take]
 (refine callOk_of_wpc (W := fun _ => false) false hm' Tryz.func69 rfl (by kernel_rfl) (Nat.le_of_ble_eq_true rfl) (go_start ?_); generalize hQ : Post Tryz.prog Tryz.f69 _ _ _ _ _ = Q; simp only [stIn, matL, matA, st00])
 simp (disch := omega) only [go_sem, ↓k_cond, ↓x_idx, ↓k_block, Nat.reduceEqDiff, Nat.reduceBEq, ↓reduceIte, reduceCtorEq, hn, hcat, hlen, List.append_nil, List.drop_zero, htk]
 (repeat (with_reducible refine Or.inr ?_))
 rw [← hQ]
 exact post_one (.inl rfl) rfl (by simp [upd_app] <;> omega) (by simp [AV.pure, AV.pureL, natA_pure, natI_pure, natS_pure])
theorem w_fitted {x : List Rat} {t : Nat} (hx : ∀ q ∈ x, fits 700 q) (hl : x.length ≤ 13) (h1 : 1 ≤ t) (ht : t ≤ 13) : CW Tryz.prog 69 [lI 700 x, .int .i64 t] (lI 700 (fitL x t)) := cw (by kernel_rfl) (by simp [AV.pure, AV.pureL, natA_pure, natI_pure, natS_pure]) (by simp [AV.pure, AV.pureL, natA_pure, natI_pure, natS_pure]) (c_fitted hx hl h1 ht)
attribute [go_sem] w_fitted
theorem w_busyTerm {x : List Rat} {n : Nat} (hx : ∀ q ∈ x, fits 700 q) (hl : x.length ≤ 13) (h1 : 1 ≤ n) (hn : n ≤ 13) : CW Tryz.prog 54 [lI 700 x, .int .i64 n] (rI (bigP + 64) (busF x n)) := by
 refine cw (by kernel_rfl) (by simp [AV.pure, AV.pureL, natA_pure, natI_pure, natS_pure]) (by simp [AV.pure, AV.pureL, natA_pure, natI_pure, natS_pure]) ?_
 have hB : bigP = 262144 := rfl
 have hf := w_fitted (x := x) (t := n) hx hl h1 hn
 have hp := w_powerSeries (x := fitL x n) (n := n) (fitL_fits hx) (by rw [fitL_len]; exact hn) (by rw [fitL_len]; exact h1) (by omega)
 obtain ⟨q, hq⟩ := get_some (xs := powL (fitL x n) n) (i := n - 1) (by rw [powL_len, fitL_len]; omega)
 have hpl : (powL (fitL x n) n).length = n := by rw [powL_len, fitL_len]
 have hqk : ((n : Int) - 1).toNat = n - 1 := by omega
 have hkn : (((n : Int) : Rat)).num ≠ 0 := by simp; omega
 have hbus : q / ((n : Int) : Rat) = busF x n := by rw [busF, getD_of hq]
 have hov := w_over (m := bigP) (n := 64) (a := q) (b := ((n : Int) : Rat)) (by omega) hkn
 rw [hbus] at hov
 (refine callOk_of_wpc (W := fun _ => false) false hm' Tryz.func54 rfl (by kernel_rfl) (Nat.le_of_ble_eq_true rfl) (go_start ?_); generalize hQ : Post Tryz.prog Tryz.f54 _ _ _ _ _ = Q; simp only [stIn, matL, matA, st00])
 simp (disch := omega) only [go_sem, ↓k_cond, ↓x_idx, ↓k_block, Nat.reduceEqDiff, Nat.reduceBEq, ↓reduceIte, reduceCtorEq, hf, hp, hpl, hq, hqk, hov]
 (repeat (with_reducible refine Or.inr ?_))
 rw [← hQ]
 exact post_cell1 (id := 0) (x := rI (bigP + 64) (busF x n)) (.inl rfl) rfl o_iRat (by simp [upd_app] <;> omega) (by simp [upd_app]) (by simp [upd_app]) ld_iRat (by simp [AV.pure, AV.pureL])
theorem i_BusyTerm {xs : List (List UInt8)} {n : Int} (hl : xs.length < 9223372036854775808) (hs : ∀ x ∈ xs, x.length < 9223372036854775808) : CallOk Tryz.prog 19 [.sl 9 (strA xs) [] false, .int .i64 n] (optT (busT xs n)) [] := by
  have h1 := w_gapsOf (xs := xs) hl hs
  have h2 := w_in (n := n) (a := 1) (b := 12)
  unfold busT
  cases hq : wgtR xs with
  | none =>
    rw [hq] at h1
    (refine callOk_of_wpc (W := fun _ => false) false hm' Tryz.func19 rfl (by kernel_rfl) (Nat.le_of_ble_eq_true rfl) (go_start ?_); generalize hQ : Post Tryz.prog Tryz.f19 _ _ _ _ _ = Q; simp only [stIn, matL, matA, st00])
    simp (disch := omega) only [go_sem, ↓k_cond, ↓x_idx, ↓k_block, Nat.reduceEqDiff, Nat.reduceBEq, ↓reduceIte, reduceCtorEq, h1]
    (repeat (with_reducible refine Or.inr ?_))
    rw [← hQ]
    exact post_two (.inl rfl) rfl (by simp [upd_app] <;> omega) (by simp [upd_app] <;> omega) rfl rfl
  | some x =>
    rw [hq] at h1
    obtain ⟨hxf, _, h4, h5⟩ := serR_some (wgtR_some hq).1
    by_cases c : 1 ≤ n ∧ n ≤ 12
    · obtain ⟨k, rfl⟩ : ∃ k : Nat, n = k := ⟨n.toNat, by omega⟩
      rw [decide_eq_true c] at h2
      simp only [if_pos c, Int.toNat_natCast]
      have hB : bigP = 262144 := rfl
      have h3 := w_busyTerm (x := x) (n := k) hxf h5 (by omega) (by omega)
      have h6 := w_told (m := bigP + 64) (q := busF x k) (by omega)
      cases ht : toldR (busF x k)
      all_goals
        rw [ht] at h6
        (refine callOk_of_wpc (W := fun _ => false) false hm' Tryz.func19 rfl (by kernel_rfl) (Nat.le_of_ble_eq_true rfl) (go_start ?_); generalize hQ : Post Tryz.prog Tryz.f19 _ _ _ _ _ = Q; simp only [stIn, matL, matA, st00])
        simp (disch := omega) only [go_sem, ↓k_cond, ↓x_idx, ↓k_block, Nat.reduceEqDiff, Nat.reduceBEq, ↓reduceIte, reduceCtorEq, h1, h2, h3, h6]
        (repeat (with_reducible refine Or.inr ?_))
        rw [← hQ]
        exact post_two (.inl rfl) rfl (by simp [upd_app] <;> omega) (by simp [upd_app] <;> omega) rfl rfl
    · rw [decide_eq_false c] at h2
      simp only [if_neg c]
      show CallOk Tryz.prog _ _ (optT none) []
      (refine callOk_of_wpc (W := fun _ => false) false hm' Tryz.func19 rfl (by kernel_rfl) (Nat.le_of_ble_eq_true rfl) (go_start ?_); generalize hQ : Post Tryz.prog Tryz.f19 _ _ _ _ _ = Q; simp only [stIn, matL, matA, st00])
      simp (disch := omega) only [go_sem, ↓k_cond, ↓x_idx, ↓k_block, Nat.reduceEqDiff, Nat.reduceBEq, ↓reduceIte, reduceCtorEq, h1, h2]
      (repeat (with_reducible refine Or.inr ?_))
      rw [← hQ]
      exact post_two (.inl rfl) rfl (by simp [upd_app] <;> omega) (by simp [upd_app] <;> omega) rfl rfl
attribute [go_sem] w_busyTerm
section
open Go Go.ChangeShapes Go.WideShapes Go.ChangeAt Go.RowKit
inductive Cl where
 | bool
 | int (k : IntKind)
 | str
 | sl (e : Nat) (c : Cl)

def Cl.fit (P : Program) : Cl → TypeId → Prop
 | .bool, t => P.underlying t = some .bool
 | .int k, t => P.underlying t = some (.int k)
 | .str, t => P.underlying t = some .string
 | .sl e c, t => P.underlying t = some (.slice e) ∧ P.cellsOf e = 1 ∧ szT P e = 1 ∧ 0 < P.bytesOf e ∧ c.fit P e

def isC : Cl → AV → Prop
 | .bool, x => ∃ b, x = .bool b
 | .int k, x => ∃ n, x = .int k n ∧ (Lit.int k n).wf = true
 | .str, x => ∃ s, x = .str s ∧ s.length < 4611686018427387904
 | .sl e c, x => ∃ xs, x = .sl e xs [] false ∧ xs.length < 4611686018427387904 ∧ ∀ y ∈ xs, isC c y
def isCL : List Cl → List AV → Prop
 | [], xs => xs = []
 | c :: cs, xs => ∃ x r, xs = x :: r ∧ isC c x ∧ isCL cs r
inductive Ty where
 | cell (c : Cl)
 | st (cs : List Cl)
def isT : Ty → AV → Prop
 | .cell c, x => isC c x
 | .st cs, x => ∃ xs, x = .agg xs ∧ isCL cs xs
def isTL : List Ty → List AV → Prop
 | [], xs => xs = []
 | c :: cs, xs => ∃ x r, xs = x :: r ∧ isT c x ∧ isTL cs r
def stFit (P : Program) : Nat → List Field → List Cl → Prop
 | _, [], [] => True
 | j, f :: fs, c :: cs => f.offset = j ∧ P.cellsOf f.type = 1 ∧ c.fit P f.type ∧ stFit P (j + 1) fs cs
 | _, _, _ => False
def Ty.fit (P : Program) : Ty → TypeId → Prop
 | .cell c, t => c.fit P t
 | .st cs, t => ∃ fs, P.underlying t = some (.struct fs) ∧ P.cellsOf t = fs.size ∧ stFit P 0 fs.toList cs
def tysFit (P : Program) : List Ty → List TypeId → Prop
 | [], [] => True
 | y :: ys, t :: ts => y.fit P t ∧ tysFit P ys ts
 | _, _ => False

theorem isC_one {c : Cl} {x : AV} (h : isC c x) : x.pure = true ∧ x.one = true ∧ x.cells = [x] := by
 induction c generalizing x with
 | bool => obtain ⟨b, rfl⟩ := h; exact ⟨rfl, rfl, rfl⟩
 | int k => obtain ⟨b, rfl, _⟩ := h; exact ⟨rfl, rfl, rfl⟩
 | str => obtain ⟨b, rfl, _⟩ := h; exact ⟨rfl, rfl, rfl⟩
 | sl e c ih =>
  obtain ⟨xs, rfl, hlen, h⟩ := h
  refine ⟨?_, rfl, rfl⟩
  simp only [AV.pure, AV.pureL, Bool.and_true]
  clear hlen
  induction xs with
  | nil => rfl
  | cons y ys ih' => simp only [AV.pureL, Bool.and_eq_true]; exact ⟨(ih (h y (by simp))).1, ih' fun z hz => h z (by simp [hz])⟩
theorem isCL_pure : ∀ {cs : List Cl} {xs : List AV}, isCL cs xs → AV.pureL xs = true
 | [], xs, h => by simp only [isCL] at h; subst h; rfl
 | c :: cs, xs, h => by
  obtain ⟨x, r, rfl, h1, h2⟩ := h
  simp only [AV.pureL, Bool.and_eq_true]; exact ⟨(isC_one h1).1, isCL_pure h2⟩
theorem isT_pure {y : Ty} {x : AV} (h : isT y x) : x.pure = true := by
 cases y with
 | cell c => exact (isC_one h).1
 | st cs => obtain ⟨xs, rfl, h⟩ := h; simp only [AV.pure]; exact isCL_pure h

theorem pick {Q : Nat → Value → AV → Prop} {n : Nat} (h : ∀ i, i < n → ∃ v x, Q i v x) : ∃ (vs : List Value) (xs : List AV), vs.length = n ∧ xs.length = n ∧ ∀ i v x, vs[i]? = some v → xs[i]? = some x → Q i v x := by
  induction n with
  | zero => exact ⟨[], [], rfl, rfl, fun i v x hv => by simp at hv⟩
  | succ n ih =>
    obtain ⟨vs, xs, h1, h2, h3⟩ := ih fun i hi => h i (by omega)
    obtain ⟨v, x, hq⟩ := h n (by omega)
    refine ⟨vs ++ [v], xs ++ [x], by simp [h1], by simp [h2], fun i v' x' hv hx => ?_⟩
    by_cases hi : i < n
    · rw [List.getElem?_append_left (by omega)] at hv hx
      exact h3 i v' x' hv hx
    · have hi' : i = n := by
        have := (List.getElem?_eq_some_iff.1 hv).1
        simp at this
        omega
      subst hi'
      rw [List.getElem?_append_right (by omega), h1, Nat.sub_self] at hv
      rw [List.getElem?_append_right (by omega), h2, Nat.sub_self] at hx
      simp only [List.getElem?_cons_zero, Option.some.injEq] at hv hx
      subst hv; subst hx
      exact hq

theorem blk_of {w : World} {a : Addr} {n : Nat} {vs : List Value} (hn : vs.length = n) (h0 : n ≠ 0) (hc : ∀ i v, vs[i]? = some v → w.cell? (a.add i) = some v) :
    a.spot = none ∧ ∃ c e f, w.heap[a.block]? = some (.cells c e f) ∧ ∀ i v, vs[i]? = some v → c[a.off + i]? = some v := by
  obtain ⟨v0, hv0⟩ : ∃ v, vs[0]? = some v := ⟨vs[0]'(by omega), by simp [List.getElem?_eq_getElem (show 0 < vs.length by omega)]⟩
  have h0 := hc 0 v0 hv0
  simp only [Addr.add, ↓reduceIte, World.cell?] at h0
  split at h0
  · rename_i c e f hb
    split at h0
    · cases h0
    · rename_i hs
      refine ⟨by simpa using hs, c, e, f, hb, fun i v hi => ?_⟩
      by_cases hi0 : i = 0
      · subst hi0
        rw [hv0] at hi; cases hi
        simpa using h0
      · have := hc i v hi
        simp only [Addr.add, if_neg hi0, World.cell?, hb] at this
        simpa using this
  · cases h0

section
variable {H : Type} {enc : TypeId × Value → H} {P : Program} {W : World} {R : Nat → Prop}

theorem open_cell : ∀ (c : Cl) {t : TypeId} {fuel : Nat} {cs : List Value} {d : DataW H} {ps : List MemPlace}, c.fit P t → DataW.trod enc P W 0 (fun _ => true) true fuel t cs = some (d, ps) →
    (∀ n ∈ d.weights P t, n ≤ reachBytes) → (∀ p ∈ ps, R p.block) → ∃ v x, cs = [v] ∧ isC c x ∧ rep P (bare W R) x v ∧ v.cells = #[v]
  | .bool, t, fuel, cs, d, ps, hf, h, hw, hp => by
    obtain ⟨b, rfl, _⟩ := DataW.trod_bool hf h
    exact ⟨_, .bool b, rfl, ⟨b, rfl⟩, by simp [rep], rfl⟩
  | .int k, t, fuel, cs, d, ps, hf, h, hw, hp => by
    obtain ⟨n, rfl, _, h1⟩ := DataW.trod_int hf h
    exact ⟨_, .int k n, rfl, ⟨n, rfl, h1⟩, by simp [rep], rfl⟩
  | .str, t, fuel, cs, d, ps, hf, h, hw, hp => by
    obtain ⟨s, rfl, hx, _⟩ := DataW.trod_string hf h
    simp only [Prod.mk.injEq] at hx
    obtain ⟨rfl, _⟩ := hx
    have := hw s.data.toList.length (by simp [DataW.weights])
    have hr : reachBytes = 140737488351232 := rfl
    exact ⟨_, .str s.data.toList, rfl, ⟨_, rfl, by omega⟩, by simp [rep], rfl⟩
  | .sl e c, t, fuel, cs, d, ps, hf, h, hw, hp => by
    obtain ⟨f1, f2, f3, f4, f5⟩ := hf
    rcases DataW.trod_slice f1 h with ⟨rfl, hx⟩ | ⟨a, len, cap, elems, rest, n, _, rfl, hx, hb, hl, hm, hlen, hel, hsp, _⟩
    · refine ⟨_, .sl e [] [] false, rfl, ⟨[], rfl, by simp, by simp⟩, ?_, rfl⟩
      simp only [rep]
      exact ⟨none, 0, rfl, by simp, by simp, by simp, [], [], rfl, rfl, by simp⟩
    simp only [Prod.mk.injEq] at hx
    obtain ⟨rfl, rfl⟩ := hx
    obtain ⟨hrl, _⟩ := hsp rfl
    rw [f2] at hel hp
    simp only [Nat.mul_one] at hel hp
    have hw1 : len * P.bytesOf e ≤ reachBytes := by
      have := hw ((elems.length + rest.length) * P.bytesOf e) (by simp [DataW.weights, f1])
      exact Nat.le_trans (Nat.mul_le_mul_right _ (by omega)) this
    have hlen' : len < 4611686018427387904 := by
      have hr : reachBytes = 140737488351232 := rfl
      have := Nat.le_mul_of_pos_right len f4
      omega
    have hblk : len ≠ 0 → R a.block := fun hne => hp (.cell a.block (a.off + 0)) (by
      simp only [List.mem_append, MemPlace.row, List.mem_map, List.mem_range]
      exact .inl ⟨0, by omega, rfl⟩)
    have each : ∀ i, i < len → ∃ v x, W.cell? (a.add i) = some v ∧ isC c x ∧ rep P (bare W R) x v ∧ v.cells = #[v] := by
      intro i hi
      have hy := hel i hi
      obtain ⟨y, hy'⟩ : ∃ y, elems[i]? = some y := ⟨elems[i]'(by omega), by simp [List.getElem?_eq_getElem (show i < elems.length by omega)]⟩
      rw [hy', Option.bind_eq_some_iff] at hy
      obtain ⟨cs', hcs, hz⟩ := hy
      have hmem : y ∈ elems := List.mem_of_getElem? hy'
      obtain ⟨v, x, rfl, h2, h3, h4⟩ := open_cell c f5 hz (fun n hn => hw n (by
        simp only [DataW.weights, f1, List.mem_cons, List.mem_append]
        exact .inr (.inl (mem_all hmem hn)))) (fun p hp' => hp p (by
        simp only [List.mem_append, List.mem_flatMap]
        exact .inr ⟨y, .inl hmem, hp'⟩))
      exact ⟨v, x, cell_of_cells?_one hcs, h2, h3, h4⟩
    obtain ⟨vs, xs, k1, k2, k3⟩ := pick each
    have hx : ∀ y ∈ xs, isC c y := by
      intro y hy
      obtain ⟨i, hi⟩ := List.getElem?_of_mem hy
      have hlt : i < vs.length := by have := (List.getElem?_eq_some_iff.1 hi).1; omega
      exact (k3 i vs[i] y (List.getElem?_eq_getElem hlt) hi).2.1
    have hv : ∀ (i : Nat) (v : Value), vs[i]? = some v → W.cell? (a.add i) = some v ∧ v.cells = #[v] := by
      intro i v hi
      have hlt : i < xs.length := by have := (List.getElem?_eq_some_iff.1 hi).1; omega
      have := k3 i v xs[i] hi (List.getElem?_eq_getElem hlt)
      exact ⟨this.1, this.2.2.2⟩
    refine ⟨_, .sl e xs [] false, rfl, ⟨xs, rfl, by omega, hx⟩, ?_, rfl⟩
    simp only [rep]
    refine ⟨some a, cap, by rw [k2], by simpa [k2] using hl, by simp, ?_, vs, [], repL_mk (k1.trans k2.symm) fun i x v h1 h2 => (k3 i v x h2 h1).2.2.1, by simp [repL], fun hne => ?_⟩
    · intro y hy
      rw [List.append_nil] at hy
      have := isC_one (hx y hy)
      simp [AV.el, this.2.1, this.2.2, f3]
    · have hne' : len ≠ 0 := by rw [k2] at hne; simpa using hne
      obtain ⟨hs, cc, ee, ff, hh, hc⟩ := blk_of k1 hne' fun i v hi => (hv i v hi).1
      refine ⟨a.block, a.off, cc, (ee, ff), by cases a; simp_all, hblk hne', hh, fun i v hi => ?_⟩
      rw [List.append_nil] at hi
      rw [(hv i v hi).2, f3]
      refine ⟨by simp, fun j u hj => ?_⟩
      have hj0 : j = 0 ∧ u = v := by cases j <;> simp_all
      obtain ⟨rfl, rfl⟩ := hj0
      simpa using hc i u hi
where
  mem_all {e : TypeId} {y : DataW H × List MemPlace} {n : Nat} : ∀ {elems : List (DataW H × List MemPlace)}, y ∈ elems → n ∈ y.1.weights P e → n ∈ DataW.weightsAll P e (elems.map (·.1))
    | z :: elems, hm, hn => by
      simp only [List.map_cons, DataW.weightsAll, List.mem_append]
      rcases List.mem_cons.1 hm with rfl | hm
      · exact .inl hn
      · exact .inr (mem_all hm hn)

theorem open_fields {n : Nat} {vs : List Value} : ∀ (cs : List Cl) (fs : List Field) (j : Nat) (xs : List (DataW H × List MemPlace)), stFit P j fs cs → vs.length = j + fs.length → xs.length = fs.length →
    (∀ (i : Nat) (f : Field), fs[i]? = some f → DataW.trod enc P W 0 (fun _ => true) true n f.type ((vs.drop f.offset).take (P.cellsOf f.type)) = xs[i]?) →
    (∀ n ∈ DataW.weightsEach P (fs.map (·.type)) (xs.map (·.1)), n ≤ reachBytes) → (∀ p ∈ xs.flatMap (·.2), R p.block) → ∃ avs, isCL cs avs ∧ repL P (bare W R) avs (vs.drop j)
  | [], [], j, xs, _, hl, _, _, _, _ => ⟨[], rfl, by
      have hl : vs.length = j := by simpa using hl
      simp [repL, ← hl]⟩
  | c :: cs, f :: fs, j, y :: xs, ⟨h1, h2, h3, h4⟩, hl, hx, ht, hw, hp => by
    have h0 := ht 0 f rfl
    simp only [List.length_cons] at hl hx
    rw [h1, h2, List.getElem?_cons_zero] at h0
    obtain ⟨v, x, k1, k2, k3, k4⟩ := open_cell (R := R) c h3 h0 (fun n hn => hw n (by simp [DataW.weightsEach, hn])) (fun p hp' => hp p (by simp [hp']))
    have hx' : xs.length = fs.length := by omega
    obtain ⟨avs, q1, q2⟩ := open_fields (vs := vs) cs fs (j + 1) xs h4 (by omega) hx' (fun i f' hi => by simpa using ht (i + 1) f' (by simpa using hi)) (fun n hn => hw n (by simp [DataW.weightsEach, hn])) (fun p hp' => hp p (by
      simp only [List.flatMap_cons, List.mem_append]; exact .inr hp'))
    have hd : vs.drop j = v :: vs.drop (j + 1) := by
      have hj : j < vs.length := by omega
      rw [List.drop_eq_getElem_cons hj] at k1 ⊢
      simp only [List.take_succ_cons, List.take_zero, List.cons.injEq, and_true] at k1
      rw [k1]
    refine ⟨x :: avs, ⟨x, avs, rfl, k2, q1⟩, ?_⟩
    rw [hd]
    exact ⟨v, _, rfl, k3, q2⟩
  | [], _ :: _, _, _, h, _, _, _, _, _ => by simp [stFit] at h
  | _ :: _, [], _, _, h, _, _, _, _, _ => by simp [stFit] at h
  | _ :: _, _ :: _, _, [], _, _, h, _, _, _ => by simp at h

theorem one_okWide {c : Cl} {t : TypeId} {base : Nat} {v : Value} (hf : c.fit P t) (h : Value.okWide P W .any base t v) : v.cells = #[v] := by
 cases c with
 | bool => obtain ⟨b, rfl⟩ := okWide_bool hf h; rfl
 | int k => obtain ⟨b, rfl⟩ := okWide_int hf h; rfl
 | str => obtain ⟨b, rfl⟩ := okWide_string hf h; rfl
 | sl e c => obtain ⟨a, b, d, rfl⟩ := okWide_slice hf.1 h; rfl

theorem open_type {y : Ty} {t : TypeId} {base : Nat} {v : Value} {d : DataW H} {ps : List MemPlace} (hf : y.fit P t) (hok : Value.okWide P W .any base t v) (h : DataW.Trod enc P W 0 (fun _ => true) true t v d ps)
  (hw : ∀ n ∈ d.weights P t, n ≤ reachBytes) (hp : ∀ p ∈ ps, R p.block) : ∃ x, isT y x ∧ rep P (bare W R) x v := by
 obtain ⟨fuel, h⟩ := h
 cases y with
 | cell c =>
  obtain ⟨u, x, k1, k2, k3, k4⟩ := open_cell c hf h hw hp
  rw [one_okWide hf hok] at k1
  simp only [List.cons.injEq, and_true] at k1
  subst k1
  exact ⟨x, k2, k3⟩
 | st cs =>
  obtain ⟨fs, f1, f2, f3⟩ := hf
  obtain ⟨xs, n, _, hx, hl, hlen, hfd⟩ := DataW.trod_struct f1 h
  simp only [Prod.mk.injEq] at hx
  obtain ⟨rfl, rfl⟩ := hx
  simp only [Value.okWide, f1] at hok
  obtain ⟨vs, rfl, _, _⟩ := hok
  obtain ⟨avs, k1, k2⟩ := open_fields (R := R) (vs := vs.toList) cs fs.toList 0 xs f3 (by rw [f2] at hl; simpa [Value.cells] using hl) (by simpa using hlen) (fun i f hi => hfd i f (by simpa using hi)) (by simpa [DataW.weights, f1] using hw) hp
  exact ⟨.agg avs, ⟨avs, rfl, k1⟩, by simp only [rep]; exact ⟨vs.toList, by simp, by simpa using k2⟩⟩

theorem open_all {base : Nat} : ∀ {ys : List Ty} {ts : List TypeId} {vs : List Value} {ds : List (DataW H)} {ps : List MemPlace}, tysFit P ys ts → DataW.TrodAll enc P W 0 (fun _ => true) true ts vs ds ps →
  (∀ (j : Nat) t v, ts[j]? = some t → vs[j]? = some v → Value.okWide P W .any base t v) → (∀ n ∈ DataW.weightsEach P ts ds, n ≤ reachBytes) → (∀ p ∈ ps, R p.block) →
  ∃ xs, isTL ys xs ∧ ownRL P (bare W R) xs vs []
 | [], [], vs, ds, ps, _, h, _, _, _ => by
  obtain ⟨rfl, rfl, rfl⟩ := trodAll_nil h
  exact ⟨[], rfl, by simp [ownRL]⟩
 | y :: ys, t :: ts, vs, ds, ps, ⟨f1, f2⟩, h, hok, hw, hp => by
  obtain ⟨v, vs', d, ds', p, q, rfl, rfl, rfl, h1, h2⟩ := trodAll_cons h
  obtain ⟨x, k1, k2⟩ := open_type (R := R) f1 (hok 0 t v rfl rfl) h1 (fun n hn => hw n (by simp [DataW.weightsEach, hn])) (fun p hp' => hp p (by simp [hp']))
  obtain ⟨xs, k3, k4⟩ := open_all f2 h2 (fun j t v ht hv => hok (j + 1) t v (by simpa using ht) (by simpa using hv)) (fun n hn => hw n (by simp [DataW.weightsEach, hn])) (fun p hp' => hp p (by simp [hp']))
  refine ⟨x :: xs, ⟨x, xs, rfl, k1, k3⟩, ?_⟩
  simp only [ownRL]
  exact ⟨v, vs', [], [], rfl, rfl, ownR_of_pure x v (isT_pure k1) k2, k4⟩
 | [], _ :: _, _, _, _, h, _, _, _, _ => by simp [tysFit] at h
 | _ :: _, [], _, _, _, h, _, _, _, _ => by simp [tysFit] at h

def LawOk (P : Program) (f : FuncId) (ys : List Ty) : Prop := ∀ xs, isTL ys xs → CallOk P f xs (.bool true) []

theorem tab_lt {k : IntKind} {zs : List Int} {g : Nat} (h : Lib.TabIs P W tabName k zs) (hg : P.globalNamed tabName = some g) : g < W.heap.size := by
  unfold Lib.TabIs World.var? at h
  rw [hg, Option.bind_some] at h
  split at h
  · rename_i he; exact lt_of_heap he
  · cases h
theorem LawOk.walk {f : FuncId} {ys : List Ty} {ts : List TypeId} {args : Array Value} {ds : List (DataW H)} {ps : List MemPlace} {base : Nat} (hf : LawOk P f ys) (hy : tysFit P ys ts)
    (h : DataW.TrodAll enc P W 0 (fun _ => true) true ts args.toList ds ps) (hok : ∀ (j : Nat) t v, ts[j]? = some t → args.toList[j]? = some v → Value.okWide P W .any base t v)
    (hw : (DataW.weightsEach P ts ds).all (· ≤ reachBytes) = true) (hlt : ∀ p ∈ ps, p.block < W.heap.size) (htab : ∀ g, P.globalNamed tabName = some g → Lib.TabIs P W tabName .u64 tabNums) :
    Calls P f args W fun e w' => e = .returned (.bool true) ∧ Below W.heap.size W w' := by
  obtain ⟨xs, h1, h2⟩ := open_all (R := fun b => b < W.heap.size) hy h hok (fun n hn => by simpa using List.all_eq_true.1 hw n hn) (fun p hp => hlt p hp)
  have := hf xs h1 W _ _ _ ⟨fun _ h => h, fun g hg => ⟨tab_lt (htab g hg) hg, htab g hg⟩⟩ h2 (by simp)
  rw [Array.toArray_toList] at this
  refine this.mono fun e w' hp => ?_
  obtain ⟨v, I', L', rfl, q1, _, _, _, q5, _⟩ := hp
  have : v = .bool true := by simp only [ownR, rep] at q5; exact q5.2
  exact ⟨by rw [this], q1.os, q1.tape, q1.output, q1.size, fun k hk => q1.same k hk (by simp)⟩
end

section
variable {H : Type} {enc : TypeId × Value → H} {P : Program} {W : World}
theorem trodAll_lt : ∀ {ts : List TypeId} {vs : List Value} {ds : List (DataW H)} {ps : List MemPlace}, DataW.TrodAll enc P W 0 (fun _ => true) true ts vs ds ps → ∀ p ∈ ps, p.block < W.heap.size
  | [], _, _, _, h => by obtain ⟨_, _, rfl⟩ := trodAll_nil h; simp
  | _ :: _, _, _, _, h => by
    obtain ⟨v, vs', d, ds', p, q, rfl, rfl, rfl, ⟨m, h1⟩, h2⟩ := trodAll_cons h
    intro x hx
    rcases List.mem_append.1 hx with hx | hx
    · exact DataW.trod_lt m _ _ _ h1 x hx
    · exact trodAll_lt h2 x hx
theorem trodAll_below {W' : World} (hl : laidOutB P = true) (hb : Below W.heap.size W W') : ∀ {ts : List TypeId} {vs : List Value} {ds : List (DataW H)} {ps : List MemPlace}, ts.all (fun t => P.readableRec t && decide (t < P.types.size)) = true →
  DataW.TrodAll enc P W 0 (fun _ => true) true ts vs ds ps → (∀ p ∈ ps, p.block < W.heap.size) → DataW.TrodAll enc P W' 0 (fun b => decide (b < W.heap.size)) true ts vs ds ps
 | [], _, _, _, _, h, _ => by obtain ⟨rfl, rfl, rfl⟩ := trodAll_nil h; rfl
 | t :: ts, _, _, _, hr, h, hlt => by
  obtain ⟨v, vs', d, ds', p, q, rfl, rfl, rfl, h1, h2⟩ := trodAll_cons h
  simp only [List.all_cons, Bool.and_eq_true, decide_eq_true_eq] at hr
  exact trodAll_cons_mk (Below.trod hl hr.1.1 hr.1.2 h1 hb fun x hx => hlt x (by simp [hx])) (trodAll_below hl hb hr.2 h2 fun x hx => hlt x (by simp [hx]))
theorem trodAll_len : ∀ {ts : List TypeId} {vs : List Value} {ds : List (DataW H)} {ps : List MemPlace}, DataW.TrodAll enc P W 0 (fun _ => true) true ts vs ds ps → ds.length = ts.length
 | [], _, _, _, h => by obtain ⟨_, rfl, _⟩ := trodAll_nil h; rfl
 | _ :: _, _, _, _, h => by
  obtain ⟨v, vs', d, ds', p, q, rfl, rfl, rfl, _, h2⟩ := trodAll_cons h
  simp [trodAll_len h2]

theorem laid_plain {P : Program} {l : List (String × DataW Unit)} {w : World} (hp : (l.filter fun x => x.2.handleName?.isSome) = []) (h : laidMetH P l w) : laidMet P l w := by
 unfold laidMetH at h; rw [hp] at h; exact h
theorem laid_drop {P : Program} {w : World} : ∀ {l : List (String × DataW Unit)} (k : Nat), laidMet P l w → laidMet P (l.drop k) w
 | _, 0, h => h
 | [], _ + 1, h => h
 | _ :: _, k + 1, h => laid_drop k h.tail
theorem tab_of_laid {P : Program} {l : List (String × DataW Unit)} {w : World} {g n : Nat} {t e : TypeId} (k : Nat) (hg : P.globalNamed tabName = some g) (hty : (P.globals[g]?).map (·.type) = some t) (ht : P.underlying t = some (.array n e)) (he : P.underlying e = some (.int .u64))
    (hce : P.cellsOf e = 1) (hct : P.cellsOf t = n) (hp : (l.filter fun x => x.2.handleName?.isSome) = []) (hk : l.drop k = (tabName, Lib.tabData .u64 tabNums) :: l.drop (k + 1)) (h : laidMetH P l w) : ∀ g', P.globalNamed tabName = some g' → Lib.TabIs P w tabName .u64 tabNums := fun _ _ => by
  have h1 := laid_drop k (laid_plain hp h)
  rw [hk] at h1
  exact Lib.tabIs_of_head hg hty ht he hce hct h1
theorem LawOk.lifted {C : Checked} {os : Os} (own : ownKnob C.prog.godebug = none) (started : os.Started) {f : FuncId} {fn : Func} {s : ChangeSpec} {apart : Bool} {X : World → Array Value → Prop} {ys : List Ty}
    {ts : List TypeId} {rt : TypeId} (hf : LawOk C.prog f ys) (hX : ∀ (w w' : World) (args : Array Value), w.heap = w'.heap → X w args → X w' args) (hT : ∀ (w : World) (args : Array Value), X w args → ∀ g, C.prog.globalNamed tabName = some g → Lib.TabIs C.prog w tabName .u64 tabNums) (noInit : C.prog.inits.idxOf? f = none) (hfn : C.prog.funcs[f]? = some fn)
    (hps : fn.params = ts.toArray) (hrs : fn.resultTypes = #[rt]) (hrt : C.prog.underlying rt = some .bool) (hy : tysFit C.prog ys ts) (hl : laidOutB C.prog = true) (hr : ts.all (fun t => C.prog.readableRec t && decide (t < C.prog.types.size)) = true)
    (hv : s.vars = []) (hs : ∀ ds : List (DataW H), ds.length = ts.length → s.fn H ds = { results := [.lit (.bool true)], args := ds })
    (witness : ∃ (w : World) (tape : Tape) (i : Input), w.os = os ∧ (w.forCall tape i).Shaped C.prog ∧ i.vars = [] ∧ Input.okWide C.prog (w.forCall tape i) .any w.heap.size f i ∧
      ((s.pre enc C.prog fn [] apart (w.forCall tape i).memory i.args ∧ X (w.forCall tape i).memory i.args) ∧ sizedMet enc C.prog fn (OpenSpec.ofChange s) apart (w.forCall tape i).memory i.args) ∧ ({} : Assume).holds C.prog (lone (Frame.enter C.prog f i.args .normal) [] (w.forCall tape i))) :
    ReturnsInHanded {} C os f .any (fun w args => (s.pre enc C.prog fn [] apart w args ∧ X w args) ∧ sizedMet enc C.prog fn (OpenSpec.ofChange s) apart w args) (s.post enc C.prog fn apart true false false) := by
  refine returnsInHanded_of_change_and (X := X) hX own started noInit hfn witness ?_
  intro W base args ds gs before hval hW _ hsz hXW _
  have hW' := hW
  obtain ⟨p, q, hA, hV, rfl, hfz, hnd⟩ := hW
  rw [hv] at hV
  obtain ⟨rfl, rfl⟩ := trodVars_none hV
  rw [hps] at hA hsz hval
  have hts : ts.toArray.toList = ts := by simp
  rw [hts] at hA hsz
  have hlt := trodAll_lt hA
  have hvt : s.plain.varTypes C.prog = [] := by simp [ChangeSpec.plain, DataSpec.varTypes, hv]
  rw [hvt, List.append_nil, List.append_nil] at hsz
  refine (hf.walk hy hA (fun j t v ht hv' => hval j t v (by simpa using ht) (by simpa using hv')) hsz hlt (hT W args hXW)).mono fun e W' ⟨he, bel⟩ => ?_
  subst he
  have hsd := hs ds (trodAll_len hA)
  refine ⟨_, rfl, ds, [], _, [], p, [], hW', ?_, ?_, ?_, bel.frame _, fun h => by cases h⟩
  · rw [List.append_nil, hsd, hrs]
    exact trodAll_mk1 (shut_bool hrt _)
  · rw [List.append_nil, hsd, hps, hts]
    exact trodAll_below hl bel hr hA hlt
  · rw [List.append_nil, hsd, hv]
    rfl
end
end
theorem isC_strs {x : AV} (h : isC (.sl 9 .str) x) : ∃ xs : List (List UInt8), x = .sl 9 (strA xs) [] false ∧ xs.length < 4611686018427387904 ∧ ∀ s ∈ xs, s.length < 4611686018427387904 := by
  obtain ⟨ys, rfl, hl, hy⟩ := h
  have : ∃ xs : List (List UInt8), ys = strA xs ∧ ∀ s ∈ xs, s.length < 4611686018427387904 := by
    clear hl
    induction ys with
    | nil => exact ⟨[], rfl, by simp⟩
    | cons y ys ih =>
      obtain ⟨xs, rfl, h1⟩ := ih fun z hz => hy z (by simp [hz])
      obtain ⟨s, rfl, hs⟩ := hy y (by simp)
      exact ⟨s :: xs, rfl, by intro u hu; rcases List.mem_cons.1 hu with rfl | hu; · exact hs
                              · exact h1 u hu⟩
  obtain ⟨xs, rfl, h1⟩ := this
  exact ⟨xs, rfl, by rw [strA_length] at hl; exact hl, h1⟩
theorem snap_more {st : St} {id n len : Nat} {xs sp : List (List UInt8)} {more : List AV} (h : st.h id = ⟨9, strA (xs ++ sp), true, true, true⟩) (hn : xs.length + sp.length = n) (hl : xs.length = len) (hm : AV.pureL more = true) :
  snapL (snapA st 8) (.ref id n 0 len :: more) = some (.sl 9 (strA xs) [] false :: more, [id]) := by
 have h1 := snap_strs (st := st) (id := id) (n := n) (len := len) (xs := xs ++ sp) h (by simp; omega) (by omega)
 rw [List.take_left' hl] at h1
 simp [snapL, h1, snapL_pure hm]
def mT (k : Nat) : List UInt8 := 109 :: Lib.decDigits k
def marksL (k n : Nat) : List (List UInt8) := (List.range n).map fun i => mT (k + i)
theorem marksL_len (k n : Nat) : (marksL k n).length = n := by simp [marksL]
theorem marksL_succ {k n : Nat} : marksL k (n + 1) = marksL k n ++ [mT (k + n)] := by simp [marksL, List.range_succ]
theorem marksL_at {k n i : Nat} (h : i < n) : (marksL k n)[i]? = some (mT (k + i)) := by simp [marksL, h]
theorem bytes_one {n : Int} : bytesOf [.int .u8 n] = some [UInt8.ofNat n.toNat] := rfl
theorem w_markText {k : Nat} (h0 : 0 < k) (hk : k < 4611686018427387904) : CW Tryz.prog 45 [.int .i64 k] (.str (mT k)) := by
  refine cw (by kernel_rfl) (by simp [AV.pure, AV.pureL, natA_pure, natI_pure, natS_pure]) (by simp [AV.pure, AV.pureL, natA_pure, natI_pure, natS_pure]) ?_
  (refine callOk_of_wpc (W := fun _ => false) false hm' Tryz.func45 rfl (by kernel_rfl) (Nat.le_of_ble_eq_true rfl) (go_start ?_); generalize hQ : Post Tryz.prog Tryz.f45 _ _ _ _ _ = Q; simp only [stIn, matL, matA, st00])
  simp (disch := omega) only [go_sem, ↓k_cond, ↓x_idx, ↓k_block, Nat.reduceEqDiff, Nat.reduceBEq, ↓reduceIte, reduceCtorEq]
  refine k_loop (fun (i : Nat) st => st.fr 0 = .int .i64 (k / 10 ^ i : Nat) ∧ st.fr 3 = .str (padD i k) ∧ (i = 0 ∨ k / 10 ^ (i - 1) ≠ 0) ∧ i ≤ 19) (fun i => 20 - i) 0
    ⟨by simp [upd_app], by simp [upd_app, padD], .inl rfl, by omega⟩ ?_
  rintro i ⟨fr, h, nx⟩ ⟨g0, g3, hi, hl⟩ J hJ
  simp only at g0 g3
  have hd : k / 10 ^ i % 10 < 10 := Nat.mod_lt _ (by decide)
  have h19 : k / 10 ^ i ≠ 0 → i ≤ 18 := dig_small (by omega)
  have hps := padD_step k i
  have hpl := padD_len i k
  have hex : k / 10 ^ i = 0 → padD i k = Lib.decDigits k := fun hz => by
    have hlt : k < 10 ^ i := by
      rcases Nat.lt_or_ge k (10 ^ i) with h | h
      · exact h
      · exact absurd hz (Nat.ne_of_gt (Nat.div_pos h (Nat.pow_pos (by decide))))
    have h1 : 1 ≤ i := by
      rcases Nat.eq_zero_or_pos i with rfl | h
      · simp at hlt; omega
      · exact h
    exact padD_dec hlt (hi.elim (fun h => by omega) .inr) h1
  have hdiv : k / 10 ^ i / 10 = k / 10 ^ (i + 1) := div_ten
  have key : ∀ (st : St), st.fr 0 = .int .i64 ((k / 10 ^ i / 10 : Nat) : Int) → st.fr 3 = .str (padD (i + 1) k) → k / 10 ^ i ≠ 0 → J st := by
    intro st k0 k3 kd
    have hl' := h19 kd
    exact hJ (i + 1) st ⟨by rw [k0, hdiv], k3, .inr kd, by omega⟩ (by omega)
  have hzn : k / 10 ^ i ≤ k := Nat.div_le_self _ _
  clear hJ hi h19 hdiv
  generalize k / 10 ^ i = z at *
  obtain ⟨e, he⟩ : ∃ e, z % 10 = e := ⟨_, rfl⟩
  rw [he] at hd hps
  by_cases hz0 : z = 0
  · have hfin := hex hz0
    have hdl : (Lib.decDigits k).length = i := by rw [← hfin]; exact hpl
    rw [hfin] at g3
    simp (disch := omega) only [go_sem, ↓k_cond, ↓x_idx, ↓k_block, Nat.reduceEqDiff, Nat.reduceBEq, ↓reduceIte, reduceCtorEq, g0, g3, hz0, hdl, List.length_cons, List.length_nil]
    rw [← hQ]
    exact post_one (.inl rfl) rfl (by simp [upd_app, mT]) rfl
  · clear hex
    simp (disch := omega) only [go_sem, ↓k_cond, ↓x_idx, ↓k_block, Nat.reduceEqDiff, Nat.reduceBEq, ↓reduceIte, reduceCtorEq, g0, g3, he, hz0, conA_sl, bytes_one, hpl, List.length_cons, List.length_nil]
    exact key _ (by simp [upd_app]) (by simp [upd_app, hps]) hz0
theorem mark_set {k i : Nat} {xs sp : List (List UInt8)} (hi : i < xs.length) : (marksL k i ++ xs.drop i ++ sp).set i (mT (k + i)) = marksL k (i + 1) ++ xs.drop (i + 1) ++ sp := by
 have hl := marksL_len k i
 rw [List.append_assoc, List.set_append_right _ _ (by omega), hl, Nat.sub_self, List.drop_eq_getElem_cons hi, List.cons_append, List.set_cons_zero, marksL_succ]
 simp
theorem i_mark {fr : Nat → AV} {h : Nat → Blk} {nx id n N k : Nat} {xs sp : List (List UInt8)} {ex gr : Bool} (hb : h id = ⟨9, strA (xs ++ sp), ex, gr, true⟩) (hn : xs.length = n) (hN : (xs ++ sp).length = N) (h0 : 0 < k) (hk : k + n < 4611686018427387904) (hbig : N < 4611686018427387904) :
    InOk Tryz.prog ⟨fr, h, nx⟩ 16 [.ref id N 0 n, .int .i64 k] (.int .i64 ((k + n : Nat) : Int)) ⟨fr, upd h id ⟨9, strA (marksL k n ++ sp), ex, gr, true⟩, nx⟩ := by
  refine inOk_of_wpc (W := fun _ => false) hm' Tryz.func16 rfl (by kernel_rfl) (Nat.le_of_ble_eq_true rfl) (go_start ?_)
  generalize hQ : PostIn Tryz.prog Tryz.f16 _ _ _ = Q
  have hal : (strA (xs ++ sp)).length = N := by rw [strA_length, hN]
  have hnN : n ≤ N := by rw [← hN]; simp; omega
  simp (disch := omega) only [go_sem, ↓k_cond, ↓x_idx, ↓k_block, Nat.reduceEqDiff, Nat.reduceBEq, ↓reduceIte, reduceCtorEq, hb, hal]
  refine k_loop (fun (i : Nat) st => st.fr 0 = .ref id N 0 n ∧ st.fr 1 = .int .i64 ((k + i : Nat) : Int) ∧ st.fr 5 = .int .i64 i ∧ st.h = upd h id ⟨9, strA (marksL k i ++ xs.drop i ++ sp), ex, gr, true⟩ ∧ st.nx = nx ∧ i ≤ n) (fun i => n - i) 0
    ⟨(by simp [upd_app] <;> omega), (by simp [upd_app] <;> omega), (by simp [upd_app] <;> omega), by funext j; simp only [upd_app]; split <;> simp_all [marksL], rfl, by omega⟩ ?_
  rintro i ⟨fr1, h1, nx1⟩ ⟨g0, g1, g5, eh, enx, hi⟩ J hJ
  simp only at g0 g1 g5 eh enx
  subst eh enx
  have hal2 : (strA (marksL k i ++ xs.drop i ++ sp)).length = N := by rw [strA_length, ← hN]; simp [marksL_len]; omega
  by_cases hin : i < n
  · have hw := w_markText (k := k + i) (by omega) (by omega)
    have hat : (marksL k i ++ xs.drop i ++ sp)[i]? = some (xs[i]'(by omega)) := by
      rw [List.append_assoc, List.getElem?_append_right (by rw [marksL_len]; omega), marksL_len, Nat.sub_self, List.drop_eq_getElem_cons (by omega)]; rfl
    have hupd : ∀ z w : Blk, upd (upd h id z) id w = upd h id w := by intro z w; funext j; simp only [upd_app]; split <;> rfl
    have hset := mark_set (k := k) (i := i) (xs := xs) (sp := sp) (by omega)
    simp (disch := omega) only [go_sem, ↓k_cond, ↓x_idx, ↓k_block, Nat.reduceEqDiff, Nat.reduceBEq, ↓reduceIte, reduceCtorEq, g0, g1, g5, hw, hal2, strA_at, hat, hupd, strA_put, hset]
    (repeat (with_reducible refine Or.inr ?_))
    exact hJ (i + 1) _ ⟨(by simp [upd_app, g0] <;> omega), by simp [upd_app]; omega, (by simp [upd_app] <;> omega), rfl, rfl, hin⟩ (by omega)
  · obtain rfl : i = n := by omega
    simp (disch := omega) only [go_sem, ↓k_cond, ↓x_idx, ↓k_block, Nat.reduceEqDiff, Nat.reduceBEq, ↓reduceIte, reduceCtorEq, g0, g1, g5, hal2]
    rw [← hQ]
    exact postIn_one (.inl rfl) rfl (by simp [upd_app] <;> omega) (by rw [List.drop_eq_nil_of_le (by omega), List.append_nil]) rfl
attribute [go_sem] w_markText
theorem w_markNil {k : Int} : CW Tryz.prog 16 [.nil, .int .i64 k] (.int .i64 k) := by
 refine cw (by kernel_rfl) (by simp [AV.pure, AV.pureL, natA_pure, natI_pure, natS_pure]) (by simp [AV.pure, AV.pureL, natA_pure, natI_pure, natS_pure]) ?_
 (refine callOk_of_wpc (W := fun _ => false) false hm' Tryz.func16 rfl (by kernel_rfl) (Nat.le_of_ble_eq_true rfl) (go_start ?_); generalize hQ : Post Tryz.prog Tryz.f16 _ _ _ _ _ = Q; simp only [stIn, matL, matA, st00])
 simp (disch := omega) only [go_sem, ↓k_cond, ↓x_idx, ↓k_block, Nat.reduceEqDiff, Nat.reduceBEq, ↓reduceIte, reduceCtorEq]
 refine k_loop (fun (_ : Nat) st => st.fr 0 = .nil ∧ st.fr 1 = .int .i64 k ∧ st.fr 5 = .int .i64 0) (fun i => i) 0 ⟨(by simp [upd_app] <;> omega), (by simp [upd_app] <;> omega), (by simp [upd_app] <;> omega)⟩ ?_
 rintro i ⟨fr, h, nx⟩ ⟨g0, g1, g5⟩ J hJ
 simp only at g0 g1 g5
 simp (disch := omega) only [go_sem, ↓k_cond, ↓x_idx, ↓k_block, Nat.reduceEqDiff, Nat.reduceBEq, ↓reduceIte, reduceCtorEq, g0, g1, g5]
 rw [← hQ]
 exact post_one (.inl rfl) rfl (by simp [upd_app] <;> omega) rfl
theorem l_held {n k : Nat} (h0 : 0 < k) (hk : k + n < 4611686018427387904) : CallOk Tryz.prog 17 [.sl 9 (strA (marksL k n)) [] false, .int .i64 k] (.int .i64 ((k + n : Nat) : Int)) [] := by
  have hml := marksL_len k n
  (refine callOk_of_wpc (W := fun _ => false) false hm' Tryz.func17 rfl (by kernel_rfl) (Nat.le_of_ble_eq_true rfl) (go_start ?_); generalize hQ : Post Tryz.prog Tryz.f17 _ _ _ _ _ = Q; simp only [stIn, matL, matA, st00])
  simp (disch := omega) only [go_sem, ↓k_cond, ↓x_idx, ↓k_block, Nat.reduceEqDiff, Nat.reduceBEq, ↓reduceIte, reduceCtorEq, strA_length, hml]
  refine k_loop (fun (i : Nat) st => st.fr 0 = .sl 9 (strA (marksL k n)) [] false ∧ st.fr 1 = .int .i64 ((k + i : Nat) : Int) ∧ st.fr 5 = .int .i64 i ∧ i ≤ n) (fun i => n - i) 0 ⟨(by simp [upd_app] <;> omega), (by simp [upd_app] <;> omega), (by simp [upd_app] <;> omega), by omega⟩ ?_
  rintro i ⟨fr, h, nx⟩ ⟨g0, g1, g5, hi⟩ J hJ
  simp only at g0 g1 g5
  by_cases hin : i < n
  · have hw := w_markText (k := k + i) (by omega) (by omega)
    have hat := marksL_at (k := k) hin
    simp (disch := omega) only [go_sem, ↓k_cond, ↓x_idx, ↓k_block, Nat.reduceEqDiff, Nat.reduceBEq, ↓reduceIte, reduceCtorEq, g0, g1, g5, hw, strA_length, hml, strA_at, hat]
    (repeat (with_reducible refine Or.inr ?_))
    exact hJ (i + 1) _ ⟨(by simp [upd_app, g0] <;> omega), by simp [upd_app]; omega, (by simp [upd_app] <;> omega), hin⟩ (by omega)
  · obtain rfl : i = n := by omega
    simp (disch := omega) only [go_sem, ↓k_cond, ↓x_idx, ↓k_block, Nat.reduceEqDiff, Nat.reduceBEq, ↓reduceIte, reduceCtorEq, g0, g1, g5, strA_length, hml]
    rw [← hQ]
    exact post_one (.inl rfl) rfl (by simp [upd_app] <;> omega) rfl
theorem snapS2 {st : St} {i j m n : Nat} {xs ys : List (List UInt8)} {ex ex' gr gr' : Bool} (hi : st.h i = ⟨9, strA xs, ex, gr, true⟩) (hj : st.h j = ⟨9, strA ys, ex', gr', true⟩) (hm : xs.length = m) (hn : ys.length = n) :
  snapL (snapA st 8) [.ref i m 0 m, .ref j n 0 n] = some ([.sl 9 (strA xs) [] false, .sl 9 (strA ys) [] false], [i, j]) := by
 have h1 := snap_strs hi hm (Nat.le_refl _)
 have h2 := snap_strs hj hn (Nat.le_refl _)
 rw [List.take_of_length_le (by omega)] at h1 h2
 exact snap_two h1 h2
theorem snapS1 {st : St} {i m : Nat} {xs : List (List UInt8)} {ex gr : Bool} {more : List AV} (hi : st.h i = ⟨9, strA xs, ex, gr, true⟩) (hm : xs.length = m) (hp : AV.pureL more = true) :
  snapL (snapA st 8) (.ref i m 0 m :: more) = some (.sl 9 (strA xs) [] false :: more, [i]) := by
 have h1 := snap_strs hi hm (Nat.le_refl _)
 rw [List.take_of_length_le (by omega)] at h1
 simp [snapL, h1, snapL_pure hp]
theorem i_intact {fr : Nat → AV} {h : Nat → Blk} {nx i j n N : Nat} {xs sp : List (List UInt8)} (hi : h i = ⟨9, strA (xs ++ sp), true, true, true⟩) (hj : h j = ⟨9, strA (xs ++ sp), true, true, true⟩) (hn : xs.length = n) (hN : n + roomB n = N) (hsp : sp.length = roomB n) (hl : n ≤ 1000000) :
  InOk Tryz.prog ⟨fr, h, nx⟩ 12 [.ref i N 0 n, .ref j N 0 n] (.bool true) ⟨fr, h, nx⟩ := by
 refine inOk_of_wpc (W := fun _ => false) hm' Tryz.func12 rfl (by kernel_rfl) (Nat.le_of_ble_eq_true rfl) (go_start ?_)
 generalize hQ : PostIn Tryz.prog Tryz.f12 _ _ _ = Q
 have hrl := room_le n
 have hall : (xs ++ sp).length = N := by simp; omega
 have hal : (strA (xs ++ sp)).length = N := by rw [strA_length, hall]
 have hroom := cw (by kernel_rfl) (by simp [AV.pure, AV.pureL, natA_pure, natI_pure, natS_pure]) (by simp [AV.pure, AV.pureL, natA_pure, natI_pure, natS_pure]) (l_room n (by omega))
 have heq := l_eq (xs ++ sp) (xs ++ sp) (by omega) (by omega)
 rw [decide_eq_true rfl] at heq
 simp (disch := omega) only [go_sem, ↓k_cond, ↓x_idx, ↓k_block, Nat.reduceEqDiff, Nat.reduceBEq, ↓reduceIte, reduceCtorEq, hi, hj, hal, hroom]
 (repeat (with_reducible refine Or.inr ?_))
 simp (disch := omega) only [go_sem, ↓k_cond, ↓x_idx, ↓k_block, Nat.reduceEqDiff, Nat.reduceBEq, ↓reduceIte, reduceCtorEq, hi, hj, hal, hN]
 refine callW_S heq (by kernel_rfl) (snapS2 hi hj hall hall) rfl rfl ?_
 simp (disch := omega) only [go_sem, ↓k_cond, ↓x_idx, ↓k_block, Nat.reduceEqDiff, Nat.reduceBEq, ↓reduceIte, reduceCtorEq]
 rw [← hQ]
 exact postIn_one (.inl rfl) rfl (by simp [upd_app] <;> omega) rfl rfl
attribute [go_sem] w_markNil
end Go.Proofs.YtjilbkkappobpaaGreatDoor
