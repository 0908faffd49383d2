/- A part of the proof that stands in YtjilbkkappobpaaGreatDoorMX3. -/
import Derived.Test.YtjilbkkappobpaaGreatDoorM13

set_option linter.unusedVariables false
set_option linter.unusedSimpArgs false
set_option maxRecDepth 100000
namespace Go.Proofs.YtjilbkkappobpaaGreatDoor
open Go

set_option maxHeartbeats 1000000 in
theorem law_BusyTerm (xs : List (List UInt8)) (hn_xs : xs.length < 4611686018427387904) (hs_xs : ∀ x ∈ xs, x.length < 4611686018427387904) (n : Int) : CallOk Tryz.prog 5 [.sl 9 (strA xs) [] false, .int .i64 n] (.bool true) [] := by
  have hsz_xs := cw (by kernel_rfl) (by simp [AV.pure, AV.pureL, natA_pure, natI_pure, natS_pure]) (by simp [AV.pure, AV.pureL, natA_pure, natI_pure, natS_pure]) (l_sz xs 1000000 (by omega) (by omega) hn_xs hs_xs)
  by_cases hneg_xs : szS xs 1000000 < 0
  · (refine callOk_of_wpc (W := fun g => g == 10) false hm' Tryz.func5 rfl (by kernel_rfl) (Nat.le_of_ble_eq_true rfl) (go_start ?_); generalize hQ : Post Tryz.prog Tryz.f5 _ _ _ _ _ = Q; simp only [stIn, matL, matA, st00])
    simp (disch := omega) only [go_sem, ↓k_cond, ↓x_idx, ↓k_block, Nat.reduceEqDiff, Nat.reduceBEq, ↓reduceIte, reduceCtorEq, hsz_xs]
    (repeat (with_reducible refine Or.inr ?_))
    rw [← hQ]
    exact post_one (.inl rfl) rfl (by simp [upd_app] <;> omega) rfl
  obtain ⟨b1_xs, b2_xs, b3_xs⟩ := szS_bd (by omega) (show 0 ≤ szS xs 1000000 by omega)
  have hl_xs : xs.length ≤ 1000000 := by omega
  have he_xs : ∀ x ∈ xs, x.length ≤ 1000000 := fun x hx => by have := b2_xs x hx; omega
  obtain ⟨z_xs, hz_xs⟩ : ∃ z, szS xs 1000000 = z := ⟨_, rfl⟩
  rw [hz_xs] at hsz_xs hneg_xs b3_xs
  have hT_xs := l_to xs false (.inl rfl) hl_xs
  obtain ⟨sp_xs, hsp_xs⟩ : ∃ sp, spareL xs.length = sp := ⟨_, rfl⟩
  have hr_xs : sp_xs.length = roomB xs.length := by rw [← hsp_xs, spareL]; simp
  have hrl_xs := room_le xs.length
  rw [hsp_xs] at hT_xs
  have hI := i_BusyTerm (xs := xs) (n := n) (by omega) (fun x hx => by have := he_xs x hx; omega)
  have hS := s_BusyTerm (xs := xs) (n := n) (by omega) (fun x hx => by have := he_xs x hx; omega)
  generalize (busT xs n) = o at *
  cases o
  all_goals
    (refine callOk_of_wpc (W := fun g => g == 10) false hm' Tryz.func5 rfl (by kernel_rfl) (Nat.le_of_ble_eq_true rfl) (go_start ?_); generalize hQ : Post Tryz.prog Tryz.f5 _ _ _ _ _ = Q; simp only [stIn, matL, matA, st00])
    simp (disch := omega) only [go_sem, ↓k_cond, ↓x_idx, ↓k_block, Nat.reduceEqDiff, Nat.reduceBEq, ↓reduceIte, reduceCtorEq, hsz_xs]
    (repeat (with_reducible refine Or.inr ?_))
    refine callW_O hT_xs cl_to (by simp [AV.pure, AV.pureL, natA_pure, natI_pure, natS_pure]) (strA_pure _) (strA_pure _) rfl ?_
    simp only [strA_length, strA_append]
    simp (disch := omega) only [go_sem, ↓k_cond, ↓x_idx, ↓k_block, Nat.reduceEqDiff, Nat.reduceBEq, ↓reduceIte, reduceCtorEq]
    refine callW_S hS (by kernel_rfl) (snap_more (sp := sp_xs) (by simp [upd_app]) rfl rfl rfl) rfl rfl ?_
    simp (disch := omega) only [go_sem, ↓k_cond, ↓x_idx, ↓k_block, Nat.reduceEqDiff, Nat.reduceBEq, ↓reduceIte, reduceCtorEq]
    refine callW_O hT_xs cl_to (by simp [AV.pure, AV.pureL, natA_pure, natI_pure, natS_pure]) (strA_pure _) (strA_pure _) rfl ?_
    simp only [strA_length, strA_append]
    simp (disch := omega) only [go_sem, ↓k_cond, ↓x_idx, ↓k_block, Nat.reduceEqDiff, Nat.reduceBEq, ↓reduceIte, reduceCtorEq]
    refine callW_S hI (by kernel_rfl) (snap_more (sp := sp_xs) (by simp [upd_app]) rfl rfl rfl) rfl rfl ?_
    simp (disch := omega) only [go_sem, ↓k_cond, ↓x_idx, ↓k_block, Nat.reduceEqDiff, Nat.reduceBEq, ↓reduceIte, reduceCtorEq]
    refine callW_O hT_xs cl_to (by simp [AV.pure, AV.pureL, natA_pure, natI_pure, natS_pure]) (strA_pure _) (strA_pure _) rfl ?_
    simp only [strA_length, strA_append]
    simp (disch := omega) only [go_sem, ↓k_cond, ↓x_idx, ↓k_block, Nat.reduceEqDiff, Nat.reduceBEq, ↓reduceIte, reduceCtorEq]
    refine callW_I (i_intact (xs := xs) (sp := sp_xs) (by simp [upd_app]) (by simp [upd_app]) rfl (by rw [← hr_xs]) hr_xs hl_xs) (by kernel_rfl) (.inr ⟨rfl, rfl⟩) ?_
    simp (disch := omega) only [go_sem, ↓k_cond, ↓x_idx, ↓k_block, Nat.reduceEqDiff, Nat.reduceBEq, ↓reduceIte, reduceCtorEq]
    by_cases hnil : xs = []
    · subst hnil
      refine callW_P l_toNil cl_to (by simp [AV.pure, AV.pureL, natA_pure, natI_pure, natS_pure]) rfl ?_
      simp (disch := omega) only [go_sem, ↓k_cond, ↓x_idx, ↓k_block, Nat.reduceEqDiff, Nat.reduceBEq, ↓reduceIte, reduceCtorEq]
      refine callW_P (hI.args (SubL.cons sub_nil (SubL.cons (Sub.refl _) .nil))) (by kernel_rfl) rfl rfl ?_
      simp (disch := omega) only [go_sem, ↓k_cond, ↓x_idx, ↓k_block, Nat.reduceEqDiff, Nat.reduceBEq, ↓reduceIte, reduceCtorEq]
      rw [← hQ]
      exact post_one (.inl rfl) rfl (by simp [upd_app] <;> omega) rfl
    · have hT2 := l_to xs true (.inr hnil) hl_xs
      rw [hsp_xs] at hT2
      refine callW_O hT2 cl_to (by simp [AV.pure, AV.pureL, natA_pure, natI_pure, natS_pure]) (strA_pure _) (strA_pure _) rfl ?_
      simp only [strA_length, strA_append]
      simp (disch := omega) only [go_sem, ↓k_cond, ↓x_idx, ↓k_block, Nat.reduceEqDiff, Nat.reduceBEq, ↓reduceIte, reduceCtorEq]
      refine callW_S hI (by kernel_rfl) (snap_more (sp := sp_xs) (by simp [upd_app]) rfl rfl rfl) rfl rfl ?_
      simp (disch := omega) only [go_sem, ↓k_cond, ↓x_idx, ↓k_block, Nat.reduceEqDiff, Nat.reduceBEq, ↓reduceIte, reduceCtorEq]
      rw [← hQ]
      exact post_one (.inl rfl) rfl (by simp [upd_app] <;> omega) rfl
theorem lawOk_BusyTerm : LawOk Tryz.prog 5 [.cell (.sl 9 .str), .cell (.int .i64)] := by
 intro xs h
 obtain ⟨x_xs, _, rfl, k_xs, ⟨x_n, _, rfl, k_n, rfl⟩⟩ := h
 obtain ⟨xs, rfl, h1_xs, h2_xs⟩ := isC_strs k_xs
 obtain ⟨n, rfl, _⟩ := k_n
 exact law_BusyTerm xs h1_xs h2_xs n
end Go.Proofs.YtjilbkkappobpaaGreatDoor
