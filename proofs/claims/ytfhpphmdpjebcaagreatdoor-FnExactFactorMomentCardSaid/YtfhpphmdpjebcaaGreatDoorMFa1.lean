/- Part 14 of 16 of the proof that stands in YtfhpphmdpjebcaaGreatDoorMFa3. -/
import Derived.Test.YtfhpphmdpjebcaaGreatDoorM13

set_option linter.unusedVariables false
set_option linter.unusedSimpArgs false

/- What the laws do with lists of texts, as0 equations; the law of FactorMoment. -/
set_option linter.unusedSimpArgs false
set_option linter.unusedVariables false
set_option maxRecDepth 100000
namespace Go.Proofs.YtfhpphmdpjebcaaGreatDoor
open Go

/-- A law's argument that is a list of texts. -/
theorem isC_strs {x : AV} (h : isC (.sl 9 .str) x) : ∃ xs : List (List UInt8), x = .sl 9 (strA xs) [] false ∧ xs.length < 4611686018427387904 ∧ ∀ s ∈ xs, s.length < 4611686018427387904 := by
  obtain ⟨ys, rfl, hl, hy⟩ := h
  have : ∃ xs : List (List UInt8), ys = strA xs ∧ ∀ s ∈ xs, s.length < 4611686018427387904 := by
    clear hl
    induction ys with
    | nil => exact ⟨[], rfl, by simp⟩
    | cons y ys ih =>
      obtain ⟨xs, rfl, h1⟩ := ih fun z hz => hy z (by simp [hz])
      obtain ⟨s, rfl, hs⟩ := hy y (by simp)
      exact ⟨s :: xs, rfl, by intro u hu; rcases List.mem_cons.1 hu with rfl | hu; · exact hs
                              · exact h1 u hu⟩
  obtain ⟨xs, rfl, h1⟩ := this
  exact ⟨xs, rfl, by rw [strA_length] at hl; exact hl, h1⟩
theorem optT_solid (o : Option (List UInt8)) : (optT o).solid = true := by cases o <;> rfl
/-- Private texts and plain values handed on. -/
theorem snap_more {st : St} {id n len : Nat} {xs sp : List (List UInt8)} {more : List AV} (h : st.h id = ⟨9, strA (xs ++ sp), true, true, true⟩) (hn : xs.length + sp.length = n) (hl : xs.length = len) (hm : AV.pureL more = true) :
    snapL (snapA st 8) (.ref id n 0 len :: more) = some (.sl 9 (strA xs) [] false :: more, [id]) := by
  have h1 := snap_strs (st := st) (id := id) (n := n) (len := len) (xs := xs ++ sp) h (by simp; omega) (by omega)
  rw [List.take_left' hl] at h1
  simp [snapL, h1, snapL_pure hm]
theorem law_FactorMoment (xs : List (List UInt8)) (n : Int) (hn : xs.length < 4611686018427387904) (hs : ∀ x ∈ xs, x.length < 4611686018427387904) : CallOk Tryz.prog 6 [.sl 9 (strA xs) [] false, .int .i64 n] (.bool true) [] := by
  have hsz := cw (by kernel_rfl) (by simp [AV.pure, AV.pureL, natA_pure, natI_pure, natS_pure]) (by simp [AV.pure, AV.pureL, natA_pure, natI_pure, natS_pure]) (l_sz xs 1000000 (by omega) (by omega) hn hs)
  by_cases hneg : szS xs 1000000 < 0
  · (refine callOk_of_wpc (W := fun g => g == 17 || g == 20) false hm' Tryz.func6 rfl (by kernel_rfl) (Nat.le_of_ble_eq_true rfl) (go_start ?_); generalize hQ : Post Tryz.prog Tryz.f6 _ _ _ _ _ = Q; simp only [stIn, matL, matA, st00])
    simp (disch := omega) only [go_sem, ↓k_cond, ↓x_idx, ↓k_block, Nat.reduceEqDiff, Nat.reduceBEq, ↓reduceIte, reduceCtorEq, hsz]
    (repeat (with_reducible refine Or.inr ?_))
    rw [← hQ]
    exact post_one (.inl rfl) rfl (by simp [upd_app] <;> omega) rfl
  obtain ⟨b1, b2, b3⟩ := szS_bd (by omega) (show 0 ≤ szS xs 1000000 by omega)
  have hl : xs.length ≤ 1000000 := by omega
  obtain ⟨z, hz⟩ : ∃ z, szS xs 1000000 = z := ⟨_, rfl⟩
  rw [hz] at hsz hneg b3
  have hT := l_to xs false (.inl rfl) hl
  have hI := i_FactorMoment (xs := xs) (n := n) (by omega) (fun x hx => by have := b2 x hx; omega)
  have hS := s_FactorMoment (xs := xs) (n := n) (by omega) (fun x hx => by have := b2 x hx; omega)
  have hIn := l_intact xs hl
  obtain ⟨sp, hsp⟩ : ∃ sp, spareL xs.length = sp := ⟨_, rfl⟩
  rw [hsp] at hT hIn
  generalize facT xs n = o at *
  cases o
  all_goals
    (refine callOk_of_wpc (W := fun g => g == 17 || g == 20) false hm' Tryz.func6 rfl (by kernel_rfl) (Nat.le_of_ble_eq_true rfl) (go_start ?_); generalize hQ : Post Tryz.prog Tryz.f6 _ _ _ _ _ = Q; simp only [stIn, matL, matA, st00])
    simp (disch := omega) only [go_sem, ↓k_cond, ↓x_idx, ↓k_block, Nat.reduceEqDiff, Nat.reduceBEq, ↓reduceIte, reduceCtorEq, hsz]
    (repeat (with_reducible refine Or.inr ?_))
    refine callW_O hT cl_to (by simp [AV.pure, AV.pureL, natA_pure, natI_pure, natS_pure]) (strA_pure _) (strA_pure _) rfl ?_
    simp only [strA_length, strA_append]
    simp (disch := omega) only [go_sem, ↓k_cond, ↓x_idx, ↓k_block, Nat.reduceEqDiff, Nat.reduceBEq, ↓reduceIte, reduceCtorEq]
    refine callW_S hS (by kernel_rfl) (snap_more (sp := sp) (by simp [upd_app]) rfl rfl rfl) rfl rfl ?_
    simp (disch := omega) only [go_sem, ↓k_cond, ↓x_idx, ↓k_block, Nat.reduceEqDiff, Nat.reduceBEq, ↓reduceIte, reduceCtorEq]
    refine callW_O hT cl_to (by simp [AV.pure, AV.pureL, natA_pure, natI_pure, natS_pure]) (strA_pure _) (strA_pure _) rfl ?_
    simp only [strA_length, strA_append]
    simp (disch := omega) only [go_sem, ↓k_cond, ↓x_idx, ↓k_block, Nat.reduceEqDiff, Nat.reduceBEq, ↓reduceIte, reduceCtorEq]
    refine callW_S hI (by kernel_rfl) (snap_more (sp := sp) (by simp [upd_app]) rfl rfl rfl) rfl rfl ?_
    simp (disch := omega) only [go_sem, ↓k_cond, ↓x_idx, ↓k_block, Nat.reduceEqDiff, Nat.reduceBEq, ↓reduceIte, reduceCtorEq]
    refine callW_O hT cl_to (by simp [AV.pure, AV.pureL, natA_pure, natI_pure, natS_pure]) (strA_pure _) (strA_pure _) rfl ?_
    simp only [strA_length, strA_append]
    simp (disch := omega) only [go_sem, ↓k_cond, ↓x_idx, ↓k_block, Nat.reduceEqDiff, Nat.reduceBEq, ↓reduceIte, reduceCtorEq]
    refine callW_E hIn cl_intact (own_two (own_strs (st := ⟨_, _, _⟩) (id := 1) (xs := xs) (sp := sp) (by simp [upd_app]) rfl rfl) (own_strs (st := ⟨_, _, _⟩) (id := 2) (xs := xs) (sp := sp) (by simp [upd_app]) rfl rfl)) (by decide) rfl rfl ?_
    simp (disch := omega) only [go_sem, ↓k_cond, ↓x_idx, ↓k_block, Nat.reduceEqDiff, Nat.reduceBEq, ↓reduceIte, reduceCtorEq]
    by_cases hnil : xs = []
    · subst hnil
      refine callW_P l_toNil cl_to (by simp [AV.pure, AV.pureL, natA_pure, natI_pure, natS_pure]) rfl ?_
      simp (disch := omega) only [go_sem, ↓k_cond, ↓x_idx, ↓k_block, Nat.reduceEqDiff, Nat.reduceBEq, ↓reduceIte, reduceCtorEq]
      refine callW_P (hI.args (SubL.cons sub_nil (SubL.cons (Sub.refl _) .nil))) (by kernel_rfl) rfl rfl ?_
      simp (disch := omega) only [go_sem, ↓k_cond, ↓x_idx, ↓k_block, Nat.reduceEqDiff, Nat.reduceBEq, ↓reduceIte, reduceCtorEq]
      rw [← hQ]
      exact post_one (.inl rfl) rfl (by simp [upd_app] <;> omega) rfl
    · have hT2 := l_to xs true (.inr hnil) hl
      rw [hsp] at hT2
      refine callW_O hT2 cl_to (by simp [AV.pure, AV.pureL, natA_pure, natI_pure, natS_pure]) (strA_pure _) (strA_pure _) rfl ?_
      simp only [strA_length, strA_append]
      simp (disch := omega) only [go_sem, ↓k_cond, ↓x_idx, ↓k_block, Nat.reduceEqDiff, Nat.reduceBEq, ↓reduceIte, reduceCtorEq]
      refine callW_S hI (by kernel_rfl) (snap_more (sp := sp) (by simp [upd_app]) rfl rfl rfl) rfl rfl ?_
      simp (disch := omega) only [go_sem, ↓k_cond, ↓x_idx, ↓k_block, Nat.reduceEqDiff, Nat.reduceBEq, ↓reduceIte, reduceCtorEq]
      rw [← hQ]
      exact post_one (.inl rfl) rfl (by simp [upd_app] <;> omega) rfl
theorem lawOk_FactorMoment : LawOk Tryz.prog 6 [.cell (.sl 9 .str), .cell (.int .i64)] := by
  intro xs h
  obtain ⟨x, _, rfl, hx, y, _, rfl, ⟨n, rfl, _⟩, rfl⟩ := h
  obtain ⟨xs, rfl, h1, h2⟩ := isC_strs hx
  exact law_FactorMoment xs n h1 h2
end Go.Proofs.YtfhpphmdpjebcaaGreatDoor
