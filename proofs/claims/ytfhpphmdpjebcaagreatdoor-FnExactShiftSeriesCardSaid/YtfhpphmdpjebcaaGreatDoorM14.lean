/- Part 14 of the ground of the proofs of this seat. -/
import Derived.Test.YtfhpphmdpjebcaaGreatDoorM13

set_option linter.unusedVariables false
set_option linter.unusedSimpArgs false
set_option maxRecDepth 100000
namespace Go.Proofs.YtfhpphmdpjebcaaGreatDoor
open Go

theorem isC_strs {x : AV} (h : isC (.sl 9 .str) x) : ∃ xs : List (List UInt8), x = .sl 9 (strA xs) [] false ∧ xs.length < 4611686018427387904 ∧ ∀ s ∈ xs, s.length < 4611686018427387904 := by
  obtain ⟨ys, rfl, hl, hy⟩ := h
  have : ∃ xs : List (List UInt8), ys = strA xs ∧ ∀ s ∈ xs, s.length < 4611686018427387904 := by
    clear hl
    induction ys with
    | nil => exact ⟨[], rfl, by simp⟩
    | cons y ys ih =>
      obtain ⟨xs, rfl, h1⟩ := ih fun z hz => hy z (by simp [hz])
      obtain ⟨s, rfl, hs⟩ := hy y (by simp)
      exact ⟨s :: xs, rfl, by intro u hu; rcases List.mem_cons.1 hu with rfl | hu; · exact hs
                              · exact h1 u hu⟩
  obtain ⟨xs, rfl, h1⟩ := this
  exact ⟨xs, rfl, by rw [strA_length] at hl; exact hl, h1⟩
theorem optT_solid (o : Option (List UInt8)) : (optT o).solid = true := by cases o <;> rfl
theorem snap_more {st : St} {id n len : Nat} {xs sp : List (List UInt8)} {more : List AV} (h : st.h id = ⟨9, strA (xs ++ sp), true, true, true⟩) (hn : xs.length + sp.length = n) (hl : xs.length = len) (hm : AV.pureL more = true) :
    snapL (snapA st 8) (.ref id n 0 len :: more) = some (.sl 9 (strA xs) [] false :: more, [id]) := by
  have h1 := snap_strs (st := st) (id := id) (n := n) (len := len) (xs := xs ++ sp) h (by simp; omega) (by omega)
  rw [List.take_left' hl] at h1
  simp [snapL, h1, snapL_pure hm]
theorem law_FactorMoment (xs : List (List UInt8)) (n : Int) (hn : xs.length < 4611686018427387904) (hs : ∀ x ∈ xs, x.length < 4611686018427387904) : CallOk Tryz.prog 6 [.sl 9 (strA xs) [] false, .int .i64 n] (.bool true) [] := by
  have hsz := cw (by kernel_rfl) (by simp [AV.pure, AV.pureL, natA_pure, natI_pure, natS_pure]) (by simp [AV.pure, AV.pureL, natA_pure, natI_pure, natS_pure]) (l_sz xs 1000000 (by omega) (by omega) hn hs)
  by_cases hneg : szS xs 1000000 < 0
  · (refine callOk_of_wpc (W := fun g => g == 17 || g == 20) false hm' Tryz.func6 rfl (by kernel_rfl) (Nat.le_of_ble_eq_true rfl) (go_start ?_); generalize hQ : Post Tryz.prog Tryz.f6 _ _ _ _ _ = Q; simp only [stIn, matL, matA, st00])
    simp (disch := omega) only [go_sem, ↓k_cond, ↓x_idx, ↓k_block, Nat.reduceEqDiff, Nat.reduceBEq, ↓reduceIte, reduceCtorEq, hsz]
    (repeat (with_reducible refine Or.inr ?_))
    rw [← hQ]
    exact post_one (.inl rfl) rfl (by simp [upd_app] <;> omega) rfl
  obtain ⟨b1, b2, b3⟩ := szS_bd (by omega) (show 0 ≤ szS xs 1000000 by omega)
  have hl : xs.length ≤ 1000000 := by omega
  obtain ⟨z, hz⟩ : ∃ z, szS xs 1000000 = z := ⟨_, rfl⟩
  rw [hz] at hsz hneg b3
  have hT := l_to xs false (.inl rfl) hl
  have hI := i_FactorMoment (xs := xs) (n := n) (by omega) (fun x hx => by have := b2 x hx; omega)
  have hS := s_FactorMoment (xs := xs) (n := n) (by omega) (fun x hx => by have := b2 x hx; omega)
  have hIn := l_intact xs hl
  obtain ⟨sp, hsp⟩ : ∃ sp, spareL xs.length = sp := ⟨_, rfl⟩
  rw [hsp] at hT hIn
  generalize facT xs n = o at *
  cases o
  all_goals
    (refine callOk_of_wpc (W := fun g => g == 17 || g == 20) false hm' Tryz.func6 rfl (by kernel_rfl) (Nat.le_of_ble_eq_true rfl) (go_start ?_); generalize hQ : Post Tryz.prog Tryz.f6 _ _ _ _ _ = Q; simp only [stIn, matL, matA, st00])
    simp (disch := omega) only [go_sem, ↓k_cond, ↓x_idx, ↓k_block, Nat.reduceEqDiff, Nat.reduceBEq, ↓reduceIte, reduceCtorEq, hsz]
    (repeat (with_reducible refine Or.inr ?_))
    refine callW_O hT cl_to (by simp [AV.pure, AV.pureL, natA_pure, natI_pure, natS_pure]) (strA_pure _) (strA_pure _) rfl ?_
    simp only [strA_length, strA_append]
    simp (disch := omega) only [go_sem, ↓k_cond, ↓x_idx, ↓k_block, Nat.reduceEqDiff, Nat.reduceBEq, ↓reduceIte, reduceCtorEq]
    refine callW_S hS (by kernel_rfl) (snap_more (sp := sp) (by simp [upd_app]) rfl rfl rfl) rfl rfl ?_
    simp (disch := omega) only [go_sem, ↓k_cond, ↓x_idx, ↓k_block, Nat.reduceEqDiff, Nat.reduceBEq, ↓reduceIte, reduceCtorEq]
    refine callW_O hT cl_to (by simp [AV.pure, AV.pureL, natA_pure, natI_pure, natS_pure]) (strA_pure _) (strA_pure _) rfl ?_
    simp only [strA_length, strA_append]
    simp (disch := omega) only [go_sem, ↓k_cond, ↓x_idx, ↓k_block, Nat.reduceEqDiff, Nat.reduceBEq, ↓reduceIte, reduceCtorEq]
    refine callW_S hI (by kernel_rfl) (snap_more (sp := sp) (by simp [upd_app]) rfl rfl rfl) rfl rfl ?_
    simp (disch := omega) only [go_sem, ↓k_cond, ↓x_idx, ↓k_block, Nat.reduceEqDiff, Nat.reduceBEq, ↓reduceIte, reduceCtorEq]
    refine callW_O hT cl_to (by simp [AV.pure, AV.pureL, natA_pure, natI_pure, natS_pure]) (strA_pure _) (strA_pure _) rfl ?_
    simp only [strA_length, strA_append]
    simp (disch := omega) only [go_sem, ↓k_cond, ↓x_idx, ↓k_block, Nat.reduceEqDiff, Nat.reduceBEq, ↓reduceIte, reduceCtorEq]
    refine callW_E hIn cl_intact (own_two (own_strs (st := ⟨_, _, _⟩) (id := 1) (xs := xs) (sp := sp) (by simp [upd_app]) rfl rfl) (own_strs (st := ⟨_, _, _⟩) (id := 2) (xs := xs) (sp := sp) (by simp [upd_app]) rfl rfl)) (by decide) rfl rfl ?_
    simp (disch := omega) only [go_sem, ↓k_cond, ↓x_idx, ↓k_block, Nat.reduceEqDiff, Nat.reduceBEq, ↓reduceIte, reduceCtorEq]
    by_cases hnil : xs = []
    · subst hnil
      refine callW_P l_toNil cl_to (by simp [AV.pure, AV.pureL, natA_pure, natI_pure, natS_pure]) rfl ?_
      simp (disch := omega) only [go_sem, ↓k_cond, ↓x_idx, ↓k_block, Nat.reduceEqDiff, Nat.reduceBEq, ↓reduceIte, reduceCtorEq]
      refine callW_P (hI.args (SubL.cons sub_nil (SubL.cons (Sub.refl _) .nil))) (by kernel_rfl) rfl rfl ?_
      simp (disch := omega) only [go_sem, ↓k_cond, ↓x_idx, ↓k_block, Nat.reduceEqDiff, Nat.reduceBEq, ↓reduceIte, reduceCtorEq]
      rw [← hQ]
      exact post_one (.inl rfl) rfl (by simp [upd_app] <;> omega) rfl
    · have hT2 := l_to xs true (.inr hnil) hl
      rw [hsp] at hT2
      refine callW_O hT2 cl_to (by simp [AV.pure, AV.pureL, natA_pure, natI_pure, natS_pure]) (strA_pure _) (strA_pure _) rfl ?_
      simp only [strA_length, strA_append]
      simp (disch := omega) only [go_sem, ↓k_cond, ↓x_idx, ↓k_block, Nat.reduceEqDiff, Nat.reduceBEq, ↓reduceIte, reduceCtorEq]
      refine callW_S hI (by kernel_rfl) (snap_more (sp := sp) (by simp [upd_app]) rfl rfl rfl) rfl rfl ?_
      simp (disch := omega) only [go_sem, ↓k_cond, ↓x_idx, ↓k_block, Nat.reduceEqDiff, Nat.reduceBEq, ↓reduceIte, reduceCtorEq]
      rw [← hQ]
      exact post_one (.inl rfl) rfl (by simp [upd_app] <;> omega) rfl
theorem lawOk_FactorMoment : LawOk Tryz.prog 6 [.cell (.sl 9 .str), .cell (.int .i64)] := by
  intro xs h
  obtain ⟨x, _, rfl, hx, y, _, rfl, ⟨n, rfl, _⟩, rfl⟩ := h
  obtain ⟨xs, rfl, h1, h2⟩ := isC_strs hx
  exact law_FactorMoment xs n h1 h2
def derF (qs : List Rat) (i : Nat) : Rat := (((i + 1 : Nat) : Int) : Rat) * qs.getD (i + 1) 0
theorem getD_fits {qs : List Rat} (hq : ∀ q ∈ qs, fits 700 q) (i : Nat) : fits 700 (qs.getD i 0) := by
  rcases Nat.lt_or_ge i qs.length with h | h
  · rw [List.getD_eq_getElem?_getD, List.getElem?_eq_getElem h]
    exact hq _ (List.getElem_mem h)
  · rw [List.getD_eq_getElem?_getD, List.getElem?_eq_none h]
    exact fits_mono (fits_int (n := 0) (k := 64) (by decide) (by decide)) (by decide)
theorem derF_fits {qs : List Rat} (hq : ∀ q ∈ qs, fits 700 q) {i : Nat} (hi : i < 100) : fits 764 (derF qs i) :=
  fits_mul (m := 64) (n := 700) (fits_int (by omega) (by decide)) (getD_fits hq _) (by decide)
def sumF (qs : List Rat) (i : Nat) : Rat := sumL (qs.take (i + 1))
theorem sumF_fits {qs : List Rat} (hq : ∀ q ∈ qs, fits 700 q) (hl : qs.length ≤ 13) (i : Nat) : fits 9177 (sumF qs i) := by
  have h := sumL_fits (m := 700) (qs := qs.take (i + 1)) (fun q h => hq q (List.mem_of_mem_take h))
  have : (qs.take (i + 1)).length ≤ 13 := by rw [List.length_take]; omega
  exact fits_mono h (by omega)
def derT (xs : List (List UInt8)) : Option (List (List UInt8)) :=
  match serR xs with
  | some qs => if qs.length < 2 then none else (mapF (qs.length - 1) (derF qs)).mapM toldR
  | none => none
def sumT (xs : List (List UInt8)) : Option (List (List UInt8)) :=
  match serR xs with
  | some qs => (mapF qs.length (sumF qs)).mapM toldR
  | none => none
theorem mapF_ne {n : Nat} {f : Nat → Rat} (h : n ≠ 0) : mapF n f ≠ [] := fun e => by
  have := congrArg List.length e
  rw [mapF_len] at this; simp at this; omega
theorem toldL_len {qs : List Rat} {ts : List (List UInt8)} (h : qs.mapM toldR = some ts) : ts.length = qs.length := mapM_len h
theorem derT_len {xs : List (List UInt8)} {ts : List (List UInt8)} (h : derT xs = some ts) : ts.length ≤ 1000 := by
  unfold derT at h
  cases hq : serR xs with
  | none => rw [hq] at h; cases h
  | some qs =>
    rw [hq] at h
    simp only at h
    obtain ⟨_, _, _, h4⟩ := serR_some hq
    split at h
    · cases h
    · have := toldL_len h
      rw [mapF_len] at this; omega
theorem sumT_len {xs : List (List UInt8)} {ts : List (List UInt8)} (h : sumT xs = some ts) : ts.length ≤ 1000 := by
  unfold sumT at h
  cases hq : serR xs with
  | none => rw [hq] at h; cases h
  | some qs =>
    rw [hq] at h
    simp only at h
    obtain ⟨_, _, _, h4⟩ := serR_some hq
    have := toldL_len h
    rw [mapF_len] at this; omega
def opT (f : List Rat → List Rat → List Rat) (xs ys : List (List UInt8)) : Option (List (List UInt8)) :=
  match serR xs, serR ys with
  | some x, some y => if x.length = y.length then (f x y).mapM toldR else none
  | _, _ => none
def pluF (x y : List Rat) (i : Nat) : Rat := x.getD i 0 + y.getD i 0
def lesF (x y : List Rat) (i : Nat) : Rat := x.getD i 0 - y.getD i 0
def pluL (x y : List Rat) : List Rat := mapF x.length (pluF x y)
def lesL (x y : List Rat) : List Rat := mapF x.length (lesF x y)
def ovrL (x y : List Rat) : List Rat := overO x y x.length
def ovrT (xs ys : List (List UInt8)) : Option (List (List UInt8)) :=
  match serR ys with
  | some y => if y.getD 0 0 = 0 then none else opT ovrL xs ys
  | none => none
theorem opT_len {f : List Rat → List Rat → List Rat} {xs ys ts : List (List UInt8)} (hf : ∀ x y, (f x y).length = x.length) (h : opT f xs ys = some ts) : ts.length ≤ 1000 := by
  unfold opT at h
  split at h
  · rename_i x y hx hy
    obtain ⟨_, _, _, h4⟩ := serR_some hx
    split at h
    · have := toldL_len h
      rw [hf] at this; omega
    · cases h
  · cases h
theorem pluT_len {xs ys ts : List (List UInt8)} (h : opT pluL xs ys = some ts) : ts.length ≤ 1000 := opT_len (fun _ _ => mapF_len) h
theorem lesT_len {xs ys ts : List (List UInt8)} (h : opT lesL xs ys = some ts) : ts.length ≤ 1000 := opT_len (fun _ _ => mapF_len) h
theorem ovrT_len {xs ys ts : List (List UInt8)} (h : ovrT xs ys = some ts) : ts.length ≤ 1000 := by
  unfold ovrT at h
  split at h
  · split at h
    · cases h
    · exact opT_len (fun _ _ => overO_len _ _ _) h
  · cases h
theorem getD_of {qs : List Rat} {i : Nat} {q : Rat} (h : qs[i]? = some q) : qs.getD i 0 = q := by rw [List.getD_eq_getElem?_getD, h]; rfl
theorem overO_get {x y : List Rat} {k i : Nat} {o : Rat} (h : (overO x y k)[i]? = some o) : (overO x y k).getD i 0 = o := getD_of h
theorem snapR {st : St} {i m n : Nat} {qs : List Rat} {ex gr : Bool} (hi : st.h i = ⟨41, ratM m qs, ex, gr, true⟩) (hn : qs.length = n) : snapL (snapA st 8) [.ref i n 0 n] = some ([lS m qs], [i]) := by
  have h1 := snap_frozen (st := st) (d := 7) (id := i) (n := n) (off := 0) (len := n) (T := 41) (r := ratM m qs) (by rw [hi]) (by rw [hi, ratM_length, hn]) (by rw [hi]) (by omega) (by rw [hi, List.drop_zero]; exact List.take_of_length_le (by rw [ratM_length, hn]; exact Nat.le_refl _)) (by simp)
  simp [snapL, h1]
theorem optTL_solid : ∀ o : Option (List (List UInt8)), (optTL o).solid = true
  | none => rfl
  | some ts => by
    have : ∀ xs : List (List UInt8), AV.solidL (strA xs) = true := by
      intro xs
      induction xs with
      | nil => rfl
      | cons x xs ih => simp only [strA, List.map_cons, AV.solidL] at ih ⊢; rw [ih]; rfl
    simp [optTL, AV.solid, AV.solidL, this]
theorem endS {W : FuncId → Bool} {d : Tmp} {ops : Array Oper} {os : List Oper} {fr : Nat → AV} {h : Nat → Blk} {nx i m n : Nat} {K : St → Prop} {t : TokC ⟨some d, ops, os, fr, h, nx, K⟩} {qs : List Rat} {ex gr : Bool} (hm : m ≤ 274877906944) (hl : qs.length ≤ 1000) (h0 : qs ≠ []) (hi : h i = ⟨41, ratM m qs, ex, gr, true⟩) (hn : qs.length = n) (hW : W 48 = true)
    (k1 : qs.mapM toldR = none → wpos Tryz.prog W ops os ⟨upd fr d (.tup [.nil, .bool false]), h, nx⟩ K)
    (k2 : ∀ ts, qs.mapM toldR = some ts → wpos Tryz.prog W ops os ⟨upd fr d (.tup [.ref nx ts.length 0 ts.length, .bool true]), upd h nx ⟨9, strA ts, false, true, true⟩, nx + 1⟩ K) :
    callW Tryz.prog W 48 [.ref i n 0 n] ⟨some d, ops, os, fr, h, nx, K⟩ t := by
  have hc := s_GiveAll2 (m := m) (qs := qs) hm hl h0
  cases hq : qs.mapM toldR with
  | none =>
    rw [hq] at hc
    exact callW_X hc (by kernel_rfl) (snapR hi hn) rfl (matA_pure _ _ _ rfl) hW (k1 hq)
  | some ts =>
    rw [hq] at hc
    refine callW_X hc (by kernel_rfl) (snapR hi hn) (optTL_solid (some ts)) (matA_ownB (strA_pure ts) rfl) hW ?_
    have := k2 ts hq
    simpa [strA_length, St.put] using this
theorem s_DeriveSeries {xs : List (List UInt8)} (hl : xs.length < 9223372036854775808) (hs : ∀ x ∈ xs, x.length ≤ 1000000) : CallOk Tryz.prog 16 [.sl 9 (strA xs) [] false] (optTL (derT xs)) [] := by
  have h1 := w_l08Parse (xs := xs) hl hs
  unfold derT
  cases hq : serR xs with
  | none =>
    rw [hq] at h1
    (refine callOk_of_wpc (W := fun g => g == 48) true hm' Tryz.func16 rfl (by kernel_rfl) (Nat.le_of_ble_eq_true rfl) (go_start ?_); generalize hQ : Post Tryz.prog Tryz.f16 _ _ _ _ _ = Q; simp only [stIn, matL, matA, st00])
    simp (disch := omega) only [go_sem, ↓k_cond, ↓x_idx, ↓k_block, Nat.reduceEqDiff, Nat.reduceBEq, ↓reduceIte, reduceCtorEq, h1]
    (repeat (with_reducible refine Or.inr ?_))
    rw [← hQ]
    exact postT_two (.inl rfl) rfl (by simp [upd_app] <;> omega) (by simp [upd_app] <;> omega) rfl rfl
  | some qs =>
    rw [hq] at h1
    obtain ⟨hfit, _, h4, h5⟩ := serR_some hq
    obtain ⟨L, hL⟩ : ∃ n, qs.length = n := ⟨_, rfl⟩
    rw [hL] at h4 h5
    simp only [hL]
    by_cases c : L < 2
    · rw [if_pos c]
      (refine callOk_of_wpc (W := fun g => g == 48) true hm' Tryz.func16 rfl (by kernel_rfl) (Nat.le_of_ble_eq_true rfl) (go_start ?_); generalize hQ : Post Tryz.prog Tryz.f16 _ _ _ _ _ = Q; simp only [stIn, matL, matA, st00])
      simp (disch := omega) only [go_sem, ↓k_cond, ↓x_idx, ↓k_block, Nat.reduceEqDiff, Nat.reduceBEq, ↓reduceIte, reduceCtorEq, h1, hL]
      (repeat (with_reducible refine Or.inr ?_))
      rw [← hQ]
      exact postT_two (.inl rfl) rfl (by simp [upd_app] <;> omega) (by simp [upd_app] <;> omega) rfl rfl
    · rw [if_neg c]
      (refine callOk_of_wpc (W := fun g => g == 48) true hm' Tryz.func16 rfl (by kernel_rfl) (Nat.le_of_ble_eq_true rfl) (go_start ?_); generalize hQ : Post Tryz.prog Tryz.f16 _ _ _ _ _ = Q; simp only [stIn, matL, matA, st00])
      simp (disch := omega) only [go_sem, ↓k_cond, ↓x_idx, ↓k_block, Nat.reduceEqDiff, Nat.reduceBEq, ↓reduceIte, reduceCtorEq, h1, hL]
      (repeat (with_reducible refine Or.inr ?_))
      refine k_loop (fun (i : Nat) st => st.fr 4 = lS 700 qs ∧ st.fr 6 = .ref 0 i 0 i ∧ st.fr 7 = .int .i64 ((i + 1 : Nat) : Int) ∧ st.h 0 = ⟨41, ratM 764 (mapF i (derF qs)), (i == 0), true, true⟩ ∧ 0 < st.nx ∧ (i + 1 ≤ L)) (fun (i : Nat) => (L - 1) - i) (0)
        ⟨(by simp [upd_app, ratM, mapF] <;> omega), (by simp [upd_app, ratM, mapF] <;> omega), (by simp [upd_app, ratM, mapF] <;> omega), (by simp [upd_app, ratM, mapF] <;> omega), (by simp <;> omega), by omega⟩ ?_
      rintro i ⟨fr, h, nx⟩ ⟨g4, g6, g7, hm0, hnx, hi⟩ J hJ
      simp only at g4 g6 g7 hm0 hnx
      by_cases hin : i + 1 < L
      · obtain ⟨q, hqi⟩ := get_some (xs := qs) (i := i + 1) (by omega)
        have hgd : qs.getD (i + 1) 0 = q := by rw [List.getD_eq_getElem?_getD, hqi]; rfl
        have hel : (ratM 764 (mapF i (derF qs))).length = i := by rw [ratM_length, mapF_len]
        have hz1 : (i + 1 == 0) = false := by simp
        have hsn : ratM 764 (mapF i (derF qs)) ++ [rS 764 ((((i + 1 : Nat) : Int) : Rat) * q)] = ratM 764 (mapF (i + 1) (derF qs)) := by rw [mapF_succ, ratM_snoc, derF, hgd]
        simp (disch := omega) only [go_sem, ↓k_cond, ↓x_idx, ↓k_block, Nat.reduceEqDiff, Nat.reduceBEq, ↓reduceIte, reduceCtorEq, g4, g6, g7, hqi, hL, hm0, hel, reach, Nat.reduceAdd]
        (repeat (with_reducible refine Or.inr ?_))
        exact hJ (i + 1) _ ⟨(by simp [upd_app, g4] <;> omega), (by simp [upd_app] <;> omega), (by simp [upd_app] <;> omega), by simp only [upd_app, ↓reduceIte, Nat.reduceEqDiff, hsn, hz1], (by simp <;> omega), by omega⟩ (by first | omega | (simp only; omega))
      · obtain rfl : L = i + 1 := by omega
        simp (disch := omega) only [go_sem, ↓k_cond, ↓x_idx, ↓k_block, Nat.reduceEqDiff, Nat.reduceBEq, ↓reduceIte, reduceCtorEq, g4, g6, g7, hL]
        refine endS (m := 764) (qs := mapF i (derF qs)) (by omega) (by rw [mapF_len]; omega) (mapF_ne (by omega)) hm0 mapF_len rfl (fun hn => ?_) (fun ts hts => ?_)
        · rw [Nat.add_sub_cancel, hn] at hQ
          simp (disch := omega) only [go_sem, ↓k_cond, ↓x_idx, ↓k_block, Nat.reduceEqDiff, Nat.reduceBEq, ↓reduceIte, reduceCtorEq]
          rw [← hQ]
          exact postT_two (.inl rfl) rfl (by simp [upd_app] <;> omega) (by simp [upd_app] <;> omega) rfl rfl
        · rw [Nat.add_sub_cancel, hts] at hQ
          simp (disch := omega) only [go_sem, ↓k_cond, ↓x_idx, ↓k_block, Nat.reduceEqDiff, Nat.reduceBEq, ↓reduceIte, reduceCtorEq]
          rw [← hQ]
          exact post_ownB (id := nx) (n := ts.length) (len := ts.length) (.inl rfl) rfl (by simp [upd_app] <;> omega) (by simp [upd_app] <;> omega) (by simp [upd_app]) (by simp [upd_app, strA_length]) (by simp [upd_app]) (by simp [upd_app]) (Nat.le_refl _) (by simp only [upd_app, if_true]; exact List.take_of_length_le (by rw [strA_length]; exact Nat.le_refl _)) (by simp [upd_app]) (by simp [upd_app]) (strA_pure _) rfl
theorem s_SumSeries {xs : List (List UInt8)} (hl : xs.length < 9223372036854775808) (hs : ∀ x ∈ xs, x.length ≤ 1000000) : CallOk Tryz.prog 33 [.sl 9 (strA xs) [] false] (optTL (sumT xs)) [] := by
  have h1 := w_l08Parse (xs := xs) hl hs
  unfold sumT
  cases hq : serR xs with
  | none =>
    rw [hq] at h1
    (refine callOk_of_wpc (W := fun g => g == 48) true hm' Tryz.func33 rfl (by kernel_rfl) (Nat.le_of_ble_eq_true rfl) (go_start ?_); generalize hQ : Post Tryz.prog Tryz.f33 _ _ _ _ _ = Q; simp only [stIn, matL, matA, st00])
    simp (disch := omega) only [go_sem, ↓k_cond, ↓x_idx, ↓k_block, Nat.reduceEqDiff, Nat.reduceBEq, ↓reduceIte, reduceCtorEq, h1]
    (repeat (with_reducible refine Or.inr ?_))
    rw [← hQ]
    exact postT_two (.inl rfl) rfl (by simp [upd_app] <;> omega) (by simp [upd_app] <;> omega) rfl rfl
  | some qs =>
    rw [hq] at h1
    obtain ⟨hfit, _, h4, h5⟩ := serR_some hq
    obtain ⟨L, hL⟩ : ∃ n, qs.length = n := ⟨_, rfl⟩
    have hsf := sumF_fits hfit h5
    rw [hL] at h4 h5
    simp only [hL]
    (refine callOk_of_wpc (W := fun g => g == 48) true hm' Tryz.func33 rfl (by kernel_rfl) (Nat.le_of_ble_eq_true rfl) (go_start ?_); generalize hQ : Post Tryz.prog Tryz.f33 _ _ _ _ _ = Q; simp only [stIn, matL, matA, st00])
    simp (disch := omega) only [go_sem, ↓k_cond, ↓x_idx, ↓k_block, Nat.reduceEqDiff, Nat.reduceBEq, ↓reduceIte, reduceCtorEq, h1, hL]
    (repeat (with_reducible refine Or.inr ?_))
    refine k_loop (fun (i : Nat) st => st.fr 4 = lS 700 qs ∧ st.fr 6 = .ptr 0 1 0 0 ∧ st.fr 7 = .ref 1 i 0 i ∧ st.fr 8 = .int .i64 i ∧ st.h 0 = ⟨41, [rS (64 + i * 701) (sumL (qs.take i))], true, false, true⟩ ∧ st.h 1 = ⟨41, ratM 9177 (mapF i (sumF qs)), (i == 0), true, true⟩ ∧ 1 < st.nx ∧ (i ≤ L)) (fun (i : Nat) => L - i) (0)
      ⟨(by simp [upd_app, sumL, ratM, mapF] <;> omega), (by simp [upd_app, sumL, ratM, mapF] <;> omega), (by simp [upd_app, sumL, ratM, mapF] <;> omega), (by simp [upd_app, sumL, ratM, mapF] <;> omega), (by simp [upd_app, sumL, ratM, mapF] <;> omega), (by simp [upd_app, sumL, ratM, mapF] <;> omega), (by simp <;> omega), by omega⟩ ?_
    rintro i ⟨fr, h, nx⟩ ⟨g4, g6, g7, g8, hm0, hm1, hnx, hi⟩ J hJ
    simp only at g4 g6 g7 g8 hm0 hm1 hnx
    by_cases hin : i < L
    · obtain ⟨q, hqi⟩ := get_some (xs := qs) (i := i) (by omega)
      have hel : (ratM 9177 (mapF i (sumF qs))).length = i := by rw [ratM_length, mapF_len]
      have e : 64 + (i + 1) * 701 = 64 + i * 701 + 700 + 1 := by omega
      have hst : sumL (qs.take i) + q = sumL (qs.take (i + 1)) := (sumL_take hqi).symm
      have hf0 : fits (64 + (i + 1) * 701) (sumL (qs.take (i + 1))) := by
        have := sumL_fits (m := 700) (qs := qs.take (i + 1)) (fun q h => hfit q (List.mem_of_mem_take h))
        rw [List.length_take, hL, Nat.min_eq_left (by omega)] at this
        exact this
      have hre : rS (64 + i * 701 + 700 + 1) (sumL (qs.take (i + 1))) = rS 9177 (sumF qs i) := by rw [← e]; exact rS_re hf0 (hsf i)
      have hz1 : (i + 1 == 0) = false := by simp
      have hsn : ratM 9177 (mapF i (sumF qs)) ++ [rS 9177 (sumF qs i)] = ratM 9177 (mapF (i + 1) (sumF qs)) := by rw [mapF_succ, ratM_snoc]
      have hre2 : rS (64 + (i + 1) * 701) (sumL (qs.take (i + 1))) = rS 9177 (sumF qs i) := by rw [e]; exact hre
      simp (disch := omega) only [go_sem, ↓k_cond, ↓x_idx, ↓k_block, Nat.reduceEqDiff, Nat.reduceBEq, ↓reduceIte, reduceCtorEq, g4, g6, g7, g8, hqi, hL, hm0, hm1, hel, reach, hst, hre]
      (repeat (with_reducible refine Or.inr ?_))
      exact hJ (i + 1) _ ⟨(by simp [upd_app, g4] <;> omega), (by simp [upd_app, g6] <;> omega), (by simp [upd_app] <;> omega), (by simp [upd_app] <;> omega), by simp [upd_app, hre2], by simp only [upd_app, ↓reduceIte, Nat.reduceEqDiff, hsn, hz1], (by simp <;> omega), by omega⟩ (by first | omega | (simp only; omega))
    · obtain rfl : i = L := by omega
      simp (disch := omega) only [go_sem, ↓k_cond, ↓x_idx, ↓k_block, Nat.reduceEqDiff, Nat.reduceBEq, ↓reduceIte, reduceCtorEq, g4, g6, g7, g8, hL]
      refine endS (m := 9177) (qs := mapF i (sumF qs)) (by omega) (by rw [mapF_len]; omega) (mapF_ne (by omega)) hm1 mapF_len rfl (fun hn => ?_) (fun ts hts => ?_)
      · rw [hn] at hQ
        simp (disch := omega) only [go_sem, ↓k_cond, ↓x_idx, ↓k_block, Nat.reduceEqDiff, Nat.reduceBEq, ↓reduceIte, reduceCtorEq]
        rw [← hQ]
        exact postT_two (.inl rfl) rfl (by simp [upd_app] <;> omega) (by simp [upd_app] <;> omega) rfl rfl
      · rw [hts] at hQ
        simp (disch := omega) only [go_sem, ↓k_cond, ↓x_idx, ↓k_block, Nat.reduceEqDiff, Nat.reduceBEq, ↓reduceIte, reduceCtorEq]
        rw [← hQ]
        exact post_ownB (id := nx) (n := ts.length) (len := ts.length) (.inl rfl) rfl (by simp [upd_app] <;> omega) (by simp [upd_app] <;> omega) (by simp [upd_app]) (by simp [upd_app, strA_length]) (by simp [upd_app]) (by simp [upd_app]) (Nat.le_refl _) (by simp only [upd_app, if_true]; exact List.take_of_length_le (by rw [strA_length]; exact Nat.le_refl _)) (by simp [upd_app]) (by simp [upd_app]) (strA_pure _) rfl
def twoS (a b : Option (List Rat)) : AV :=
  match a, b with
  | some x, some y => .tup [lS 700 x, lS 700 y, .bool (decide (x.length = y.length))]
  | some x, none => .tup [lS 700 x, .nil, .bool false]
  | none, some y => .tup [.nil, lS 700 y, .bool false]
  | none, none => .tup [.nil, .nil, .bool false]
theorem w_l08Two {xs ys : List (List UInt8)} (hl : xs.length < 9223372036854775808) (hs : ∀ x ∈ xs, x.length ≤ 1000000) (hl2 : ys.length < 9223372036854775808) (hs2 : ∀ x ∈ ys, x.length ≤ 1000000) : CW Tryz.prog 70 [.sl 9 (strA xs) [] false, .sl 9 (strA ys) [] false] (twoS (serR xs) (serR ys)) := by
  refine cw (by kernel_rfl) (by simp [AV.pure, AV.pureL, natA_pure, natI_pure, natS_pure]) (by unfold twoS; split <;> simp [AV.pure, AV.pureL]) ?_
  have h1 := w_l08Parse (xs := xs) hl hs
  have h2 := w_l08Parse (xs := ys) hl2 hs2
  cases hx : serR xs with
  | none =>
    cases hy : serR ys with
    | none =>
      rw [hx] at h1; rw [hy] at h2
      (refine callOk_of_wpc (W := fun _ => false) false hm' Tryz.func70 rfl (by kernel_rfl) (Nat.le_of_ble_eq_true rfl) (go_start ?_); generalize hQ : Post Tryz.prog Tryz.f70 _ _ _ _ _ = Q; simp only [stIn, matL, matA, st00])
      simp (disch := omega) only [go_sem, ↓k_cond, ↓x_idx, ↓k_block, Nat.reduceEqDiff, Nat.reduceBEq, ↓reduceIte, reduceCtorEq, h1, h2]
      (repeat (with_reducible refine Or.inr ?_))
      rw [← hQ]
      exact post_three (.inl rfl) rfl (by simp [upd_app] <;> omega) (by simp [upd_app] <;> omega) (by simp [upd_app] <;> omega) rfl rfl rfl
    | some y =>
      rw [hx] at h1; rw [hy] at h2
      (refine callOk_of_wpc (W := fun _ => false) false hm' Tryz.func70 rfl (by kernel_rfl) (Nat.le_of_ble_eq_true rfl) (go_start ?_); generalize hQ : Post Tryz.prog Tryz.f70 _ _ _ _ _ = Q; simp only [stIn, matL, matA, st00])
      simp (disch := omega) only [go_sem, ↓k_cond, ↓x_idx, ↓k_block, Nat.reduceEqDiff, Nat.reduceBEq, ↓reduceIte, reduceCtorEq, h1, h2]
      (repeat (with_reducible refine Or.inr ?_))
      rw [← hQ]
      exact post_three (.inl rfl) rfl (by simp [upd_app] <;> omega) (by simp [upd_app] <;> omega) (by simp [upd_app] <;> omega) rfl (by simp [AV.pure, AV.pureL, natA_pure, natI_pure, natS_pure]) rfl
  | some x =>
    cases hy : serR ys with
    | none =>
      rw [hx] at h1; rw [hy] at h2
      (refine callOk_of_wpc (W := fun _ => false) false hm' Tryz.func70 rfl (by kernel_rfl) (Nat.le_of_ble_eq_true rfl) (go_start ?_); generalize hQ : Post Tryz.prog Tryz.f70 _ _ _ _ _ = Q; simp only [stIn, matL, matA, st00])
      simp (disch := omega) only [go_sem, ↓k_cond, ↓x_idx, ↓k_block, Nat.reduceEqDiff, Nat.reduceBEq, ↓reduceIte, reduceCtorEq, h1, h2]
      (repeat (with_reducible refine Or.inr ?_))
      rw [← hQ]
      exact post_three (.inl rfl) rfl (by simp [upd_app] <;> omega) (by simp [upd_app] <;> omega) (by simp [upd_app] <;> omega) (by simp [AV.pure, AV.pureL, natA_pure, natI_pure, natS_pure]) rfl rfl
    | some y =>
      rw [hx] at h1; rw [hy] at h2
      obtain ⟨_, _, _, h5⟩ := serR_some hx
      obtain ⟨_, _, _, h6⟩ := serR_some hy
      by_cases c : x.length = y.length
      · have e : (((x.length : Nat) : Int) == ((y.length : Nat) : Int)) = true := by simp [c]
        rw [twoS, decide_eq_true c]
        (refine callOk_of_wpc (W := fun _ => false) false hm' Tryz.func70 rfl (by kernel_rfl) (Nat.le_of_ble_eq_true rfl) (go_start ?_); generalize hQ : Post Tryz.prog Tryz.f70 _ _ _ _ _ = Q; simp only [stIn, matL, matA, st00])
        simp (disch := omega) only [go_sem, ↓k_cond, ↓x_idx, ↓k_block, Nat.reduceEqDiff, Nat.reduceBEq, ↓reduceIte, reduceCtorEq, h1, h2, e]
        (repeat (with_reducible refine Or.inr ?_))
        rw [← hQ]
        exact post_three (.inl rfl) rfl (by simp [upd_app] <;> omega) (by simp [upd_app] <;> omega) (by simp [upd_app] <;> omega) (by simp [AV.pure, AV.pureL, natA_pure, natI_pure, natS_pure]) (by simp [AV.pure, AV.pureL, natA_pure, natI_pure, natS_pure]) rfl
      · have e : (((x.length : Nat) : Int) == ((y.length : Nat) : Int)) = false := by simp; omega
        rw [twoS, decide_eq_false c]
        (refine callOk_of_wpc (W := fun _ => false) false hm' Tryz.func70 rfl (by kernel_rfl) (Nat.le_of_ble_eq_true rfl) (go_start ?_); generalize hQ : Post Tryz.prog Tryz.f70 _ _ _ _ _ = Q; simp only [stIn, matL, matA, st00])
        simp (disch := omega) only [go_sem, ↓k_cond, ↓x_idx, ↓k_block, Nat.reduceEqDiff, Nat.reduceBEq, ↓reduceIte, reduceCtorEq, h1, h2, e]
        (repeat (with_reducible refine Or.inr ?_))
        rw [← hQ]
        exact post_three (.inl rfl) rfl (by simp [upd_app] <;> omega) (by simp [upd_app] <;> omega) (by simp [upd_app] <;> omega) (by simp [AV.pure, AV.pureL, natA_pure, natI_pure, natS_pure]) (by simp [AV.pure, AV.pureL, natA_pure, natI_pure, natS_pure]) rfl
theorem s_AddSeries {xs ys : List (List UInt8)} (hl : xs.length < 9223372036854775808) (hs : ∀ x ∈ xs, x.length ≤ 1000000) (hl2 : ys.length < 9223372036854775808) (hs2 : ∀ x ∈ ys, x.length ≤ 1000000) : CallOk Tryz.prog 29 [.sl 9 (strA xs) [] false, .sl 9 (strA ys) [] false] (optTL (opT pluL xs ys)) [] := by
  have h1 := w_l08Two (xs := xs) (ys := ys) hl hs hl2 hs2
  unfold opT
  cases hx : serR xs with
  | none =>
    rw [hx] at h1
    cases hy : serR ys with
    | none =>
      rw [hy, twoS] at h1
      (refine callOk_of_wpc (W := fun g => g == 48) true hm' Tryz.func29 rfl (by kernel_rfl) (Nat.le_of_ble_eq_true rfl) (go_start ?_); generalize hQ : Post Tryz.prog Tryz.f29 _ _ _ _ _ = Q; simp only [stIn, matL, matA, st00])
      simp (disch := omega) only [go_sem, ↓k_cond, ↓x_idx, ↓k_block, Nat.reduceEqDiff, Nat.reduceBEq, ↓reduceIte, reduceCtorEq, h1]
      (repeat (with_reducible refine Or.inr ?_))
      rw [← hQ]
      exact postT_two (.inl rfl) rfl (by simp [upd_app] <;> omega) (by simp [upd_app] <;> omega) rfl rfl
    | some y =>
      rw [hy, twoS] at h1
      (refine callOk_of_wpc (W := fun g => g == 48) true hm' Tryz.func29 rfl (by kernel_rfl) (Nat.le_of_ble_eq_true rfl) (go_start ?_); generalize hQ : Post Tryz.prog Tryz.f29 _ _ _ _ _ = Q; simp only [stIn, matL, matA, st00])
      simp (disch := omega) only [go_sem, ↓k_cond, ↓x_idx, ↓k_block, Nat.reduceEqDiff, Nat.reduceBEq, ↓reduceIte, reduceCtorEq, h1]
      (repeat (with_reducible refine Or.inr ?_))
      rw [← hQ]
      exact postT_two (.inl rfl) rfl (by simp [upd_app] <;> omega) (by simp [upd_app] <;> omega) rfl rfl
  | some x =>
    rw [hx] at h1
    cases hy : serR ys with
    | none =>
      rw [hy, twoS] at h1
      (refine callOk_of_wpc (W := fun g => g == 48) true hm' Tryz.func29 rfl (by kernel_rfl) (Nat.le_of_ble_eq_true rfl) (go_start ?_); generalize hQ : Post Tryz.prog Tryz.f29 _ _ _ _ _ = Q; simp only [stIn, matL, matA, st00])
      simp (disch := omega) only [go_sem, ↓k_cond, ↓x_idx, ↓k_block, Nat.reduceEqDiff, Nat.reduceBEq, ↓reduceIte, reduceCtorEq, h1]
      (repeat (with_reducible refine Or.inr ?_))
      rw [← hQ]
      exact postT_two (.inl rfl) rfl (by simp [upd_app] <;> omega) (by simp [upd_app] <;> omega) rfl rfl
    | some y =>
      obtain ⟨_, _, h4, h5⟩ := serR_some hx
      rw [hy, twoS] at h1
      by_cases c : x.length = y.length
      · simp only [if_pos c]
        rw [decide_eq_true c] at h1
        obtain ⟨L, hL⟩ : ∃ n, x.length = n := ⟨_, rfl⟩
        rw [hL] at c h4 h5
        (refine callOk_of_wpc (W := fun g => g == 48) true hm' Tryz.func29 rfl (by kernel_rfl) (Nat.le_of_ble_eq_true rfl) (go_start ?_); generalize hQ : Post Tryz.prog Tryz.f29 _ _ _ _ _ = Q; simp only [stIn, matL, matA, st00])
        simp (disch := omega) only [go_sem, ↓k_cond, ↓x_idx, ↓k_block, Nat.reduceEqDiff, Nat.reduceBEq, ↓reduceIte, reduceCtorEq, h1]
        (repeat (with_reducible refine Or.inr ?_))
        refine k_loop (fun (i : Nat) st => st.fr 6 = lS 700 x ∧ st.fr 7 = lS 700 y ∧ st.fr 9 = .ref 0 i 0 i ∧ st.fr 10 = .int .i64 i ∧ st.h 0 = ⟨41, ratM 1401 (mapF i (pluF x y)), (i == 0), true, true⟩ ∧ 0 < st.nx ∧ (i ≤ L)) (fun (i : Nat) => L - i) (0)
          ⟨(by simp [upd_app, ratM, mapF] <;> omega), (by simp [upd_app, ratM, mapF] <;> omega), (by simp [upd_app, ratM, mapF] <;> omega), (by simp [upd_app, ratM, mapF] <;> omega), (by simp [upd_app, ratM, mapF] <;> omega), (by simp <;> omega), by omega⟩ ?_
        rintro i ⟨fr, h, nx⟩ ⟨g6, g7, g9, g10, hm0, hnx, hi⟩ J hJ
        simp only at g6 g7 g9 g10 hm0 hnx
        by_cases hin : i < L
        · obtain ⟨p, hp⟩ := get_some (xs := x) (i := i) (by omega)
          obtain ⟨q, hq⟩ := get_some (xs := y) (i := i) (by omega)
          have hel : (ratM 1401 (mapF i (pluF x y))).length = i := by rw [ratM_length, mapF_len]
          have hz1 : (i + 1 == 0) = false := by simp
          have hsn : ratM 1401 (mapF i (pluF x y)) ++ [rS 1401 (p + q)] = ratM 1401 (mapF (i + 1) (pluF x y)) := by rw [mapF_succ, ratM_snoc, pluF, getD_of hp, getD_of hq]
          simp (disch := omega) only [go_sem, ↓k_cond, ↓x_idx, ↓k_block, Nat.reduceEqDiff, Nat.reduceBEq, ↓reduceIte, reduceCtorEq, g6, g7, g9, g10, hp, hq, hL, hm0, hel, reach, Nat.reduceAdd]
          (repeat (with_reducible refine Or.inr ?_))
          exact hJ (i + 1) _ ⟨(by simp [upd_app, g6] <;> omega), (by simp [upd_app, g7] <;> omega), (by simp [upd_app] <;> omega), (by simp [upd_app] <;> omega), by simp only [upd_app, ↓reduceIte, Nat.reduceEqDiff, hsn, hz1], (by simp <;> omega), by omega⟩ (by first | omega | (simp only; omega))
        · obtain rfl : i = L := by omega
          simp (disch := omega) only [go_sem, ↓k_cond, ↓x_idx, ↓k_block, Nat.reduceEqDiff, Nat.reduceBEq, ↓reduceIte, reduceCtorEq, g6, g7, g9, g10, hL]
          have e : pluL x y = mapF i (pluF x y) := by rw [pluL, hL]
          refine endS (m := 1401) (qs := mapF i (pluF x y)) (by omega) (by rw [mapF_len]; omega) (mapF_ne (by omega)) hm0 mapF_len rfl (fun hn => ?_) (fun ts hts => ?_)
          · rw [e, hn] at hQ
            simp (disch := omega) only [go_sem, ↓k_cond, ↓x_idx, ↓k_block, Nat.reduceEqDiff, Nat.reduceBEq, ↓reduceIte, reduceCtorEq]
            rw [← hQ]
            exact postT_two (.inl rfl) rfl (by simp [upd_app] <;> omega) (by simp [upd_app] <;> omega) rfl rfl
          · rw [e, hts] at hQ
            simp (disch := omega) only [go_sem, ↓k_cond, ↓x_idx, ↓k_block, Nat.reduceEqDiff, Nat.reduceBEq, ↓reduceIte, reduceCtorEq]
            rw [← hQ]
            exact post_ownB (id := nx) (n := ts.length) (len := ts.length) (.inl rfl) rfl (by simp [upd_app] <;> omega) (by simp [upd_app] <;> omega) (by simp [upd_app]) (by simp [upd_app, strA_length]) (by simp [upd_app]) (by simp [upd_app]) (Nat.le_refl _) (by simp only [upd_app, if_true]; exact List.take_of_length_le (by rw [strA_length]; exact Nat.le_refl _)) (by simp [upd_app]) (by simp [upd_app]) (strA_pure _) rfl
      · simp only [if_neg c]
        rw [decide_eq_false c] at h1
        (refine callOk_of_wpc (W := fun g => g == 48) true hm' Tryz.func29 rfl (by kernel_rfl) (Nat.le_of_ble_eq_true rfl) (go_start ?_); generalize hQ : Post Tryz.prog Tryz.f29 _ _ _ _ _ = Q; simp only [stIn, matL, matA, st00])
        simp (disch := omega) only [go_sem, ↓k_cond, ↓x_idx, ↓k_block, Nat.reduceEqDiff, Nat.reduceBEq, ↓reduceIte, reduceCtorEq, h1]
        (repeat (with_reducible refine Or.inr ?_))
        rw [← hQ]
        exact postT_two (.inl rfl) rfl (by simp [upd_app] <;> omega) (by simp [upd_app] <;> omega) rfl rfl
theorem endSP {W : FuncId → Bool} {d : Tmp} {ops : Array Oper} {os : List Oper} {fr : Nat → AV} {h : Nat → Blk} {nx m : Nat} {K : St → Prop} {t : TokC ⟨some d, ops, os, fr, h, nx, K⟩} {qs : List Rat} (hm : m ≤ 274877906944) (hl : qs.length ≤ 1000) (h0 : qs ≠ []) (hW : W 48 = true)
    (k1 : qs.mapM toldR = none → wpos Tryz.prog W ops os ⟨upd fr d (.tup [.nil, .bool false]), h, nx⟩ K)
    (k2 : ∀ ts, qs.mapM toldR = some ts → wpos Tryz.prog W ops os ⟨upd fr d (.tup [.ref nx ts.length 0 ts.length, .bool true]), upd h nx ⟨9, strA ts, false, true, true⟩, nx + 1⟩ K) :
    callW Tryz.prog W 48 [lS m qs] ⟨some d, ops, os, fr, h, nx, K⟩ t := by
  have hc := s_GiveAll2 (m := m) (qs := qs) hm hl h0
  cases hq : qs.mapM toldR with
  | none =>
    rw [hq] at hc
    exact callW_X hc (by kernel_rfl) (snapL_pure (by simp [AV.pure, AV.pureL, natA_pure, natI_pure, natS_pure])) rfl (matA_pure _ _ _ rfl) hW (k1 hq)
  | some ts =>
    rw [hq] at hc
    refine callW_X hc (by kernel_rfl) (snapL_pure (by simp [AV.pure, AV.pureL, natA_pure, natI_pure, natS_pure])) (optTL_solid (some ts)) (matA_ownB (strA_pure ts) rfl) hW ?_
    have := k2 ts hq
    simpa [strA_length, St.put] using this
attribute [go_sem] w_l08Two
theorem w_l08Less {x y : List Rat} (hl : x.length ≤ 1000) (hxy : x.length = y.length) (h1 : 1 ≤ x.length) : CW Tryz.prog 73 [lS 700 x, lS 700 y] (lS 1401 (lesL x y)) := by
  refine cw (by kernel_rfl) (by simp [AV.pure, AV.pureL, natA_pure, natI_pure, natS_pure]) (by simp [AV.pure, AV.pureL, natA_pure, natI_pure, natS_pure]) ?_
  obtain ⟨L, hL⟩ : ∃ n, x.length = n := ⟨_, rfl⟩
  rw [lesL]
  rw [hL] at hl hxy h1 ⊢
  (refine callOk_of_wpc (W := fun _ => false) false hm' Tryz.func73 rfl (by kernel_rfl) (Nat.le_of_ble_eq_true rfl) (go_start ?_); generalize hQ : Post Tryz.prog Tryz.f73 _ _ _ _ _ = Q; simp only [stIn, matL, matA, st00])
  simp (disch := omega) only [go_sem, ↓k_cond, ↓x_idx, ↓k_block, Nat.reduceEqDiff, Nat.reduceBEq, ↓reduceIte, reduceCtorEq, hL]
  refine k_loop (fun (i : Nat) st => st.fr 0 = lS 700 x ∧ st.fr 1 = lS 700 y ∧ st.fr 5 = .ref 0 i 0 i ∧ st.fr 6 = .int .i64 i ∧ st.h 0 = ⟨41, ratM 1401 (mapF i (lesF x y)), (i == 0), true, true⟩ ∧ 0 < st.nx ∧ (i ≤ L)) (fun (i : Nat) => L - i) (0)
    ⟨(by simp [upd_app, ratM, mapF] <;> omega), (by simp [upd_app, ratM, mapF] <;> omega), (by simp [upd_app, ratM, mapF] <;> omega), (by simp [upd_app, ratM, mapF] <;> omega), (by simp [upd_app, ratM, mapF] <;> omega), (by simp <;> omega), by omega⟩ ?_
  rintro i ⟨fr, h, nx⟩ ⟨g0, g1, g5, g6, hm0, hnx, hi⟩ J hJ
  simp only at g0 g1 g5 g6 hm0 hnx
  by_cases hin : i < L
  · obtain ⟨p, hp⟩ := get_some (xs := x) (i := i) (by omega)
    obtain ⟨q, hq⟩ := get_some (xs := y) (i := i) (by omega)
    have hel : (ratM 1401 (mapF i (lesF x y))).length = i := by rw [ratM_length, mapF_len]
    have hz1 : (i + 1 == 0) = false := by simp
    have hsn : ratM 1401 (mapF i (lesF x y)) ++ [rS 1401 (p - q)] = ratM 1401 (mapF (i + 1) (lesF x y)) := by rw [mapF_succ, ratM_snoc, lesF, getD_of hp, getD_of hq]
    simp (disch := omega) only [go_sem, ↓k_cond, ↓x_idx, ↓k_block, Nat.reduceEqDiff, Nat.reduceBEq, ↓reduceIte, reduceCtorEq, g0, g1, g5, g6, hp, hq, hL, hm0, hel, reach, Nat.reduceAdd]
    (repeat (with_reducible refine Or.inr ?_))
    exact hJ (i + 1) _ ⟨(by simp [upd_app, g0] <;> omega), (by simp [upd_app, g1] <;> omega), (by simp [upd_app] <;> omega), (by simp [upd_app] <;> omega), by simp only [upd_app, ↓reduceIte, Nat.reduceEqDiff, hsn, hz1], (by simp <;> omega), by omega⟩ (by first | omega | (simp only; omega))
  · obtain rfl : i = L := by omega
    simp (disch := omega) only [go_sem, ↓k_cond, ↓x_idx, ↓k_block, Nat.reduceEqDiff, Nat.reduceBEq, ↓reduceIte, reduceCtorEq, g0, g1, g5, g6, hL]
    rw [← hQ]
    exact post_frozen (id := 0) (n := i) (off := 0) (len := i) (.inl rfl) rfl (by simp [upd_app] <;> omega) (by simp [hm0]) (by simp [hm0, ratM_length, mapF_len]) (by simp [hm0]) (by omega) (Nat.zero_le _) (by simp only [hm0, List.drop_zero]; exact List.take_of_length_le (by rw [ratM_length, mapF_len]; exact Nat.le_refl _)) (by simp [AV.pure, AV.pureL, natA_pure, natI_pure, natS_pure])
theorem s_LessSeries {xs ys : List (List UInt8)} (hl : xs.length < 9223372036854775808) (hs : ∀ x ∈ xs, x.length ≤ 1000000) (hl2 : ys.length < 9223372036854775808) (hs2 : ∀ x ∈ ys, x.length ≤ 1000000) : CallOk Tryz.prog 31 [.sl 9 (strA xs) [] false, .sl 9 (strA ys) [] false] (optTL (opT lesL xs ys)) [] := by
  have h1 := w_l08Two (xs := xs) (ys := ys) hl hs hl2 hs2
  unfold opT
  have hbad : ∀ (a b : AV), a.pure = true → b.pure = true → CW Tryz.prog 70 [.sl 9 (strA xs) [] false, .sl 9 (strA ys) [] false] (.tup [a, b, .bool false]) → CallOk Tryz.prog 31 [.sl 9 (strA xs) [] false, .sl 9 (strA ys) [] false] (optTL none) [] := by
    intro a b ha hb h1
    (refine callOk_of_wpc (W := fun g => g == 48) true hm' Tryz.func31 rfl (by kernel_rfl) (Nat.le_of_ble_eq_true rfl) (go_start ?_); generalize hQ : Post Tryz.prog Tryz.f31 _ _ _ _ _ = Q; simp only [stIn, matL, matA, st00])
    simp (disch := omega) only [go_sem, ↓k_cond, ↓x_idx, ↓k_block, Nat.reduceEqDiff, Nat.reduceBEq, ↓reduceIte, reduceCtorEq, h1]
    (repeat (with_reducible refine Or.inr ?_))
    rw [← hQ]
    exact postT_two (.inl rfl) rfl (by simp [upd_app] <;> omega) (by simp [upd_app] <;> omega) rfl rfl
  cases hx : serR xs with
  | none =>
    rw [hx] at h1
    cases hy : serR ys with
    | none => rw [hy, twoS] at h1; exact hbad _ _ rfl rfl h1
    | some y => rw [hy, twoS] at h1; exact hbad _ _ rfl (by simp [AV.pure, AV.pureL, natA_pure, natI_pure, natS_pure]) h1
  | some x =>
    rw [hx] at h1
    cases hy : serR ys with
    | none => rw [hy, twoS] at h1; exact hbad _ _ (by simp [AV.pure, AV.pureL, natA_pure, natI_pure, natS_pure]) rfl h1
    | some y =>
      obtain ⟨_, _, h4, h5⟩ := serR_some hx
      rw [hy, twoS] at h1
      by_cases c : x.length = y.length
      · simp only [if_pos c]
        rw [decide_eq_true c] at h1
        have h2 := w_l08Less (x := x) (y := y) (by omega) c h4
        have hll : (lesL x y).length = x.length := mapF_len
        (refine callOk_of_wpc (W := fun g => g == 48) true hm' Tryz.func31 rfl (by kernel_rfl) (Nat.le_of_ble_eq_true rfl) (go_start ?_); generalize hQ : Post Tryz.prog Tryz.f31 _ _ _ _ _ = Q; simp only [stIn, matL, matA, st00])
        simp (disch := omega) only [go_sem, ↓k_cond, ↓x_idx, ↓k_block, Nat.reduceEqDiff, Nat.reduceBEq, ↓reduceIte, reduceCtorEq, h1, h2]
        (repeat (with_reducible refine Or.inr ?_))
        refine endSP (m := 1401) (qs := lesL x y) (by omega) (by omega) (mapF_ne (by omega)) rfl (fun hn => ?_) (fun ts hts => ?_)
        · rw [hn] at hQ
          simp (disch := omega) only [go_sem, ↓k_cond, ↓x_idx, ↓k_block, Nat.reduceEqDiff, Nat.reduceBEq, ↓reduceIte, reduceCtorEq]
          rw [← hQ]
          exact postT_two (.inl rfl) rfl (by simp [upd_app] <;> omega) (by simp [upd_app] <;> omega) rfl rfl
        · rw [hts] at hQ
          simp (disch := omega) only [go_sem, ↓k_cond, ↓x_idx, ↓k_block, Nat.reduceEqDiff, Nat.reduceBEq, ↓reduceIte, reduceCtorEq]
          rw [← hQ]
          exact post_ownB (id := 0) (n := ts.length) (len := ts.length) (.inl rfl) rfl (by simp [upd_app] <;> omega) (by simp [upd_app] <;> omega) (by simp [upd_app]) (by simp [upd_app, strA_length]) (by simp [upd_app]) (by simp [upd_app]) (Nat.le_refl _) (by simp only [upd_app, if_true]; exact List.take_of_length_le (by rw [strA_length]; exact Nat.le_refl _)) (by simp [upd_app]) (by simp [upd_app]) (strA_pure _) rfl
      · simp only [if_neg c]
        rw [decide_eq_false c] at h1
        exact hbad _ _ (by simp [AV.pure, AV.pureL, natA_pure, natI_pure, natS_pure]) (by simp [AV.pure, AV.pureL, natA_pure, natI_pure, natS_pure]) h1
attribute [go_sem] w_l08Less
theorem snapI {st : St} {i m n : Nat} {qs : List Rat} {ex gr : Bool} (hi : st.h i = ⟨52, ratL m qs, ex, gr, true⟩) (hn : qs.length = n) : snapL (snapA st 8) [.ref i n 0 n] = some ([lI m qs], [i]) := by
  have h1 := snap_frozen (st := st) (d := 7) (id := i) (n := n) (off := 0) (len := n) (T := 52) (r := ratL m qs) (by rw [hi]) (by rw [hi, ratL_length, hn]) (by rw [hi]) (by omega) (by rw [hi, List.drop_zero]; exact List.take_of_length_le (by rw [ratL_length, hn]; exact Nat.le_refl _)) (by simp)
  simp [snapL, h1]
theorem endI {W : FuncId → Bool} {d : Tmp} {ops : Array Oper} {os : List Oper} {fr : Nat → AV} {h : Nat → Blk} {nx i m n : Nat} {K : St → Prop} {t : TokC ⟨some d, ops, os, fr, h, nx, K⟩} {qs : List Rat} {ex gr : Bool} (hm : m ≤ 274877906944) (hl : qs.length ≤ 1000) (h0 : qs ≠ []) (hi : h i = ⟨52, ratL m qs, ex, gr, true⟩) (hn : qs.length = n) (hW : W 53 = true)
    (k1 : qs.mapM toldR = none → wpos Tryz.prog W ops os ⟨upd fr d (.tup [.nil, .bool false]), h, nx⟩ K)
    (k2 : ∀ ts, qs.mapM toldR = some ts → wpos Tryz.prog W ops os ⟨upd fr d (.tup [.ref nx ts.length 0 ts.length, .bool true]), upd h nx ⟨9, strA ts, false, true, true⟩, nx + 1⟩ K) :
    callW Tryz.prog W 53 [.ref i n 0 n] ⟨some d, ops, os, fr, h, nx, K⟩ t := by
  have hc := i_toldList (m := m) (qs := qs) hm hl h0
  cases hq : qs.mapM toldR with
  | none =>
    rw [hq] at hc
    exact callW_X hc (by kernel_rfl) (snapI hi hn) rfl (matA_pure _ _ _ rfl) hW (k1 hq)
  | some ts =>
    rw [hq] at hc
    refine callW_X hc (by kernel_rfl) (snapI hi hn) (optTL_solid (some ts)) (matA_ownB (strA_pure ts) rfl) hW ?_
    have := k2 ts hq
    simpa [strA_length, St.put] using this
theorem i_DeriveSeries {xs : List (List UInt8)} (hl : xs.length < 9223372036854775808) (hs : ∀ x ∈ xs, x.length < 9223372036854775808) : CallOk Tryz.prog 18 [.sl 9 (strA xs) [] false] (optTL (derT xs)) [] := by
  have h1 := w_seriesOf (xs := xs) hl hs
  unfold derT
  cases hq : serR xs with
  | none =>
    rw [hq] at h1
    (refine callOk_of_wpc (W := fun g => g == 53) true hm' Tryz.func18 rfl (by kernel_rfl) (Nat.le_of_ble_eq_true rfl) (go_start ?_); generalize hQ : Post Tryz.prog Tryz.f18 _ _ _ _ _ = Q; simp only [stIn, matL, matA, st00])
    simp (disch := omega) only [go_sem, ↓k_cond, ↓x_idx, ↓k_block, Nat.reduceEqDiff, Nat.reduceBEq, ↓reduceIte, reduceCtorEq, h1]
    (repeat (with_reducible refine Or.inr ?_))
    rw [← hQ]
    exact postT_two (.inl rfl) rfl (by simp [upd_app] <;> omega) (by simp [upd_app] <;> omega) rfl rfl
  | some qs =>
    rw [hq] at h1
    obtain ⟨hfit, _, h4, h5⟩ := serR_some hq
    obtain ⟨L, hL⟩ : ∃ n, qs.length = n := ⟨_, rfl⟩
    rw [hL] at h4 h5
    simp only [hL]
    by_cases c : L < 2
    · rw [if_pos c]
      (refine callOk_of_wpc (W := fun g => g == 53) true hm' Tryz.func18 rfl (by kernel_rfl) (Nat.le_of_ble_eq_true rfl) (go_start ?_); generalize hQ : Post Tryz.prog Tryz.f18 _ _ _ _ _ = Q; simp only [stIn, matL, matA, st00])
      simp (disch := omega) only [go_sem, ↓k_cond, ↓x_idx, ↓k_block, Nat.reduceEqDiff, Nat.reduceBEq, ↓reduceIte, reduceCtorEq, h1, hL]
      (repeat (with_reducible refine Or.inr ?_))
      rw [← hQ]
      exact postT_two (.inl rfl) rfl (by simp [upd_app] <;> omega) (by simp [upd_app] <;> omega) rfl rfl
    · rw [if_neg c]
      (refine callOk_of_wpc (W := fun g => g == 53) true hm' Tryz.func18 rfl (by kernel_rfl) (Nat.le_of_ble_eq_true rfl) (go_start ?_); generalize hQ : Post Tryz.prog Tryz.f18 _ _ _ _ _ = Q; simp only [stIn, matL, matA, st00])
      simp (disch := omega) only [go_sem, ↓k_cond, ↓x_idx, ↓k_block, Nat.reduceEqDiff, Nat.reduceBEq, ↓reduceIte, reduceCtorEq, h1, hL]
      (repeat (with_reducible refine Or.inr ?_))
      refine k_loop (fun (i : Nat) st => st.fr 4 = lI 700 qs ∧ st.fr 6 = .ref 0 i 0 i ∧ st.fr 7 = .int .i64 ((i + 1 : Nat) : Int) ∧ st.h 0 = ⟨52, ratL 764 (mapF i (derF qs)), (i == 0), true, true⟩ ∧ 0 < st.nx ∧ (i + 1 ≤ L)) (fun (i : Nat) => (L - 1) - i) (0)
        ⟨(by simp [upd_app, ratL, mapF] <;> omega), (by simp [upd_app, ratL, mapF] <;> omega), (by simp [upd_app, ratL, mapF] <;> omega), (by simp [upd_app, ratL, mapF] <;> omega), (by simp <;> omega), by omega⟩ ?_
      rintro i ⟨fr, h, nx⟩ ⟨g4, g6, g7, hm0, hnx, hi⟩ J hJ
      simp only at g4 g6 g7 hm0 hnx
      by_cases hin : i + 1 < L
      · obtain ⟨q, hqi⟩ := get_some (xs := qs) (i := i + 1) (by omega)
        have hgd : qs.getD (i + 1) 0 = q := by rw [List.getD_eq_getElem?_getD, hqi]; rfl
        have hel : (ratL 764 (mapF i (derF qs))).length = i := by rw [ratL_length, mapF_len]
        have hcm : q * (((i + 1 : Nat) : Int) : Rat) = (((i + 1 : Nat) : Int) : Rat) * q := Rat.mul_comm _ _
        have hz1 : (i + 1 == 0) = false := by simp
        have hsn : ratL 764 (mapF i (derF qs)) ++ [rI 764 ((((i + 1 : Nat) : Int) : Rat) * q)] = ratL 764 (mapF (i + 1) (derF qs)) := by rw [mapF_succ, ratL_snoc, derF, hgd]
        simp (disch := omega) only [go_sem, ↓k_cond, ↓x_idx, ↓k_block, Nat.reduceEqDiff, Nat.reduceBEq, ↓reduceIte, reduceCtorEq, g4, g6, g7, hqi, hL, hm0, hel, reach, hcm, Nat.reduceAdd]
        (repeat (with_reducible refine Or.inr ?_))
        exact hJ (i + 1) _ ⟨(by simp [upd_app, g4] <;> omega), (by simp [upd_app] <;> omega), (by simp [upd_app] <;> omega), by simp only [upd_app, ↓reduceIte, Nat.reduceEqDiff, hsn, hz1], (by simp <;> omega), by omega⟩ (by first | omega | (simp only; omega))
      · obtain rfl : L = i + 1 := by omega
        simp (disch := omega) only [go_sem, ↓k_cond, ↓x_idx, ↓k_block, Nat.reduceEqDiff, Nat.reduceBEq, ↓reduceIte, reduceCtorEq, g4, g6, g7, hL]
        refine endI (m := 764) (qs := mapF i (derF qs)) (by omega) (by rw [mapF_len]; omega) (mapF_ne (by omega)) hm0 mapF_len rfl (fun hn => ?_) (fun ts hts => ?_)
        · rw [Nat.add_sub_cancel, hn] at hQ
          simp (disch := omega) only [go_sem, ↓k_cond, ↓x_idx, ↓k_block, Nat.reduceEqDiff, Nat.reduceBEq, ↓reduceIte, reduceCtorEq]
          rw [← hQ]
          exact postT_two (.inl rfl) rfl (by simp [upd_app] <;> omega) (by simp [upd_app] <;> omega) rfl rfl
        · rw [Nat.add_sub_cancel, hts] at hQ
          simp (disch := omega) only [go_sem, ↓k_cond, ↓x_idx, ↓k_block, Nat.reduceEqDiff, Nat.reduceBEq, ↓reduceIte, reduceCtorEq]
          rw [← hQ]
          exact post_ownB (id := nx) (n := ts.length) (len := ts.length) (.inl rfl) rfl (by simp [upd_app] <;> omega) (by simp [upd_app] <;> omega) (by simp [upd_app]) (by simp [upd_app, strA_length]) (by simp [upd_app]) (by simp [upd_app]) (Nat.le_refl _) (by simp only [upd_app, if_true]; exact List.take_of_length_le (by rw [strA_length]; exact Nat.le_refl _)) (by simp [upd_app]) (by simp [upd_app]) (strA_pure _) rfl
theorem i_SumSeries {xs : List (List UInt8)} (hl : xs.length < 9223372036854775808) (hs : ∀ x ∈ xs, x.length < 9223372036854775808) : CallOk Tryz.prog 34 [.sl 9 (strA xs) [] false] (optTL (sumT xs)) [] := by
  have h1 := w_seriesOf (xs := xs) hl hs
  unfold sumT
  cases hq : serR xs with
  | none =>
    rw [hq] at h1
    (refine callOk_of_wpc (W := fun g => g == 53) true hm' Tryz.func34 rfl (by kernel_rfl) (Nat.le_of_ble_eq_true rfl) (go_start ?_); generalize hQ : Post Tryz.prog Tryz.f34 _ _ _ _ _ = Q; simp only [stIn, matL, matA, st00])
    simp (disch := omega) only [go_sem, ↓k_cond, ↓x_idx, ↓k_block, Nat.reduceEqDiff, Nat.reduceBEq, ↓reduceIte, reduceCtorEq, h1]
    (repeat (with_reducible refine Or.inr ?_))
    rw [← hQ]
    exact postT_two (.inl rfl) rfl (by simp [upd_app] <;> omega) (by simp [upd_app] <;> omega) rfl rfl
  | some qs =>
    rw [hq] at h1
    obtain ⟨hfit, _, h4, h5⟩ := serR_some hq
    obtain ⟨L, hL⟩ : ∃ n, qs.length = n := ⟨_, rfl⟩
    have hsf := sumF_fits hfit h5
    rw [hL] at h4 h5
    simp only [hL]
    (refine callOk_of_wpc (W := fun g => g == 53) true hm' Tryz.func34 rfl (by kernel_rfl) (Nat.le_of_ble_eq_true rfl) (go_start ?_); generalize hQ : Post Tryz.prog Tryz.f34 _ _ _ _ _ = Q; simp only [stIn, matL, matA, st00])
    simp (disch := omega) only [go_sem, ↓k_cond, ↓x_idx, ↓k_block, Nat.reduceEqDiff, Nat.reduceBEq, ↓reduceIte, reduceCtorEq, h1, hL]
    (repeat (with_reducible refine Or.inr ?_))
    refine k_loop (fun (i : Nat) st => st.fr 4 = lI 700 qs ∧ st.fr 6 = .ref 0 i 0 i ∧ st.fr 17 = .int .i64 L ∧ st.fr 18 = .int .i64 i ∧ st.h 0 = ⟨52, ratL 9177 (mapF i (sumF qs)), (i == 0), true, true⟩ ∧ 0 < st.nx ∧ (i ≤ L)) (fun (i : Nat) => L - i) (0)
      ⟨(by simp [upd_app, ratL, mapF] <;> omega), (by simp [upd_app, ratL, mapF] <;> omega), (by simp [upd_app, ratL, mapF] <;> omega), (by simp [upd_app, ratL, mapF] <;> omega), (by simp [upd_app, ratL, mapF] <;> omega), (by simp <;> omega), by omega⟩ ?_
    rintro i ⟨fr, h, nx⟩ ⟨g4, g6, g17, g18, hm0, hnx, hi⟩ J hJ
    simp only at g4 g6 g17 g18 hm0 hnx
    by_cases hin : i < L
    · obtain ⟨q, hqi⟩ := get_some (xs := qs) (i := i) (by omega)
      have hel : (ratL 9177 (mapF i (sumF qs))).length = i := by rw [ratL_length, mapF_len]
      have htl : (qs.take (i + 1)).length = i + 1 := by rw [List.length_take, hL]; omega
      have hws := w_sum (m := 700) (qs := qs.take (i + 1)) (by omega) (by omega)
      rw [htl] at hws
      have hf0 : fits (64 + (i + 1) * (700 + 1)) (sumL (qs.take (i + 1))) := by
        have := sumL_fits (m := 700) (qs := qs.take (i + 1)) (fun q h => hfit q (List.mem_of_mem_take h))
        rw [htl] at this
        exact this
      have hre : rI (64 + (i + 1) * (700 + 1)) (sumL (qs.take (i + 1))) = rI 9177 (sumF qs i) := rI_re hf0 (hsf i)
      rw [hre] at hws
      have hz1 : (i + 1 == 0) = false := by simp
      have hsn : ratL 9177 (mapF i (sumF qs)) ++ [rI 9177 (sumF qs i)] = ratL 9177 (mapF (i + 1) (sumF qs)) := by rw [mapF_succ, ratL_snoc]
      have hrl : (ratL 700 qs).length = L := by rw [ratL_length, hL]
      have htk : (ratL 700 qs).take (i + 1) = ratL 700 (qs.take (i + 1)) := ratL_take
      simp (disch := omega) only [go_sem, ↓k_cond, ↓x_idx, ↓k_block, Nat.reduceEqDiff, Nat.reduceBEq, ↓reduceIte, reduceCtorEq, g4, g6, g17, g18, hL, hm0, hel, hrl, htk, hws, reach]
      (repeat (with_reducible refine Or.inr ?_))
      exact hJ (i + 1) _ ⟨(by simp [upd_app, g4] <;> omega), (by simp [upd_app] <;> omega), (by simp [upd_app, g17] <;> omega), (by simp [upd_app] <;> omega), by simp only [upd_app, ↓reduceIte, Nat.reduceEqDiff, hsn, hz1], (by simp <;> omega), by omega⟩ (by first | omega | (simp only; omega))
    · obtain rfl : i = L := by omega
      simp (disch := omega) only [go_sem, ↓k_cond, ↓x_idx, ↓k_block, Nat.reduceEqDiff, Nat.reduceBEq, ↓reduceIte, reduceCtorEq, g4, g6, g17, g18, hL]
      refine endI (m := 9177) (qs := mapF i (sumF qs)) (by omega) (by rw [mapF_len]; omega) (mapF_ne (by omega)) hm0 mapF_len rfl (fun hn => ?_) (fun ts hts => ?_)
      · rw [hn] at hQ
        simp (disch := omega) only [go_sem, ↓k_cond, ↓x_idx, ↓k_block, Nat.reduceEqDiff, Nat.reduceBEq, ↓reduceIte, reduceCtorEq]
        rw [← hQ]
        exact postT_two (.inl rfl) rfl (by simp [upd_app] <;> omega) (by simp [upd_app] <;> omega) rfl rfl
      · rw [hts] at hQ
        simp (disch := omega) only [go_sem, ↓k_cond, ↓x_idx, ↓k_block, Nat.reduceEqDiff, Nat.reduceBEq, ↓reduceIte, reduceCtorEq]
        rw [← hQ]
        exact post_ownB (id := nx) (n := ts.length) (len := ts.length) (.inl rfl) rfl (by simp [upd_app] <;> omega) (by simp [upd_app] <;> omega) (by simp [upd_app]) (by simp [upd_app, strA_length]) (by simp [upd_app]) (by simp [upd_app]) (Nat.le_refl _) (by simp only [upd_app, if_true]; exact List.take_of_length_le (by rw [strA_length]; exact Nat.le_refl _)) (by simp [upd_app]) (by simp [upd_app]) (strA_pure _) rfl
theorem x_callT {P : Program} {W : FuncId → Bool} {ops : Array Oper} {os : List Oper} {fr : Nat → AV} {h : Nat → Blk} {nx : Nat} {K : St → Prop} {d : Option Tmp} {t tm : Nat} {p : String} {af : Array Edge} {g : FuncId} {args : Array Operand} {ts : Array TypeId}
    (hf : fr tm = .fn (.func g) [] []) (hW : W g = false) : wpos P W ops (⟨d, .call { callee := .value (.tmp tm), args := args, argTypes := ts }, t, p, af, none⟩ :: os) ⟨fr, h, nx⟩ K =
    callW P W g (args.toList.map (evA fr)) ⟨d, ops, os, fr, h, nx, K⟩ .mk := by
  simp only [wpos, wpo, guardA, opK, callW, ValCall]
  have e : St.ev ⟨fr, h, nx⟩ = evA fr := by funext x; rfl
  refine propext ⟨fun hw => ?_, fun hw => ⟨fun _ => ?_, by simp⟩⟩
  · obtain ⟨x, st', ⟨g', first, cap, h1, h2, h3, h4, h5⟩, hk⟩ := hw.1 trivial
    have h1' : AV.fn (.func g) [] [] = AV.fn (.func g') first cap := hf.symm.trans h1
    injection h1' with e1 e2 e3
    injection e1 with e1
    subst e1; subst e2; subst e3
    rw [e] at h3 h5
    exact ⟨h2, x, st', by simpa using h3, fun _ => h4 rfl, fun _ hp h nx => by simpa using h5 rfl (by simpa using hp) h nx, hk⟩
  · obtain ⟨h2, x, st', h3, h4, h5, hk⟩ := hw
    exact ⟨x, st', ⟨g, [], [], hf, h2, by rw [e]; simpa using h3, fun _ => h4 hW, fun _ hp h nx => by rw [e] at hp ⊢; simpa using h5 hW (by simpa using hp) h nx⟩, hk⟩
theorem endIP {W : FuncId → Bool} {d : Tmp} {ops : Array Oper} {os : List Oper} {fr : Nat → AV} {h : Nat → Blk} {nx m : Nat} {K : St → Prop} {t : TokC ⟨some d, ops, os, fr, h, nx, K⟩} {qs : List Rat} (hm : m ≤ 274877906944) (hl : qs.length ≤ 1000) (h0 : qs ≠ []) (hW : W 53 = true)
    (k1 : qs.mapM toldR = none → wpos Tryz.prog W ops os ⟨upd fr d (.tup [.nil, .bool false]), h, nx⟩ K)
    (k2 : ∀ ts, qs.mapM toldR = some ts → wpos Tryz.prog W ops os ⟨upd fr d (.tup [.ref nx ts.length 0 ts.length, .bool true]), upd h nx ⟨9, strA ts, false, true, true⟩, nx + 1⟩ K) :
    callW Tryz.prog W 53 [lI m qs] ⟨some d, ops, os, fr, h, nx, K⟩ t := by
  have hc := i_toldList (m := m) (qs := qs) hm hl h0
  cases hq : qs.mapM toldR with
  | none =>
    rw [hq] at hc
    exact callW_X hc (by kernel_rfl) (snapL_pure (by simp [AV.pure, AV.pureL, natA_pure, natI_pure, natS_pure])) rfl (matA_pure _ _ _ rfl) hW (k1 hq)
  | some ts =>
    rw [hq] at hc
    refine callW_X hc (by kernel_rfl) (snapL_pure (by simp [AV.pure, AV.pureL, natA_pure, natI_pure, natS_pure])) (optTL_solid (some ts)) (matA_ownB (strA_pure ts) rfl) hW ?_
    have := k2 ts hq
    simpa [strA_length, St.put] using this
theorem i_ofSeries {F : FuncId} {m : Nat} {f : List Rat → List Rat → List Rat} {xs ys : List (List UInt8)} (hl : xs.length < 9223372036854775808) (hs : ∀ x ∈ xs, x.length < 9223372036854775808) (hl2 : ys.length < 9223372036854775808) (hs2 : ∀ x ∈ ys, x.length < 9223372036854775808)
    (hF : (F == 53) = false) (hm : m ≤ 274877906944) (hfl : ∀ x y, (f x y).length = x.length)
    (hf : ∀ x y, serR xs = some x → serR ys = some y → x.length = y.length → CW Tryz.prog F [lI 700 x, lI 700 y] (lI m (f x y))) :
    CallOk Tryz.prog 71 [.sl 9 (strA xs) [] false, .sl 9 (strA ys) [] false, .fn (.func F) [] []] (optTL (opT f xs ys)) [] := by
  have h1 := w_seriesOf (xs := xs) hl hs
  have h2 := w_seriesOf (xs := ys) hl2 hs2
  unfold opT
  cases hx : serR xs with
  | none =>
    rw [hx] at h1
    cases hy : serR ys with
    | none =>
      rw [hy] at h2
      (refine callOk_of_wpc (W := fun g => g == 53) true hm' Tryz.func71 rfl (by kernel_rfl) (Nat.le_of_ble_eq_true rfl) (go_start ?_); generalize hQ : Post Tryz.prog Tryz.f71 _ _ _ _ _ = Q; simp only [stIn, matL, matA, st00])
      simp (disch := omega) only [go_sem, ↓k_cond, ↓x_idx, ↓k_block, Nat.reduceEqDiff, Nat.reduceBEq, ↓reduceIte, reduceCtorEq, h1, h2]
      (repeat (with_reducible refine Or.inr ?_))
      rw [← hQ]
      exact postT_two (.inl rfl) rfl (by simp [upd_app] <;> omega) (by simp [upd_app] <;> omega) rfl rfl
    | some y =>
      rw [hy] at h2
      (refine callOk_of_wpc (W := fun g => g == 53) true hm' Tryz.func71 rfl (by kernel_rfl) (Nat.le_of_ble_eq_true rfl) (go_start ?_); generalize hQ : Post Tryz.prog Tryz.f71 _ _ _ _ _ = Q; simp only [stIn, matL, matA, st00])
      simp (disch := omega) only [go_sem, ↓k_cond, ↓x_idx, ↓k_block, Nat.reduceEqDiff, Nat.reduceBEq, ↓reduceIte, reduceCtorEq, h1, h2]
      (repeat (with_reducible refine Or.inr ?_))
      rw [← hQ]
      exact postT_two (.inl rfl) rfl (by simp [upd_app] <;> omega) (by simp [upd_app] <;> omega) rfl rfl
  | some x =>
    rw [hx] at h1
    cases hy : serR ys with
    | none =>
      rw [hy] at h2
      (refine callOk_of_wpc (W := fun g => g == 53) true hm' Tryz.func71 rfl (by kernel_rfl) (Nat.le_of_ble_eq_true rfl) (go_start ?_); generalize hQ : Post Tryz.prog Tryz.f71 _ _ _ _ _ = Q; simp only [stIn, matL, matA, st00])
      simp (disch := omega) only [go_sem, ↓k_cond, ↓x_idx, ↓k_block, Nat.reduceEqDiff, Nat.reduceBEq, ↓reduceIte, reduceCtorEq, h1, h2]
      (repeat (with_reducible refine Or.inr ?_))
      rw [← hQ]
      exact postT_two (.inl rfl) rfl (by simp [upd_app] <;> omega) (by simp [upd_app] <;> omega) rfl rfl
    | some y =>
      rw [hy] at h2
      obtain ⟨_, _, h4, h5⟩ := serR_some hx
      obtain ⟨_, _, h6, h7⟩ := serR_some hy
      by_cases c : x.length = y.length
      · simp only [if_pos c]
        have h3 := hf x y hx hy c
        have h8 := hfl x y
        (refine callOk_of_wpc (W := fun g => g == 53) true hm' Tryz.func71 rfl (by kernel_rfl) (Nat.le_of_ble_eq_true rfl) (go_start ?_); generalize hQ : Post Tryz.prog Tryz.f71 _ _ _ _ _ = Q; simp only [stIn, matL, matA, st00])
        simp (disch := omega) only [go_sem, ↓k_cond, ↓x_idx, ↓k_block, Nat.reduceEqDiff, Nat.reduceBEq, ↓reduceIte, reduceCtorEq, h1, h2, c]
        (repeat (with_reducible refine Or.inr ?_))
        rw [x_callT (g := F) (by simp [upd_app]) hF]
        simp (disch := omega) only [go_sem, ↓k_cond, ↓x_idx, ↓k_block, Nat.reduceEqDiff, Nat.reduceBEq, ↓reduceIte, reduceCtorEq, h3]
        (repeat (with_reducible refine Or.inr ?_))
        refine endIP (m := m) (qs := f x y) hm (by omega) (by intro e; rw [e] at h8; simp at h8; omega) rfl (fun hn => ?_) (fun ts hts => ?_)
        · rw [hn] at hQ
          simp (disch := omega) only [go_sem, ↓k_cond, ↓x_idx, ↓k_block, Nat.reduceEqDiff, Nat.reduceBEq, ↓reduceIte, reduceCtorEq]
          rw [← hQ]
          exact postT_two (.inl rfl) rfl (by simp [upd_app] <;> omega) (by simp [upd_app] <;> omega) rfl rfl
        · rw [hts] at hQ
          simp (disch := omega) only [go_sem, ↓k_cond, ↓x_idx, ↓k_block, Nat.reduceEqDiff, Nat.reduceBEq, ↓reduceIte, reduceCtorEq]
          rw [← hQ]
          exact post_ownB (id := 0) (n := ts.length) (len := ts.length) (.inl rfl) rfl (by simp [upd_app] <;> omega) (by simp [upd_app] <;> omega) (by simp [upd_app]) (by simp [upd_app, strA_length]) (by simp [upd_app]) (by simp [upd_app]) (Nat.le_refl _) (by simp only [upd_app, if_true]; exact List.take_of_length_le (by rw [strA_length]; exact Nat.le_refl _)) (by simp [upd_app]) (by simp [upd_app]) (strA_pure _) rfl
      · simp only [if_neg c]
        (refine callOk_of_wpc (W := fun g => g == 53) true hm' Tryz.func71 rfl (by kernel_rfl) (Nat.le_of_ble_eq_true rfl) (go_start ?_); generalize hQ : Post Tryz.prog Tryz.f71 _ _ _ _ _ = Q; simp only [stIn, matL, matA, st00])
        simp (disch := omega) only [go_sem, ↓k_cond, ↓x_idx, ↓k_block, Nat.reduceEqDiff, Nat.reduceBEq, ↓reduceIte, reduceCtorEq, h1, h2]
        (repeat (with_reducible refine Or.inr ?_))
        rw [← hQ]
        exact postT_two (.inl rfl) rfl (by simp [upd_app] <;> omega) (by simp [upd_app] <;> omega) rfl rfl
theorem w_plus {x y : List Rat} (hl : x.length ≤ 1000) (hxy : x.length = y.length) (h1 : 1 ≤ x.length) : CW Tryz.prog 72 [lI 700 x, lI 700 y] (lI 1401 (pluL x y)) := by
  refine cw (by kernel_rfl) (by simp [AV.pure, AV.pureL, natA_pure, natI_pure, natS_pure]) (by simp [AV.pure, AV.pureL, natA_pure, natI_pure, natS_pure]) ?_
  obtain ⟨L, hL⟩ : ∃ n, x.length = n := ⟨_, rfl⟩
  rw [pluL]
  rw [hL] at hl hxy h1 ⊢
  (refine callOk_of_wpc (W := fun _ => false) false hm' Tryz.func72 rfl (by kernel_rfl) (Nat.le_of_ble_eq_true rfl) (go_start ?_); generalize hQ : Post Tryz.prog Tryz.f72 _ _ _ _ _ = Q; simp only [stIn, matL, matA, st00])
  simp (disch := omega) only [go_sem, ↓k_cond, ↓x_idx, ↓k_block, Nat.reduceEqDiff, Nat.reduceBEq, ↓reduceIte, reduceCtorEq, hL]
  refine k_loop (fun (i : Nat) st => st.fr 0 = lI 700 x ∧ st.fr 1 = lI 700 y ∧ st.fr 5 = .ref 0 i 0 i ∧ st.fr 9 = .int .i64 L ∧ st.fr 10 = .int .i64 i ∧ st.h 0 = ⟨52, ratL 1401 (mapF i (pluF x y)), (i == 0), true, true⟩ ∧ 0 < st.nx ∧ (i ≤ L)) (fun (i : Nat) => L - i) (0)
    ⟨(by simp [upd_app, ratL, mapF] <;> omega), (by simp [upd_app, ratL, mapF] <;> omega), (by simp [upd_app, ratL, mapF] <;> omega), (by simp [upd_app, ratL, mapF] <;> omega), (by simp [upd_app, ratL, mapF] <;> omega), (by simp [upd_app, ratL, mapF] <;> omega), (by simp <;> omega), by omega⟩ ?_
  rintro i ⟨fr, h, nx⟩ ⟨g0, g1, g5, g9, g10, hm0, hnx, hi⟩ J hJ
  simp only at g0 g1 g5 g9 g10 hm0 hnx
  by_cases hin : i < L
  · obtain ⟨p, hp⟩ := get_some (xs := x) (i := i) (by omega)
    obtain ⟨q, hq⟩ := get_some (xs := y) (i := i) (by omega)
    have hel : (ratL 1401 (mapF i (pluF x y))).length = i := by rw [ratL_length, mapF_len]
    have hz1 : (i + 1 == 0) = false := by simp
    have hsn : ratL 1401 (mapF i (pluF x y)) ++ [rI 1401 (p + q)] = ratL 1401 (mapF (i + 1) (pluF x y)) := by rw [mapF_succ, ratL_snoc, pluF, getD_of hp, getD_of hq]
    simp (disch := omega) only [go_sem, ↓k_cond, ↓x_idx, ↓k_block, Nat.reduceEqDiff, Nat.reduceBEq, ↓reduceIte, reduceCtorEq, g0, g1, g5, g9, g10, hp, hq, hL, hm0, hel, reach, Nat.reduceAdd]
    (repeat (with_reducible refine Or.inr ?_))
    exact hJ (i + 1) _ ⟨(by simp [upd_app, g0] <;> omega), (by simp [upd_app, g1] <;> omega), (by simp [upd_app] <;> omega), (by simp [upd_app, g9] <;> omega), (by simp [upd_app] <;> omega), by simp only [upd_app, ↓reduceIte, Nat.reduceEqDiff, hsn, hz1], (by simp <;> omega), by omega⟩ (by first | omega | (simp only; omega))
  · obtain rfl : i = L := by omega
    simp (disch := omega) only [go_sem, ↓k_cond, ↓x_idx, ↓k_block, Nat.reduceEqDiff, Nat.reduceBEq, ↓reduceIte, reduceCtorEq, g0, g1, g5, g9, g10, hL]
    rw [← hQ]
    exact post_frozen (id := 0) (n := i) (off := 0) (len := i) (.inl rfl) rfl (by simp [upd_app] <;> omega) (by simp [hm0]) (by simp [hm0, ratL_length, mapF_len]) (by simp [hm0]) (by omega) (Nat.zero_le _) (by simp only [hm0, List.drop_zero]; exact List.take_of_length_le (by rw [ratL_length, mapF_len]; exact Nat.le_refl _)) (by simp [AV.pure, AV.pureL, natA_pure, natI_pure, natS_pure])
attribute [go_sem] w_plus
theorem w_less {x y : List Rat} (hl : x.length ≤ 1000) (hxy : x.length = y.length) (h1 : 1 ≤ x.length) : CW Tryz.prog 74 [lI 700 x, lI 700 y] (lI 1401 (lesL x y)) := by
  refine cw (by kernel_rfl) (by simp [AV.pure, AV.pureL, natA_pure, natI_pure, natS_pure]) (by simp [AV.pure, AV.pureL, natA_pure, natI_pure, natS_pure]) ?_
  obtain ⟨L, hL⟩ : ∃ n, x.length = n := ⟨_, rfl⟩
  rw [lesL]
  rw [hL] at hl hxy h1 ⊢
  (refine callOk_of_wpc (W := fun _ => false) false hm' Tryz.func74 rfl (by kernel_rfl) (Nat.le_of_ble_eq_true rfl) (go_start ?_); generalize hQ : Post Tryz.prog Tryz.f74 _ _ _ _ _ = Q; simp only [stIn, matL, matA, st00])
  simp (disch := omega) only [go_sem, ↓k_cond, ↓x_idx, ↓k_block, Nat.reduceEqDiff, Nat.reduceBEq, ↓reduceIte, reduceCtorEq, hL]
  refine k_loop (fun (i : Nat) st => st.fr 0 = lI 700 x ∧ st.fr 1 = lI 700 y ∧ st.fr 5 = .ref 0 i 0 i ∧ st.fr 9 = .int .i64 L ∧ st.fr 10 = .int .i64 i ∧ st.h 0 = ⟨52, ratL 1401 (mapF i (lesF x y)), (i == 0), true, true⟩ ∧ 0 < st.nx ∧ (i ≤ L)) (fun (i : Nat) => L - i) (0)
    ⟨(by simp [upd_app, ratL, mapF] <;> omega), (by simp [upd_app, ratL, mapF] <;> omega), (by simp [upd_app, ratL, mapF] <;> omega), (by simp [upd_app, ratL, mapF] <;> omega), (by simp [upd_app, ratL, mapF] <;> omega), (by simp [upd_app, ratL, mapF] <;> omega), (by simp <;> omega), by omega⟩ ?_
  rintro i ⟨fr, h, nx⟩ ⟨g0, g1, g5, g9, g10, hm0, hnx, hi⟩ J hJ
  simp only at g0 g1 g5 g9 g10 hm0 hnx
  by_cases hin : i < L
  · obtain ⟨p, hp⟩ := get_some (xs := x) (i := i) (by omega)
    obtain ⟨q, hq⟩ := get_some (xs := y) (i := i) (by omega)
    have hel : (ratL 1401 (mapF i (lesF x y))).length = i := by rw [ratL_length, mapF_len]
    have hz1 : (i + 1 == 0) = false := by simp
    have hsn : ratL 1401 (mapF i (lesF x y)) ++ [rI 1401 (p - q)] = ratL 1401 (mapF (i + 1) (lesF x y)) := by rw [mapF_succ, ratL_snoc, lesF, getD_of hp, getD_of hq]
    simp (disch := omega) only [go_sem, ↓k_cond, ↓x_idx, ↓k_block, Nat.reduceEqDiff, Nat.reduceBEq, ↓reduceIte, reduceCtorEq, g0, g1, g5, g9, g10, hp, hq, hL, hm0, hel, reach, Nat.reduceAdd]
    (repeat (with_reducible refine Or.inr ?_))
    exact hJ (i + 1) _ ⟨(by simp [upd_app, g0] <;> omega), (by simp [upd_app, g1] <;> omega), (by simp [upd_app] <;> omega), (by simp [upd_app, g9] <;> omega), (by simp [upd_app] <;> omega), by simp only [upd_app, ↓reduceIte, Nat.reduceEqDiff, hsn, hz1], (by simp <;> omega), by omega⟩ (by first | omega | (simp only; omega))
  · obtain rfl : i = L := by omega
    simp (disch := omega) only [go_sem, ↓k_cond, ↓x_idx, ↓k_block, Nat.reduceEqDiff, Nat.reduceBEq, ↓reduceIte, reduceCtorEq, g0, g1, g5, g9, g10, hL]
    rw [← hQ]
    exact post_frozen (id := 0) (n := i) (off := 0) (len := i) (.inl rfl) rfl (by simp [upd_app] <;> omega) (by simp [hm0]) (by simp [hm0, ratL_length, mapF_len]) (by simp [hm0]) (by omega) (Nat.zero_le _) (by simp only [hm0, List.drop_zero]; exact List.take_of_length_le (by rw [ratL_length, mapF_len]; exact Nat.le_refl _)) (by simp [AV.pure, AV.pureL, natA_pure, natI_pure, natS_pure])
theorem on_ofSeries {W : FuncId → Bool} {d : Tmp} {ops : Array Oper} {os : List Oper} {fr : Nat → AV} {h : Nat → Blk} {nx : Nat} {K : St → Prop} {t : TokC ⟨some d, ops, os, fr, h, nx, K⟩} {al : List AV} {o : Option (List (List UInt8))} (hc : CallOk Tryz.prog 71 al (optTL o) []) (hp : AV.pureL al = true) (hW : W 71 = true)
    (k1 : o = none → wpos Tryz.prog W ops os ⟨upd fr d (.tup [.nil, .bool false]), h, nx⟩ K)
    (k2 : ∀ ts, o = some ts → wpos Tryz.prog W ops os ⟨upd fr d (.tup [.ref nx ts.length 0 ts.length, .bool true]), upd h nx ⟨9, strA ts, false, true, true⟩, nx + 1⟩ K) :
    callW Tryz.prog W 71 al ⟨some d, ops, os, fr, h, nx, K⟩ t := by
  cases o with
  | none => exact callW_X hc (by kernel_rfl) (snapL_pure hp) rfl (matA_pure _ _ _ rfl) hW (k1 rfl)
  | some ts =>
    refine callW_X hc (by kernel_rfl) (snapL_pure hp) (optTL_solid (some ts)) (matA_ownB (strA_pure ts) rfl) hW ?_
    have := k2 ts rfl
    simpa [strA_length, St.put] using this
theorem i_AddSeries {xs ys : List (List UInt8)} (hl : xs.length < 9223372036854775808) (hs : ∀ x ∈ xs, x.length < 9223372036854775808) (hl2 : ys.length < 9223372036854775808) (hs2 : ∀ x ∈ ys, x.length < 9223372036854775808) : CallOk Tryz.prog 30 [.sl 9 (strA xs) [] false, .sl 9 (strA ys) [] false] (optTL (opT pluL xs ys)) [] := by
  have hc := i_ofSeries (F := 72) (m := 1401) (f := pluL) (xs := xs) (ys := ys) hl hs hl2 hs2 rfl (by omega) (fun _ _ => mapF_len) (fun x y hx hy c => by obtain ⟨_, _, h4, h5⟩ := serR_some hx; exact w_plus (by omega) c h4)
  generalize opT pluL xs ys = o at *
  (refine callOk_of_wpc (W := fun g => g == 71) true hm' Tryz.func30 rfl (by kernel_rfl) (Nat.le_of_ble_eq_true rfl) (go_start ?_); generalize hQ : Post Tryz.prog Tryz.f30 _ _ _ _ _ = Q; simp only [stIn, matL, matA, st00])
  simp (disch := omega) only [go_sem, ↓k_cond, ↓x_idx, ↓k_block, Nat.reduceEqDiff, Nat.reduceBEq, ↓reduceIte, reduceCtorEq]
  refine on_ofSeries hc (by simp [AV.pure, AV.pureL, natA_pure, natI_pure, natS_pure]) rfl (fun hn => ?_) (fun ts hts => ?_)
  · subst hn
    simp (disch := omega) only [go_sem, ↓k_cond, ↓x_idx, ↓k_block, Nat.reduceEqDiff, Nat.reduceBEq, ↓reduceIte, reduceCtorEq]
    rw [← hQ]
    exact postT_two (.inl rfl) rfl (by simp [upd_app] <;> omega) (by simp [upd_app] <;> omega) rfl rfl
  · subst hts
    simp (disch := omega) only [go_sem, ↓k_cond, ↓x_idx, ↓k_block, Nat.reduceEqDiff, Nat.reduceBEq, ↓reduceIte, reduceCtorEq]
    rw [← hQ]
    exact post_ownB (id := 0) (n := ts.length) (len := ts.length) (.inl rfl) rfl (by simp [upd_app] <;> omega) (by simp [upd_app] <;> omega) (by simp [upd_app]) (by simp [upd_app, strA_length]) (by simp [upd_app]) (by simp [upd_app]) (Nat.le_refl _) (by simp only [upd_app, if_true]; exact List.take_of_length_le (by rw [strA_length]; exact Nat.le_refl _)) (by simp [upd_app]) (by simp [upd_app]) (strA_pure _) rfl
theorem i_LessSeries {xs ys : List (List UInt8)} (hl : xs.length < 9223372036854775808) (hs : ∀ x ∈ xs, x.length < 9223372036854775808) (hl2 : ys.length < 9223372036854775808) (hs2 : ∀ x ∈ ys, x.length < 9223372036854775808) : CallOk Tryz.prog 32 [.sl 9 (strA xs) [] false, .sl 9 (strA ys) [] false] (optTL (opT lesL xs ys)) [] := by
  have hc := i_ofSeries (F := 74) (m := 1401) (f := lesL) (xs := xs) (ys := ys) hl hs hl2 hs2 rfl (by omega) (fun _ _ => mapF_len) (fun x y hx hy c => by obtain ⟨_, _, h4, h5⟩ := serR_some hx; exact w_less (by omega) c h4)
  generalize opT lesL xs ys = o at *
  (refine callOk_of_wpc (W := fun g => g == 71) true hm' Tryz.func32 rfl (by kernel_rfl) (Nat.le_of_ble_eq_true rfl) (go_start ?_); generalize hQ : Post Tryz.prog Tryz.f32 _ _ _ _ _ = Q; simp only [stIn, matL, matA, st00])
  simp (disch := omega) only [go_sem, ↓k_cond, ↓x_idx, ↓k_block, Nat.reduceEqDiff, Nat.reduceBEq, ↓reduceIte, reduceCtorEq]
  refine on_ofSeries hc (by simp [AV.pure, AV.pureL, natA_pure, natI_pure, natS_pure]) rfl (fun hn => ?_) (fun ts hts => ?_)
  · subst hn
    simp (disch := omega) only [go_sem, ↓k_cond, ↓x_idx, ↓k_block, Nat.reduceEqDiff, Nat.reduceBEq, ↓reduceIte, reduceCtorEq]
    rw [← hQ]
    exact postT_two (.inl rfl) rfl (by simp [upd_app] <;> omega) (by simp [upd_app] <;> omega) rfl rfl
  · subst hts
    simp (disch := omega) only [go_sem, ↓k_cond, ↓x_idx, ↓k_block, Nat.reduceEqDiff, Nat.reduceBEq, ↓reduceIte, reduceCtorEq]
    rw [← hQ]
    exact post_ownB (id := 0) (n := ts.length) (len := ts.length) (.inl rfl) rfl (by simp [upd_app] <;> omega) (by simp [upd_app] <;> omega) (by simp [upd_app]) (by simp [upd_app, strA_length]) (by simp [upd_app]) (by simp [upd_app]) (Nat.le_refl _) (by simp only [upd_app, if_true]; exact List.take_of_length_le (by rw [strA_length]; exact Nat.le_refl _)) (by simp [upd_app]) (by simp [upd_app]) (strA_pure _) rfl
attribute [go_sem] w_less
def mT (k : Nat) : List UInt8 := 109 :: Lib.decDigits k
def marksL (k n : Nat) : List (List UInt8) := (List.range n).map fun i => mT (k + i)
theorem marksL_len (k n : Nat) : (marksL k n).length = n := by simp [marksL]
theorem marksL_succ {k n : Nat} : marksL k (n + 1) = marksL k n ++ [mT (k + n)] := by simp [marksL, List.range_succ]
theorem marksL_at {k n i : Nat} (h : i < n) : (marksL k n)[i]? = some (mT (k + i)) := by simp [marksL, h]
theorem bytes_one {n : Int} : bytesOf [.int .u8 n] = some [UInt8.ofNat n.toNat] := rfl
theorem w_markText {k : Nat} (h0 : 0 < k) (hk : k < 4611686018427387904) : CW Tryz.prog 54 [.int .i64 k] (.str (mT k)) := by
  refine cw (by kernel_rfl) (by simp [AV.pure, AV.pureL, natA_pure, natI_pure, natS_pure]) (by simp [AV.pure, AV.pureL, natA_pure, natI_pure, natS_pure]) ?_
  (refine callOk_of_wpc (W := fun _ => false) false hm' Tryz.func54 rfl (by kernel_rfl) (Nat.le_of_ble_eq_true rfl) (go_start ?_); generalize hQ : Post Tryz.prog Tryz.f54 _ _ _ _ _ = Q; simp only [stIn, matL, matA, st00])
  simp (disch := omega) only [go_sem, ↓k_cond, ↓x_idx, ↓k_block, Nat.reduceEqDiff, Nat.reduceBEq, ↓reduceIte, reduceCtorEq]
  refine k_loop (fun (i : Nat) st => st.fr 0 = .int .i64 (k / 10 ^ i : Nat) ∧ st.fr 3 = .str (padD i k) ∧ (i = 0 ∨ k / 10 ^ (i - 1) ≠ 0) ∧ i ≤ 19) (fun i => 20 - i) 0
    ⟨by simp [upd_app], by simp [upd_app, padD], .inl rfl, by omega⟩ ?_
  rintro i ⟨fr, h, nx⟩ ⟨g0, g3, hi, hl⟩ J hJ
  simp only at g0 g3
  have hd : k / 10 ^ i % 10 < 10 := Nat.mod_lt _ (by decide)
  have h19 : k / 10 ^ i ≠ 0 → i ≤ 18 := dig_small (by omega)
  have hps := padD_step k i
  have hpl := padD_len i k
  have hex : k / 10 ^ i = 0 → padD i k = Lib.decDigits k := fun hz => by
    have hlt : k < 10 ^ i := by
      rcases Nat.lt_or_ge k (10 ^ i) with h | h
      · exact h
      · exact absurd hz (Nat.ne_of_gt (Nat.div_pos h (Nat.pow_pos (by decide))))
    have h1 : 1 ≤ i := by
      rcases Nat.eq_zero_or_pos i with rfl | h
      · simp at hlt; omega
      · exact h
    exact padD_dec hlt (hi.elim (fun h => by omega) .inr) h1
  have hdiv : k / 10 ^ i / 10 = k / 10 ^ (i + 1) := div_ten
  have key : ∀ (st : St), st.fr 0 = .int .i64 ((k / 10 ^ i / 10 : Nat) : Int) → st.fr 3 = .str (padD (i + 1) k) → k / 10 ^ i ≠ 0 → J st := by
    intro st k0 k3 kd
    have hl' := h19 kd
    exact hJ (i + 1) st ⟨by rw [k0, hdiv], k3, .inr kd, by omega⟩ (by omega)
  have hzn : k / 10 ^ i ≤ k := Nat.div_le_self _ _
  clear hJ hi h19 hdiv
  generalize k / 10 ^ i = z at *
  obtain ⟨e, he⟩ : ∃ e, z % 10 = e := ⟨_, rfl⟩
  rw [he] at hd hps
  by_cases hz0 : z = 0
  · have hfin := hex hz0
    have hdl : (Lib.decDigits k).length = i := by rw [← hfin]; exact hpl
    rw [hfin] at g3
    simp (disch := omega) only [go_sem, ↓k_cond, ↓x_idx, ↓k_block, Nat.reduceEqDiff, Nat.reduceBEq, ↓reduceIte, reduceCtorEq, g0, g3, hz0, hdl, List.length_cons, List.length_nil]
    rw [← hQ]
    exact post_one (.inl rfl) rfl (by simp [upd_app, mT]) rfl
  · clear hex
    simp (disch := omega) only [go_sem, ↓k_cond, ↓x_idx, ↓k_block, Nat.reduceEqDiff, Nat.reduceBEq, ↓reduceIte, reduceCtorEq, g0, g3, he, hz0, conA_sl, bytes_one, hpl, List.length_cons, List.length_nil]
    exact key _ (by simp [upd_app]) (by simp [upd_app, hps]) hz0
theorem mark_set {k i : Nat} {xs sp : List (List UInt8)} (hi : i < xs.length) : (marksL k i ++ xs.drop i ++ sp).set i (mT (k + i)) = marksL k (i + 1) ++ xs.drop (i + 1) ++ sp := by
  have hl := marksL_len k i
  rw [List.append_assoc, List.set_append_right _ _ (by omega), hl, Nat.sub_self, List.drop_eq_getElem_cons hi, List.cons_append, List.set_cons_zero, marksL_succ]
  simp
theorem i_mark {fr : Nat → AV} {h : Nat → Blk} {nx id n N k : Nat} {xs sp : List (List UInt8)} {ex gr : Bool} (hb : h id = ⟨9, strA (xs ++ sp), ex, gr, true⟩) (hn : xs.length = n) (hN : (xs ++ sp).length = N) (h0 : 0 < k) (hk : k + n < 4611686018427387904) (hbig : N < 4611686018427387904) :
    InOk Tryz.prog ⟨fr, h, nx⟩ 21 [.ref id N 0 n, .int .i64 k] (.int .i64 ((k + n : Nat) : Int)) ⟨fr, upd h id ⟨9, strA (marksL k n ++ sp), ex, gr, true⟩, nx⟩ := by
  refine inOk_of_wpc (W := fun _ => false) hm' Tryz.func21 rfl (by kernel_rfl) (Nat.le_of_ble_eq_true rfl) (go_start ?_)
  generalize hQ : PostIn Tryz.prog Tryz.f21 _ _ _ = Q
  have hal : (strA (xs ++ sp)).length = N := by rw [strA_length, hN]
  have hnN : n ≤ N := by rw [← hN]; simp; omega
  simp (disch := omega) only [go_sem, ↓k_cond, ↓x_idx, ↓k_block, Nat.reduceEqDiff, Nat.reduceBEq, ↓reduceIte, reduceCtorEq, hb, hal]
  refine k_loop (fun (i : Nat) st => st.fr 0 = .ref id N 0 n ∧ st.fr 1 = .int .i64 ((k + i : Nat) : Int) ∧ st.fr 5 = .int .i64 i ∧ st.h = upd h id ⟨9, strA (marksL k i ++ xs.drop i ++ sp), ex, gr, true⟩ ∧ st.nx = nx ∧ i ≤ n) (fun i => n - i) 0
    ⟨(by simp [upd_app] <;> omega), (by simp [upd_app] <;> omega), (by simp [upd_app] <;> omega), by funext j; simp only [upd_app]; split <;> simp_all [marksL], rfl, by omega⟩ ?_
  rintro i ⟨fr1, h1, nx1⟩ ⟨g0, g1, g5, eh, enx, hi⟩ J hJ
  simp only at g0 g1 g5 eh enx
  subst eh enx
  have hal2 : (strA (marksL k i ++ xs.drop i ++ sp)).length = N := by rw [strA_length, ← hN]; simp [marksL_len]; omega
  by_cases hin : i < n
  · have hw := w_markText (k := k + i) (by omega) (by omega)
    have hat : (marksL k i ++ xs.drop i ++ sp)[i]? = some (xs[i]'(by omega)) := by
      rw [List.append_assoc, List.getElem?_append_right (by rw [marksL_len]; omega), marksL_len, Nat.sub_self, List.drop_eq_getElem_cons (by omega)]; rfl
    have hupd : ∀ z w : Blk, upd (upd h id z) id w = upd h id w := by intro z w; funext j; simp only [upd_app]; split <;> rfl
    have hset := mark_set (k := k) (i := i) (xs := xs) (sp := sp) (by omega)
    simp (disch := omega) only [go_sem, ↓k_cond, ↓x_idx, ↓k_block, Nat.reduceEqDiff, Nat.reduceBEq, ↓reduceIte, reduceCtorEq, g0, g1, g5, hw, hal2, strA_at, hat, hupd, strA_put, hset]
    (repeat (with_reducible refine Or.inr ?_))
    exact hJ (i + 1) _ ⟨(by simp [upd_app, g0] <;> omega), by simp [upd_app]; omega, (by simp [upd_app] <;> omega), rfl, rfl, hin⟩ (by omega)
  · obtain rfl : i = n := by omega
    simp (disch := omega) only [go_sem, ↓k_cond, ↓x_idx, ↓k_block, Nat.reduceEqDiff, Nat.reduceBEq, ↓reduceIte, reduceCtorEq, g0, g1, g5, hal2]
    rw [← hQ]
    exact postIn_one (.inl rfl) rfl (by simp [upd_app] <;> omega) (by rw [List.drop_eq_nil_of_le (by omega), List.append_nil]) rfl
attribute [go_sem] w_markText
theorem w_markNil {k : Int} : CW Tryz.prog 21 [.nil, .int .i64 k] (.int .i64 k) := by
  refine cw (by kernel_rfl) (by simp [AV.pure, AV.pureL, natA_pure, natI_pure, natS_pure]) (by simp [AV.pure, AV.pureL, natA_pure, natI_pure, natS_pure]) ?_
  (refine callOk_of_wpc (W := fun _ => false) false hm' Tryz.func21 rfl (by kernel_rfl) (Nat.le_of_ble_eq_true rfl) (go_start ?_); generalize hQ : Post Tryz.prog Tryz.f21 _ _ _ _ _ = Q; simp only [stIn, matL, matA, st00])
  simp (disch := omega) only [go_sem, ↓k_cond, ↓x_idx, ↓k_block, Nat.reduceEqDiff, Nat.reduceBEq, ↓reduceIte, reduceCtorEq]
  refine k_loop (fun (_ : Nat) st => st.fr 0 = .nil ∧ st.fr 1 = .int .i64 k ∧ st.fr 5 = .int .i64 0) (fun i => i) 0 ⟨(by simp [upd_app] <;> omega), (by simp [upd_app] <;> omega), (by simp [upd_app] <;> omega)⟩ ?_
  rintro i ⟨fr, h, nx⟩ ⟨g0, g1, g5⟩ J hJ
  simp only at g0 g1 g5
  simp (disch := omega) only [go_sem, ↓k_cond, ↓x_idx, ↓k_block, Nat.reduceEqDiff, Nat.reduceBEq, ↓reduceIte, reduceCtorEq, g0, g1, g5]
  rw [← hQ]
  exact post_one (.inl rfl) rfl (by simp [upd_app] <;> omega) rfl
theorem l_held {n k : Nat} (h0 : 0 < k) (hk : k + n < 4611686018427387904) : CallOk Tryz.prog 22 [.sl 9 (strA (marksL k n)) [] false, .int .i64 k] (.int .i64 ((k + n : Nat) : Int)) [] := by
  have hml := marksL_len k n
  (refine callOk_of_wpc (W := fun _ => false) false hm' Tryz.func22 rfl (by kernel_rfl) (Nat.le_of_ble_eq_true rfl) (go_start ?_); generalize hQ : Post Tryz.prog Tryz.f22 _ _ _ _ _ = Q; simp only [stIn, matL, matA, st00])
  simp (disch := omega) only [go_sem, ↓k_cond, ↓x_idx, ↓k_block, Nat.reduceEqDiff, Nat.reduceBEq, ↓reduceIte, reduceCtorEq, strA_length, hml]
  refine k_loop (fun (i : Nat) st => st.fr 0 = .sl 9 (strA (marksL k n)) [] false ∧ st.fr 1 = .int .i64 ((k + i : Nat) : Int) ∧ st.fr 5 = .int .i64 i ∧ i ≤ n) (fun i => n - i) 0 ⟨(by simp [upd_app] <;> omega), (by simp [upd_app] <;> omega), (by simp [upd_app] <;> omega), by omega⟩ ?_
  rintro i ⟨fr, h, nx⟩ ⟨g0, g1, g5, hi⟩ J hJ
  simp only at g0 g1 g5
  by_cases hin : i < n
  · have hw := w_markText (k := k + i) (by omega) (by omega)
    have hat := marksL_at (k := k) hin
    simp (disch := omega) only [go_sem, ↓k_cond, ↓x_idx, ↓k_block, Nat.reduceEqDiff, Nat.reduceBEq, ↓reduceIte, reduceCtorEq, g0, g1, g5, hw, strA_length, hml, strA_at, hat]
    (repeat (with_reducible refine Or.inr ?_))
    exact hJ (i + 1) _ ⟨(by simp [upd_app, g0] <;> omega), by simp [upd_app]; omega, (by simp [upd_app] <;> omega), hin⟩ (by omega)
  · obtain rfl : i = n := by omega
    simp (disch := omega) only [go_sem, ↓k_cond, ↓x_idx, ↓k_block, Nat.reduceEqDiff, Nat.reduceBEq, ↓reduceIte, reduceCtorEq, g0, g1, g5, strA_length, hml]
    rw [← hQ]
    exact post_one (.inl rfl) rfl (by simp [upd_app] <;> omega) rfl
theorem snapS2 {st : St} {i j m n : Nat} {xs ys : List (List UInt8)} {ex ex' gr gr' : Bool} (hi : st.h i = ⟨9, strA xs, ex, gr, true⟩) (hj : st.h j = ⟨9, strA ys, ex', gr', true⟩) (hm : xs.length = m) (hn : ys.length = n) :
    snapL (snapA st 8) [.ref i m 0 m, .ref j n 0 n] = some ([.sl 9 (strA xs) [] false, .sl 9 (strA ys) [] false], [i, j]) := by
  have h1 := snap_strs hi hm (Nat.le_refl _)
  have h2 := snap_strs hj hn (Nat.le_refl _)
  rw [List.take_of_length_le (by omega)] at h1 h2
  exact snap_two h1 h2
theorem snapS1 {st : St} {i m : Nat} {xs : List (List UInt8)} {ex gr : Bool} {more : List AV} (hi : st.h i = ⟨9, strA xs, ex, gr, true⟩) (hm : xs.length = m) (hp : AV.pureL more = true) :
    snapL (snapA st 8) (.ref i m 0 m :: more) = some (.sl 9 (strA xs) [] false :: more, [i]) := by
  have h1 := snap_strs hi hm (Nat.le_refl _)
  rw [List.take_of_length_le (by omega)] at h1
  simp [snapL, h1, snapL_pure hp]
theorem i_intact {fr : Nat → AV} {h : Nat → Blk} {nx i j n N : Nat} {xs sp : List (List UInt8)} (hi : h i = ⟨9, strA (xs ++ sp), true, true, true⟩) (hj : h j = ⟨9, strA (xs ++ sp), true, true, true⟩) (hn : xs.length = n) (hN : n + roomB n = N) (hsp : sp.length = roomB n) (hl : n ≤ 1000000) :
    InOk Tryz.prog ⟨fr, h, nx⟩ 20 [.ref i N 0 n, .ref j N 0 n] (.bool true) ⟨fr, h, nx⟩ := by
  refine inOk_of_wpc (W := fun _ => false) hm' Tryz.func20 rfl (by kernel_rfl) (Nat.le_of_ble_eq_true rfl) (go_start ?_)
  generalize hQ : PostIn Tryz.prog Tryz.f20 _ _ _ = Q
  have hrl := room_le n
  have hall : (xs ++ sp).length = N := by simp; omega
  have hal : (strA (xs ++ sp)).length = N := by rw [strA_length, hall]
  have hroom := cw (by kernel_rfl) (by simp [AV.pure, AV.pureL, natA_pure, natI_pure, natS_pure]) (by simp [AV.pure, AV.pureL, natA_pure, natI_pure, natS_pure]) (l_room n (by omega))
  have heq := l_eq (xs ++ sp) (xs ++ sp) (by omega) (by omega)
  rw [decide_eq_true rfl] at heq
  simp (disch := omega) only [go_sem, ↓k_cond, ↓x_idx, ↓k_block, Nat.reduceEqDiff, Nat.reduceBEq, ↓reduceIte, reduceCtorEq, hi, hj, hal, hroom]
  (repeat (with_reducible refine Or.inr ?_))
  simp (disch := omega) only [go_sem, ↓k_cond, ↓x_idx, ↓k_block, Nat.reduceEqDiff, Nat.reduceBEq, ↓reduceIte, reduceCtorEq, hi, hj, hal, hN]
  refine callW_S heq (by kernel_rfl) (snapS2 hi hj hall hall) rfl rfl ?_
  simp (disch := omega) only [go_sem, ↓k_cond, ↓x_idx, ↓k_block, Nat.reduceEqDiff, Nat.reduceBEq, ↓reduceIte, reduceCtorEq]
  rw [← hQ]
  exact postIn_one (.inl rfl) rfl (by simp [upd_app] <;> omega) rfl rfl
theorem snapP {st : St} {i n len : Nat} {xs sp : List (List UInt8)} (h : st.h i = ⟨9, strA (xs ++ sp), true, true, true⟩) (hn : xs.length + sp.length = n) (hl : xs.length = len) : snapA st 8 (.ref i n 0 len) = some (.sl 9 (strA xs) [] false, [i]) := by
  have h1 := snap_strs (st := st) (id := i) (n := n) (len := len) (xs := xs ++ sp) h (by simp; omega) (by omega)
  rw [List.take_left' hl] at h1
  exact h1
theorem snapN {st : St} : snapA st 8 .nil = some (.nil, []) := snapA_pure rfl
theorem room_pos (n : Nat) (sp : List (List UInt8)) (h : spareL n = sp) : sp.length = roomB n := by rw [← h, spareL]; simp
attribute [go_sem] w_markNil
end Go.Proofs.YtfhpphmdpjebcaaGreatDoor
