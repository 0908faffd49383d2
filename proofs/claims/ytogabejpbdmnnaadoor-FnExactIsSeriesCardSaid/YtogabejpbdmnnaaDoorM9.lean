/- Part 9 of 11 of the proof that stands in YtogabejpbdmnnaaDoorM11. -/
import Derived.Test.YtogabejpbdmnnaaDoorM8

set_option linter.unusedVariables false
set_option linter.unusedSimpArgs false

/- The program reads lists of fractions, and series. -/
set_option linter.unusedSimpArgs false
set_option linter.unusedVariables false
namespace Go.Proofs.YtogabejpbdmnnaaDoor
open Go

@[simp] theorem zeroI_pure : zeroI.pure = true := rfl
theorem ci_rats : callable Tryd.prog 14 = true := by kernel_rfl
theorem ci_seriesOf : callable Tryd.prog 11 = true := by kernel_rfl
theorem ci_IsSeries : callable Tryd.prog 7 = true := by kernel_rfl
/-- Texts as0 values. -/
def strA (xs : List (List UInt8)) : List AV := xs.map .str
theorem strA_length (xs : List (List UInt8)) : (strA xs).length = xs.length := by simp [strA]
theorem strA_at {xs : List (List UInt8)} {i : Nat} : (strA xs)[i]? = (xs[i]?).map AV.str := by simp [strA]
@[simp] theorem strA_pure (xs : List (List UInt8)) : AV.pureL (strA xs) = true := by induction xs <;> simp_all [strA, AV.pureL, AV.pure]
abbrev Qd := Bool × Nat × Nat
def listQ (xs : List (List UInt8)) : Option (List Qd) := if 300 < xs.length then none else xs.mapM parseQ
def ratsI (qs : List Qd) : AV := .sl 42 (qs.map ratI) [] false
def listI (o : Option (List Qd)) : AV := match o with | some qs => .tup [ratsI qs, .bool true] | none => .tup [.nil, .bool false]
theorem rats_pure (qs : List Qd) : AV.pureL (qs.map ratI) = true := by induction qs <;> simp_all [AV.pureL]
@[simp] theorem ratsI_pure (qs : List Qd) : (ratsI qs).pure = true := by simp [ratsI, AV.pure, AV.pureL, rats_pure]
theorem mapM_take {α β : Type} {f : α → Option β} {xs : List α} {i : Nat} {x : α} {y : β} {ys : List β} (h : (xs.take i).mapM f = some ys) (hx : xs[i]? = some x) (hy : f x = some y) : (xs.take (i + 1)).mapM f = some (ys ++ [y]) := by
  rw [List.take_add_one, hx, List.mapM_append, h]; simp [hy]
theorem mapM_fail {α β : Type} {f : α → Option β} {xs : List α} {i : Nat} {x : α} (hx : xs[i]? = some x) (hy : f x = none) : xs.mapM f = none := by
  have : xs = xs.take i ++ x :: xs.drop (i + 1) := by rw [← drop_cons hx, List.take_append_drop]
  rw [this, List.mapM_append]
  cases (xs.take i).mapM f <;> simp [hy]
theorem mapM_len {α β : Type} {f : α → Option β} : ∀ {xs : List α} {ys : List β}, xs.mapM f = some ys → ys.length = xs.length
  | [], ys, h => by simp at h; subst h; rfl
  | x :: xs, ys, h => by
    simp only [List.mapM_cons] at h
    cases hx : f x with
    | none => simp [hx] at h
    | some y =>
      cases hxs : xs.mapM f with
      | none => simp [hx, hxs] at h
      | some zs => simp [hx, hxs] at h; subst h; simp [mapM_len hxs]

theorem i_rats (xs : List (List UInt8)) (hl : xs.length < 9223372036854775808) (hs : ∀ x ∈ xs, x.length < 9223372036854775808) : CallOk Tryd.prog 14 [.sl 9 (strA xs) [] false] (listI (listQ xs)) [] := by
  by_cases h300 : 300 < xs.length
  · rw [listQ, if_pos h300]
    (refine callOk_of_wpc (W := fun _ => false) false hm' Tryd.func14 rfl (by kernel_rfl) (Nat.le_of_ble_eq_true rfl) (go_start ?_); generalize hQ : Post Tryd.prog Tryd.f14 _ _ _ _ _ = Q; simp only [stIn, matL, matA, st00])
    simp (disch := omega) only [go_sem, ↓k_cond, ↓x_idx, ↓k_block, Nat.reduceEqDiff, ↓reduceIte, reduceCtorEq, if_pos, if_neg, decide_eq_true, decide_eq_false, beqT, beqF, bneT, bneF, wrapI, wrapU32, wrapU64, wrapU8, nc_add, nc_addL, nc_addR, nc_mul, nc_mulL, nc_mulR, nc_div, nc_divL, nc_mod, nc_modL, nc_1, nc_sub1, natA_at, natA_put, eatH_one, Int.toNat_natCast, Option.map_some, shr32, shl32, List.getD_cons_zero, List.getD_cons_succ, List.length_set, List.set_cons_zero, List.set_cons_succ, strA_length]
    rw [← hQ]
    exact post_two (.inl rfl) rfl (by first | (simp only [upd_app, ↓reduceIte, Nat.reduceEqDiff]; done) | (simp [upd_app]; done) | (simp [upd_app]; omega)) (by first | (simp only [upd_app, ↓reduceIte, Nat.reduceEqDiff]; done) | (simp [upd_app]; done) | (simp [upd_app]; omega)) rfl rfl
  rw [listQ, if_neg h300]
  obtain ⟨n, hn⟩ : ∃ n, xs.length = n := ⟨_, rfl⟩
  rw [hn] at h300 hl
  (refine callOk_of_wpc (W := fun _ => false) false hm' Tryd.func14 rfl (by kernel_rfl) (Nat.le_of_ble_eq_true rfl) (go_start ?_); generalize hQ : Post Tryd.prog Tryd.f14 _ _ _ _ _ = Q; simp only [stIn, matL, matA, st00])
  simp (disch := omega) only [go_sem, ↓k_cond, ↓x_idx, ↓k_block, Nat.reduceEqDiff, ↓reduceIte, reduceCtorEq, if_pos, if_neg, decide_eq_true, decide_eq_false, beqT, beqF, bneT, bneF, wrapI, wrapU32, wrapU64, wrapU8, nc_add, nc_addL, nc_addR, nc_mul, nc_mulL, nc_mulR, nc_div, nc_divL, nc_mod, nc_modL, nc_1, nc_sub1, natA_at, natA_put, eatH_one, Int.toNat_natCast, Option.map_some, shr32, shl32, List.getD_cons_zero, List.getD_cons_succ, List.length_set, List.set_cons_zero, List.set_cons_succ, strA_length, hn]
  obtain ⟨R, hR⟩ : ∃ R : Nat × List Qd → St → Prop, R = fun p st => st.fr 4 = .ref 0 p.2.length 0 p.2.length ∧ st.fr 13 = .sl 9 (strA xs) [] false ∧ st.fr 14 = .int .i64 n ∧ st.fr 15 = .int .i64 p.1 ∧ (∃ ex, st.h 0 = ⟨42, p.2.map ratI, ex, true, true⟩) ∧ 0 < st.nx ∧ p.1 ≤ n ∧ (xs.take p.1).mapM parseQ = some p.2 := ⟨_, rfl⟩
  refine k_loop R (fun p => n - p.1) (0, []) (by rw [hR]; exact ⟨(by first | (simp only [upd_app, ↓reduceIte, Nat.reduceEqDiff]; done) | (simp [upd_app]; done) | (simp [upd_app]; omega)), (by first | (simp only [upd_app, ↓reduceIte, Nat.reduceEqDiff]; done) | (simp [upd_app]; done) | (simp [upd_app]; omega)), (by first | (simp only [upd_app, ↓reduceIte, Nat.reduceEqDiff]; done) | (simp [upd_app]; done) | (simp [upd_app]; omega)), (by first | (simp only [upd_app, ↓reduceIte, Nat.reduceEqDiff]; done) | (simp [upd_app]; done) | (simp [upd_app]; omega)), ⟨true, by simp [upd_app]⟩, by simp, by simp, by simp⟩) ?_
  rintro ⟨i, qs⟩ ⟨fr, h, nx⟩ hst J hJ
  rw [hR] at hst
  obtain ⟨g4, g13, g14, g15, ⟨ex, hm⟩, hnx, hi, hq⟩ := hst
  simp only at g4 g13 g14 g15 hm hnx hi hq
  have hql : qs.length = i := by have := mapM_len hq; simp at this; omega
  have n1 : (0 = nx) = False := by simp; omega
  have n2 : (nx = 0) = False := by simp; omega
  have hml : (qs.map ratI).length = i := by simp [hql]
  by_cases hin : i < n
  · obtain ⟨x, hx⟩ := get_some (xs := xs) (i := i) (by omega)
    have hrd := i_readRat x (hs x (List.mem_of_getElem? hx))
    cases hp : parseQ x with
    | none =>
      rw [mapM_fail hx hp] at hQ
      simp only [readRatV, hp] at hrd
      simp (disch := omega) only [go_sem, ↓k_cond, ↓x_idx, ↓k_block, Nat.reduceEqDiff, ↓reduceIte, reduceCtorEq, if_pos, if_neg, decide_eq_true, decide_eq_false, beqT, beqF, bneT, bneF, wrapI, wrapU32, wrapU64, wrapU8, nc_add, nc_addL, nc_addR, nc_mul, nc_mulL, nc_mulR, nc_div, nc_divL, nc_mod, nc_modL, nc_1, nc_sub1, natA_at, natA_put, eatH_one, Int.toNat_natCast, Option.map_some, shr32, shl32, List.getD_cons_zero, List.getD_cons_succ, List.length_set, List.set_cons_zero, List.set_cons_succ, g4, g13, g14, g15, strA_at, hx, strA_length, hn]
      refine x_callP (hrd) ci_readRat (by simp [evA, upd_app, ofVal, ofCell, zeroI]) (by simp [AV.pure, AV.pureL, natA_pure, natI_pure, natS_pure]) (by simp [AV.pure, AV.pureL, natA_pure, natI_pure, natS_pure]) ?_
      simp (disch := omega) only [go_sem, ↓k_cond, ↓x_idx, ↓k_block, Nat.reduceEqDiff, ↓reduceIte, reduceCtorEq, if_pos, if_neg, decide_eq_true, decide_eq_false, beqT, beqF, bneT, bneF, wrapI, wrapU32, wrapU64, wrapU8, nc_add, nc_addL, nc_addR, nc_mul, nc_mulL, nc_mulR, nc_div, nc_divL, nc_mod, nc_modL, nc_1, nc_sub1, natA_at, natA_put, eatH_one, Int.toNat_natCast, Option.map_some, shr32, shl32, List.getD_cons_zero, List.getD_cons_succ, List.length_set, List.set_cons_zero, List.set_cons_succ, g4, g13, g14, g15, zeroI, el_iRat0, List.length_cons, List.length_nil, Nat.reduceAdd]
      rw [← hQ]
      exact post_two (.inl rfl) rfl (by first | (simp only [upd_app, ↓reduceIte, Nat.reduceEqDiff]; done) | (simp [upd_app]; done) | (simp [upd_app]; omega)) (by first | (simp only [upd_app, ↓reduceIte, Nat.reduceEqDiff]; done) | (simp [upd_app]; done) | (simp [upd_app]; omega)) rfl rfl
    | some q =>
      simp only [readRatV, hp] at hrd
      have hmt := mapM_take hq hx hp
      have hfin : ∀ st : St, st.fr 4 = .ref 0 (i + 1) 0 (i + 1) → st.fr 13 = .sl 9 (strA xs) [] false → st.fr 14 = .int .i64 n → st.fr 15 = .int .i64 ((i + 1 : Nat) : Int) → (∃ ex, st.h 0 = ⟨42, qs.map ratI ++ [ratI q], ex, true, true⟩) → 0 < st.nx → J st := by
        intro st r4 r13 r14 r15 rh rn
        refine hJ (i + 1, qs ++ [q]) st ?_ (by simp only; omega)
        rw [hR]
        refine ⟨by simpa [hql] using r4, r13, r14, r15, by simpa using rh, rn, hin, hmt⟩
      clear hJ hmt hR hQ hq hs
      rw [hql] at g4
      simp (disch := omega) only [go_sem, ↓k_cond, ↓x_idx, ↓k_block, Nat.reduceEqDiff, ↓reduceIte, reduceCtorEq, if_pos, if_neg, decide_eq_true, decide_eq_false, beqT, beqF, bneT, bneF, wrapI, wrapU32, wrapU64, wrapU8, nc_add, nc_addL, nc_addR, nc_mul, nc_mulL, nc_mulR, nc_div, nc_divL, nc_mod, nc_modL, nc_1, nc_sub1, natA_at, natA_put, eatH_one, Int.toNat_natCast, Option.map_some, shr32, shl32, List.getD_cons_zero, List.getD_cons_succ, List.length_set, List.set_cons_zero, List.set_cons_succ, g4, g13, g14, g15, strA_at, hx, strA_length, hn]
      refine x_callP (hrd) ci_readRat (by simp [evA, upd_app, ofVal, ofCell, zeroI]) (by simp [AV.pure, AV.pureL, natA_pure, natI_pure, natS_pure]) (by simp [AV.pure, AV.pureL, natA_pure, natI_pure, natS_pure]) ?_
      simp (disch := omega) only [go_sem, ↓k_cond, ↓x_idx, ↓k_block, Nat.reduceEqDiff, ↓reduceIte, reduceCtorEq, if_pos, if_neg, decide_eq_true, decide_eq_false, beqT, beqF, bneT, bneF, wrapI, wrapU32, wrapU64, wrapU8, nc_add, nc_addL, nc_addR, nc_mul, nc_mulL, nc_mulR, nc_div, nc_divL, nc_mod, nc_modL, nc_1, nc_sub1, natA_at, natA_put, eatH_one, Int.toNat_natCast, Option.map_some, shr32, shl32, List.getD_cons_zero, List.getD_cons_succ, List.length_set, List.set_cons_zero, List.set_cons_succ, g4, g13, g14, g15, ratI, natI, List.length_cons, List.length_nil, Nat.reduceAdd, List.take_succ_cons, List.take_zero, n1, n2, hm, hml, reach]
      exact hfin _ (by first | (simp only [upd_app, ↓reduceIte, Nat.reduceEqDiff]; done) | (simp [upd_app]; done) | (simp [upd_app]; omega)) (by first | (simp only [upd_app, ↓reduceIte, Nat.reduceEqDiff, g13]; done) | (simp [upd_app, g13]; done) | (simp [upd_app, g13]; omega)) (by first | (simp only [upd_app, ↓reduceIte, Nat.reduceEqDiff, g14]; done) | (simp [upd_app, g14]; done) | (simp [upd_app, g14]; omega)) (by first | (simp only [upd_app, ↓reduceIte, Nat.reduceEqDiff]; done) | (simp [upd_app]; done) | (simp [upd_app]; omega)) ⟨false, by simp [upd_app, n1, n2, hm, ratI, natI]⟩ (by simp)
  · obtain rfl : i = n := by omega
    rw [List.take_of_length_le (by omega)] at hq
    rw [hq] at hQ
    simp (disch := omega) only [go_sem, ↓k_cond, ↓x_idx, ↓k_block, Nat.reduceEqDiff, ↓reduceIte, reduceCtorEq, if_pos, if_neg, decide_eq_true, decide_eq_false, beqT, beqF, bneT, bneF, wrapI, wrapU32, wrapU64, wrapU8, nc_add, nc_addL, nc_addR, nc_mul, nc_mulL, nc_mulR, nc_div, nc_divL, nc_mod, nc_modL, nc_1, nc_sub1, natA_at, natA_put, eatH_one, Int.toNat_natCast, Option.map_some, shr32, shl32, List.getD_cons_zero, List.getD_cons_succ, List.length_set, List.set_cons_zero, List.set_cons_succ, g4, g13, g14, g15]
    rw [← hQ]
    have hfz : snapA (⟨_, h, nx⟩ : St) 7 (.ref 0 qs.length 0 qs.length) = some (.sl 42 (qs.map ratI) [] false, [0]) := snap_frozen (st := ⟨fr, h, nx⟩) (d := 6) (by simp [hm]) (by simp [hm]) (by simp [hm]) (by simp) (by simp [hm]; exact List.take_of_length_le (by simp)) (rats_pure qs)
    exact post_tup (.inl rfl) rfl (by first | (simp only [upd_app, ↓reduceIte, Nat.reduceEqDiff]; done) | (simp [upd_app]; done) | (simp [upd_app]; omega)) (by first | (simp only [upd_app, ↓reduceIte, Nat.reduceEqDiff]; done) | (simp [upd_app]; done) | (simp [upd_app]; omega)) hfz (snapA_pure rfl) (fun a _ => Nat.zero_le _) (.inl rfl)

def serQ (xs : List (List UInt8)) : Option (List Qd) := if xs.length < 1 ∨ 13 < xs.length then none else listQ xs
theorem i_seriesOf (xs : List (List UInt8)) (hl : xs.length < 9223372036854775808) (hs : ∀ x ∈ xs, x.length < 9223372036854775808) : CallOk Tryd.prog 11 [.sl 9 (strA xs) [] false] (listI (serQ xs)) [] := by
  by_cases h1 : xs.length < 1
  · rw [serQ, if_pos (.inl h1)]
    (refine callOk_of_wpc (W := fun _ => false) false hm' Tryd.func11 rfl (by kernel_rfl) (Nat.le_of_ble_eq_true rfl) (go_start ?_); generalize hQ : Post Tryd.prog Tryd.f11 _ _ _ _ _ = Q; simp only [stIn, matL, matA, st00])
    simp (disch := omega) only [go_sem, ↓k_cond, ↓x_idx, ↓k_block, Nat.reduceEqDiff, ↓reduceIte, reduceCtorEq, if_pos, if_neg, decide_eq_true, decide_eq_false, beqT, beqF, bneT, bneF, wrapI, wrapU32, wrapU64, wrapU8, nc_add, nc_addL, nc_addR, nc_mul, nc_mulL, nc_mulR, nc_div, nc_divL, nc_mod, nc_modL, nc_1, nc_sub1, natA_at, natA_put, eatH_one, Int.toNat_natCast, Option.map_some, shr32, shl32, List.getD_cons_zero, List.getD_cons_succ, List.length_set, List.set_cons_zero, List.set_cons_succ, strA_length]
    rw [← hQ]
    exact post_two (.inl rfl) rfl (by first | (simp only [upd_app, ↓reduceIte, Nat.reduceEqDiff]; done) | (simp [upd_app]; done) | (simp [upd_app]; omega)) (by first | (simp only [upd_app, ↓reduceIte, Nat.reduceEqDiff]; done) | (simp [upd_app]; done) | (simp [upd_app]; omega)) rfl rfl
  by_cases h2 : 13 < xs.length
  · rw [serQ, if_pos (.inr h2)]
    (refine callOk_of_wpc (W := fun _ => false) false hm' Tryd.func11 rfl (by kernel_rfl) (Nat.le_of_ble_eq_true rfl) (go_start ?_); generalize hQ : Post Tryd.prog Tryd.f11 _ _ _ _ _ = Q; simp only [stIn, matL, matA, st00])
    simp (disch := omega) only [go_sem, ↓k_cond, ↓x_idx, ↓k_block, Nat.reduceEqDiff, ↓reduceIte, reduceCtorEq, if_pos, if_neg, decide_eq_true, decide_eq_false, beqT, beqF, bneT, bneF, wrapI, wrapU32, wrapU64, wrapU8, nc_add, nc_addL, nc_addR, nc_mul, nc_mulL, nc_mulR, nc_div, nc_divL, nc_mod, nc_modL, nc_1, nc_sub1, natA_at, natA_put, eatH_one, Int.toNat_natCast, Option.map_some, shr32, shl32, List.getD_cons_zero, List.getD_cons_succ, List.length_set, List.set_cons_zero, List.set_cons_succ, strA_length]
    rw [← hQ]
    exact post_two (.inl rfl) rfl (by first | (simp only [upd_app, ↓reduceIte, Nat.reduceEqDiff]; done) | (simp [upd_app]; done) | (simp [upd_app]; omega)) (by first | (simp only [upd_app, ↓reduceIte, Nat.reduceEqDiff]; done) | (simp [upd_app]; done) | (simp [upd_app]; omega)) rfl rfl
  rw [serQ, if_neg (by omega)]
  have hr := i_rats xs hl hs
  (refine callOk_of_wpc (W := fun _ => false) false hm' Tryd.func11 rfl (by kernel_rfl) (Nat.le_of_ble_eq_true rfl) (go_start ?_); generalize hQ : Post Tryd.prog Tryd.f11 _ _ _ _ _ = Q; simp only [stIn, matL, matA, st00])
  simp (disch := omega) only [go_sem, ↓k_cond, ↓x_idx, ↓k_block, Nat.reduceEqDiff, ↓reduceIte, reduceCtorEq, if_pos, if_neg, decide_eq_true, decide_eq_false, beqT, beqF, bneT, bneF, wrapI, wrapU32, wrapU64, wrapU8, nc_add, nc_addL, nc_addR, nc_mul, nc_mulL, nc_mulR, nc_div, nc_divL, nc_mod, nc_modL, nc_1, nc_sub1, natA_at, natA_put, eatH_one, Int.toNat_natCast, Option.map_some, shr32, shl32, List.getD_cons_zero, List.getD_cons_succ, List.length_set, List.set_cons_zero, List.set_cons_succ, strA_length]
  cases hq : listQ xs with
  | none =>
    rw [hq] at hr hQ
    simp only [listI] at hr
    refine x_callP hr ci_rats (by simp [evA, upd_app]) (by simp [AV.pureL, AV.pure]) rfl ?_
    simp (disch := omega) only [go_sem, ↓k_cond, ↓x_idx, ↓k_block, Nat.reduceEqDiff, ↓reduceIte, reduceCtorEq, if_pos, if_neg, decide_eq_true, decide_eq_false, beqT, beqF, bneT, bneF, wrapI, wrapU32, wrapU64, wrapU8, nc_add, nc_addL, nc_addR, nc_mul, nc_mulL, nc_mulR, nc_div, nc_divL, nc_mod, nc_modL, nc_1, nc_sub1, natA_at, natA_put, eatH_one, Int.toNat_natCast, Option.map_some, shr32, shl32, List.getD_cons_zero, List.getD_cons_succ, List.length_set, List.set_cons_zero, List.set_cons_succ]
    rw [← hQ]
    exact post_two (.inl rfl) rfl (by first | (simp only [upd_app, ↓reduceIte, Nat.reduceEqDiff]; done) | (simp [upd_app]; done) | (simp [upd_app]; omega)) (by first | (simp only [upd_app, ↓reduceIte, Nat.reduceEqDiff]; done) | (simp [upd_app]; done) | (simp [upd_app]; omega)) rfl rfl
  | some qs =>
    rw [hq] at hr hQ
    simp only [listI] at hr
    refine x_callP hr ci_rats (by simp [evA, upd_app]) (by simp [AV.pureL, AV.pure]) (by simp [AV.pure, AV.pureL]) ?_
    simp (disch := omega) only [go_sem, ↓k_cond, ↓x_idx, ↓k_block, Nat.reduceEqDiff, ↓reduceIte, reduceCtorEq, if_pos, if_neg, decide_eq_true, decide_eq_false, beqT, beqF, bneT, bneF, wrapI, wrapU32, wrapU64, wrapU8, nc_add, nc_addL, nc_addR, nc_mul, nc_mulL, nc_mulR, nc_div, nc_divL, nc_mod, nc_modL, nc_1, nc_sub1, natA_at, natA_put, eatH_one, Int.toNat_natCast, Option.map_some, shr32, shl32, List.getD_cons_zero, List.getD_cons_succ, List.length_set, List.set_cons_zero, List.set_cons_succ]
    rw [← hQ]
    exact post_two (.inl rfl) rfl (by first | (simp only [upd_app, ↓reduceIte, Nat.reduceEqDiff]; done) | (simp [upd_app]; done) | (simp [upd_app]; omega)) (by first | (simp only [upd_app, ↓reduceIte, Nat.reduceEqDiff]; done) | (simp [upd_app]; done) | (simp [upd_app]; omega)) (by simp) rfl
theorem i_IsSeries (xs : List (List UInt8)) (hl : xs.length < 9223372036854775808) (hs : ∀ x ∈ xs, x.length < 9223372036854775808) : CallOk Tryd.prog 7 [.sl 9 (strA xs) [] false] (.bool (serQ xs).isSome) [] := by
  have hr := i_seriesOf xs hl hs
  (refine callOk_of_wpc (W := fun _ => false) false hm' Tryd.func7 rfl (by kernel_rfl) (Nat.le_of_ble_eq_true rfl) (go_start ?_); generalize hQ : Post Tryd.prog Tryd.f7 _ _ _ _ _ = Q; simp only [stIn, matL, matA, st00])
  simp (disch := omega) only [go_sem, ↓k_cond, ↓x_idx, ↓k_block, Nat.reduceEqDiff, ↓reduceIte, reduceCtorEq, if_pos, if_neg, decide_eq_true, decide_eq_false, beqT, beqF, bneT, bneF, wrapI, wrapU32, wrapU64, wrapU8, nc_add, nc_addL, nc_addR, nc_mul, nc_mulL, nc_mulR, nc_div, nc_divL, nc_mod, nc_modL, nc_1, nc_sub1, natA_at, natA_put, eatH_one, Int.toNat_natCast, Option.map_some, shr32, shl32, List.getD_cons_zero, List.getD_cons_succ, List.length_set, List.set_cons_zero, List.set_cons_succ]
  cases hq : serQ xs with
  | none =>
    rw [hq] at hr hQ
    simp only [listI] at hr
    refine x_callP hr ci_seriesOf (by simp [evA, upd_app]) (by simp [AV.pureL, AV.pure]) rfl ?_
    simp (disch := omega) only [go_sem, ↓k_cond, ↓x_idx, ↓k_block, Nat.reduceEqDiff, ↓reduceIte, reduceCtorEq, if_pos, if_neg, decide_eq_true, decide_eq_false, beqT, beqF, bneT, bneF, wrapI, wrapU32, wrapU64, wrapU8, nc_add, nc_addL, nc_addR, nc_mul, nc_mulL, nc_mulR, nc_div, nc_divL, nc_mod, nc_modL, nc_1, nc_sub1, natA_at, natA_put, eatH_one, Int.toNat_natCast, Option.map_some, shr32, shl32, List.getD_cons_zero, List.getD_cons_succ, List.length_set, List.set_cons_zero, List.set_cons_succ]
    rw [← hQ]
    exact post_one (.inl rfl) rfl (by first | (simp only [upd_app, ↓reduceIte, Nat.reduceEqDiff, Option.isSome_none]; done) | (simp [upd_app, Option.isSome_none]; done) | (simp [upd_app, Option.isSome_none]; omega)) rfl
  | some qs =>
    rw [hq] at hr hQ
    simp only [listI] at hr
    refine x_callP hr ci_seriesOf (by simp [evA, upd_app]) (by simp [AV.pureL, AV.pure]) (by simp [AV.pure, AV.pureL]) ?_
    simp (disch := omega) only [go_sem, ↓k_cond, ↓x_idx, ↓k_block, Nat.reduceEqDiff, ↓reduceIte, reduceCtorEq, if_pos, if_neg, decide_eq_true, decide_eq_false, beqT, beqF, bneT, bneF, wrapI, wrapU32, wrapU64, wrapU8, nc_add, nc_addL, nc_addR, nc_mul, nc_mulL, nc_mulR, nc_div, nc_divL, nc_mod, nc_modL, nc_1, nc_sub1, natA_at, natA_put, eatH_one, Int.toNat_natCast, Option.map_some, shr32, shl32, List.getD_cons_zero, List.getD_cons_succ, List.length_set, List.set_cons_zero, List.set_cons_succ]
    rw [← hQ]
    exact post_one (.inl rfl) rfl (by first | (simp only [upd_app, ↓reduceIte, Nat.reduceEqDiff, Option.isSome_some]; done) | (simp [upd_app, Option.isSome_some]; done) | (simp [upd_app, Option.isSome_some]; omega)) rfl
end Go.Proofs.YtogabejpbdmnnaaDoor

/- The reference: greatest common divisors; reading naturals; texts cut. -/
set_option linter.unusedSimpArgs false
set_option linter.unusedVariables false
namespace Go.Proofs.YtogabejpbdmnnaaDoor
open Go

theorem c_Gcd : callable Tryd.prog 21 = true := by kernel_rfl
theorem c_NatRead : callable Tryd.prog 19 = true := by kernel_rfl
theorem c_Digits : callable Tryd.prog 18 = true := by kernel_rfl
theorem c_sCut01 : callable Tryd.prog 17 = true := by kernel_rfl
theorem s_Gcd (a b : Nat) (ha : (enc B9 a).length ≤ 1099511627775) (hb : (enc B9 b).length ≤ 1099511627775) : CallOk Tryd.prog 21 [natS a, natS b] (natS (Nat.gcd a b)) [] := by
  (refine callOk_of_wpc (W := fun _ => false) false hm' Tryd.func21 rfl (by kernel_rfl) (Nat.le_of_ble_eq_true rfl) (go_start ?_); generalize hQ : Post Tryd.prog Tryd.f21 _ _ _ _ _ = Q; simp only [stIn, matL, matA, st00, natS])
  simp (disch := omega) only [go_sem, ↓k_cond, ↓x_idx, ↓k_block, Nat.reduceEqDiff, ↓reduceIte, reduceCtorEq, if_pos, if_neg, decide_eq_true, decide_eq_false, beqT, beqF, bneT, bneF, wrapI, wrapU32, wrapU64, wrapU8, nc_add, nc_addL, nc_addR, nc_mul, nc_mulL, nc_mulR, nc_div, nc_divL, nc_mod, nc_modL, nc_1, nc_sub1, natA_at, natA_put, eatH_one, Int.toNat_natCast, Option.map_some, shr32, shl32, List.getD_cons_zero, List.getD_cons_succ, List.length_set, List.set_cons_zero, List.set_cons_succ]
  refine k_loop (fun (p : Nat × Nat) st => st.fr 0 = natS p.1 ∧ st.fr 1 = natS p.2 ∧ Nat.gcd p.1 p.2 = Nat.gcd a b ∧ (enc B9 p.1).length ≤ 1099511627775 ∧ (enc B9 p.2).length ≤ 1099511627775) (fun p => p.2) (a, b)
    ⟨(by first | (simp only [upd_app, ↓reduceIte, Nat.reduceEqDiff, natS]; done) | (simp [upd_app, natS]; done) | (simp [upd_app, natS]; omega)), (by first | (simp only [upd_app, ↓reduceIte, Nat.reduceEqDiff, natS]; done) | (simp [upd_app, natS]; done) | (simp [upd_app, natS]; omega)), rfl, ha, hb⟩ ?_
  rintro ⟨x, y⟩ ⟨fr, h, nx⟩ ⟨h0, h1, hg, hx, hy⟩ J hJ
  simp only [natS] at h0 h1 hg hx hy
  by_cases hy0 : y = 0
  · subst hy0
    rw [Nat.gcd_zero_right] at hg
    rw [enc_zero] at h1
    simp (disch := omega) only [go_sem, ↓k_cond, ↓x_idx, ↓k_block, Nat.reduceEqDiff, ↓reduceIte, reduceCtorEq, if_pos, if_neg, decide_eq_true, decide_eq_false, beqT, beqF, bneT, bneF, wrapI, wrapU32, wrapU64, wrapU8, nc_add, nc_addL, nc_addR, nc_mul, nc_mulL, nc_mulR, nc_div, nc_divL, nc_mod, nc_modL, nc_1, nc_sub1, natA_at, natA_put, eatH_one, Int.toNat_natCast, Option.map_some, shr32, shl32, List.getD_cons_zero, List.getD_cons_succ, List.length_set, List.set_cons_zero, List.set_cons_succ, h0, h1, List.length_nil]
    rw [← hQ]
    exact post_one (.inl rfl) rfl (by first | (simp only [upd_app, ↓reduceIte, Nat.reduceEqDiff, h0, natS, hg]; done) | (simp [upd_app, h0, natS, hg]; done) | (simp [upd_app, h0, natS, hg]; omega)) (by simp)
  · have hyl := enc_len_pos B9_gt hy0
    have hK : (enc B9 (x % y)).length ≤ 1099511627775 := Nat.le_trans (enc_len_mono B9_gt (Nat.le_of_lt (Nat.mod_lt _ (by omega)))) hy
    simp (disch := omega) only [go_sem, ↓k_cond, ↓x_idx, ↓k_block, Nat.reduceEqDiff, ↓reduceIte, reduceCtorEq, if_pos, if_neg, decide_eq_true, decide_eq_false, beqT, beqF, bneT, bneF, wrapI, wrapU32, wrapU64, wrapU8, nc_add, nc_addL, nc_addR, nc_mul, nc_mulL, nc_mulR, nc_div, nc_divL, nc_mod, nc_modL, nc_1, nc_sub1, natA_at, natA_put, eatH_one, Int.toNat_natCast, Option.map_some, shr32, shl32, List.getD_cons_zero, List.getD_cons_succ, List.length_set, List.set_cons_zero, List.set_cons_succ, h0, h1]
    refine x_callP (s_NatDiv x y hx hy0 hy) c_NatDiv (by simp [evA, upd_app, ofVal, ofCell, natS, h0, h1]) (by simp [AV.pure, AV.pureL, natA_pure, natI_pure, natS_pure]) (by simp [AV.pure, AV.pureL, natA_pure, natI_pure, natS_pure]) ?_
    simp (disch := omega) only [go_sem, ↓k_cond, ↓x_idx, ↓k_block, Nat.reduceEqDiff, ↓reduceIte, reduceCtorEq, if_pos, if_neg, decide_eq_true, decide_eq_false, beqT, beqF, bneT, bneF, wrapI, wrapU32, wrapU64, wrapU8, nc_add, nc_addL, nc_addR, nc_mul, nc_mulL, nc_mulR, nc_div, nc_divL, nc_mod, nc_modL, nc_1, nc_sub1, natA_at, natA_put, eatH_one, Int.toNat_natCast, Option.map_some, shr32, shl32, List.getD_cons_zero, List.getD_cons_succ, List.length_set, List.set_cons_zero, List.set_cons_succ, h0, h1]
    exact hJ (y, x % y) _ ⟨(by first | (simp only [upd_app, ↓reduceIte, Nat.reduceEqDiff, natS]; done) | (simp [upd_app, natS]; done) | (simp [upd_app, natS]; omega)), (by first | (simp only [upd_app, ↓reduceIte, Nat.reduceEqDiff]; done) | (simp [upd_app]; done) | (simp [upd_app]; omega)), by rw [← hg]; exact gcd_step x y, hy, hK⟩ (Nat.mod_lt _ (by omega))

/-- Digits in groups of nine from the end on. -/
theorem dval_group {s : List UInt8} {to frm : Nat} (hft : frm ≤ to) (ht : to ≤ s.length) : dval (s.drop frm) = dval ((s.take to).drop frm) * 10 ^ (s.length - to) + dval (s.drop to) := by
  have : s.drop frm = (s.take to).drop frm ++ s.drop to := by
    conv => lhs; rw [← List.take_append_drop to s, List.drop_append]
    congr 1
    rw [List.length_take, Nat.min_eq_left ht, show frm - to = 0 by omega, List.drop_zero]
  rw [this, dval_append]; simp
theorem pow9 (k : Nat) : B9 ^ k = 10 ^ (9 * k) := by rw [Nat.pow_mul]; rfl

theorem snapL_oneX {st : St} {id n len T : Nat} {k : IntKind} {xs : List Nat} {ex : Bool} (h : st.h id = ⟨T, natA k xs, ex, true, true⟩) (hn : xs.length = n) (hl : len ≤ n) :
    snapL (snapA st 8) [.ref id n 0 len] = some ([.sl T (natA k (xs.take len)) [] false], [id]) := by
  have := snap_frozen (st := st) (d := 7) (id := id) (n := n) (off := 0) (len := len) (T := T) (r := natA k (xs.take len)) (by rw [h]) (by rw [h, natA_length, hn]) (by rw [h]) (by omega) (by rw [h, List.drop_zero, natA_take]) (natA_pure _ _)
  simp [snapL, this]
theorem s_NatRead (s : List UInt8) (h : ∀ c ∈ s, isDig c = true) (hl : s.length ≤ 1000000) : CallOk Tryd.prog 19 [.str s] (natS (dval s)) [] := by
  (refine callOk_of_wpc (W := fun g => g == 28) false hm' Tryd.func19 rfl (by kernel_rfl) (Nat.le_of_ble_eq_true rfl) (go_start ?_); generalize hQ : Post Tryd.prog Tryd.f19 _ _ _ _ _ = Q; simp only [stIn, matL, matA, st00])
  have hB : B9 = 1000000000 := rfl
  simp (disch := omega) only [go_sem, ↓k_cond, ↓x_idx, ↓k_block, Nat.reduceEqDiff, ↓reduceIte, reduceCtorEq, if_pos, if_neg, decide_eq_true, decide_eq_false, beqT, beqF, bneT, bneF, wrapI, wrapU32, wrapU64, wrapU8, nc_add, nc_addL, nc_addR, nc_mul, nc_mulL, nc_mulR, nc_div, nc_divL, nc_mod, nc_modL, nc_1, nc_sub1, natA_at, natA_put, eatH_one, Int.toNat_natCast, Option.map_some, shr32, shl32, List.getD_cons_zero, List.getD_cons_succ, List.length_set, List.set_cons_zero, List.set_cons_succ]
  obtain ⟨R, hR⟩ : ∃ R : Int × List Nat → St → Prop, R = fun p st => st.fr 0 = .str s ∧ st.fr 3 = .ref 0 p.2.length 0 p.2.length ∧ st.fr 4 = .int .i64 p.1 ∧ (∃ ex, st.h 0 = ⟨2, natA .i64 p.2, ex, true, true⟩) ∧ p.1 ≤ (s.length : Int) ∧ -9 ≤ p.1 ∧ (∀ q ∈ p.2, q < B9) ∧
      val B9 p.2 = dval (s.drop p.1.toNat) ∧ (0 < p.1 → s.length - p.1.toNat = 9 * p.2.length) ∧ p.2.length ≤ s.length := ⟨_, rfl⟩
  refine k_loop R (fun p => p.1.toNat) (s.length, []) (by rw [hR]; exact ⟨(by first | (simp only [upd_app, ↓reduceIte, Nat.reduceEqDiff]; done) | (simp [upd_app]; done) | (simp [upd_app]; omega)), (by first | (simp only [upd_app, ↓reduceIte, Nat.reduceEqDiff]; done) | (simp [upd_app]; done) | (simp [upd_app]; omega)), (by first | (simp only [upd_app, ↓reduceIte, Nat.reduceEqDiff]; done) | (simp [upd_app]; done) | (simp [upd_app]; omega)), ⟨true, by simp [upd_app, natA]⟩, by simp, by simp only; omega, by simp, by simp [val, dval], by simp, by simp⟩) ?_
  rintro ⟨to, ds⟩ ⟨fr, hh, nx⟩ hst J hJ
  rw [hR] at hst
  obtain ⟨g0, g3, g4, ⟨ex, hm⟩, ht1, ht2, hq, hv, h9, hdl⟩ := hst
  simp only at g0 g3 g4 hm ht1 ht2 hq hv h9 hdl
  by_cases hpos : 0 < to
  · obtain ⟨t, rfl⟩ : ∃ t : Nat, to = t := ⟨to.toNat, by omega⟩
    rw [Int.toNat_natCast] at hv h9
    have ht : 0 < t := by omega
    have htl : t ≤ s.length := by omega
    have h9' := h9 hpos
    obtain ⟨f, hf, hf1, hf2⟩ : ∃ f : Nat, (if 9 < t then t - 9 else 0) = f ∧ f < t ∧ t - f ≤ 9 := ⟨_, rfl, by split <;> omega, by split <;> omega⟩
    have hchunk : ((s.take t).drop f).length = t - f := by simp; omega
    have hcd : ∀ c ∈ (s.take t).drop f, isDig c = true := fun c hc => h c (List.mem_of_mem_take (List.mem_of_mem_drop hc))
    obtain ⟨v, hvv⟩ : ∃ v, dval ((s.take t).drop f) = v := ⟨_, rfl⟩
    have hvB : v < 1000000000 := by
      have := dval_lt hcd; rw [hchunk, hvv] at this
      exact Nat.lt_of_lt_of_le this (Nat.le_trans (Nat.pow_le_pow_right (by omega) hf2) (by decide))
    have hgrp := dval_group (s := s) (Nat.le_of_lt hf1) htl
    rw [hvv] at hgrp
    have hfin : ∀ st : St, st.fr 0 = .str s → st.fr 3 = .ref 0 (ds.length + 1) 0 (ds.length + 1) → st.fr 4 = .int .i64 ((t : Int) - 9) → (∃ ex, st.h 0 = ⟨2, natA .i64 (ds ++ [v]), ex, true, true⟩) → J st := by
      intro st r0 r3 r4 rh
      refine hJ ((t : Int) - 9, ds ++ [v]) st ?_ (by simp only; omega)
      rw [hR]
      refine ⟨r0, by simpa using r3, r4, rh, by simp only; omega, by simp only; omega, ?_, ?_, ?_, by simp; omega⟩
      · intro q hq'; rcases List.mem_append.1 hq' with h' | h'
        · exact hq q h'
        · simp at h'; rw [h', hB]; exact hvB
      · have e : ((t : Int) - 9).toNat = f := by split at hf <;> omega
        simp only
        rw [e, hgrp, val_append, hv, pow9, ← h9']; simp only [val, Nat.mul_zero, Nat.add_zero]
        rw [Nat.mul_comm, Nat.add_comm]
      · intro h'; simp only at h' ⊢
        simp only [List.length_append, List.length_cons, List.length_nil]; omega
    clear hJ hR hQ hv h9 hq
    simp (disch := omega) only [go_sem, ↓k_cond, ↓x_idx, Nat.reduceEqDiff, ↓reduceIte, reduceCtorEq, if_pos, if_neg, decide_eq_true, decide_eq_false, beqT, beqF, bneT, bneF, wrapI, wrapU32, wrapU64, wrapU8, nc_add, nc_addL, nc_addR, nc_mul, nc_mulL, nc_mulR, nc_div, nc_divL, nc_mod, nc_modL, nc_1, nc_sub1, natA_at, natA_put, eatH_one, Int.toNat_natCast, Option.map_some, shr32, shl32, List.getD_cons_zero, List.getD_cons_succ, List.length_set, List.set_cons_zero, List.set_cons_succ, g0, g3, g4]
    rw [k_block]
    obtain ⟨F, hF⟩ : ∃ F : St → Prop, F = fun st => st.fr 0 = .str s ∧ st.fr 3 = .ref 0 ds.length 0 ds.length ∧ st.fr 4 = .int .i64 t ∧ st.fr 5 = .int .i64 f ∧ st.h = hh := ⟨_, rfl⟩
    simp (disch := omega) only [go_sem, ↓x_idx, ↓k_block, Nat.reduceEqDiff, ↓reduceIte, reduceCtorEq, if_pos, if_neg, decide_eq_true, decide_eq_false, beqT, beqF, bneT, bneF, wrapI, wrapU32, wrapU64, wrapU8, nc_add, nc_addL, nc_addR, nc_mul, nc_mulL, nc_mulR, nc_div, nc_divL, nc_mod, nc_modL, nc_1, nc_sub1, natA_at, natA_put, eatH_one, Int.toNat_natCast, Option.map_some, shr32, shl32, List.getD_cons_zero, List.getD_cons_succ, List.length_set, List.set_cons_zero, List.set_cons_succ, g0, g3, g4]
    refine k_join F ?_ ?_
    · by_cases h9t : 9 < t
      · rw [if_pos h9t] at hf
        have e : (t : Int) - 9 = (f : Int) := by omega
        simp (disch := omega) only [go_sem, ↓k_cond, ↓x_idx, ↓k_block, Nat.reduceEqDiff, ↓reduceIte, reduceCtorEq, if_pos, if_neg, decide_eq_true, decide_eq_false, beqT, beqF, bneT, bneF, wrapI, wrapU32, wrapU64, wrapU8, nc_add, nc_addL, nc_addR, nc_mul, nc_mulL, nc_mulR, nc_div, nc_divL, nc_mod, nc_modL, nc_1, nc_sub1, natA_at, natA_put, eatH_one, Int.toNat_natCast, Option.map_some, shr32, shl32, List.getD_cons_zero, List.getD_cons_succ, List.length_set, List.set_cons_zero, List.set_cons_succ, g0, g3, g4, e]
        rw [hF]; exact ⟨(by first | (simp only [upd_app, ↓reduceIte, Nat.reduceEqDiff, g0]; done) | (simp [upd_app, g0]; done) | (simp [upd_app, g0]; omega)), (by first | (simp only [upd_app, ↓reduceIte, Nat.reduceEqDiff, g3]; done) | (simp [upd_app, g3]; done) | (simp [upd_app, g3]; omega)), (by first | (simp only [upd_app, ↓reduceIte, Nat.reduceEqDiff, g4]; done) | (simp [upd_app, g4]; done) | (simp [upd_app, g4]; omega)), (by first | (simp only [upd_app, ↓reduceIte, Nat.reduceEqDiff]; done) | (simp [upd_app]; done) | (simp [upd_app]; omega)), rfl⟩
      · rw [if_neg h9t] at hf
        subst hf
        simp (disch := omega) only [go_sem, ↓k_cond, ↓x_idx, ↓k_block, Nat.reduceEqDiff, ↓reduceIte, reduceCtorEq, if_pos, if_neg, decide_eq_true, decide_eq_false, beqT, beqF, bneT, bneF, wrapI, wrapU32, wrapU64, wrapU8, nc_add, nc_addL, nc_addR, nc_mul, nc_mulL, nc_mulR, nc_div, nc_divL, nc_mod, nc_modL, nc_1, nc_sub1, natA_at, natA_put, eatH_one, Int.toNat_natCast, Option.map_some, shr32, shl32, List.getD_cons_zero, List.getD_cons_succ, List.length_set, List.set_cons_zero, List.set_cons_succ, g0, g3, g4]
        rw [hF]; exact ⟨(by first | (simp only [upd_app, ↓reduceIte, Nat.reduceEqDiff, g0]; done) | (simp [upd_app, g0]; done) | (simp [upd_app, g0]; omega)), (by first | (simp only [upd_app, ↓reduceIte, Nat.reduceEqDiff, g3]; done) | (simp [upd_app, g3]; done) | (simp [upd_app, g3]; omega)), (by first | (simp only [upd_app, ↓reduceIte, Nat.reduceEqDiff, g4]; done) | (simp [upd_app, g4]; done) | (simp [upd_app, g4]; omega)), (by first | (simp only [upd_app, ↓reduceIte, Nat.reduceEqDiff]; done) | (simp [upd_app]; done) | (simp [upd_app]; omega)), rfl⟩
    clear hf
    rintro ⟨fr, h1, nx1⟩ hst
    rw [hF] at hst
    obtain ⟨g0, g3, g4, g5, e1⟩ := hst
    simp only at g0 g3 g4 g5 e1
    subst e1
    simp (disch := omega) only [go_sem, ↓k_cond, ↓x_idx, ↓k_block, Nat.reduceEqDiff, ↓reduceIte, reduceCtorEq, if_pos, if_neg, decide_eq_true, decide_eq_false, beqT, beqF, bneT, bneF, wrapI, wrapU32, wrapU64, wrapU8, nc_add, nc_addL, nc_addR, nc_mul, nc_mulL, nc_mulR, nc_div, nc_divL, nc_mod, nc_modL, nc_1, nc_sub1, natA_at, natA_put, eatH_one, Int.toNat_natCast, Option.map_some, shr32, shl32, List.getD_cons_zero, List.getD_cons_succ, List.length_set, List.set_cons_zero, List.set_cons_succ, g0, g3, g4, g5]
    refine k_loop (fun (i : Nat) st => st.fr 0 = .str s ∧ st.fr 3 = .ref 0 ds.length 0 ds.length ∧ st.fr 4 = .int .i64 t ∧ st.fr 6 = .int .i64 (dval ((s.take (f + i)).drop f)) ∧ st.fr 7 = .int .i64 ((f + i : Nat) : Int) ∧ st.h = h1 ∧ f + i ≤ t) (fun i => t - (f + i)) 0
      ⟨(by first | (simp only [upd_app, ↓reduceIte, Nat.reduceEqDiff, g0]; done) | (simp [upd_app, g0]; done) | (simp [upd_app, g0]; omega)), (by first | (simp only [upd_app, ↓reduceIte, Nat.reduceEqDiff, g3]; done) | (simp [upd_app, g3]; done) | (simp [upd_app, g3]; omega)), (by first | (simp only [upd_app, ↓reduceIte, Nat.reduceEqDiff, g4]; done) | (simp [upd_app, g4]; done) | (simp [upd_app, g4]; omega)), by simp [upd_app, List.drop_take, dval], (by first | (simp only [upd_app, ↓reduceIte, Nat.reduceEqDiff, g5]; done) | (simp [upd_app, g5]; done) | (simp [upd_app, g5]; omega)), rfl, by omega⟩ ?_
    rintro i ⟨fr, h2, nx2⟩ ⟨g0, g3, g4, g6, g7, e1, hi⟩ J2 hJ2
    simp only at g0 g3 g4 g6 g7 e1
    subst e1
    by_cases hin : f + i < t
    · obtain ⟨c, hc⟩ := get_some (xs := s) (i := f + i) (by omega)
      have hcd1 := h c (List.mem_of_getElem? hc)
      have hc48 : 48 ≤ c.toNat ∧ c.toNat ≤ 57 := by simpa [isDig] using hcd1
      have hstep : (s.take (f + (i + 1))).drop f = (s.take (f + i)).drop f ++ [c] := by
        rw [← Nat.add_assoc, List.take_add_one, hc, List.drop_append]
        congr 1
        rw [List.length_take, Nat.min_eq_left (by omega), show f - (f + i) = 0 by omega]; rfl
      have hsd := dval_snoc ((s.take (f + i)).drop f) c
      rw [← hstep] at hsd
      have hlt : dval ((s.take (f + i)).drop f) < 1000000000 := by
        have := dval_lt (s := (s.take (f + i)).drop f) (fun c hc => h c (List.mem_of_mem_take (List.mem_of_mem_drop hc)))
        rw [show ((s.take (f + i)).drop f).length = i by simp; omega] at this
        exact Nat.lt_of_lt_of_le this (Nat.le_trans (Nat.pow_le_pow_right (by omega) (show i ≤ 9 by omega)) (by decide))
      generalize dval ((s.take (f + i)).drop f) = w at *
      have hsub : (c.toNat : Int) - 48 = ((c.toNat - 48 : Nat) : Int) := by omega
      have hdd : (c.toNat - 48) ≤ 9 := by omega
      simp (disch := omega) only [go_sem, ↓k_cond, ↓x_idx, ↓k_block, Nat.reduceEqDiff, ↓reduceIte, reduceCtorEq, if_pos, if_neg, decide_eq_true, decide_eq_false, beqT, beqF, bneT, bneF, wrapI, wrapU32, wrapU64, wrapU8, nc_add, nc_addL, nc_addR, nc_mul, nc_mulL, nc_mulR, nc_div, nc_divL, nc_mod, nc_modL, nc_1, nc_sub1, natA_at, natA_put, eatH_one, Int.toNat_natCast, Option.map_some, shr32, shl32, List.getD_cons_zero, List.getD_cons_succ, List.length_set, List.set_cons_zero, List.set_cons_succ, g0, g3, g4, g6, g7, hc, hsub]
      exact hJ2 (i + 1) _ ⟨(by first | (simp only [upd_app, ↓reduceIte, Nat.reduceEqDiff, g0]; done) | (simp [upd_app, g0]; done) | (simp [upd_app, g0]; omega)), (by first | (simp only [upd_app, ↓reduceIte, Nat.reduceEqDiff, g3]; done) | (simp [upd_app, g3]; done) | (simp [upd_app, g3]; omega)), (by first | (simp only [upd_app, ↓reduceIte, Nat.reduceEqDiff, g4]; done) | (simp [upd_app, g4]; done) | (simp [upd_app, g4]; omega)), by rw [hsd]; exact (by first | (simp only [upd_app, ↓reduceIte, Nat.reduceEqDiff]; done) | (simp [upd_app]; done) | (simp [upd_app]; omega)), (by first | (simp only [upd_app, ↓reduceIte, Nat.reduceEqDiff]; done) | (simp [upd_app]; done) | (simp [upd_app]; omega)), rfl, by omega⟩ (by omega)
    · have hfi : f + i = t := by omega
      rw [hfi, hvv] at g6
      have hml : (natA .i64 ds).length = ds.length := natA_length ..
      simp (disch := omega) only [go_sem, ↓k_cond, ↓x_idx, ↓k_block, Nat.reduceEqDiff, ↓reduceIte, reduceCtorEq, if_pos, if_neg, decide_eq_true, decide_eq_false, beqT, beqF, bneT, bneF, wrapI, wrapU32, wrapU64, wrapU8, nc_add, nc_addL, nc_addR, nc_mul, nc_mulL, nc_mulR, nc_div, nc_divL, nc_mod, nc_modL, nc_1, nc_sub1, natA_at, natA_put, eatH_one, Int.toNat_natCast, Option.map_some, shr32, shl32, List.getD_cons_zero, List.getD_cons_succ, List.length_set, List.set_cons_zero, List.set_cons_succ, g0, g3, g4, g6, g7, hfi, hm, reach]
      exact hfin _ (by first | (simp only [upd_app, ↓reduceIte, Nat.reduceEqDiff, g0]; done) | (simp [upd_app, g0]; done) | (simp [upd_app, g0]; omega)) (by first | (simp only [upd_app, ↓reduceIte, Nat.reduceEqDiff]; done) | (simp [upd_app]; done) | (simp [upd_app]; omega)) (by first | (simp only [upd_app, ↓reduceIte, Nat.reduceEqDiff]; done) | (simp [upd_app]; done) | (simp [upd_app]; omega)) ⟨false, by simp [upd_app]⟩
  · have e0 : to.toNat = 0 := by omega
    rw [e0, List.drop_zero] at hv
    simp (disch := omega) only [go_sem, ↓k_cond, ↓x_idx, ↓k_block, Nat.reduceEqDiff, ↓reduceIte, reduceCtorEq, if_pos, if_neg, decide_eq_true, decide_eq_false, beqT, beqF, bneT, bneF, wrapI, wrapU32, wrapU64, wrapU8, nc_add, nc_addL, nc_addR, nc_mul, nc_mulL, nc_mulR, nc_div, nc_divL, nc_mod, nc_modL, nc_1, nc_sub1, natA_at, natA_put, eatH_one, Int.toNat_natCast, Option.map_some, shr32, shl32, List.getD_cons_zero, List.getD_cons_succ, List.length_set, List.set_cons_zero, List.set_cons_succ, g0, g3, g4]
    have htr : trimZ (ds.take ds.length) = enc B9 (dval s) := by rw [List.take_length, trimZ_enc B9_gt hq, hv]
    refine x_callF (s_Trim hm' (ds.take ds.length) (by simp; omega)) c_Trim (by simp [evA, upd_app]) (snapL_oneX (id := 0) (st := ⟨_, _, _⟩) hm rfl (Nat.le_refl _)) (by simp [hm]) (by simp [AV.pure, AV.pureL, natA_pure, natI_pure, natS_pure]) (by simp [AV.pure, AV.pureL, natA_pure, natI_pure, natS_pure]) (by simp) ?_
    rw [htr]
    simp (disch := omega) only [go_sem, ↓k_cond, ↓x_idx, ↓k_block, Nat.reduceEqDiff, ↓reduceIte, reduceCtorEq, if_pos, if_neg, decide_eq_true, decide_eq_false, beqT, beqF, bneT, bneF, wrapI, wrapU32, wrapU64, wrapU8, nc_add, nc_addL, nc_addR, nc_mul, nc_mulL, nc_mulR, nc_div, nc_divL, nc_mod, nc_modL, nc_1, nc_sub1, natA_at, natA_put, eatH_one, Int.toNat_natCast, Option.map_some, shr32, shl32, List.getD_cons_zero, List.getD_cons_succ, List.length_set, List.set_cons_zero, List.set_cons_succ]
    rw [← hQ]
    exact post_one (.inl rfl) rfl (by first | (simp only [upd_app, ↓reduceIte, Nat.reduceEqDiff, natS]; done) | (simp [upd_app, natS]; done) | (simp [upd_app, natS]; omega)) (by simp)
end Go.Proofs.YtogabejpbdmnnaaDoor

/- The reference: digits, texts cut. -/
set_option linter.unusedSimpArgs false
set_option linter.unusedVariables false
namespace Go.Proofs.YtogabejpbdmnnaaDoor
open Go

theorem s_Digits (s : List UInt8) (hs : s.length < 9223372036854775808) : CallOk Tryd.prog 18 [.str s] (.bool (tokD s)) [] := by
  (refine callOk_of_wpc (W := fun _ => false) false hm' Tryd.func18 rfl (by kernel_rfl) (Nat.le_of_ble_eq_true rfl) (go_start ?_); generalize hQ : Post Tryd.prog Tryd.f18 _ _ _ _ _ = Q; simp only [stIn, matL, matA, st00])
  simp (disch := omega) only [go_sem, ↓k_cond, ↓x_idx, ↓k_block, Nat.reduceEqDiff, ↓reduceIte, reduceCtorEq, if_pos, if_neg, decide_eq_true, decide_eq_false, beqT, beqF, bneT, bneF, wrapI, wrapU32, wrapU64, wrapU8, nc_add, nc_addL, nc_addR, nc_mul, nc_mulL, nc_mulR, nc_div, nc_divL, nc_mod, nc_modL, nc_1, nc_sub1, natA_at, natA_put, eatH_one, Int.toNat_natCast, Option.map_some, shr32, shl32, List.getD_cons_zero, List.getD_cons_succ, List.length_set, List.set_cons_zero, List.set_cons_succ]
  refine k_loop (fun (i : Nat) st => st.fr 0 = .str s ∧ st.fr 3 = .int .i64 i ∧ i ≤ s.length ∧ ∀ c ∈ s.take i, isDig c = true) (fun i => s.length - i) 0 ⟨(by first | (simp only [upd_app, ↓reduceIte, Nat.reduceEqDiff]; done) | (simp [upd_app]; done) | (simp [upd_app]; omega)), (by first | (simp only [upd_app, ↓reduceIte, Nat.reduceEqDiff]; done) | (simp [upd_app]; done) | (simp [upd_app]; omega)), by omega, by simp⟩ ?_
  rintro i ⟨fr, h, nx⟩ ⟨g0, g3, hi, hdg⟩ J hJ
  simp only at g0 g3
  by_cases hin : i < s.length
  · obtain ⟨c, hc⟩ := get_some (xs := s) (i := i) hin
    have hcb := c.toNat_lt
    cases hd : isDig c with
    | false =>
      have hnd : c.toNat < 48 ∨ 57 < c.toNat := by simp [isDig] at hd; omega
      have hb : tokD s = false := by simp [tokD]; intro _ _ _; exact ⟨c, List.mem_of_getElem? hc, hd⟩
      rw [hb] at hQ
      rcases hnd with hnd | hnd
      · simp (disch := omega) only [go_sem, ↓k_cond, ↓x_idx, ↓k_block, Nat.reduceEqDiff, ↓reduceIte, reduceCtorEq, if_pos, if_neg, decide_eq_true, decide_eq_false, beqT, beqF, bneT, bneF, wrapI, wrapU32, wrapU64, wrapU8, nc_add, nc_addL, nc_addR, nc_mul, nc_mulL, nc_mulR, nc_div, nc_divL, nc_mod, nc_modL, nc_1, nc_sub1, natA_at, natA_put, eatH_one, Int.toNat_natCast, Option.map_some, shr32, shl32, List.getD_cons_zero, List.getD_cons_succ, List.length_set, List.set_cons_zero, List.set_cons_succ, g0, g3, hc]
        rw [← hQ]
        exact post_one (.inl rfl) rfl (by first | (simp only [upd_app, ↓reduceIte, Nat.reduceEqDiff]; done) | (simp [upd_app]; done) | (simp [upd_app]; omega)) rfl
      · simp (disch := omega) only [go_sem, ↓k_cond, ↓x_idx, ↓k_block, Nat.reduceEqDiff, ↓reduceIte, reduceCtorEq, if_pos, if_neg, decide_eq_true, decide_eq_false, beqT, beqF, bneT, bneF, wrapI, wrapU32, wrapU64, wrapU8, nc_add, nc_addL, nc_addR, nc_mul, nc_mulL, nc_mulR, nc_div, nc_divL, nc_mod, nc_modL, nc_1, nc_sub1, natA_at, natA_put, eatH_one, Int.toNat_natCast, Option.map_some, shr32, shl32, List.getD_cons_zero, List.getD_cons_succ, List.length_set, List.set_cons_zero, List.set_cons_succ, g0, g3, hc]
        rw [← hQ]
        exact post_one (.inl rfl) rfl (by first | (simp only [upd_app, ↓reduceIte, Nat.reduceEqDiff]; done) | (simp [upd_app]; done) | (simp [upd_app]; omega)) rfl
    | true =>
      have hnd : 48 ≤ c.toNat ∧ c.toNat ≤ 57 := by simpa [isDig] using hd
      simp (disch := omega) only [go_sem, ↓k_cond, ↓x_idx, ↓k_block, Nat.reduceEqDiff, ↓reduceIte, reduceCtorEq, if_pos, if_neg, decide_eq_true, decide_eq_false, beqT, beqF, bneT, bneF, wrapI, wrapU32, wrapU64, wrapU8, nc_add, nc_addL, nc_addR, nc_mul, nc_mulL, nc_mulR, nc_div, nc_divL, nc_mod, nc_modL, nc_1, nc_sub1, natA_at, natA_put, eatH_one, Int.toNat_natCast, Option.map_some, shr32, shl32, List.getD_cons_zero, List.getD_cons_succ, List.length_set, List.set_cons_zero, List.set_cons_succ, g0, g3, hc]
      refine hJ (i + 1) _ ⟨(by first | (simp only [upd_app, ↓reduceIte, Nat.reduceEqDiff, g0]; done) | (simp [upd_app, g0]; done) | (simp [upd_app, g0]; omega)), (by first | (simp only [upd_app, ↓reduceIte, Nat.reduceEqDiff]; done) | (simp [upd_app]; done) | (simp [upd_app]; omega)), hin, fun d hd' => ?_⟩ (by omega)
      rw [List.take_add_one, hc] at hd'
      rcases List.mem_append.1 hd' with h' | h'
      · exact hdg d h'
      · simp at h'; rw [h']; exact hd
  · rw [List.take_of_length_le (by omega)] at hdg
    clear hJ
    have hall : s.all isDig = true := by simpa using hdg
    by_cases h1 : s.length < 1
    · have hb : tokD s = false := by simp [tokD]; omega
      rw [hb] at hQ
      simp (disch := omega) only [go_sem, ↓k_cond, ↓x_idx, ↓k_block, Nat.reduceEqDiff, ↓reduceIte, reduceCtorEq, if_pos, if_neg, decide_eq_true, decide_eq_false, beqT, beqF, bneT, bneF, wrapI, wrapU32, wrapU64, wrapU8, nc_add, nc_addL, nc_addR, nc_mul, nc_mulL, nc_mulR, nc_div, nc_divL, nc_mod, nc_modL, nc_1, nc_sub1, natA_at, natA_put, eatH_one, Int.toNat_natCast, Option.map_some, shr32, shl32, List.getD_cons_zero, List.getD_cons_succ, List.length_set, List.set_cons_zero, List.set_cons_succ, g0, g3]
      rw [← hQ]
      exact post_one (.inl rfl) rfl (by first | (simp only [upd_app, ↓reduceIte, Nat.reduceEqDiff]; done) | (simp [upd_app]; done) | (simp [upd_app]; omega)) rfl
    by_cases h2 : 200 < s.length
    · have hb : tokD s = false := by simp [tokD]; omega
      rw [hb] at hQ
      simp (disch := omega) only [go_sem, ↓k_cond, ↓x_idx, ↓k_block, Nat.reduceEqDiff, ↓reduceIte, reduceCtorEq, if_pos, if_neg, decide_eq_true, decide_eq_false, beqT, beqF, bneT, bneF, wrapI, wrapU32, wrapU64, wrapU8, nc_add, nc_addL, nc_addR, nc_mul, nc_mulL, nc_mulR, nc_div, nc_divL, nc_mod, nc_modL, nc_1, nc_sub1, natA_at, natA_put, eatH_one, Int.toNat_natCast, Option.map_some, shr32, shl32, List.getD_cons_zero, List.getD_cons_succ, List.length_set, List.set_cons_zero, List.set_cons_succ, g0, g3]
      rw [← hQ]
      exact post_one (.inl rfl) rfl (by first | (simp only [upd_app, ↓reduceIte, Nat.reduceEqDiff]; done) | (simp [upd_app]; done) | (simp [upd_app]; omega)) rfl
    by_cases h3 : s.length = 1
    · have hb : tokD s = true := by simp [tokD, h3, hall]
      rw [hb] at hQ
      simp (disch := omega) only [go_sem, ↓k_cond, ↓x_idx, ↓k_block, Nat.reduceEqDiff, ↓reduceIte, reduceCtorEq, if_pos, if_neg, decide_eq_true, decide_eq_false, beqT, beqF, bneT, bneF, wrapI, wrapU32, wrapU64, wrapU8, nc_add, nc_addL, nc_addR, nc_mul, nc_mulL, nc_mulR, nc_div, nc_divL, nc_mod, nc_modL, nc_1, nc_sub1, natA_at, natA_put, eatH_one, Int.toNat_natCast, Option.map_some, shr32, shl32, List.getD_cons_zero, List.getD_cons_succ, List.length_set, List.set_cons_zero, List.set_cons_succ, g0, g3]
      rw [← hQ]
      exact post_one (.inl rfl) rfl (by first | (simp only [upd_app, ↓reduceIte, Nat.reduceEqDiff]; done) | (simp [upd_app]; done) | (simp [upd_app]; omega)) rfl
    obtain ⟨c0, hc0⟩ := get_some (xs := s) (i := 0) (by omega)
    have hc0' : s[Int.toNat 0]? = some c0 := hc0
    have hhead : s.head? = some c0 := by rw [List.head?_eq_getElem?]; exact hc0
    by_cases h4 : c0.toNat = 48
    · have hc48 : c0 = 48 := UInt8.toNat.inj (by rw [h4]; rfl)
      have hb : tokD s = false := by simp [tokD, hhead, hc48]; omega
      rw [hb] at hQ
      simp (disch := omega) only [go_sem, ↓k_cond, ↓x_idx, ↓k_block, Nat.reduceEqDiff, ↓reduceIte, reduceCtorEq, if_pos, if_neg, decide_eq_true, decide_eq_false, beqT, beqF, bneT, bneF, wrapI, wrapU32, wrapU64, wrapU8, nc_add, nc_addL, nc_addR, nc_mul, nc_mulL, nc_mulR, nc_div, nc_divL, nc_mod, nc_modL, nc_1, nc_sub1, natA_at, natA_put, eatH_one, Int.toNat_natCast, Option.map_some, shr32, shl32, List.getD_cons_zero, List.getD_cons_succ, List.length_set, List.set_cons_zero, List.set_cons_succ, g0, g3, hc0', h4]
      rw [← hQ]
      exact post_one (.inl rfl) rfl (by first | (simp only [upd_app, ↓reduceIte, Nat.reduceEqDiff]; done) | (simp [upd_app]; done) | (simp [upd_app]; omega)) rfl
    · have hne : c0 ≠ 48 := fun e => h4 (by rw [e]; rfl)
      have hb : tokD s = true := by
        have a1 : decide (1 ≤ s.length) = true := by simp; omega
        have a2 : decide (s.length ≤ 200) = true := by simp; omega
        have a3 : (!(s.head? == some 48)) = true := by rw [hhead]; simp [hne]
        simp only [tokD, a1, a2, a3, hall, Bool.or_true, Bool.and_self]
      rw [hb] at hQ
      simp (disch := omega) only [go_sem, ↓k_cond, ↓x_idx, ↓k_block, Nat.reduceEqDiff, ↓reduceIte, reduceCtorEq, if_pos, if_neg, decide_eq_true, decide_eq_false, beqT, beqF, bneT, bneF, wrapI, wrapU32, wrapU64, wrapU8, nc_add, nc_addL, nc_addR, nc_mul, nc_mulL, nc_mulR, nc_div, nc_divL, nc_mod, nc_modL, nc_1, nc_sub1, natA_at, natA_put, eatH_one, Int.toNat_natCast, Option.map_some, shr32, shl32, List.getD_cons_zero, List.getD_cons_succ, List.length_set, List.set_cons_zero, List.set_cons_succ, g0, g3, hc0']
      rw [← hQ]
      exact post_one (.inl rfl) rfl (by first | (simp only [upd_app, ↓reduceIte, Nat.reduceEqDiff]; done) | (simp [upd_app]; done) | (simp [upd_app]; omega)) rfl

/-- The parts between marks. -/
def splitM (m : UInt8) : List UInt8 → List (List UInt8)
  | [] => [[]]
  | c :: cs => if c = m then [] :: splitM m cs else match splitM m cs with | p :: ps => (c :: p) :: ps | [] => [[c]]
theorem splitM_ne (m : UInt8) (s : List UInt8) : splitM m s ≠ [] := by
  cases s with
  | nil => simp [splitM]
  | cons c cs => simp only [splitM]; split; simp; split <;> simp
theorem splitM_seg {m : UInt8} : ∀ {a : List UInt8} {b : List UInt8}, m ∉ a → splitM m (a ++ m :: b) = a :: splitM m b
  | [], b, _ => by simp [splitM]
  | c :: cs, b, h => by
    simp only [List.mem_cons, not_or] at h
    simp only [List.cons_append, splitM, splitM_seg h.2]
    rw [if_neg (fun e => h.1 e.symm)]
theorem splitM_end {m : UInt8} : ∀ {a : List UInt8}, m ∉ a → splitM m a = [a]
  | [], _ => rfl
  | c :: cs, h => by
    simp only [List.mem_cons, not_or] at h
    simp only [splitM, splitM_end h.2]
    rw [if_neg (fun e => h.1 e.symm)]
theorem splitM_len (m : UInt8) : ∀ s : List UInt8, (splitM m s).length ≤ s.length + 1
  | [] => by simp [splitM]
  | c :: cs => by
    have := splitM_len m cs
    simp only [splitM]
    split
    · simp; omega
    · split
      · rename_i h; rw [h] at this; simp at this ⊢; omega
      · simp

theorem u8_eq {a b : UInt8} : ((a.toNat : Int) == (b.toNat : Int)) = (a == b) := by
  rw [Bool.eq_iff_iff]; simp only [beq_iff_eq]
  exact ⟨fun e => UInt8.toNat.inj (by omega), fun e => by rw [e]⟩
theorem strA_snoc {xs : List (List UInt8)} {x : List UInt8} : strA xs ++ [AV.str x] = strA (xs ++ [x]) := by simp [strA]
theorem s_Cut (s : List UInt8) (m : UInt8) (hs : s.length ≤ 1000000000) : CallOk Tryd.prog 17 [.str s, .int .u8 m.toNat] (.sl 9 (strA (splitM m s)) [] false) [] := by
  (refine callOk_of_wpc (W := fun _ => false) false hm' Tryd.func17 rfl (by kernel_rfl) (Nat.le_of_ble_eq_true rfl) (go_start ?_); generalize hQ : Post Tryd.prog Tryd.f17 _ _ _ _ _ = Q; simp only [stIn, matL, matA, st00])
  simp (disch := omega) only [go_sem, ↓k_cond, ↓x_idx, ↓k_block, Nat.reduceEqDiff, ↓reduceIte, reduceCtorEq, if_pos, if_neg, decide_eq_true, decide_eq_false, beqT, beqF, bneT, bneF, wrapI, wrapU32, wrapU64, wrapU8, nc_add, nc_addL, nc_addR, nc_mul, nc_mulL, nc_mulR, nc_div, nc_divL, nc_mod, nc_modL, nc_1, nc_sub1, natA_at, natA_put, eatH_one, Int.toNat_natCast, Option.map_some, shr32, shl32, List.getD_cons_zero, List.getD_cons_succ, List.length_set, List.set_cons_zero, List.set_cons_succ]
  obtain ⟨R, hR⟩ : ∃ R : Nat × Nat × List (List UInt8) → St → Prop, R = fun p st => st.fr 0 = .str s ∧ st.fr 1 = .int .u8 m.toNat ∧ st.fr 5 = .ref 0 p.2.2.length 0 p.2.2.length ∧ st.fr 6 = .int .i64 p.2.1 ∧ st.fr 7 = .int .i64 p.1 ∧ (∃ ex, st.h 0 = ⟨9, strA p.2.2, ex, true, true⟩) ∧ p.2.2.length ≤ p.1 ∧
      ((p.2.1 ≤ p.1 ∧ p.1 ≤ s.length ∧ p.2.2 ++ splitM m (s.drop p.2.1) = splitM m s ∧ m ∉ (s.drop p.2.1).take (p.1 - p.2.1)) ∨ (p.1 = s.length + 1 ∧ p.2.2 = splitM m s)) := ⟨_, rfl⟩
  refine k_loop R (fun p => s.length + 1 - p.1) (0, 0, []) (by rw [hR]; exact ⟨(by first | (simp only [upd_app, ↓reduceIte, Nat.reduceEqDiff]; done) | (simp [upd_app]; done) | (simp [upd_app]; omega)), (by first | (simp only [upd_app, ↓reduceIte, Nat.reduceEqDiff]; done) | (simp [upd_app]; done) | (simp [upd_app]; omega)), (by first | (simp only [upd_app, ↓reduceIte, Nat.reduceEqDiff]; done) | (simp [upd_app]; done) | (simp [upd_app]; omega)), (by first | (simp only [upd_app, ↓reduceIte, Nat.reduceEqDiff]; done) | (simp [upd_app]; done) | (simp [upd_app]; omega)), (by first | (simp only [upd_app, ↓reduceIte, Nat.reduceEqDiff]; done) | (simp [upd_app]; done) | (simp [upd_app]; omega)), ⟨true, by simp [upd_app, strA]⟩, by simp, .inl ⟨by simp, by simp, by simp, by simp⟩⟩) ?_
  rintro ⟨i, f, out⟩ ⟨fr, h, nx⟩ hst J hJ
  rw [hR] at hst
  obtain ⟨g0, g1, g5, g6, g7, ⟨ex, hm⟩, hol, hcase⟩ := hst
  simp only at g0 g1 g5 g6 g7 hm hol hcase
  rcases hcase with ⟨hf, hi, hsp, hnm⟩ | ⟨hi, hsp⟩
  · have hfin : ∀ (st : St) (f' : Nat) (out' : List (List UInt8)), st.fr 0 = .str s → st.fr 1 = .int .u8 m.toNat → st.fr 5 = .ref 0 out'.length 0 out'.length → st.fr 6 = .int .i64 f' → st.fr 7 = .int .i64 ((i + 1 : Nat) : Int) → (∃ ex, st.h 0 = ⟨9, strA out', ex, true, true⟩) → out'.length ≤ i + 1 →
        ((f' ≤ i + 1 ∧ i + 1 ≤ s.length ∧ out' ++ splitM m (s.drop f') = splitM m s ∧ m ∉ (s.drop f').take (i + 1 - f')) ∨ (i + 1 = s.length + 1 ∧ out' = splitM m s)) → J st := fun st f' out' r0 r1 r5 r6 r7 rh rl rc =>
      hJ (i + 1, f', out') st (by rw [hR]; exact ⟨r0, r1, r5, r6, r7, rh, rl, rc⟩) (by simp only; omega)
    clear hJ hR hQ
    have hml : (strA out).length = out.length := strA_length out
    by_cases hie : i = s.length
    · subst hie
      have hseg : (s.take s.length).drop f = s.drop f := by rw [List.take_length]
      rw [List.take_of_length_le (by simp)] at hnm
      simp (disch := omega) only [go_sem, ↓k_cond, ↓x_idx, ↓k_block, Nat.reduceEqDiff, ↓reduceIte, reduceCtorEq, if_pos, if_neg, decide_eq_true, decide_eq_false, beqT, beqF, bneT, bneF, wrapI, wrapU32, wrapU64, wrapU8, nc_add, nc_addL, nc_addR, nc_mul, nc_mulL, nc_mulR, nc_div, nc_divL, nc_mod, nc_modL, nc_1, nc_sub1, natA_at, natA_put, eatH_one, Int.toNat_natCast, Option.map_some, shr32, shl32, List.getD_cons_zero, List.getD_cons_succ, List.length_set, List.set_cons_zero, List.set_cons_succ, g0, g1, g5, g6, g7, hm, hml, hseg, reach, List.length_cons, List.length_nil, strA_snoc]
      refine hfin _ (s.length + 1) (out ++ [s.drop f]) (by first | (simp only [upd_app, ↓reduceIte, Nat.reduceEqDiff, g0]; done) | (simp [upd_app, g0]; done) | (simp [upd_app, g0]; omega)) (by first | (simp only [upd_app, ↓reduceIte, Nat.reduceEqDiff, g1]; done) | (simp [upd_app, g1]; done) | (simp [upd_app, g1]; omega)) (by simp [upd_app]) (by first | (simp only [upd_app, ↓reduceIte, Nat.reduceEqDiff]; done) | (simp [upd_app]; done) | (simp [upd_app]; omega)) (by first | (simp only [upd_app, ↓reduceIte, Nat.reduceEqDiff]; done) | (simp [upd_app]; done) | (simp [upd_app]; omega)) ⟨false, by simp [upd_app]⟩ (by simp; omega) (.inr ⟨rfl, ?_⟩)
      rw [← hsp, splitM_end hnm]
    · obtain ⟨c, hc⟩ := get_some (xs := s) (i := i) (by omega)
      have hcm := u8_eq (a := c) (b := m)
      have hsegl : (s.drop f).take (i - f) = (s.take i).drop f := by rw [List.drop_take]
      by_cases hcmm : c = m
      · subst hcmm
        rw [beq_self_eq_true] at hcm
        have hpart : s.drop f = (s.take i).drop f ++ c :: s.drop (i + 1) := by
          rw [← hsegl, ← drop_cons hc]
          conv => lhs; rw [← List.take_append_drop (i - f) (s.drop f), List.drop_drop, show f + (i - f) = i by omega]
        simp (disch := omega) only [go_sem, ↓k_cond, ↓x_idx, ↓k_block, Nat.reduceEqDiff, ↓reduceIte, reduceCtorEq, if_pos, if_neg, decide_eq_true, decide_eq_false, beqT, beqF, bneT, bneF, wrapI, wrapU32, wrapU64, wrapU8, nc_add, nc_addL, nc_addR, nc_mul, nc_mulL, nc_mulR, nc_div, nc_divL, nc_mod, nc_modL, nc_1, nc_sub1, natA_at, natA_put, eatH_one, Int.toNat_natCast, Option.map_some, shr32, shl32, List.getD_cons_zero, List.getD_cons_succ, List.length_set, List.set_cons_zero, List.set_cons_succ, g0, g1, g5, g6, g7, hc, hm, hml, reach, List.length_cons, List.length_nil, strA_snoc]
        refine hfin _ (i + 1) (out ++ [(s.take i).drop f]) (by first | (simp only [upd_app, ↓reduceIte, Nat.reduceEqDiff, g0]; done) | (simp [upd_app, g0]; done) | (simp [upd_app, g0]; omega)) (by first | (simp only [upd_app, ↓reduceIte, Nat.reduceEqDiff, g1]; done) | (simp [upd_app, g1]; done) | (simp [upd_app, g1]; omega)) (by simp [upd_app]) (by first | (simp only [upd_app, ↓reduceIte, Nat.reduceEqDiff]; done) | (simp [upd_app]; done) | (simp [upd_app]; omega)) (by first | (simp only [upd_app, ↓reduceIte, Nat.reduceEqDiff]; done) | (simp [upd_app]; done) | (simp [upd_app]; omega)) ⟨false, by simp [upd_app]⟩ (by simp; omega) (.inl ⟨by omega, by omega, ?_, by simp⟩)
        rw [← hsp, hpart, splitM_seg (by rw [← hsegl]; exact hnm)]; simp
      · have hne : (c == m) = false := by simpa using hcmm
        rw [hne] at hcm
        simp (disch := omega) only [go_sem, ↓k_cond, ↓x_idx, ↓k_block, Nat.reduceEqDiff, ↓reduceIte, reduceCtorEq, if_pos, if_neg, decide_eq_true, decide_eq_false, beqT, beqF, bneT, bneF, wrapI, wrapU32, wrapU64, wrapU8, nc_add, nc_addL, nc_addR, nc_mul, nc_mulL, nc_mulR, nc_div, nc_divL, nc_mod, nc_modL, nc_1, nc_sub1, natA_at, natA_put, eatH_one, Int.toNat_natCast, Option.map_some, shr32, shl32, List.getD_cons_zero, List.getD_cons_succ, List.length_set, List.set_cons_zero, List.set_cons_succ, g0, g1, g5, g6, g7, hc, hcm]
        refine hfin _ f out (by first | (simp only [upd_app, ↓reduceIte, Nat.reduceEqDiff, g0]; done) | (simp [upd_app, g0]; done) | (simp [upd_app, g0]; omega)) (by first | (simp only [upd_app, ↓reduceIte, Nat.reduceEqDiff, g1]; done) | (simp [upd_app, g1]; done) | (simp [upd_app, g1]; omega)) (by first | (simp only [upd_app, ↓reduceIte, Nat.reduceEqDiff, g5]; done) | (simp [upd_app, g5]; done) | (simp [upd_app, g5]; omega)) (by first | (simp only [upd_app, ↓reduceIte, Nat.reduceEqDiff, g6]; done) | (simp [upd_app, g6]; done) | (simp [upd_app, g6]; omega)) (by first | (simp only [upd_app, ↓reduceIte, Nat.reduceEqDiff]; done) | (simp [upd_app]; done) | (simp [upd_app]; omega)) ⟨ex, by simpa [upd_app] using hm⟩ (by omega) (.inl ⟨by omega, by omega, hsp, ?_⟩)
        rw [show i + 1 - f = (i - f) + 1 by omega, List.take_add_one, List.getElem?_drop, show f + (i - f) = i by omega, hc]
        simp only [List.mem_append, not_or]
        exact ⟨hnm, by simpa using fun e => hcmm e.symm⟩
  · subst hsp
    have hlen := splitM_len m s
    clear hJ hR
    simp (disch := omega) only [go_sem, ↓k_cond, ↓x_idx, ↓k_block, Nat.reduceEqDiff, ↓reduceIte, reduceCtorEq, if_pos, if_neg, decide_eq_true, decide_eq_false, beqT, beqF, bneT, bneF, wrapI, wrapU32, wrapU64, wrapU8, nc_add, nc_addL, nc_addR, nc_mul, nc_mulL, nc_mulR, nc_div, nc_divL, nc_mod, nc_modL, nc_1, nc_sub1, natA_at, natA_put, eatH_one, Int.toNat_natCast, Option.map_some, shr32, shl32, List.getD_cons_zero, List.getD_cons_succ, List.length_set, List.set_cons_zero, List.set_cons_succ, g0, g1, g5, g6, g7, hi]
    rw [← hQ]
    have hfz := snap_frozen (st := ⟨fr, h, nx⟩) (d := 7) (id := 0) (n := (splitM m s).length) (off := 0) (len := (splitM m s).length) (T := 9) (r := strA (splitM m s)) (by simp [hm]) (by simp [hm, strA_length]) (by simp [hm]) (by simp) (by simp [hm]; exact List.take_of_length_le (by simp [strA_length])) (strA_pure _)
    exact post_frozen (id := 0) (n := (splitM m s).length) (off := 0) (len := (splitM m s).length) (.inl rfl) rfl (by first | (simp only [upd_app, ↓reduceIte, Nat.reduceEqDiff]; done) | (simp [upd_app]; done) | (simp [upd_app]; omega)) (by simp [hm]) (by simp [hm, strA_length]) (by simp [hm]) (by simp) (Nat.zero_le _) (by simp [hm]; exact List.take_of_length_le (by simp [strA_length])) (strA_pure _)
end Go.Proofs.YtogabejpbdmnnaaDoor
