/- Part 10 of 11 of the proof that stands in YtogabejpbdmnnaaDoorM11. -/
import Derived.Test.YtogabejpbdmnnaaDoorM9

set_option linter.unusedVariables false
set_option linter.unusedSimpArgs false

/- The reference reads fractions. -/
set_option linter.unusedSimpArgs false
set_option linter.unusedVariables false
namespace Go.Proofs.YtogabejpbdmnnaaDoor
open Go

theorem c_Parse : callable Tryd.prog 15 = true := by kernel_rfl
/-- Behind a sign. -/
def bodyQ (s : List UInt8) : List UInt8 := if headB 45 s = true then s.tail else s
theorem parseQ_alt (s : List UInt8) : headB 45 (firstQ s) = headB 45 s ∧ digsQ s = firstQ (bodyQ s) ∧ ((findB 47 s = none ∧ findB 47 (bodyQ s) = none) ∨ ∃ i j, findB 47 s = some i ∧ findB 47 (bodyQ s) = some j ∧ s.drop (i + 1) = (bodyQ s).drop (j + 1)) := by
  cases s with
  | nil => simp [firstQ, findB, headB, digsQ, bodyQ]
  | cons c cs =>
    by_cases hc : c = 45
    · subst hc
      have e1 : findB 47 (45 :: cs) = (findB 47 cs).map (· + 1) := by simp [findB]
      have e2 : bodyQ (45 :: cs) = cs := by simp [bodyQ, headB]
      rw [e2, e1]
      cases hf : findB 47 cs with
      | none => simp [firstQ, e1, hf, headB, digsQ]
      | some j => simp [firstQ, e1, hf, headB, digsQ]
    · have e2 : bodyQ (c :: cs) = c :: cs := by simp [bodyQ, headB, hc]
      have e3 : headB 45 (c :: cs) = false := by simp [headB, hc]
      rw [e2, e3]
      have e4 : headB 45 (firstQ (c :: cs)) = false := by
        simp only [firstQ]
        cases hf : findB 47 (c :: cs) with
        | none => exact e3
        | some i => cases i with
          | zero => simp [headB]
          | succ i => simp [headB, hc]
      refine ⟨e4, by simp [digsQ, e4], ?_⟩
      cases hf : findB 47 (c :: cs) with
      | none => exact .inl ⟨rfl, rfl⟩
      | some i => exact .inr ⟨i, i, rfl, rfl, rfl⟩
theorem splitM_find (s : List UInt8) : (findB 47 s = none ∧ splitM 47 s = [s]) ∨ ∃ j, findB 47 s = some j ∧ splitM 47 s = s.take j :: splitM 47 (s.drop (j + 1)) := by
  cases hf : findB 47 s with
  | none => exact .inl ⟨rfl, splitM_end (findB_none hf)⟩
  | some j =>
    obtain ⟨h1, h2, h3⟩ := findB_lt hf
    refine .inr ⟨j, rfl, ?_⟩
    have : s = s.take j ++ 47 :: s.drop (j + 1) := by rw [← drop_cons h2, List.take_append_drop]
    conv => lhs; rw [this, splitM_seg h3]
theorem tok_noslash {s : List UInt8} (h : tokD s = true) : findB 47 s = none := by
  cases hf : findB 47 s with
  | none => rfl
  | some j =>
    obtain ⟨h1, h2, h3⟩ := findB_lt hf
    have := (tok_len h).2.2 47 (List.mem_of_getElem? h2)
    simp [isDig] at this
/-- A number of the reference. -/
def ratS (q : Qd) : AV := .agg [.bool q.1, natS q.2.1, natS q.2.2]
@[simp] theorem ratS_pure (q : Qd) : (ratS q).pure = true := by simp [ratS, AV.pure, AV.pureL]
def parseV (s : List UInt8) : AV := match parseQ s with | some q => .tup [ratS q, .bool true] | none => .tup [zeroI, .bool false]
theorem el_sRatS {b : Bool} {t t' : Nat} {xs sp xs' sp' : List AV} {ex ex' : Bool} : AV.el Tryd.prog 36 (.agg [.bool b, .sl t xs sp ex, .sl t' xs' sp' ex']) = true := by simp [AV.el, s_sRat, AV.cells, AV.one]
theorem el_sRat0 {b : Bool} : AV.el Tryd.prog 36 (.agg [.bool b, .nil, .nil]) = true := by simp [AV.el, s_sRat, AV.cells, AV.one]
theorem el_int64S {t : Nat} {xs sp : List AV} {ex : Bool} : AV.el Tryd.prog 34 (.sl t xs sp ex) = true := by simp [AV.el, s_int64s, AV.cells, AV.one]
theorem ld_sRat {b c d : AV} : ldA Tryd.prog 36 (.agg [b, c, d]) 0 = some (.agg [b, c, d]) := by simp [ldA, partA, g_sRat, s_sRat, AV.cells]
attribute [go_sem] el_sRatS el_sRat0 el_int64S ld_sRat
theorem oneS : natS 1 = .sl 2 [.int .i64 1] [] false := by
  rw [natS, enc_pos B9_gt (by decide), show 1 / B9 = 0 from rfl, enc_zero]; rfl

theorem s_Parse (s : List UInt8) (hs : s.length ≤ 1000000) : CallOk Tryd.prog 15 [.str s] (parseV s) [] := by
  obtain ⟨hneg, hdg, hfind⟩ := parseQ_alt s
  have hpq : parseQ s = if tokD (firstQ (bodyQ s)) = true ∧ ¬ (headB 45 s = true ∧ dval (firstQ (bodyQ s)) = 0) then
    match findB 47 (bodyQ s) with
    | none => some (headB 45 s, dval (firstQ (bodyQ s)), 1)
    | some i => if tokD ((bodyQ s).drop (i + 1)) = true ∧ 1 < dval ((bodyQ s).drop (i + 1)) ∧ Nat.gcd (dval (firstQ (bodyQ s))) (dval ((bodyQ s).drop (i + 1))) = 1 then some (headB 45 s, dval (firstQ (bodyQ s)), dval ((bodyQ s).drop (i + 1))) else none
  else none := by
    rw [parseQ, hneg, hdg]
    rcases hfind with ⟨a, b⟩ | ⟨i, j, a, b, c⟩
    · simp only [a, b]
    · simp only [a, b, c]
  clear hneg hdg hfind
  obtain ⟨B, hB⟩ : ∃ B, bodyQ s = B := ⟨_, rfl⟩
  have hBl : B.length ≤ s.length := by rw [← hB]; unfold bodyQ; split <;> simp
  have hCut := s_Cut B 47 (by omega)
  obtain ⟨D, hD⟩ : ∃ D, firstQ B = D := ⟨_, rfl⟩
  have hDl : D.length ≤ B.length := by rw [← hD]; unfold firstQ; split <;> simp; omega
  have hsplit := splitM_find B
  obtain ⟨P1, hP1, hP⟩ : ∃ P1, splitM 47 B = D :: P1 ∧ ((findB 47 B = none ∧ P1 = []) ∨ ∃ j, findB 47 B = some j ∧ P1 = splitM 47 (B.drop (j + 1))) := by
    rcases hsplit with ⟨a, b⟩ | ⟨j, a, b⟩
    · exact ⟨[], by rw [b, ← hD, firstQ, a], .inl ⟨a, rfl⟩⟩
    · exact ⟨_, by rw [b, ← hD, firstQ, a], .inr ⟨j, a, rfl⟩⟩
  rw [hP1] at hCut
  rw [hB, hD] at hpq
  have hdig := s_Digits D (by omega)
  have e0 : [AV.bool false, AV.nil, AV.nil].length = 3 := rfl
  have hfail : ∀ (st : St), st.fr 2 = .ptr 0 1 0 0 → (st.h 0).lv = true → (st.h 0).xs = [zeroI] → st.fr 3 = .bool false → parseQ s = none → Post Tryd.prog Tryd.f15 (matL false [AV.str s] st00).2.nx (AV.flatL [AV.str s]) false (parseV s) [] .ret st := by
    intro st k2 kl kx k3 hp
    rw [parseV, hp]
    exact post_cell (x := zeroI) (.inl rfl) rfl o_sRat k2 kl kx ld_sRat k3 rfl rfl
  have hgood : ∀ (st : St) (b : Bool) (x y : AV) (q : Qd), st.fr 2 = .ptr 0 1 0 0 → (st.h 0).lv = true → (st.h 0).xs = [.agg [.bool b, x, y]] → st.fr 3 = .bool true → x.pure = true → y.pure = true → Post Tryd.prog Tryd.f15 (matL false [AV.str s] st00).2.nx (AV.flatL [AV.str s]) false (.tup [.agg [.bool b, x, y], .bool true]) [] .ret st := by
    intro st b x y q k2 kl kx k3 hx hy
    exact post_cell (x := .agg [.bool b, x, y]) (.inl rfl) rfl o_sRat k2 kl kx ld_sRat k3 (by simp [AV.pure, AV.pureL, hx, hy]) rfl
  have hp0 : (D :: P1)[Int.toNat 0]? = some D := rfl
  by_cases hsnil : s = []
  · have hBn : B = [] := by rw [← hB, hsnil]; rfl
    have hDn : D = [] := by rw [← hD, hBn]; rfl
    have hPn : P1 = [] := by rw [hBn] at hP; rcases hP with ⟨_, h⟩ | ⟨j, h, _⟩; exact h; simp [findB] at h
    have htd : tokD D = false := by rw [hDn]; rfl
    rw [htd] at hpq hdig
    simp only [Bool.false_eq_true, false_and, if_false] at hpq
    have hsl : s.length = 0 := by rw [hsnil]; rfl
    rw [hBn, ← hsnil] at hCut
    (refine callOk_of_wpc (W := fun _ => false) false hm' Tryd.func15 rfl (by kernel_rfl) (Nat.le_of_ble_eq_true rfl) (go_start ?_); generalize hQ : Post Tryd.prog Tryd.f15 _ _ _ _ _ = Q; simp only [stIn, matL, matA, st00])
    simp (disch := omega) only [go_sem, ↓k_cond, ↓x_idx, ↓k_block, Nat.reduceEqDiff, ↓reduceIte, reduceCtorEq, if_pos, if_neg, decide_eq_true, decide_eq_false, beqT, beqF, bneT, bneF, wrapI, wrapU32, wrapU64, wrapU8, nc_add, nc_addL, nc_addR, nc_mul, nc_mulL, nc_mulR, nc_div, nc_divL, nc_mod, nc_modL, nc_1, nc_sub1, natA_at, natA_put, eatH_one, Int.toNat_natCast, Option.map_some, shr32, shl32, List.getD_cons_zero, List.getD_cons_succ, List.length_set, List.set_cons_zero, List.set_cons_succ, zeroI, e0, hsl]
    refine x_callP (hCut) c_sCut01 (by simp [evA, upd_app, ofVal, ofCell]) (by simp [AV.pure, AV.pureL, natA_pure, natI_pure, natS_pure]) (by simp [AV.pure, AV.pureL, natA_pure, natI_pure, natS_pure]) ?_
    simp (disch := omega) only [go_sem, ↓k_cond, ↓x_idx, ↓k_block, Nat.reduceEqDiff, ↓reduceIte, reduceCtorEq, if_pos, if_neg, decide_eq_true, decide_eq_false, beqT, beqF, bneT, bneF, wrapI, wrapU32, wrapU64, wrapU8, nc_add, nc_addL, nc_addR, nc_mul, nc_mulL, nc_mulR, nc_div, nc_divL, nc_mod, nc_modL, nc_1, nc_sub1, natA_at, natA_put, eatH_one, Int.toNat_natCast, Option.map_some, shr32, shl32, List.getD_cons_zero, List.getD_cons_succ, List.length_set, List.set_cons_zero, List.set_cons_succ, strA_length, strA_at, hp0, hPn, List.length_cons, List.length_nil]
    rw [hPn] at hp0
    refine x_callP (hdig) c_Digits (by simp [evA, upd_app, ofVal, ofCell]) (by simp [AV.pure, AV.pureL, natA_pure, natI_pure, natS_pure]) (by simp [AV.pure, AV.pureL, natA_pure, natI_pure, natS_pure]) ?_
    simp (disch := omega) only [go_sem, ↓k_cond, ↓x_idx, ↓k_block, Nat.reduceEqDiff, ↓reduceIte, reduceCtorEq, if_pos, if_neg, decide_eq_true, decide_eq_false, beqT, beqF, bneT, bneF, wrapI, wrapU32, wrapU64, wrapU8, nc_add, nc_addL, nc_addR, nc_mul, nc_mulL, nc_mulR, nc_div, nc_divL, nc_mod, nc_modL, nc_1, nc_sub1, natA_at, natA_put, eatH_one, Int.toNat_natCast, Option.map_some, shr32, shl32, List.getD_cons_zero, List.getD_cons_succ, List.length_set, List.set_cons_zero, List.set_cons_succ, e0, List.set_cons_zero]
    rw [← hQ]
    exact hfail _ (by first | (simp only [upd_app, ↓reduceIte, Nat.reduceEqDiff]; done) | (simp [upd_app]; done) | (simp [upd_app]; omega)) (by simp [upd_app]) (by simp [upd_app, zeroI]) (by first | (simp only [upd_app, ↓reduceIte, Nat.reduceEqDiff]; done) | (simp [upd_app]; done) | (simp [upd_app]; omega)) hpq
  have hl0 : 0 < s.length := List.length_pos_iff.2 hsnil
  obtain ⟨c0, hc0⟩ := get_some (xs := s) (i := 0) hl0
  have hc0' : s[Int.toNat 0]? = some c0 := hc0
  have hhead : s.head? = some c0 := by rw [List.head?_eq_getElem?]; exact hc0
  have hcb := c0.toNat_lt
  -- what comes behind the sign
  have htk : tokD D = true → (enc B9 (dval D)).length ≤ 200 := fun h => by
    obtain ⟨_, b, c⟩ := tok_len h
    exact Nat.le_trans (dval_enc (by decide) c) b
  have he1 : (enc B9 1).length ≤ 1 := enc_len_le B9_gt (by decide)
  by_cases h45 : c0.toNat = 45
  · have hc45 : c0 = 45 := UInt8.toNat.inj (by rw [h45]; rfl)
    have hng : headB 45 s = true := by simp [headB, hhead, hc45]
    have hsl : (s.take s.length).drop 1 = B := by rw [← hB, bodyQ, hng, List.take_length]; simp
    have hst : s.tail = B := by rw [← hsl, List.take_length]; simp
    rw [hng] at hpq
    simp only [true_and] at hpq
    cases hP1c : decide (2 ≤ P1.length) with
    | true =>
      have hP2 : 2 ≤ P1.length := by simpa using hP1c
      have hnone : parseQ s = none := by
        rw [hpq]
        rcases hP with ⟨_, h⟩ | ⟨j, h1, h2⟩
        · rw [h] at hP2; simp at hP2
        · have : tokD (B.drop (j + 1)) = false := by
            cases ht : tokD (B.drop (j + 1)) with
            | false => rfl
            | true =>
              rcases splitM_find (B.drop (j + 1)) with ⟨_, e⟩ | ⟨k, e, _⟩
              · rw [h2, e] at hP2; simp at hP2
              · rw [tok_noslash ht] at e; cases e
          simp only [h1, this, Bool.false_eq_true, false_and, if_false, ite_self]
      (refine callOk_of_wpc (W := fun _ => false) false hm' Tryd.func15 rfl (by kernel_rfl) (Nat.le_of_ble_eq_true rfl) (go_start ?_); generalize hQ : Post Tryd.prog Tryd.f15 _ _ _ _ _ = Q; simp only [stIn, matL, matA, st00])
      simp (disch := omega) only [go_sem, ↓k_cond, ↓x_idx, ↓k_block, Nat.reduceEqDiff, ↓reduceIte, reduceCtorEq, if_pos, if_neg, decide_eq_true, decide_eq_false, beqT, beqF, bneT, bneF, wrapI, wrapU32, wrapU64, wrapU8, nc_add, nc_addL, nc_addR, nc_mul, nc_mulL, nc_mulR, nc_div, nc_divL, nc_mod, nc_modL, nc_1, nc_sub1, natA_at, natA_put, eatH_one, Int.toNat_natCast, Option.map_some, shr32, shl32, List.getD_cons_zero, List.getD_cons_succ, List.length_set, List.set_cons_zero, List.set_cons_succ, zeroI, e0, hc0', h45, hsl]
      refine x_callP (hCut) c_sCut01 (by simp [evA, upd_app, ofVal, ofCell, hst]) (by simp [AV.pure, AV.pureL, natA_pure, natI_pure, natS_pure]) (by simp [AV.pure, AV.pureL, natA_pure, natI_pure, natS_pure]) ?_
      simp (disch := omega) only [go_sem, ↓k_cond, ↓x_idx, ↓k_block, Nat.reduceEqDiff, ↓reduceIte, reduceCtorEq, if_pos, if_neg, decide_eq_true, decide_eq_false, beqT, beqF, bneT, bneF, wrapI, wrapU32, wrapU64, wrapU8, nc_add, nc_addL, nc_addR, nc_mul, nc_mulL, nc_mulR, nc_div, nc_divL, nc_mod, nc_modL, nc_1, nc_sub1, natA_at, natA_put, eatH_one, Int.toNat_natCast, Option.map_some, shr32, shl32, List.getD_cons_zero, List.getD_cons_succ, List.length_set, List.set_cons_zero, List.set_cons_succ, strA_length, List.length_cons, e0]
      rw [← hQ]
      exact hfail _ (by first | (simp only [upd_app, ↓reduceIte, Nat.reduceEqDiff]; done) | (simp [upd_app]; done) | (simp [upd_app]; omega)) (by simp [upd_app]) (by simp [upd_app, zeroI]) (by first | (simp only [upd_app, ↓reduceIte, Nat.reduceEqDiff]; done) | (simp [upd_app]; done) | (simp [upd_app]; omega)) hnone
    | false =>
      have hP2 : P1.length ≤ 1 := by simp at hP1c; omega
      cases htd : tokD D with
      | false =>
        rw [htd] at hpq hdig
        simp only [Bool.false_eq_true, false_and, if_false] at hpq
        (refine callOk_of_wpc (W := fun _ => false) false hm' Tryd.func15 rfl (by kernel_rfl) (Nat.le_of_ble_eq_true rfl) (go_start ?_); generalize hQ : Post Tryd.prog Tryd.f15 _ _ _ _ _ = Q; simp only [stIn, matL, matA, st00])
        simp (disch := omega) only [go_sem, ↓k_cond, ↓x_idx, ↓k_block, Nat.reduceEqDiff, ↓reduceIte, reduceCtorEq, if_pos, if_neg, decide_eq_true, decide_eq_false, beqT, beqF, bneT, bneF, wrapI, wrapU32, wrapU64, wrapU8, nc_add, nc_addL, nc_addR, nc_mul, nc_mulL, nc_mulR, nc_div, nc_divL, nc_mod, nc_modL, nc_1, nc_sub1, natA_at, natA_put, eatH_one, Int.toNat_natCast, Option.map_some, shr32, shl32, List.getD_cons_zero, List.getD_cons_succ, List.length_set, List.set_cons_zero, List.set_cons_succ, zeroI, e0, hc0', h45, hsl]
        refine x_callP (hCut) c_sCut01 (by simp [evA, upd_app, ofVal, ofCell, hst]) (by simp [AV.pure, AV.pureL, natA_pure, natI_pure, natS_pure]) (by simp [AV.pure, AV.pureL, natA_pure, natI_pure, natS_pure]) ?_
        simp (disch := omega) only [go_sem, ↓k_cond, ↓x_idx, ↓k_block, Nat.reduceEqDiff, ↓reduceIte, reduceCtorEq, if_pos, if_neg, decide_eq_true, decide_eq_false, beqT, beqF, bneT, bneF, wrapI, wrapU32, wrapU64, wrapU8, nc_add, nc_addL, nc_addR, nc_mul, nc_mulL, nc_mulR, nc_div, nc_divL, nc_mod, nc_modL, nc_1, nc_sub1, natA_at, natA_put, eatH_one, Int.toNat_natCast, Option.map_some, shr32, shl32, List.getD_cons_zero, List.getD_cons_succ, List.length_set, List.set_cons_zero, List.set_cons_succ, strA_length, strA_at, hp0, List.length_cons]
        refine x_callP (hdig) c_Digits (by simp [evA, upd_app, ofVal, ofCell]) (by simp [AV.pure, AV.pureL, natA_pure, natI_pure, natS_pure]) (by simp [AV.pure, AV.pureL, natA_pure, natI_pure, natS_pure]) ?_
        simp (disch := omega) only [go_sem, ↓k_cond, ↓x_idx, ↓k_block, Nat.reduceEqDiff, ↓reduceIte, reduceCtorEq, if_pos, if_neg, decide_eq_true, decide_eq_false, beqT, beqF, bneT, bneF, wrapI, wrapU32, wrapU64, wrapU8, nc_add, nc_addL, nc_addR, nc_mul, nc_mulL, nc_mulR, nc_div, nc_divL, nc_mod, nc_modL, nc_1, nc_sub1, natA_at, natA_put, eatH_one, Int.toNat_natCast, Option.map_some, shr32, shl32, List.getD_cons_zero, List.getD_cons_succ, List.length_set, List.set_cons_zero, List.set_cons_succ, e0]
        rw [← hQ]
        exact hfail _ (by first | (simp only [upd_app, ↓reduceIte, Nat.reduceEqDiff]; done) | (simp [upd_app]; done) | (simp [upd_app]; omega)) (by simp [upd_app]) (by simp [upd_app, zeroI]) (by first | (simp only [upd_app, ↓reduceIte, Nat.reduceEqDiff]; done) | (simp [upd_app]; done) | (simp [upd_app]; omega)) hpq
      | true =>
        have htl := htk htd
        rw [htd] at hpq hdig
        simp only [true_and, if_true] at hpq
        have hNR := s_NatRead D (tok_len htd).2.2 (by omega)
        obtain ⟨v, hv⟩ : ∃ v, dval D = v := ⟨_, rfl⟩
        rw [hv] at hNR hpq htl
        by_cases hv0 : v = 0
        · subst hv0
          simp only [not_true_eq_false, if_false] at hpq
          have hz : (enc B9 0).length = 0 := by rw [enc_zero]; rfl
          (refine callOk_of_wpc (W := fun _ => false) false hm' Tryd.func15 rfl (by kernel_rfl) (Nat.le_of_ble_eq_true rfl) (go_start ?_); generalize hQ : Post Tryd.prog Tryd.f15 _ _ _ _ _ = Q; simp only [stIn, matL, matA, st00])
          simp (disch := omega) only [go_sem, ↓k_cond, ↓x_idx, ↓k_block, Nat.reduceEqDiff, ↓reduceIte, reduceCtorEq, if_pos, if_neg, decide_eq_true, decide_eq_false, beqT, beqF, bneT, bneF, wrapI, wrapU32, wrapU64, wrapU8, nc_add, nc_addL, nc_addR, nc_mul, nc_mulL, nc_mulR, nc_div, nc_divL, nc_mod, nc_modL, nc_1, nc_sub1, natA_at, natA_put, eatH_one, Int.toNat_natCast, Option.map_some, shr32, shl32, List.getD_cons_zero, List.getD_cons_succ, List.length_set, List.set_cons_zero, List.set_cons_succ, zeroI, e0, hc0', h45, hsl]
          refine x_callP (hCut) c_sCut01 (by simp [evA, upd_app, ofVal, ofCell, hst]) (by simp [AV.pure, AV.pureL, natA_pure, natI_pure, natS_pure]) (by simp [AV.pure, AV.pureL, natA_pure, natI_pure, natS_pure]) ?_
          simp (disch := omega) only [go_sem, ↓k_cond, ↓x_idx, ↓k_block, Nat.reduceEqDiff, ↓reduceIte, reduceCtorEq, if_pos, if_neg, decide_eq_true, decide_eq_false, beqT, beqF, bneT, bneF, wrapI, wrapU32, wrapU64, wrapU8, nc_add, nc_addL, nc_addR, nc_mul, nc_mulL, nc_mulR, nc_div, nc_divL, nc_mod, nc_modL, nc_1, nc_sub1, natA_at, natA_put, eatH_one, Int.toNat_natCast, Option.map_some, shr32, shl32, List.getD_cons_zero, List.getD_cons_succ, List.length_set, List.set_cons_zero, List.set_cons_succ, strA_length, strA_at, hp0, List.length_cons]
          refine x_callP (hdig) c_Digits (by simp [evA, upd_app, ofVal, ofCell]) (by simp [AV.pure, AV.pureL, natA_pure, natI_pure, natS_pure]) (by simp [AV.pure, AV.pureL, natA_pure, natI_pure, natS_pure]) ?_
          simp (disch := omega) only [go_sem, ↓k_cond, ↓x_idx, ↓k_block, Nat.reduceEqDiff, ↓reduceIte, reduceCtorEq, if_pos, if_neg, decide_eq_true, decide_eq_false, beqT, beqF, bneT, bneF, wrapI, wrapU32, wrapU64, wrapU8, nc_add, nc_addL, nc_addR, nc_mul, nc_mulL, nc_mulR, nc_div, nc_divL, nc_mod, nc_modL, nc_1, nc_sub1, natA_at, natA_put, eatH_one, Int.toNat_natCast, Option.map_some, shr32, shl32, List.getD_cons_zero, List.getD_cons_succ, List.length_set, List.set_cons_zero, List.set_cons_succ, strA_length, strA_at, hp0, List.length_cons]
          refine x_callP (hNR) c_NatRead (by simp [evA, upd_app, ofVal, ofCell]) (by simp [AV.pure, AV.pureL, natA_pure, natI_pure, natS_pure]) (by simp [AV.pure, AV.pureL, natA_pure, natI_pure, natS_pure]) ?_
          simp (disch := omega) only [go_sem, ↓k_cond, ↓x_idx, ↓k_block, Nat.reduceEqDiff, ↓reduceIte, reduceCtorEq, if_pos, if_neg, decide_eq_true, decide_eq_false, beqT, beqF, bneT, bneF, wrapI, wrapU32, wrapU64, wrapU8, nc_add, nc_addL, nc_addR, nc_mul, nc_mulL, nc_mulR, nc_div, nc_divL, nc_mod, nc_modL, nc_1, nc_sub1, natA_at, natA_put, eatH_one, Int.toNat_natCast, Option.map_some, shr32, shl32, List.getD_cons_zero, List.getD_cons_succ, List.length_set, List.set_cons_zero, List.set_cons_succ, natS, hz, e0]
          rw [← hQ]
          exact hfail _ (by first | (simp only [upd_app, ↓reduceIte, Nat.reduceEqDiff]; done) | (simp [upd_app]; done) | (simp [upd_app]; omega)) (by simp [upd_app]) (by simp [upd_app, zeroI]) (by first | (simp only [upd_app, ↓reduceIte, Nat.reduceEqDiff]; done) | (simp [upd_app]; done) | (simp [upd_app]; omega)) hpq
        rw [if_pos hv0] at hpq
        have hvp := enc_len_pos B9_gt hv0
        rcases hP with ⟨hf, rfl⟩ | ⟨j, hf, hPj⟩
        · rw [hf] at hpq
          simp only at hpq
          have hres : parseV s = .tup [ratS (true, v, 1), .bool true] := by rw [parseV, hpq]
          rw [hres]
          refine CallOk.res (r := .tup [.agg [.bool true, natS v, .sl 2 [.int .i64 1] [] true], .bool true]) ?_ (sub_tup (SubL.cons (sub_agg (SubL.cons (Sub.refl _) (SubL.cons (Sub.refl _) (SubL.cons (by rw [oneS]; exact sub_sl) .nil)))) (SubL.refl _)))
          (refine callOk_of_wpc (W := fun _ => false) false hm' Tryd.func15 rfl (by kernel_rfl) (Nat.le_of_ble_eq_true rfl) (go_start ?_); generalize hQ : Post Tryd.prog Tryd.f15 _ _ _ _ _ = Q; simp only [stIn, matL, matA, st00])
          simp (disch := omega) only [go_sem, ↓k_cond, ↓x_idx, ↓k_block, Nat.reduceEqDiff, ↓reduceIte, reduceCtorEq, if_pos, if_neg, decide_eq_true, decide_eq_false, beqT, beqF, bneT, bneF, wrapI, wrapU32, wrapU64, wrapU8, nc_add, nc_addL, nc_addR, nc_mul, nc_mulL, nc_mulR, nc_div, nc_divL, nc_mod, nc_modL, nc_1, nc_sub1, natA_at, natA_put, eatH_one, Int.toNat_natCast, Option.map_some, shr32, shl32, List.getD_cons_zero, List.getD_cons_succ, List.length_set, List.set_cons_zero, List.set_cons_succ, zeroI, e0, hc0', h45, hsl]
          refine x_callP (hCut) c_sCut01 (by simp [evA, upd_app, ofVal, ofCell, hst]) (by simp [AV.pure, AV.pureL, natA_pure, natI_pure, natS_pure]) (by simp [AV.pure, AV.pureL, natA_pure, natI_pure, natS_pure]) ?_
          simp (disch := omega) only [go_sem, ↓k_cond, ↓x_idx, ↓k_block, Nat.reduceEqDiff, ↓reduceIte, reduceCtorEq, if_pos, if_neg, decide_eq_true, decide_eq_false, beqT, beqF, bneT, bneF, wrapI, wrapU32, wrapU64, wrapU8, nc_add, nc_addL, nc_addR, nc_mul, nc_mulL, nc_mulR, nc_div, nc_divL, nc_mod, nc_modL, nc_1, nc_sub1, natA_at, natA_put, eatH_one, Int.toNat_natCast, Option.map_some, shr32, shl32, List.getD_cons_zero, List.getD_cons_succ, List.length_set, List.set_cons_zero, List.set_cons_succ, strA_length, strA_at, hp0, List.length_cons]
          refine x_callP (hdig) c_Digits (by simp [evA, upd_app, ofVal, ofCell]) (by simp [AV.pure, AV.pureL, natA_pure, natI_pure, natS_pure]) (by simp [AV.pure, AV.pureL, natA_pure, natI_pure, natS_pure]) ?_
          simp (disch := omega) only [go_sem, ↓k_cond, ↓x_idx, ↓k_block, Nat.reduceEqDiff, ↓reduceIte, reduceCtorEq, if_pos, if_neg, decide_eq_true, decide_eq_false, beqT, beqF, bneT, bneF, wrapI, wrapU32, wrapU64, wrapU8, nc_add, nc_addL, nc_addR, nc_mul, nc_mulL, nc_mulR, nc_div, nc_divL, nc_mod, nc_modL, nc_1, nc_sub1, natA_at, natA_put, eatH_one, Int.toNat_natCast, Option.map_some, shr32, shl32, List.getD_cons_zero, List.getD_cons_succ, List.length_set, List.set_cons_zero, List.set_cons_succ, strA_length, strA_at, hp0, List.length_cons]
          refine x_callP (hNR) c_NatRead (by simp [evA, upd_app, ofVal, ofCell]) (by simp [AV.pure, AV.pureL, natA_pure, natI_pure, natS_pure]) (by simp [AV.pure, AV.pureL, natA_pure, natI_pure, natS_pure]) ?_
          simp (disch := omega) only [go_sem, ↓k_cond, ↓x_idx, ↓k_block, Nat.reduceEqDiff, ↓reduceIte, reduceCtorEq, if_pos, if_neg, decide_eq_true, decide_eq_false, beqT, beqF, bneT, bneF, wrapI, wrapU32, wrapU64, wrapU8, nc_add, nc_addL, nc_addR, nc_mul, nc_mulL, nc_mulR, nc_div, nc_divL, nc_mod, nc_modL, nc_1, nc_sub1, natA_at, natA_put, eatH_one, Int.toNat_natCast, Option.map_some, shr32, shl32, List.getD_cons_zero, List.getD_cons_succ, List.length_set, List.set_cons_zero, List.set_cons_succ, natS, List.length_cons, List.length_nil, e0]
          rw [← hQ]
          exact hgood _ true (natS v) (.sl 2 [.int .i64 1] [] true) (true, v, 1) (by first | (simp only [upd_app, ↓reduceIte, Nat.reduceEqDiff]; done) | (simp [upd_app]; done) | (simp [upd_app]; omega)) (by simp [upd_app]) (by simp [upd_app, natS]) (by first | (simp only [upd_app, ↓reduceIte, Nat.reduceEqDiff]; done) | (simp [upd_app]; done) | (simp [upd_app]; omega)) (by simp) rfl
        · rw [hf] at hpq
          simp only at hpq
          obtain ⟨e, he⟩ : ∃ e, B.drop (j + 1) = e := ⟨_, rfl⟩
          rw [he] at hpq hPj
          have hel : e.length ≤ B.length := by rw [← he]; simp
          have hPe : P1 = [e] := by
            rcases splitM_find e with ⟨_, h⟩ | ⟨k, _, h⟩
            · rw [hPj, h]
            · exfalso
              rw [hPj, h] at hP2
              have := splitM_ne 47 (e.drop (k + 1))
              cases hs' : splitM 47 (e.drop (k + 1)) with
              | nil => exact this hs'
              | cons a b => rw [hs'] at hP2; simp at hP2
          subst hPe
          have hp1 : [D, e][Int.toNat 1]? = some e := rfl
          have hdig2 := s_Digits e (by omega)
          cases hte : tokD e with
          | false =>
            rw [hte] at hpq hdig2
            simp only [Bool.false_eq_true, false_and, if_false] at hpq
            (refine callOk_of_wpc (W := fun _ => false) false hm' Tryd.func15 rfl (by kernel_rfl) (Nat.le_of_ble_eq_true rfl) (go_start ?_); generalize hQ : Post Tryd.prog Tryd.f15 _ _ _ _ _ = Q; simp only [stIn, matL, matA, st00])
            simp (disch := omega) only [go_sem, ↓k_cond, ↓x_idx, ↓k_block, Nat.reduceEqDiff, ↓reduceIte, reduceCtorEq, if_pos, if_neg, decide_eq_true, decide_eq_false, beqT, beqF, bneT, bneF, wrapI, wrapU32, wrapU64, wrapU8, nc_add, nc_addL, nc_addR, nc_mul, nc_mulL, nc_mulR, nc_div, nc_divL, nc_mod, nc_modL, nc_1, nc_sub1, natA_at, natA_put, eatH_one, Int.toNat_natCast, Option.map_some, shr32, shl32, List.getD_cons_zero, List.getD_cons_succ, List.length_set, List.set_cons_zero, List.set_cons_succ, zeroI, e0, hc0', h45, hsl]
            refine x_callP (hCut) c_sCut01 (by simp [evA, upd_app, ofVal, ofCell, hst]) (by simp [AV.pure, AV.pureL, natA_pure, natI_pure, natS_pure]) (by simp [AV.pure, AV.pureL, natA_pure, natI_pure, natS_pure]) ?_
            simp (disch := omega) only [go_sem, ↓k_cond, ↓x_idx, ↓k_block, Nat.reduceEqDiff, ↓reduceIte, reduceCtorEq, if_pos, if_neg, decide_eq_true, decide_eq_false, beqT, beqF, bneT, bneF, wrapI, wrapU32, wrapU64, wrapU8, nc_add, nc_addL, nc_addR, nc_mul, nc_mulL, nc_mulR, nc_div, nc_divL, nc_mod, nc_modL, nc_1, nc_sub1, natA_at, natA_put, eatH_one, Int.toNat_natCast, Option.map_some, shr32, shl32, List.getD_cons_zero, List.getD_cons_succ, List.length_set, List.set_cons_zero, List.set_cons_succ, strA_length, strA_at, hp0, List.length_cons]
            refine x_callP (hdig) c_Digits (by simp [evA, upd_app, ofVal, ofCell]) (by simp [AV.pure, AV.pureL, natA_pure, natI_pure, natS_pure]) (by simp [AV.pure, AV.pureL, natA_pure, natI_pure, natS_pure]) ?_
            simp (disch := omega) only [go_sem, ↓k_cond, ↓x_idx, ↓k_block, Nat.reduceEqDiff, ↓reduceIte, reduceCtorEq, if_pos, if_neg, decide_eq_true, decide_eq_false, beqT, beqF, bneT, bneF, wrapI, wrapU32, wrapU64, wrapU8, nc_add, nc_addL, nc_addR, nc_mul, nc_mulL, nc_mulR, nc_div, nc_divL, nc_mod, nc_modL, nc_1, nc_sub1, natA_at, natA_put, eatH_one, Int.toNat_natCast, Option.map_some, shr32, shl32, List.getD_cons_zero, List.getD_cons_succ, List.length_set, List.set_cons_zero, List.set_cons_succ, strA_length, strA_at, hp0, List.length_cons]
            refine x_callP (hNR) c_NatRead (by simp [evA, upd_app, ofVal, ofCell]) (by simp [AV.pure, AV.pureL, natA_pure, natI_pure, natS_pure]) (by simp [AV.pure, AV.pureL, natA_pure, natI_pure, natS_pure]) ?_
            simp (disch := omega) only [go_sem, ↓k_cond, ↓x_idx, ↓k_block, Nat.reduceEqDiff, ↓reduceIte, reduceCtorEq, if_pos, if_neg, decide_eq_true, decide_eq_false, beqT, beqF, bneT, bneF, wrapI, wrapU32, wrapU64, wrapU8, nc_add, nc_addL, nc_addR, nc_mul, nc_mulL, nc_mulR, nc_div, nc_divL, nc_mod, nc_modL, nc_1, nc_sub1, natA_at, natA_put, eatH_one, Int.toNat_natCast, Option.map_some, shr32, shl32, List.getD_cons_zero, List.getD_cons_succ, List.length_set, List.set_cons_zero, List.set_cons_succ, natS, List.length_cons, List.length_nil, strA_length, strA_at, hp1]
            refine x_callP (hdig2) c_Digits (by simp [evA, upd_app, ofVal, ofCell]) (by simp [AV.pure, AV.pureL, natA_pure, natI_pure, natS_pure]) (by simp [AV.pure, AV.pureL, natA_pure, natI_pure, natS_pure]) ?_
            simp (disch := omega) only [go_sem, ↓k_cond, ↓x_idx, ↓k_block, Nat.reduceEqDiff, ↓reduceIte, reduceCtorEq, if_pos, if_neg, decide_eq_true, decide_eq_false, beqT, beqF, bneT, bneF, wrapI, wrapU32, wrapU64, wrapU8, nc_add, nc_addL, nc_addR, nc_mul, nc_mulL, nc_mulR, nc_div, nc_divL, nc_mod, nc_modL, nc_1, nc_sub1, natA_at, natA_put, eatH_one, Int.toNat_natCast, Option.map_some, shr32, shl32, List.getD_cons_zero, List.getD_cons_succ, List.length_set, List.set_cons_zero, List.set_cons_succ, e0]
            rw [← hQ]
            exact hfail _ (by first | (simp only [upd_app, ↓reduceIte, Nat.reduceEqDiff]; done) | (simp [upd_app]; done) | (simp [upd_app]; omega)) (by simp [upd_app]) (by simp [upd_app, zeroI]) (by first | (simp only [upd_app, ↓reduceIte, Nat.reduceEqDiff]; done) | (simp [upd_app]; done) | (simp [upd_app]; omega)) hpq
          | true =>
            have htl2 : (enc B9 (dval e)).length ≤ 200 := by
              obtain ⟨_, b, c⟩ := tok_len hte
              exact Nat.le_trans (dval_enc (by decide) c) b
            rw [hte] at hpq hdig2
            simp only [true_and] at hpq
            have hNR2 := s_NatRead e (tok_len hte).2.2 (by omega)
            obtain ⟨u, hu⟩ : ∃ u, dval e = u := ⟨_, rfl⟩
            rw [hu] at hNR2 hpq htl2
            have hcmp := (s_Cmp hm' u 1 (by omega) (by omega)).args (SubL.cons (Sub.refl _) (SubL.cons (show Sub Tryd.prog (.sl 2 [.int .i64 1] [] true) (natS 1) by rw [oneS]; exact sub_sl) .nil))
            have hgcd := s_Gcd v u (by omega) (by omega)
            by_cases hu1 : 1 < u
            · rw [cmpI_gt hu1] at hcmp
              obtain ⟨g, hg⟩ : ∃ g, Nat.gcd v u = g := ⟨_, rfl⟩
              rw [hg] at hgcd
              simp only [hg, hu1, true_and] at hpq
              have hgu : g ≤ u := by rw [← hg]; exact Nat.gcd_le_right v (by omega)
              have hgl := enc_len_mono B9_gt hgu
              have hcg := (s_Cmp hm' g 1 (by omega) (by omega)).args (SubL.cons (Sub.refl _) (SubL.cons (show Sub Tryd.prog (.sl 2 [.int .i64 1] [] true) (natS 1) by rw [oneS]; exact sub_sl) .nil))
              by_cases hg1 : g = 1
              · subst hg1
                rw [cmpI_eq] at hcg
                simp only [if_true] at hpq
                have hres : parseV s = .tup [ratS (true, v, u), .bool true] := by rw [parseV, hpq]
                rw [hres]
                (refine callOk_of_wpc (W := fun _ => false) false hm' Tryd.func15 rfl (by kernel_rfl) (Nat.le_of_ble_eq_true rfl) (go_start ?_); generalize hQ : Post Tryd.prog Tryd.f15 _ _ _ _ _ = Q; simp only [stIn, matL, matA, st00])
                simp (disch := omega) only [go_sem, ↓k_cond, ↓x_idx, ↓k_block, Nat.reduceEqDiff, ↓reduceIte, reduceCtorEq, if_pos, if_neg, decide_eq_true, decide_eq_false, beqT, beqF, bneT, bneF, wrapI, wrapU32, wrapU64, wrapU8, nc_add, nc_addL, nc_addR, nc_mul, nc_mulL, nc_mulR, nc_div, nc_divL, nc_mod, nc_modL, nc_1, nc_sub1, natA_at, natA_put, eatH_one, Int.toNat_natCast, Option.map_some, shr32, shl32, List.getD_cons_zero, List.getD_cons_succ, List.length_set, List.set_cons_zero, List.set_cons_succ, zeroI, e0, hc0', h45, hsl]
                refine x_callP (hCut) c_sCut01 (by simp [evA, upd_app, ofVal, ofCell, hst]) (by simp [AV.pure, AV.pureL, natA_pure, natI_pure, natS_pure]) (by simp [AV.pure, AV.pureL, natA_pure, natI_pure, natS_pure]) ?_
                simp (disch := omega) only [go_sem, ↓k_cond, ↓x_idx, ↓k_block, Nat.reduceEqDiff, ↓reduceIte, reduceCtorEq, if_pos, if_neg, decide_eq_true, decide_eq_false, beqT, beqF, bneT, bneF, wrapI, wrapU32, wrapU64, wrapU8, nc_add, nc_addL, nc_addR, nc_mul, nc_mulL, nc_mulR, nc_div, nc_divL, nc_mod, nc_modL, nc_1, nc_sub1, natA_at, natA_put, eatH_one, Int.toNat_natCast, Option.map_some, shr32, shl32, List.getD_cons_zero, List.getD_cons_succ, List.length_set, List.set_cons_zero, List.set_cons_succ, strA_length, strA_at, hp0, List.length_cons]
                refine x_callP (hdig) c_Digits (by simp [evA, upd_app, ofVal, ofCell]) (by simp [AV.pure, AV.pureL, natA_pure, natI_pure, natS_pure]) (by simp [AV.pure, AV.pureL, natA_pure, natI_pure, natS_pure]) ?_
                simp (disch := omega) only [go_sem, ↓k_cond, ↓x_idx, ↓k_block, Nat.reduceEqDiff, ↓reduceIte, reduceCtorEq, if_pos, if_neg, decide_eq_true, decide_eq_false, beqT, beqF, bneT, bneF, wrapI, wrapU32, wrapU64, wrapU8, nc_add, nc_addL, nc_addR, nc_mul, nc_mulL, nc_mulR, nc_div, nc_divL, nc_mod, nc_modL, nc_1, nc_sub1, natA_at, natA_put, eatH_one, Int.toNat_natCast, Option.map_some, shr32, shl32, List.getD_cons_zero, List.getD_cons_succ, List.length_set, List.set_cons_zero, List.set_cons_succ, strA_length, strA_at, hp0, List.length_cons]
                refine x_callP (hNR) c_NatRead (by simp [evA, upd_app, ofVal, ofCell]) (by simp [AV.pure, AV.pureL, natA_pure, natI_pure, natS_pure]) (by simp [AV.pure, AV.pureL, natA_pure, natI_pure, natS_pure]) ?_
                simp (disch := omega) only [go_sem, ↓k_cond, ↓x_idx, ↓k_block, Nat.reduceEqDiff, ↓reduceIte, reduceCtorEq, if_pos, if_neg, decide_eq_true, decide_eq_false, beqT, beqF, bneT, bneF, wrapI, wrapU32, wrapU64, wrapU8, nc_add, nc_addL, nc_addR, nc_mul, nc_mulL, nc_mulR, nc_div, nc_divL, nc_mod, nc_modL, nc_1, nc_sub1, natA_at, natA_put, eatH_one, Int.toNat_natCast, Option.map_some, shr32, shl32, List.getD_cons_zero, List.getD_cons_succ, List.length_set, List.set_cons_zero, List.set_cons_succ, natS, List.length_cons, List.length_nil, strA_length, strA_at, hp1]
                refine x_callP (hdig2) c_Digits (by simp [evA, upd_app, ofVal, ofCell]) (by simp [AV.pure, AV.pureL, natA_pure, natI_pure, natS_pure]) (by simp [AV.pure, AV.pureL, natA_pure, natI_pure, natS_pure]) ?_
                simp (disch := omega) only [go_sem, ↓k_cond, ↓x_idx, ↓k_block, Nat.reduceEqDiff, ↓reduceIte, reduceCtorEq, if_pos, if_neg, decide_eq_true, decide_eq_false, beqT, beqF, bneT, bneF, wrapI, wrapU32, wrapU64, wrapU8, nc_add, nc_addL, nc_addR, nc_mul, nc_mulL, nc_mulR, nc_div, nc_divL, nc_mod, nc_modL, nc_1, nc_sub1, natA_at, natA_put, eatH_one, Int.toNat_natCast, Option.map_some, shr32, shl32, List.getD_cons_zero, List.getD_cons_succ, List.length_set, List.set_cons_zero, List.set_cons_succ, strA_length, strA_at, hp1]
                refine x_callP (hNR2) c_NatRead (by simp [evA, upd_app, ofVal, ofCell]) (by simp [AV.pure, AV.pureL, natA_pure, natI_pure, natS_pure]) (by simp [AV.pure, AV.pureL, natA_pure, natI_pure, natS_pure]) ?_
                simp (disch := omega) only [go_sem, ↓k_cond, ↓x_idx, ↓k_block, Nat.reduceEqDiff, ↓reduceIte, reduceCtorEq, if_pos, if_neg, decide_eq_true, decide_eq_false, beqT, beqF, bneT, bneF, wrapI, wrapU32, wrapU64, wrapU8, nc_add, nc_addL, nc_addR, nc_mul, nc_mulL, nc_mulR, nc_div, nc_divL, nc_mod, nc_modL, nc_1, nc_sub1, natA_at, natA_put, eatH_one, Int.toNat_natCast, Option.map_some, shr32, shl32, List.getD_cons_zero, List.getD_cons_succ, List.length_set, List.set_cons_zero, List.set_cons_succ, natS]
                refine x_callP hcmp c_Cmp (by simp [evA, upd_app, natS]) (by simp [AV.pureL, AV.pure]) rfl ?_
                simp (disch := omega) only [go_sem, ↓k_cond, ↓x_idx, ↓k_block, Nat.reduceEqDiff, ↓reduceIte, reduceCtorEq, if_pos, if_neg, decide_eq_true, decide_eq_false, beqT, beqF, bneT, bneF, wrapI, wrapU32, wrapU64, wrapU8, nc_add, nc_addL, nc_addR, nc_mul, nc_mulL, nc_mulR, nc_div, nc_divL, nc_mod, nc_modL, nc_1, nc_sub1, natA_at, natA_put, eatH_one, Int.toNat_natCast, Option.map_some, shr32, shl32, List.getD_cons_zero, List.getD_cons_succ, List.length_set, List.set_cons_zero, List.set_cons_succ, natS]
                refine x_callP hgcd c_Gcd (by simp [evA, upd_app, natS]) (by simp [AV.pureL]) (by simp) ?_
                simp (disch := omega) only [go_sem, ↓k_cond, ↓x_idx, ↓k_block, Nat.reduceEqDiff, ↓reduceIte, reduceCtorEq, if_pos, if_neg, decide_eq_true, decide_eq_false, beqT, beqF, bneT, bneF, wrapI, wrapU32, wrapU64, wrapU8, nc_add, nc_addL, nc_addR, nc_mul, nc_mulL, nc_mulR, nc_div, nc_divL, nc_mod, nc_modL, nc_1, nc_sub1, natA_at, natA_put, eatH_one, Int.toNat_natCast, Option.map_some, shr32, shl32, List.getD_cons_zero, List.getD_cons_succ, List.length_set, List.set_cons_zero, List.set_cons_succ, natS]
                refine x_callP hcg c_Cmp (by simp [evA, upd_app, natS]) (by simp [AV.pureL, AV.pure]) rfl ?_
                simp (disch := omega) only [go_sem, ↓k_cond, ↓x_idx, ↓k_block, Nat.reduceEqDiff, ↓reduceIte, reduceCtorEq, if_pos, if_neg, decide_eq_true, decide_eq_false, beqT, beqF, bneT, bneF, wrapI, wrapU32, wrapU64, wrapU8, nc_add, nc_addL, nc_addR, nc_mul, nc_mulL, nc_mulR, nc_div, nc_divL, nc_mod, nc_modL, nc_1, nc_sub1, natA_at, natA_put, eatH_one, Int.toNat_natCast, Option.map_some, shr32, shl32, List.getD_cons_zero, List.getD_cons_succ, List.length_set, List.set_cons_zero, List.set_cons_succ, natS, e0]
                rw [← hQ]
                exact hgood _ true (natS v) (natS u) (true, v, u) (by first | (simp only [upd_app, ↓reduceIte, Nat.reduceEqDiff]; done) | (simp [upd_app]; done) | (simp [upd_app]; omega)) (by simp [upd_app]) (by simp [upd_app, natS]) (by first | (simp only [upd_app, ↓reduceIte, Nat.reduceEqDiff]; done) | (simp [upd_app]; done) | (simp [upd_app]; omega)) (by simp) (by simp)
              · have hcn : cmpI g 1 ≠ 0 := by
                  rcases Nat.lt_trichotomy g 1 with h | h | h
                  · rw [cmpI_lt h]; decide
                  · exact absurd h hg1
                  · rw [cmpI_gt h]; decide
                rw [if_neg hg1] at hpq
                (refine callOk_of_wpc (W := fun _ => false) false hm' Tryd.func15 rfl (by kernel_rfl) (Nat.le_of_ble_eq_true rfl) (go_start ?_); generalize hQ : Post Tryd.prog Tryd.f15 _ _ _ _ _ = Q; simp only [stIn, matL, matA, st00])
                simp (disch := omega) only [go_sem, ↓k_cond, ↓x_idx, ↓k_block, Nat.reduceEqDiff, ↓reduceIte, reduceCtorEq, if_pos, if_neg, decide_eq_true, decide_eq_false, beqT, beqF, bneT, bneF, wrapI, wrapU32, wrapU64, wrapU8, nc_add, nc_addL, nc_addR, nc_mul, nc_mulL, nc_mulR, nc_div, nc_divL, nc_mod, nc_modL, nc_1, nc_sub1, natA_at, natA_put, eatH_one, Int.toNat_natCast, Option.map_some, shr32, shl32, List.getD_cons_zero, List.getD_cons_succ, List.length_set, List.set_cons_zero, List.set_cons_succ, zeroI, e0, hc0', h45, hsl]
                refine x_callP (hCut) c_sCut01 (by simp [evA, upd_app, ofVal, ofCell, hst]) (by simp [AV.pure, AV.pureL, natA_pure, natI_pure, natS_pure]) (by simp [AV.pure, AV.pureL, natA_pure, natI_pure, natS_pure]) ?_
                simp (disch := omega) only [go_sem, ↓k_cond, ↓x_idx, ↓k_block, Nat.reduceEqDiff, ↓reduceIte, reduceCtorEq, if_pos, if_neg, decide_eq_true, decide_eq_false, beqT, beqF, bneT, bneF, wrapI, wrapU32, wrapU64, wrapU8, nc_add, nc_addL, nc_addR, nc_mul, nc_mulL, nc_mulR, nc_div, nc_divL, nc_mod, nc_modL, nc_1, nc_sub1, natA_at, natA_put, eatH_one, Int.toNat_natCast, Option.map_some, shr32, shl32, List.getD_cons_zero, List.getD_cons_succ, List.length_set, List.set_cons_zero, List.set_cons_succ, strA_length, strA_at, hp0, List.length_cons]
                refine x_callP (hdig) c_Digits (by simp [evA, upd_app, ofVal, ofCell]) (by simp [AV.pure, AV.pureL, natA_pure, natI_pure, natS_pure]) (by simp [AV.pure, AV.pureL, natA_pure, natI_pure, natS_pure]) ?_
                simp (disch := omega) only [go_sem, ↓k_cond, ↓x_idx, ↓k_block, Nat.reduceEqDiff, ↓reduceIte, reduceCtorEq, if_pos, if_neg, decide_eq_true, decide_eq_false, beqT, beqF, bneT, bneF, wrapI, wrapU32, wrapU64, wrapU8, nc_add, nc_addL, nc_addR, nc_mul, nc_mulL, nc_mulR, nc_div, nc_divL, nc_mod, nc_modL, nc_1, nc_sub1, natA_at, natA_put, eatH_one, Int.toNat_natCast, Option.map_some, shr32, shl32, List.getD_cons_zero, List.getD_cons_succ, List.length_set, List.set_cons_zero, List.set_cons_succ, strA_length, strA_at, hp0, List.length_cons]
                refine x_callP (hNR) c_NatRead (by simp [evA, upd_app, ofVal, ofCell]) (by simp [AV.pure, AV.pureL, natA_pure, natI_pure, natS_pure]) (by simp [AV.pure, AV.pureL, natA_pure, natI_pure, natS_pure]) ?_
                simp (disch := omega) only [go_sem, ↓k_cond, ↓x_idx, ↓k_block, Nat.reduceEqDiff, ↓reduceIte, reduceCtorEq, if_pos, if_neg, decide_eq_true, decide_eq_false, beqT, beqF, bneT, bneF, wrapI, wrapU32, wrapU64, wrapU8, nc_add, nc_addL, nc_addR, nc_mul, nc_mulL, nc_mulR, nc_div, nc_divL, nc_mod, nc_modL, nc_1, nc_sub1, natA_at, natA_put, eatH_one, Int.toNat_natCast, Option.map_some, shr32, shl32, List.getD_cons_zero, List.getD_cons_succ, List.length_set, List.set_cons_zero, List.set_cons_succ, natS, List.length_cons, List.length_nil, strA_length, strA_at, hp1]
                refine x_callP (hdig2) c_Digits (by simp [evA, upd_app, ofVal, ofCell]) (by simp [AV.pure, AV.pureL, natA_pure, natI_pure, natS_pure]) (by simp [AV.pure, AV.pureL, natA_pure, natI_pure, natS_pure]) ?_
                simp (disch := omega) only [go_sem, ↓k_cond, ↓x_idx, ↓k_block, Nat.reduceEqDiff, ↓reduceIte, reduceCtorEq, if_pos, if_neg, decide_eq_true, decide_eq_false, beqT, beqF, bneT, bneF, wrapI, wrapU32, wrapU64, wrapU8, nc_add, nc_addL, nc_addR, nc_mul, nc_mulL, nc_mulR, nc_div, nc_divL, nc_mod, nc_modL, nc_1, nc_sub1, natA_at, natA_put, eatH_one, Int.toNat_natCast, Option.map_some, shr32, shl32, List.getD_cons_zero, List.getD_cons_succ, List.length_set, List.set_cons_zero, List.set_cons_succ, strA_length, strA_at, hp1]
                refine x_callP (hNR2) c_NatRead (by simp [evA, upd_app, ofVal, ofCell]) (by simp [AV.pure, AV.pureL, natA_pure, natI_pure, natS_pure]) (by simp [AV.pure, AV.pureL, natA_pure, natI_pure, natS_pure]) ?_
                simp (disch := omega) only [go_sem, ↓k_cond, ↓x_idx, ↓k_block, Nat.reduceEqDiff, ↓reduceIte, reduceCtorEq, if_pos, if_neg, decide_eq_true, decide_eq_false, beqT, beqF, bneT, bneF, wrapI, wrapU32, wrapU64, wrapU8, nc_add, nc_addL, nc_addR, nc_mul, nc_mulL, nc_mulR, nc_div, nc_divL, nc_mod, nc_modL, nc_1, nc_sub1, natA_at, natA_put, eatH_one, Int.toNat_natCast, Option.map_some, shr32, shl32, List.getD_cons_zero, List.getD_cons_succ, List.length_set, List.set_cons_zero, List.set_cons_succ, natS]
                refine x_callP hcmp c_Cmp (by simp [evA, upd_app, natS]) (by simp [AV.pureL, AV.pure]) rfl ?_
                simp (disch := omega) only [go_sem, ↓k_cond, ↓x_idx, ↓k_block, Nat.reduceEqDiff, ↓reduceIte, reduceCtorEq, if_pos, if_neg, decide_eq_true, decide_eq_false, beqT, beqF, bneT, bneF, wrapI, wrapU32, wrapU64, wrapU8, nc_add, nc_addL, nc_addR, nc_mul, nc_mulL, nc_mulR, nc_div, nc_divL, nc_mod, nc_modL, nc_1, nc_sub1, natA_at, natA_put, eatH_one, Int.toNat_natCast, Option.map_some, shr32, shl32, List.getD_cons_zero, List.getD_cons_succ, List.length_set, List.set_cons_zero, List.set_cons_succ, natS]
                refine x_callP hgcd c_Gcd (by simp [evA, upd_app, natS]) (by simp [AV.pureL]) (by simp) ?_
                simp (disch := omega) only [go_sem, ↓k_cond, ↓x_idx, ↓k_block, Nat.reduceEqDiff, ↓reduceIte, reduceCtorEq, if_pos, if_neg, decide_eq_true, decide_eq_false, beqT, beqF, bneT, bneF, wrapI, wrapU32, wrapU64, wrapU8, nc_add, nc_addL, nc_addR, nc_mul, nc_mulL, nc_mulR, nc_div, nc_divL, nc_mod, nc_modL, nc_1, nc_sub1, natA_at, natA_put, eatH_one, Int.toNat_natCast, Option.map_some, shr32, shl32, List.getD_cons_zero, List.getD_cons_succ, List.length_set, List.set_cons_zero, List.set_cons_succ, natS]
                refine x_callP hcg c_Cmp (by simp [evA, upd_app, natS]) (by simp [AV.pureL, AV.pure]) rfl ?_
                simp (disch := omega) only [go_sem, ↓k_cond, ↓x_idx, ↓k_block, Nat.reduceEqDiff, ↓reduceIte, reduceCtorEq, if_pos, if_neg, decide_eq_true, decide_eq_false, beqT, beqF, bneT, bneF, wrapI, wrapU32, wrapU64, wrapU8, nc_add, nc_addL, nc_addR, nc_mul, nc_mulL, nc_mulR, nc_div, nc_divL, nc_mod, nc_modL, nc_1, nc_sub1, natA_at, natA_put, eatH_one, Int.toNat_natCast, Option.map_some, shr32, shl32, List.getD_cons_zero, List.getD_cons_succ, List.length_set, List.set_cons_zero, List.set_cons_succ, e0]
                rw [← hQ]
                exact hfail _ (by first | (simp only [upd_app, ↓reduceIte, Nat.reduceEqDiff]; done) | (simp [upd_app]; done) | (simp [upd_app]; omega)) (by simp [upd_app]) (by simp [upd_app, zeroI]) (by first | (simp only [upd_app, ↓reduceIte, Nat.reduceEqDiff]; done) | (simp [upd_app]; done) | (simp [upd_app]; omega)) hpq
            · have hc1 : cmpI u 1 ≤ 0 := by
                rcases Nat.lt_or_ge u 1 with h | h
                · rw [cmpI_lt h]; decide
                · rw [show u = 1 by omega, cmpI_eq]; decide
              rw [if_neg (fun h => hu1 h.1)] at hpq
              (refine callOk_of_wpc (W := fun _ => false) false hm' Tryd.func15 rfl (by kernel_rfl) (Nat.le_of_ble_eq_true rfl) (go_start ?_); generalize hQ : Post Tryd.prog Tryd.f15 _ _ _ _ _ = Q; simp only [stIn, matL, matA, st00])
              simp (disch := omega) only [go_sem, ↓k_cond, ↓x_idx, ↓k_block, Nat.reduceEqDiff, ↓reduceIte, reduceCtorEq, if_pos, if_neg, decide_eq_true, decide_eq_false, beqT, beqF, bneT, bneF, wrapI, wrapU32, wrapU64, wrapU8, nc_add, nc_addL, nc_addR, nc_mul, nc_mulL, nc_mulR, nc_div, nc_divL, nc_mod, nc_modL, nc_1, nc_sub1, natA_at, natA_put, eatH_one, Int.toNat_natCast, Option.map_some, shr32, shl32, List.getD_cons_zero, List.getD_cons_succ, List.length_set, List.set_cons_zero, List.set_cons_succ, zeroI, e0, hc0', h45, hsl]
              refine x_callP (hCut) c_sCut01 (by simp [evA, upd_app, ofVal, ofCell, hst]) (by simp [AV.pure, AV.pureL, natA_pure, natI_pure, natS_pure]) (by simp [AV.pure, AV.pureL, natA_pure, natI_pure, natS_pure]) ?_
              simp (disch := omega) only [go_sem, ↓k_cond, ↓x_idx, ↓k_block, Nat.reduceEqDiff, ↓reduceIte, reduceCtorEq, if_pos, if_neg, decide_eq_true, decide_eq_false, beqT, beqF, bneT, bneF, wrapI, wrapU32, wrapU64, wrapU8, nc_add, nc_addL, nc_addR, nc_mul, nc_mulL, nc_mulR, nc_div, nc_divL, nc_mod, nc_modL, nc_1, nc_sub1, natA_at, natA_put, eatH_one, Int.toNat_natCast, Option.map_some, shr32, shl32, List.getD_cons_zero, List.getD_cons_succ, List.length_set, List.set_cons_zero, List.set_cons_succ, strA_length, strA_at, hp0, List.length_cons]
              refine x_callP (hdig) c_Digits (by simp [evA, upd_app, ofVal, ofCell]) (by simp [AV.pure, AV.pureL, natA_pure, natI_pure, natS_pure]) (by simp [AV.pure, AV.pureL, natA_pure, natI_pure, natS_pure]) ?_
              simp (disch := omega) only [go_sem, ↓k_cond, ↓x_idx, ↓k_block, Nat.reduceEqDiff, ↓reduceIte, reduceCtorEq, if_pos, if_neg, decide_eq_true, decide_eq_false, beqT, beqF, bneT, bneF, wrapI, wrapU32, wrapU64, wrapU8, nc_add, nc_addL, nc_addR, nc_mul, nc_mulL, nc_mulR, nc_div, nc_divL, nc_mod, nc_modL, nc_1, nc_sub1, natA_at, natA_put, eatH_one, Int.toNat_natCast, Option.map_some, shr32, shl32, List.getD_cons_zero, List.getD_cons_succ, List.length_set, List.set_cons_zero, List.set_cons_succ, strA_length, strA_at, hp0, List.length_cons]
              refine x_callP (hNR) c_NatRead (by simp [evA, upd_app, ofVal, ofCell]) (by simp [AV.pure, AV.pureL, natA_pure, natI_pure, natS_pure]) (by simp [AV.pure, AV.pureL, natA_pure, natI_pure, natS_pure]) ?_
              simp (disch := omega) only [go_sem, ↓k_cond, ↓x_idx, ↓k_block, Nat.reduceEqDiff, ↓reduceIte, reduceCtorEq, if_pos, if_neg, decide_eq_true, decide_eq_false, beqT, beqF, bneT, bneF, wrapI, wrapU32, wrapU64, wrapU8, nc_add, nc_addL, nc_addR, nc_mul, nc_mulL, nc_mulR, nc_div, nc_divL, nc_mod, nc_modL, nc_1, nc_sub1, natA_at, natA_put, eatH_one, Int.toNat_natCast, Option.map_some, shr32, shl32, List.getD_cons_zero, List.getD_cons_succ, List.length_set, List.set_cons_zero, List.set_cons_succ, natS, List.length_cons, List.length_nil, strA_length, strA_at, hp1]
              refine x_callP (hdig2) c_Digits (by simp [evA, upd_app, ofVal, ofCell]) (by simp [AV.pure, AV.pureL, natA_pure, natI_pure, natS_pure]) (by simp [AV.pure, AV.pureL, natA_pure, natI_pure, natS_pure]) ?_
              simp (disch := omega) only [go_sem, ↓k_cond, ↓x_idx, ↓k_block, Nat.reduceEqDiff, ↓reduceIte, reduceCtorEq, if_pos, if_neg, decide_eq_true, decide_eq_false, beqT, beqF, bneT, bneF, wrapI, wrapU32, wrapU64, wrapU8, nc_add, nc_addL, nc_addR, nc_mul, nc_mulL, nc_mulR, nc_div, nc_divL, nc_mod, nc_modL, nc_1, nc_sub1, natA_at, natA_put, eatH_one, Int.toNat_natCast, Option.map_some, shr32, shl32, List.getD_cons_zero, List.getD_cons_succ, List.length_set, List.set_cons_zero, List.set_cons_succ, strA_length, strA_at, hp1]
              refine x_callP (hNR2) c_NatRead (by simp [evA, upd_app, ofVal, ofCell]) (by simp [AV.pure, AV.pureL, natA_pure, natI_pure, natS_pure]) (by simp [AV.pure, AV.pureL, natA_pure, natI_pure, natS_pure]) ?_
              simp (disch := omega) only [go_sem, ↓k_cond, ↓x_idx, ↓k_block, Nat.reduceEqDiff, ↓reduceIte, reduceCtorEq, if_pos, if_neg, decide_eq_true, decide_eq_false, beqT, beqF, bneT, bneF, wrapI, wrapU32, wrapU64, wrapU8, nc_add, nc_addL, nc_addR, nc_mul, nc_mulL, nc_mulR, nc_div, nc_divL, nc_mod, nc_modL, nc_1, nc_sub1, natA_at, natA_put, eatH_one, Int.toNat_natCast, Option.map_some, shr32, shl32, List.getD_cons_zero, List.getD_cons_succ, List.length_set, List.set_cons_zero, List.set_cons_succ, natS]
              refine x_callP hcmp c_Cmp (by simp [evA, upd_app, natS]) (by simp [AV.pureL, AV.pure]) rfl ?_
              simp (disch := omega) only [go_sem, ↓k_cond, ↓x_idx, ↓k_block, Nat.reduceEqDiff, ↓reduceIte, reduceCtorEq, if_pos, if_neg, decide_eq_true, decide_eq_false, beqT, beqF, bneT, bneF, wrapI, wrapU32, wrapU64, wrapU8, nc_add, nc_addL, nc_addR, nc_mul, nc_mulL, nc_mulR, nc_div, nc_divL, nc_mod, nc_modL, nc_1, nc_sub1, natA_at, natA_put, eatH_one, Int.toNat_natCast, Option.map_some, shr32, shl32, List.getD_cons_zero, List.getD_cons_succ, List.length_set, List.set_cons_zero, List.set_cons_succ, e0]
              rw [← hQ]
              exact hfail _ (by first | (simp only [upd_app, ↓reduceIte, Nat.reduceEqDiff]; done) | (simp [upd_app]; done) | (simp [upd_app]; omega)) (by simp [upd_app]) (by simp [upd_app, zeroI]) (by first | (simp only [upd_app, ↓reduceIte, Nat.reduceEqDiff]; done) | (simp [upd_app]; done) | (simp [upd_app]; omega)) hpq
  · have hng : headB 45 s = false := by
      have : c0 ≠ 45 := fun e => h45 (by rw [e]; rfl)
      simp [headB, hhead, this]
    have hBs : B = s := by rw [← hB, bodyQ, hng]; rfl
    rw [hBs] at hCut
    rw [hng] at hpq
    simp only [Bool.false_eq_true, false_and, not_false_eq_true, and_true] at hpq
    cases hP1c : decide (2 ≤ P1.length) with
    | true =>
      have hP2 : 2 ≤ P1.length := by simpa using hP1c
      have hnone : parseQ s = none := by
        rw [hpq]
        rcases hP with ⟨_, h⟩ | ⟨j, h1, h2⟩
        · rw [h] at hP2; simp at hP2
        · have : tokD (B.drop (j + 1)) = false := by
            cases ht : tokD (B.drop (j + 1)) with
            | false => rfl
            | true =>
              rcases splitM_find (B.drop (j + 1)) with ⟨_, e⟩ | ⟨k, e, _⟩
              · rw [h2, e] at hP2; simp at hP2
              · rw [tok_noslash ht] at e; cases e
          simp only [h1, this, Bool.false_eq_true, false_and, if_false, ite_self]
      (refine callOk_of_wpc (W := fun _ => false) false hm' Tryd.func15 rfl (by kernel_rfl) (Nat.le_of_ble_eq_true rfl) (go_start ?_); generalize hQ : Post Tryd.prog Tryd.f15 _ _ _ _ _ = Q; simp only [stIn, matL, matA, st00])
      simp (disch := omega) only [go_sem, ↓k_cond, ↓x_idx, ↓k_block, Nat.reduceEqDiff, ↓reduceIte, reduceCtorEq, if_pos, if_neg, decide_eq_true, decide_eq_false, beqT, beqF, bneT, bneF, wrapI, wrapU32, wrapU64, wrapU8, nc_add, nc_addL, nc_addR, nc_mul, nc_mulL, nc_mulR, nc_div, nc_divL, nc_mod, nc_modL, nc_1, nc_sub1, natA_at, natA_put, eatH_one, Int.toNat_natCast, Option.map_some, shr32, shl32, List.getD_cons_zero, List.getD_cons_succ, List.length_set, List.set_cons_zero, List.set_cons_succ, zeroI, e0, hc0']
      refine x_callP (hCut) c_sCut01 (by simp [evA, upd_app, ofVal, ofCell]) (by simp [AV.pure, AV.pureL, natA_pure, natI_pure, natS_pure]) (by simp [AV.pure, AV.pureL, natA_pure, natI_pure, natS_pure]) ?_
      simp (disch := omega) only [go_sem, ↓k_cond, ↓x_idx, ↓k_block, Nat.reduceEqDiff, ↓reduceIte, reduceCtorEq, if_pos, if_neg, decide_eq_true, decide_eq_false, beqT, beqF, bneT, bneF, wrapI, wrapU32, wrapU64, wrapU8, nc_add, nc_addL, nc_addR, nc_mul, nc_mulL, nc_mulR, nc_div, nc_divL, nc_mod, nc_modL, nc_1, nc_sub1, natA_at, natA_put, eatH_one, Int.toNat_natCast, Option.map_some, shr32, shl32, List.getD_cons_zero, List.getD_cons_succ, List.length_set, List.set_cons_zero, List.set_cons_succ, strA_length, List.length_cons, e0]
      rw [← hQ]
      exact hfail _ (by first | (simp only [upd_app, ↓reduceIte, Nat.reduceEqDiff]; done) | (simp [upd_app]; done) | (simp [upd_app]; omega)) (by simp [upd_app]) (by simp [upd_app, zeroI]) (by first | (simp only [upd_app, ↓reduceIte, Nat.reduceEqDiff]; done) | (simp [upd_app]; done) | (simp [upd_app]; omega)) hnone
    | false =>
      have hP2 : P1.length ≤ 1 := by simp at hP1c; omega
      cases htd : tokD D with
      | false =>
        rw [htd] at hpq hdig
        simp only [Bool.false_eq_true, false_and, if_false] at hpq
        (refine callOk_of_wpc (W := fun _ => false) false hm' Tryd.func15 rfl (by kernel_rfl) (Nat.le_of_ble_eq_true rfl) (go_start ?_); generalize hQ : Post Tryd.prog Tryd.f15 _ _ _ _ _ = Q; simp only [stIn, matL, matA, st00])
        simp (disch := omega) only [go_sem, ↓k_cond, ↓x_idx, ↓k_block, Nat.reduceEqDiff, ↓reduceIte, reduceCtorEq, if_pos, if_neg, decide_eq_true, decide_eq_false, beqT, beqF, bneT, bneF, wrapI, wrapU32, wrapU64, wrapU8, nc_add, nc_addL, nc_addR, nc_mul, nc_mulL, nc_mulR, nc_div, nc_divL, nc_mod, nc_modL, nc_1, nc_sub1, natA_at, natA_put, eatH_one, Int.toNat_natCast, Option.map_some, shr32, shl32, List.getD_cons_zero, List.getD_cons_succ, List.length_set, List.set_cons_zero, List.set_cons_succ, zeroI, e0, hc0']
        refine x_callP (hCut) c_sCut01 (by simp [evA, upd_app, ofVal, ofCell]) (by simp [AV.pure, AV.pureL, natA_pure, natI_pure, natS_pure]) (by simp [AV.pure, AV.pureL, natA_pure, natI_pure, natS_pure]) ?_
        simp (disch := omega) only [go_sem, ↓k_cond, ↓x_idx, ↓k_block, Nat.reduceEqDiff, ↓reduceIte, reduceCtorEq, if_pos, if_neg, decide_eq_true, decide_eq_false, beqT, beqF, bneT, bneF, wrapI, wrapU32, wrapU64, wrapU8, nc_add, nc_addL, nc_addR, nc_mul, nc_mulL, nc_mulR, nc_div, nc_divL, nc_mod, nc_modL, nc_1, nc_sub1, natA_at, natA_put, eatH_one, Int.toNat_natCast, Option.map_some, shr32, shl32, List.getD_cons_zero, List.getD_cons_succ, List.length_set, List.set_cons_zero, List.set_cons_succ, strA_length, strA_at, hp0, List.length_cons]
        refine x_callP (hdig) c_Digits (by simp [evA, upd_app, ofVal, ofCell]) (by simp [AV.pure, AV.pureL, natA_pure, natI_pure, natS_pure]) (by simp [AV.pure, AV.pureL, natA_pure, natI_pure, natS_pure]) ?_
        simp (disch := omega) only [go_sem, ↓k_cond, ↓x_idx, ↓k_block, Nat.reduceEqDiff, ↓reduceIte, reduceCtorEq, if_pos, if_neg, decide_eq_true, decide_eq_false, beqT, beqF, bneT, bneF, wrapI, wrapU32, wrapU64, wrapU8, nc_add, nc_addL, nc_addR, nc_mul, nc_mulL, nc_mulR, nc_div, nc_divL, nc_mod, nc_modL, nc_1, nc_sub1, natA_at, natA_put, eatH_one, Int.toNat_natCast, Option.map_some, shr32, shl32, List.getD_cons_zero, List.getD_cons_succ, List.length_set, List.set_cons_zero, List.set_cons_succ, e0]
        rw [← hQ]
        exact hfail _ (by first | (simp only [upd_app, ↓reduceIte, Nat.reduceEqDiff]; done) | (simp [upd_app]; done) | (simp [upd_app]; omega)) (by simp [upd_app]) (by simp [upd_app, zeroI]) (by first | (simp only [upd_app, ↓reduceIte, Nat.reduceEqDiff]; done) | (simp [upd_app]; done) | (simp [upd_app]; omega)) hpq
      | true =>
        have htl := htk htd
        rw [htd] at hpq hdig
        simp only [true_and, if_true] at hpq
        have hNR := s_NatRead D (tok_len htd).2.2 (by omega)
        obtain ⟨v, hv⟩ : ∃ v, dval D = v := ⟨_, rfl⟩
        rw [hv] at hNR hpq htl
        rcases hP with ⟨hf, rfl⟩ | ⟨j, hf, hPj⟩
        · rw [hf] at hpq
          simp only at hpq
          have hres : parseV s = .tup [ratS (false, v, 1), .bool true] := by rw [parseV, hpq]
          rw [hres]
          refine CallOk.res (r := .tup [.agg [.bool false, natS v, .sl 2 [.int .i64 1] [] true], .bool true]) ?_ (sub_tup (SubL.cons (sub_agg (SubL.cons (Sub.refl _) (SubL.cons (Sub.refl _) (SubL.cons (by rw [oneS]; exact sub_sl) .nil)))) (SubL.refl _)))
          (refine callOk_of_wpc (W := fun _ => false) false hm' Tryd.func15 rfl (by kernel_rfl) (Nat.le_of_ble_eq_true rfl) (go_start ?_); generalize hQ : Post Tryd.prog Tryd.f15 _ _ _ _ _ = Q; simp only [stIn, matL, matA, st00])
          simp (disch := omega) only [go_sem, ↓k_cond, ↓x_idx, ↓k_block, Nat.reduceEqDiff, ↓reduceIte, reduceCtorEq, if_pos, if_neg, decide_eq_true, decide_eq_false, beqT, beqF, bneT, bneF, wrapI, wrapU32, wrapU64, wrapU8, nc_add, nc_addL, nc_addR, nc_mul, nc_mulL, nc_mulR, nc_div, nc_divL, nc_mod, nc_modL, nc_1, nc_sub1, natA_at, natA_put, eatH_one, Int.toNat_natCast, Option.map_some, shr32, shl32, List.getD_cons_zero, List.getD_cons_succ, List.length_set, List.set_cons_zero, List.set_cons_succ, zeroI, e0, hc0']
          refine x_callP (hCut) c_sCut01 (by simp [evA, upd_app, ofVal, ofCell]) (by simp [AV.pure, AV.pureL, natA_pure, natI_pure, natS_pure]) (by simp [AV.pure, AV.pureL, natA_pure, natI_pure, natS_pure]) ?_
          simp (disch := omega) only [go_sem, ↓k_cond, ↓x_idx, ↓k_block, Nat.reduceEqDiff, ↓reduceIte, reduceCtorEq, if_pos, if_neg, decide_eq_true, decide_eq_false, beqT, beqF, bneT, bneF, wrapI, wrapU32, wrapU64, wrapU8, nc_add, nc_addL, nc_addR, nc_mul, nc_mulL, nc_mulR, nc_div, nc_divL, nc_mod, nc_modL, nc_1, nc_sub1, natA_at, natA_put, eatH_one, Int.toNat_natCast, Option.map_some, shr32, shl32, List.getD_cons_zero, List.getD_cons_succ, List.length_set, List.set_cons_zero, List.set_cons_succ, strA_length, strA_at, hp0, List.length_cons]
          refine x_callP (hdig) c_Digits (by simp [evA, upd_app, ofVal, ofCell]) (by simp [AV.pure, AV.pureL, natA_pure, natI_pure, natS_pure]) (by simp [AV.pure, AV.pureL, natA_pure, natI_pure, natS_pure]) ?_
          simp (disch := omega) only [go_sem, ↓k_cond, ↓x_idx, ↓k_block, Nat.reduceEqDiff, ↓reduceIte, reduceCtorEq, if_pos, if_neg, decide_eq_true, decide_eq_false, beqT, beqF, bneT, bneF, wrapI, wrapU32, wrapU64, wrapU8, nc_add, nc_addL, nc_addR, nc_mul, nc_mulL, nc_mulR, nc_div, nc_divL, nc_mod, nc_modL, nc_1, nc_sub1, natA_at, natA_put, eatH_one, Int.toNat_natCast, Option.map_some, shr32, shl32, List.getD_cons_zero, List.getD_cons_succ, List.length_set, List.set_cons_zero, List.set_cons_succ, strA_length, strA_at, hp0, List.length_cons]
          refine x_callP (hNR) c_NatRead (by simp [evA, upd_app, ofVal, ofCell]) (by simp [AV.pure, AV.pureL, natA_pure, natI_pure, natS_pure]) (by simp [AV.pure, AV.pureL, natA_pure, natI_pure, natS_pure]) ?_
          simp (disch := omega) only [go_sem, ↓k_cond, ↓x_idx, ↓k_block, Nat.reduceEqDiff, ↓reduceIte, reduceCtorEq, if_pos, if_neg, decide_eq_true, decide_eq_false, beqT, beqF, bneT, bneF, wrapI, wrapU32, wrapU64, wrapU8, nc_add, nc_addL, nc_addR, nc_mul, nc_mulL, nc_mulR, nc_div, nc_divL, nc_mod, nc_modL, nc_1, nc_sub1, natA_at, natA_put, eatH_one, Int.toNat_natCast, Option.map_some, shr32, shl32, List.getD_cons_zero, List.getD_cons_succ, List.length_set, List.set_cons_zero, List.set_cons_succ, natS, List.length_cons, List.length_nil, e0]
          rw [← hQ]
          exact hgood _ false (natS v) (.sl 2 [.int .i64 1] [] true) (false, v, 1) (by first | (simp only [upd_app, ↓reduceIte, Nat.reduceEqDiff]; done) | (simp [upd_app]; done) | (simp [upd_app]; omega)) (by simp [upd_app]) (by simp [upd_app, natS]) (by first | (simp only [upd_app, ↓reduceIte, Nat.reduceEqDiff]; done) | (simp [upd_app]; done) | (simp [upd_app]; omega)) (by simp) rfl
        · rw [hf] at hpq
          simp only at hpq
          obtain ⟨e, he⟩ : ∃ e, B.drop (j + 1) = e := ⟨_, rfl⟩
          rw [he] at hpq hPj
          have hel : e.length ≤ B.length := by rw [← he]; simp
          have hPe : P1 = [e] := by
            rcases splitM_find e with ⟨_, h⟩ | ⟨k, _, h⟩
            · rw [hPj, h]
            · exfalso
              rw [hPj, h] at hP2
              have := splitM_ne 47 (e.drop (k + 1))
              cases hs' : splitM 47 (e.drop (k + 1)) with
              | nil => exact this hs'
              | cons a b => rw [hs'] at hP2; simp at hP2
          subst hPe
          have hp1 : [D, e][Int.toNat 1]? = some e := rfl
          have hdig2 := s_Digits e (by omega)
          cases hte : tokD e with
          | false =>
            rw [hte] at hpq hdig2
            simp only [Bool.false_eq_true, false_and, if_false] at hpq
            (refine callOk_of_wpc (W := fun _ => false) false hm' Tryd.func15 rfl (by kernel_rfl) (Nat.le_of_ble_eq_true rfl) (go_start ?_); generalize hQ : Post Tryd.prog Tryd.f15 _ _ _ _ _ = Q; simp only [stIn, matL, matA, st00])
            simp (disch := omega) only [go_sem, ↓k_cond, ↓x_idx, ↓k_block, Nat.reduceEqDiff, ↓reduceIte, reduceCtorEq, if_pos, if_neg, decide_eq_true, decide_eq_false, beqT, beqF, bneT, bneF, wrapI, wrapU32, wrapU64, wrapU8, nc_add, nc_addL, nc_addR, nc_mul, nc_mulL, nc_mulR, nc_div, nc_divL, nc_mod, nc_modL, nc_1, nc_sub1, natA_at, natA_put, eatH_one, Int.toNat_natCast, Option.map_some, shr32, shl32, List.getD_cons_zero, List.getD_cons_succ, List.length_set, List.set_cons_zero, List.set_cons_succ, zeroI, e0, hc0']
            refine x_callP (hCut) c_sCut01 (by simp [evA, upd_app, ofVal, ofCell]) (by simp [AV.pure, AV.pureL, natA_pure, natI_pure, natS_pure]) (by simp [AV.pure, AV.pureL, natA_pure, natI_pure, natS_pure]) ?_
            simp (disch := omega) only [go_sem, ↓k_cond, ↓x_idx, ↓k_block, Nat.reduceEqDiff, ↓reduceIte, reduceCtorEq, if_pos, if_neg, decide_eq_true, decide_eq_false, beqT, beqF, bneT, bneF, wrapI, wrapU32, wrapU64, wrapU8, nc_add, nc_addL, nc_addR, nc_mul, nc_mulL, nc_mulR, nc_div, nc_divL, nc_mod, nc_modL, nc_1, nc_sub1, natA_at, natA_put, eatH_one, Int.toNat_natCast, Option.map_some, shr32, shl32, List.getD_cons_zero, List.getD_cons_succ, List.length_set, List.set_cons_zero, List.set_cons_succ, strA_length, strA_at, hp0, List.length_cons]
            refine x_callP (hdig) c_Digits (by simp [evA, upd_app, ofVal, ofCell]) (by simp [AV.pure, AV.pureL, natA_pure, natI_pure, natS_pure]) (by simp [AV.pure, AV.pureL, natA_pure, natI_pure, natS_pure]) ?_
            simp (disch := omega) only [go_sem, ↓k_cond, ↓x_idx, ↓k_block, Nat.reduceEqDiff, ↓reduceIte, reduceCtorEq, if_pos, if_neg, decide_eq_true, decide_eq_false, beqT, beqF, bneT, bneF, wrapI, wrapU32, wrapU64, wrapU8, nc_add, nc_addL, nc_addR, nc_mul, nc_mulL, nc_mulR, nc_div, nc_divL, nc_mod, nc_modL, nc_1, nc_sub1, natA_at, natA_put, eatH_one, Int.toNat_natCast, Option.map_some, shr32, shl32, List.getD_cons_zero, List.getD_cons_succ, List.length_set, List.set_cons_zero, List.set_cons_succ, strA_length, strA_at, hp0, List.length_cons]
            refine x_callP (hNR) c_NatRead (by simp [evA, upd_app, ofVal, ofCell]) (by simp [AV.pure, AV.pureL, natA_pure, natI_pure, natS_pure]) (by simp [AV.pure, AV.pureL, natA_pure, natI_pure, natS_pure]) ?_
            simp (disch := omega) only [go_sem, ↓k_cond, ↓x_idx, ↓k_block, Nat.reduceEqDiff, ↓reduceIte, reduceCtorEq, if_pos, if_neg, decide_eq_true, decide_eq_false, beqT, beqF, bneT, bneF, wrapI, wrapU32, wrapU64, wrapU8, nc_add, nc_addL, nc_addR, nc_mul, nc_mulL, nc_mulR, nc_div, nc_divL, nc_mod, nc_modL, nc_1, nc_sub1, natA_at, natA_put, eatH_one, Int.toNat_natCast, Option.map_some, shr32, shl32, List.getD_cons_zero, List.getD_cons_succ, List.length_set, List.set_cons_zero, List.set_cons_succ, natS, List.length_cons, List.length_nil, strA_length, strA_at, hp1]
            refine x_callP (hdig2) c_Digits (by simp [evA, upd_app, ofVal, ofCell]) (by simp [AV.pure, AV.pureL, natA_pure, natI_pure, natS_pure]) (by simp [AV.pure, AV.pureL, natA_pure, natI_pure, natS_pure]) ?_
            simp (disch := omega) only [go_sem, ↓k_cond, ↓x_idx, ↓k_block, Nat.reduceEqDiff, ↓reduceIte, reduceCtorEq, if_pos, if_neg, decide_eq_true, decide_eq_false, beqT, beqF, bneT, bneF, wrapI, wrapU32, wrapU64, wrapU8, nc_add, nc_addL, nc_addR, nc_mul, nc_mulL, nc_mulR, nc_div, nc_divL, nc_mod, nc_modL, nc_1, nc_sub1, natA_at, natA_put, eatH_one, Int.toNat_natCast, Option.map_some, shr32, shl32, List.getD_cons_zero, List.getD_cons_succ, List.length_set, List.set_cons_zero, List.set_cons_succ, e0]
            rw [← hQ]
            exact hfail _ (by first | (simp only [upd_app, ↓reduceIte, Nat.reduceEqDiff]; done) | (simp [upd_app]; done) | (simp [upd_app]; omega)) (by simp [upd_app]) (by simp [upd_app, zeroI]) (by first | (simp only [upd_app, ↓reduceIte, Nat.reduceEqDiff]; done) | (simp [upd_app]; done) | (simp [upd_app]; omega)) hpq
          | true =>
            have htl2 : (enc B9 (dval e)).length ≤ 200 := by
              obtain ⟨_, b, c⟩ := tok_len hte
              exact Nat.le_trans (dval_enc (by decide) c) b
            rw [hte] at hpq hdig2
            simp only [true_and] at hpq
            have hNR2 := s_NatRead e (tok_len hte).2.2 (by omega)
            obtain ⟨u, hu⟩ : ∃ u, dval e = u := ⟨_, rfl⟩
            rw [hu] at hNR2 hpq htl2
            have hcmp := (s_Cmp hm' u 1 (by omega) (by omega)).args (SubL.cons (Sub.refl _) (SubL.cons (show Sub Tryd.prog (.sl 2 [.int .i64 1] [] true) (natS 1) by rw [oneS]; exact sub_sl) .nil))
            have hgcd := s_Gcd v u (by omega) (by omega)
            by_cases hu1 : 1 < u
            · rw [cmpI_gt hu1] at hcmp
              obtain ⟨g, hg⟩ : ∃ g, Nat.gcd v u = g := ⟨_, rfl⟩
              rw [hg] at hgcd
              simp only [hg, hu1, true_and] at hpq
              have hgu : g ≤ u := by rw [← hg]; exact Nat.gcd_le_right v (by omega)
              have hgl := enc_len_mono B9_gt hgu
              have hcg := (s_Cmp hm' g 1 (by omega) (by omega)).args (SubL.cons (Sub.refl _) (SubL.cons (show Sub Tryd.prog (.sl 2 [.int .i64 1] [] true) (natS 1) by rw [oneS]; exact sub_sl) .nil))
              by_cases hg1 : g = 1
              · subst hg1
                rw [cmpI_eq] at hcg
                simp only [if_true] at hpq
                have hres : parseV s = .tup [ratS (false, v, u), .bool true] := by rw [parseV, hpq]
                rw [hres]
                (refine callOk_of_wpc (W := fun _ => false) false hm' Tryd.func15 rfl (by kernel_rfl) (Nat.le_of_ble_eq_true rfl) (go_start ?_); generalize hQ : Post Tryd.prog Tryd.f15 _ _ _ _ _ = Q; simp only [stIn, matL, matA, st00])
                simp (disch := omega) only [go_sem, ↓k_cond, ↓x_idx, ↓k_block, Nat.reduceEqDiff, ↓reduceIte, reduceCtorEq, if_pos, if_neg, decide_eq_true, decide_eq_false, beqT, beqF, bneT, bneF, wrapI, wrapU32, wrapU64, wrapU8, nc_add, nc_addL, nc_addR, nc_mul, nc_mulL, nc_mulR, nc_div, nc_divL, nc_mod, nc_modL, nc_1, nc_sub1, natA_at, natA_put, eatH_one, Int.toNat_natCast, Option.map_some, shr32, shl32, List.getD_cons_zero, List.getD_cons_succ, List.length_set, List.set_cons_zero, List.set_cons_succ, zeroI, e0, hc0']
                refine x_callP (hCut) c_sCut01 (by simp [evA, upd_app, ofVal, ofCell]) (by simp [AV.pure, AV.pureL, natA_pure, natI_pure, natS_pure]) (by simp [AV.pure, AV.pureL, natA_pure, natI_pure, natS_pure]) ?_
                simp (disch := omega) only [go_sem, ↓k_cond, ↓x_idx, ↓k_block, Nat.reduceEqDiff, ↓reduceIte, reduceCtorEq, if_pos, if_neg, decide_eq_true, decide_eq_false, beqT, beqF, bneT, bneF, wrapI, wrapU32, wrapU64, wrapU8, nc_add, nc_addL, nc_addR, nc_mul, nc_mulL, nc_mulR, nc_div, nc_divL, nc_mod, nc_modL, nc_1, nc_sub1, natA_at, natA_put, eatH_one, Int.toNat_natCast, Option.map_some, shr32, shl32, List.getD_cons_zero, List.getD_cons_succ, List.length_set, List.set_cons_zero, List.set_cons_succ, strA_length, strA_at, hp0, List.length_cons]
                refine x_callP (hdig) c_Digits (by simp [evA, upd_app, ofVal, ofCell]) (by simp [AV.pure, AV.pureL, natA_pure, natI_pure, natS_pure]) (by simp [AV.pure, AV.pureL, natA_pure, natI_pure, natS_pure]) ?_
                simp (disch := omega) only [go_sem, ↓k_cond, ↓x_idx, ↓k_block, Nat.reduceEqDiff, ↓reduceIte, reduceCtorEq, if_pos, if_neg, decide_eq_true, decide_eq_false, beqT, beqF, bneT, bneF, wrapI, wrapU32, wrapU64, wrapU8, nc_add, nc_addL, nc_addR, nc_mul, nc_mulL, nc_mulR, nc_div, nc_divL, nc_mod, nc_modL, nc_1, nc_sub1, natA_at, natA_put, eatH_one, Int.toNat_natCast, Option.map_some, shr32, shl32, List.getD_cons_zero, List.getD_cons_succ, List.length_set, List.set_cons_zero, List.set_cons_succ, strA_length, strA_at, hp0, List.length_cons]
                refine x_callP (hNR) c_NatRead (by simp [evA, upd_app, ofVal, ofCell]) (by simp [AV.pure, AV.pureL, natA_pure, natI_pure, natS_pure]) (by simp [AV.pure, AV.pureL, natA_pure, natI_pure, natS_pure]) ?_
                simp (disch := omega) only [go_sem, ↓k_cond, ↓x_idx, ↓k_block, Nat.reduceEqDiff, ↓reduceIte, reduceCtorEq, if_pos, if_neg, decide_eq_true, decide_eq_false, beqT, beqF, bneT, bneF, wrapI, wrapU32, wrapU64, wrapU8, nc_add, nc_addL, nc_addR, nc_mul, nc_mulL, nc_mulR, nc_div, nc_divL, nc_mod, nc_modL, nc_1, nc_sub1, natA_at, natA_put, eatH_one, Int.toNat_natCast, Option.map_some, shr32, shl32, List.getD_cons_zero, List.getD_cons_succ, List.length_set, List.set_cons_zero, List.set_cons_succ, natS, List.length_cons, List.length_nil, strA_length, strA_at, hp1]
                refine x_callP (hdig2) c_Digits (by simp [evA, upd_app, ofVal, ofCell]) (by simp [AV.pure, AV.pureL, natA_pure, natI_pure, natS_pure]) (by simp [AV.pure, AV.pureL, natA_pure, natI_pure, natS_pure]) ?_
                simp (disch := omega) only [go_sem, ↓k_cond, ↓x_idx, ↓k_block, Nat.reduceEqDiff, ↓reduceIte, reduceCtorEq, if_pos, if_neg, decide_eq_true, decide_eq_false, beqT, beqF, bneT, bneF, wrapI, wrapU32, wrapU64, wrapU8, nc_add, nc_addL, nc_addR, nc_mul, nc_mulL, nc_mulR, nc_div, nc_divL, nc_mod, nc_modL, nc_1, nc_sub1, natA_at, natA_put, eatH_one, Int.toNat_natCast, Option.map_some, shr32, shl32, List.getD_cons_zero, List.getD_cons_succ, List.length_set, List.set_cons_zero, List.set_cons_succ, strA_length, strA_at, hp1]
                refine x_callP (hNR2) c_NatRead (by simp [evA, upd_app, ofVal, ofCell]) (by simp [AV.pure, AV.pureL, natA_pure, natI_pure, natS_pure]) (by simp [AV.pure, AV.pureL, natA_pure, natI_pure, natS_pure]) ?_
                simp (disch := omega) only [go_sem, ↓k_cond, ↓x_idx, ↓k_block, Nat.reduceEqDiff, ↓reduceIte, reduceCtorEq, if_pos, if_neg, decide_eq_true, decide_eq_false, beqT, beqF, bneT, bneF, wrapI, wrapU32, wrapU64, wrapU8, nc_add, nc_addL, nc_addR, nc_mul, nc_mulL, nc_mulR, nc_div, nc_divL, nc_mod, nc_modL, nc_1, nc_sub1, natA_at, natA_put, eatH_one, Int.toNat_natCast, Option.map_some, shr32, shl32, List.getD_cons_zero, List.getD_cons_succ, List.length_set, List.set_cons_zero, List.set_cons_succ, natS]
                refine x_callP hcmp c_Cmp (by simp [evA, upd_app, natS]) (by simp [AV.pureL, AV.pure]) rfl ?_
                simp (disch := omega) only [go_sem, ↓k_cond, ↓x_idx, ↓k_block, Nat.reduceEqDiff, ↓reduceIte, reduceCtorEq, if_pos, if_neg, decide_eq_true, decide_eq_false, beqT, beqF, bneT, bneF, wrapI, wrapU32, wrapU64, wrapU8, nc_add, nc_addL, nc_addR, nc_mul, nc_mulL, nc_mulR, nc_div, nc_divL, nc_mod, nc_modL, nc_1, nc_sub1, natA_at, natA_put, eatH_one, Int.toNat_natCast, Option.map_some, shr32, shl32, List.getD_cons_zero, List.getD_cons_succ, List.length_set, List.set_cons_zero, List.set_cons_succ, natS]
                refine x_callP hgcd c_Gcd (by simp [evA, upd_app, natS]) (by simp [AV.pureL]) (by simp) ?_
                simp (disch := omega) only [go_sem, ↓k_cond, ↓x_idx, ↓k_block, Nat.reduceEqDiff, ↓reduceIte, reduceCtorEq, if_pos, if_neg, decide_eq_true, decide_eq_false, beqT, beqF, bneT, bneF, wrapI, wrapU32, wrapU64, wrapU8, nc_add, nc_addL, nc_addR, nc_mul, nc_mulL, nc_mulR, nc_div, nc_divL, nc_mod, nc_modL, nc_1, nc_sub1, natA_at, natA_put, eatH_one, Int.toNat_natCast, Option.map_some, shr32, shl32, List.getD_cons_zero, List.getD_cons_succ, List.length_set, List.set_cons_zero, List.set_cons_succ, natS]
                refine x_callP hcg c_Cmp (by simp [evA, upd_app, natS]) (by simp [AV.pureL, AV.pure]) rfl ?_
                simp (disch := omega) only [go_sem, ↓k_cond, ↓x_idx, ↓k_block, Nat.reduceEqDiff, ↓reduceIte, reduceCtorEq, if_pos, if_neg, decide_eq_true, decide_eq_false, beqT, beqF, bneT, bneF, wrapI, wrapU32, wrapU64, wrapU8, nc_add, nc_addL, nc_addR, nc_mul, nc_mulL, nc_mulR, nc_div, nc_divL, nc_mod, nc_modL, nc_1, nc_sub1, natA_at, natA_put, eatH_one, Int.toNat_natCast, Option.map_some, shr32, shl32, List.getD_cons_zero, List.getD_cons_succ, List.length_set, List.set_cons_zero, List.set_cons_succ, natS, e0]
                rw [← hQ]
                exact hgood _ false (natS v) (natS u) (false, v, u) (by first | (simp only [upd_app, ↓reduceIte, Nat.reduceEqDiff]; done) | (simp [upd_app]; done) | (simp [upd_app]; omega)) (by simp [upd_app]) (by simp [upd_app, natS]) (by first | (simp only [upd_app, ↓reduceIte, Nat.reduceEqDiff]; done) | (simp [upd_app]; done) | (simp [upd_app]; omega)) (by simp) (by simp)
              · have hcn : cmpI g 1 ≠ 0 := by
                  rcases Nat.lt_trichotomy g 1 with h | h | h
                  · rw [cmpI_lt h]; decide
                  · exact absurd h hg1
                  · rw [cmpI_gt h]; decide
                rw [if_neg hg1] at hpq
                (refine callOk_of_wpc (W := fun _ => false) false hm' Tryd.func15 rfl (by kernel_rfl) (Nat.le_of_ble_eq_true rfl) (go_start ?_); generalize hQ : Post Tryd.prog Tryd.f15 _ _ _ _ _ = Q; simp only [stIn, matL, matA, st00])
                simp (disch := omega) only [go_sem, ↓k_cond, ↓x_idx, ↓k_block, Nat.reduceEqDiff, ↓reduceIte, reduceCtorEq, if_pos, if_neg, decide_eq_true, decide_eq_false, beqT, beqF, bneT, bneF, wrapI, wrapU32, wrapU64, wrapU8, nc_add, nc_addL, nc_addR, nc_mul, nc_mulL, nc_mulR, nc_div, nc_divL, nc_mod, nc_modL, nc_1, nc_sub1, natA_at, natA_put, eatH_one, Int.toNat_natCast, Option.map_some, shr32, shl32, List.getD_cons_zero, List.getD_cons_succ, List.length_set, List.set_cons_zero, List.set_cons_succ, zeroI, e0, hc0']
                refine x_callP (hCut) c_sCut01 (by simp [evA, upd_app, ofVal, ofCell]) (by simp [AV.pure, AV.pureL, natA_pure, natI_pure, natS_pure]) (by simp [AV.pure, AV.pureL, natA_pure, natI_pure, natS_pure]) ?_
                simp (disch := omega) only [go_sem, ↓k_cond, ↓x_idx, ↓k_block, Nat.reduceEqDiff, ↓reduceIte, reduceCtorEq, if_pos, if_neg, decide_eq_true, decide_eq_false, beqT, beqF, bneT, bneF, wrapI, wrapU32, wrapU64, wrapU8, nc_add, nc_addL, nc_addR, nc_mul, nc_mulL, nc_mulR, nc_div, nc_divL, nc_mod, nc_modL, nc_1, nc_sub1, natA_at, natA_put, eatH_one, Int.toNat_natCast, Option.map_some, shr32, shl32, List.getD_cons_zero, List.getD_cons_succ, List.length_set, List.set_cons_zero, List.set_cons_succ, strA_length, strA_at, hp0, List.length_cons]
                refine x_callP (hdig) c_Digits (by simp [evA, upd_app, ofVal, ofCell]) (by simp [AV.pure, AV.pureL, natA_pure, natI_pure, natS_pure]) (by simp [AV.pure, AV.pureL, natA_pure, natI_pure, natS_pure]) ?_
                simp (disch := omega) only [go_sem, ↓k_cond, ↓x_idx, ↓k_block, Nat.reduceEqDiff, ↓reduceIte, reduceCtorEq, if_pos, if_neg, decide_eq_true, decide_eq_false, beqT, beqF, bneT, bneF, wrapI, wrapU32, wrapU64, wrapU8, nc_add, nc_addL, nc_addR, nc_mul, nc_mulL, nc_mulR, nc_div, nc_divL, nc_mod, nc_modL, nc_1, nc_sub1, natA_at, natA_put, eatH_one, Int.toNat_natCast, Option.map_some, shr32, shl32, List.getD_cons_zero, List.getD_cons_succ, List.length_set, List.set_cons_zero, List.set_cons_succ, strA_length, strA_at, hp0, List.length_cons]
                refine x_callP (hNR) c_NatRead (by simp [evA, upd_app, ofVal, ofCell]) (by simp [AV.pure, AV.pureL, natA_pure, natI_pure, natS_pure]) (by simp [AV.pure, AV.pureL, natA_pure, natI_pure, natS_pure]) ?_
                simp (disch := omega) only [go_sem, ↓k_cond, ↓x_idx, ↓k_block, Nat.reduceEqDiff, ↓reduceIte, reduceCtorEq, if_pos, if_neg, decide_eq_true, decide_eq_false, beqT, beqF, bneT, bneF, wrapI, wrapU32, wrapU64, wrapU8, nc_add, nc_addL, nc_addR, nc_mul, nc_mulL, nc_mulR, nc_div, nc_divL, nc_mod, nc_modL, nc_1, nc_sub1, natA_at, natA_put, eatH_one, Int.toNat_natCast, Option.map_some, shr32, shl32, List.getD_cons_zero, List.getD_cons_succ, List.length_set, List.set_cons_zero, List.set_cons_succ, natS, List.length_cons, List.length_nil, strA_length, strA_at, hp1]
                refine x_callP (hdig2) c_Digits (by simp [evA, upd_app, ofVal, ofCell]) (by simp [AV.pure, AV.pureL, natA_pure, natI_pure, natS_pure]) (by simp [AV.pure, AV.pureL, natA_pure, natI_pure, natS_pure]) ?_
                simp (disch := omega) only [go_sem, ↓k_cond, ↓x_idx, ↓k_block, Nat.reduceEqDiff, ↓reduceIte, reduceCtorEq, if_pos, if_neg, decide_eq_true, decide_eq_false, beqT, beqF, bneT, bneF, wrapI, wrapU32, wrapU64, wrapU8, nc_add, nc_addL, nc_addR, nc_mul, nc_mulL, nc_mulR, nc_div, nc_divL, nc_mod, nc_modL, nc_1, nc_sub1, natA_at, natA_put, eatH_one, Int.toNat_natCast, Option.map_some, shr32, shl32, List.getD_cons_zero, List.getD_cons_succ, List.length_set, List.set_cons_zero, List.set_cons_succ, strA_length, strA_at, hp1]
                refine x_callP (hNR2) c_NatRead (by simp [evA, upd_app, ofVal, ofCell]) (by simp [AV.pure, AV.pureL, natA_pure, natI_pure, natS_pure]) (by simp [AV.pure, AV.pureL, natA_pure, natI_pure, natS_pure]) ?_
                simp (disch := omega) only [go_sem, ↓k_cond, ↓x_idx, ↓k_block, Nat.reduceEqDiff, ↓reduceIte, reduceCtorEq, if_pos, if_neg, decide_eq_true, decide_eq_false, beqT, beqF, bneT, bneF, wrapI, wrapU32, wrapU64, wrapU8, nc_add, nc_addL, nc_addR, nc_mul, nc_mulL, nc_mulR, nc_div, nc_divL, nc_mod, nc_modL, nc_1, nc_sub1, natA_at, natA_put, eatH_one, Int.toNat_natCast, Option.map_some, shr32, shl32, List.getD_cons_zero, List.getD_cons_succ, List.length_set, List.set_cons_zero, List.set_cons_succ, natS]
                refine x_callP hcmp c_Cmp (by simp [evA, upd_app, natS]) (by simp [AV.pureL, AV.pure]) rfl ?_
                simp (disch := omega) only [go_sem, ↓k_cond, ↓x_idx, ↓k_block, Nat.reduceEqDiff, ↓reduceIte, reduceCtorEq, if_pos, if_neg, decide_eq_true, decide_eq_false, beqT, beqF, bneT, bneF, wrapI, wrapU32, wrapU64, wrapU8, nc_add, nc_addL, nc_addR, nc_mul, nc_mulL, nc_mulR, nc_div, nc_divL, nc_mod, nc_modL, nc_1, nc_sub1, natA_at, natA_put, eatH_one, Int.toNat_natCast, Option.map_some, shr32, shl32, List.getD_cons_zero, List.getD_cons_succ, List.length_set, List.set_cons_zero, List.set_cons_succ, natS]
                refine x_callP hgcd c_Gcd (by simp [evA, upd_app, natS]) (by simp [AV.pureL]) (by simp) ?_
                simp (disch := omega) only [go_sem, ↓k_cond, ↓x_idx, ↓k_block, Nat.reduceEqDiff, ↓reduceIte, reduceCtorEq, if_pos, if_neg, decide_eq_true, decide_eq_false, beqT, beqF, bneT, bneF, wrapI, wrapU32, wrapU64, wrapU8, nc_add, nc_addL, nc_addR, nc_mul, nc_mulL, nc_mulR, nc_div, nc_divL, nc_mod, nc_modL, nc_1, nc_sub1, natA_at, natA_put, eatH_one, Int.toNat_natCast, Option.map_some, shr32, shl32, List.getD_cons_zero, List.getD_cons_succ, List.length_set, List.set_cons_zero, List.set_cons_succ, natS]
                refine x_callP hcg c_Cmp (by simp [evA, upd_app, natS]) (by simp [AV.pureL, AV.pure]) rfl ?_
                simp (disch := omega) only [go_sem, ↓k_cond, ↓x_idx, ↓k_block, Nat.reduceEqDiff, ↓reduceIte, reduceCtorEq, if_pos, if_neg, decide_eq_true, decide_eq_false, beqT, beqF, bneT, bneF, wrapI, wrapU32, wrapU64, wrapU8, nc_add, nc_addL, nc_addR, nc_mul, nc_mulL, nc_mulR, nc_div, nc_divL, nc_mod, nc_modL, nc_1, nc_sub1, natA_at, natA_put, eatH_one, Int.toNat_natCast, Option.map_some, shr32, shl32, List.getD_cons_zero, List.getD_cons_succ, List.length_set, List.set_cons_zero, List.set_cons_succ, e0]
                rw [← hQ]
                exact hfail _ (by first | (simp only [upd_app, ↓reduceIte, Nat.reduceEqDiff]; done) | (simp [upd_app]; done) | (simp [upd_app]; omega)) (by simp [upd_app]) (by simp [upd_app, zeroI]) (by first | (simp only [upd_app, ↓reduceIte, Nat.reduceEqDiff]; done) | (simp [upd_app]; done) | (simp [upd_app]; omega)) hpq
            · have hc1 : cmpI u 1 ≤ 0 := by
                rcases Nat.lt_or_ge u 1 with h | h
                · rw [cmpI_lt h]; decide
                · rw [show u = 1 by omega, cmpI_eq]; decide
              rw [if_neg (fun h => hu1 h.1)] at hpq
              (refine callOk_of_wpc (W := fun _ => false) false hm' Tryd.func15 rfl (by kernel_rfl) (Nat.le_of_ble_eq_true rfl) (go_start ?_); generalize hQ : Post Tryd.prog Tryd.f15 _ _ _ _ _ = Q; simp only [stIn, matL, matA, st00])
              simp (disch := omega) only [go_sem, ↓k_cond, ↓x_idx, ↓k_block, Nat.reduceEqDiff, ↓reduceIte, reduceCtorEq, if_pos, if_neg, decide_eq_true, decide_eq_false, beqT, beqF, bneT, bneF, wrapI, wrapU32, wrapU64, wrapU8, nc_add, nc_addL, nc_addR, nc_mul, nc_mulL, nc_mulR, nc_div, nc_divL, nc_mod, nc_modL, nc_1, nc_sub1, natA_at, natA_put, eatH_one, Int.toNat_natCast, Option.map_some, shr32, shl32, List.getD_cons_zero, List.getD_cons_succ, List.length_set, List.set_cons_zero, List.set_cons_succ, zeroI, e0, hc0']
              refine x_callP (hCut) c_sCut01 (by simp [evA, upd_app, ofVal, ofCell]) (by simp [AV.pure, AV.pureL, natA_pure, natI_pure, natS_pure]) (by simp [AV.pure, AV.pureL, natA_pure, natI_pure, natS_pure]) ?_
              simp (disch := omega) only [go_sem, ↓k_cond, ↓x_idx, ↓k_block, Nat.reduceEqDiff, ↓reduceIte, reduceCtorEq, if_pos, if_neg, decide_eq_true, decide_eq_false, beqT, beqF, bneT, bneF, wrapI, wrapU32, wrapU64, wrapU8, nc_add, nc_addL, nc_addR, nc_mul, nc_mulL, nc_mulR, nc_div, nc_divL, nc_mod, nc_modL, nc_1, nc_sub1, natA_at, natA_put, eatH_one, Int.toNat_natCast, Option.map_some, shr32, shl32, List.getD_cons_zero, List.getD_cons_succ, List.length_set, List.set_cons_zero, List.set_cons_succ, strA_length, strA_at, hp0, List.length_cons]
              refine x_callP (hdig) c_Digits (by simp [evA, upd_app, ofVal, ofCell]) (by simp [AV.pure, AV.pureL, natA_pure, natI_pure, natS_pure]) (by simp [AV.pure, AV.pureL, natA_pure, natI_pure, natS_pure]) ?_
              simp (disch := omega) only [go_sem, ↓k_cond, ↓x_idx, ↓k_block, Nat.reduceEqDiff, ↓reduceIte, reduceCtorEq, if_pos, if_neg, decide_eq_true, decide_eq_false, beqT, beqF, bneT, bneF, wrapI, wrapU32, wrapU64, wrapU8, nc_add, nc_addL, nc_addR, nc_mul, nc_mulL, nc_mulR, nc_div, nc_divL, nc_mod, nc_modL, nc_1, nc_sub1, natA_at, natA_put, eatH_one, Int.toNat_natCast, Option.map_some, shr32, shl32, List.getD_cons_zero, List.getD_cons_succ, List.length_set, List.set_cons_zero, List.set_cons_succ, strA_length, strA_at, hp0, List.length_cons]
              refine x_callP (hNR) c_NatRead (by simp [evA, upd_app, ofVal, ofCell]) (by simp [AV.pure, AV.pureL, natA_pure, natI_pure, natS_pure]) (by simp [AV.pure, AV.pureL, natA_pure, natI_pure, natS_pure]) ?_
              simp (disch := omega) only [go_sem, ↓k_cond, ↓x_idx, ↓k_block, Nat.reduceEqDiff, ↓reduceIte, reduceCtorEq, if_pos, if_neg, decide_eq_true, decide_eq_false, beqT, beqF, bneT, bneF, wrapI, wrapU32, wrapU64, wrapU8, nc_add, nc_addL, nc_addR, nc_mul, nc_mulL, nc_mulR, nc_div, nc_divL, nc_mod, nc_modL, nc_1, nc_sub1, natA_at, natA_put, eatH_one, Int.toNat_natCast, Option.map_some, shr32, shl32, List.getD_cons_zero, List.getD_cons_succ, List.length_set, List.set_cons_zero, List.set_cons_succ, natS, List.length_cons, List.length_nil, strA_length, strA_at, hp1]
              refine x_callP (hdig2) c_Digits (by simp [evA, upd_app, ofVal, ofCell]) (by simp [AV.pure, AV.pureL, natA_pure, natI_pure, natS_pure]) (by simp [AV.pure, AV.pureL, natA_pure, natI_pure, natS_pure]) ?_
              simp (disch := omega) only [go_sem, ↓k_cond, ↓x_idx, ↓k_block, Nat.reduceEqDiff, ↓reduceIte, reduceCtorEq, if_pos, if_neg, decide_eq_true, decide_eq_false, beqT, beqF, bneT, bneF, wrapI, wrapU32, wrapU64, wrapU8, nc_add, nc_addL, nc_addR, nc_mul, nc_mulL, nc_mulR, nc_div, nc_divL, nc_mod, nc_modL, nc_1, nc_sub1, natA_at, natA_put, eatH_one, Int.toNat_natCast, Option.map_some, shr32, shl32, List.getD_cons_zero, List.getD_cons_succ, List.length_set, List.set_cons_zero, List.set_cons_succ, strA_length, strA_at, hp1]
              refine x_callP (hNR2) c_NatRead (by simp [evA, upd_app, ofVal, ofCell]) (by simp [AV.pure, AV.pureL, natA_pure, natI_pure, natS_pure]) (by simp [AV.pure, AV.pureL, natA_pure, natI_pure, natS_pure]) ?_
              simp (disch := omega) only [go_sem, ↓k_cond, ↓x_idx, ↓k_block, Nat.reduceEqDiff, ↓reduceIte, reduceCtorEq, if_pos, if_neg, decide_eq_true, decide_eq_false, beqT, beqF, bneT, bneF, wrapI, wrapU32, wrapU64, wrapU8, nc_add, nc_addL, nc_addR, nc_mul, nc_mulL, nc_mulR, nc_div, nc_divL, nc_mod, nc_modL, nc_1, nc_sub1, natA_at, natA_put, eatH_one, Int.toNat_natCast, Option.map_some, shr32, shl32, List.getD_cons_zero, List.getD_cons_succ, List.length_set, List.set_cons_zero, List.set_cons_succ, natS]
              refine x_callP hcmp c_Cmp (by simp [evA, upd_app, natS]) (by simp [AV.pureL, AV.pure]) rfl ?_
              simp (disch := omega) only [go_sem, ↓k_cond, ↓x_idx, ↓k_block, Nat.reduceEqDiff, ↓reduceIte, reduceCtorEq, if_pos, if_neg, decide_eq_true, decide_eq_false, beqT, beqF, bneT, bneF, wrapI, wrapU32, wrapU64, wrapU8, nc_add, nc_addL, nc_addR, nc_mul, nc_mulL, nc_mulR, nc_div, nc_divL, nc_mod, nc_modL, nc_1, nc_sub1, natA_at, natA_put, eatH_one, Int.toNat_natCast, Option.map_some, shr32, shl32, List.getD_cons_zero, List.getD_cons_succ, List.length_set, List.set_cons_zero, List.set_cons_succ, e0]
              rw [← hQ]
              exact hfail _ (by first | (simp only [upd_app, ↓reduceIte, Nat.reduceEqDiff]; done) | (simp [upd_app]; done) | (simp [upd_app]; omega)) (by simp [upd_app]) (by simp [upd_app, zeroI]) (by first | (simp only [upd_app, ↓reduceIte, Nat.reduceEqDiff]; done) | (simp [upd_app]; done) | (simp [upd_app]; omega)) hpq
end Go.Proofs.YtogabejpbdmnnaaDoor

/- The reference reads lists of fractions, and series. -/
set_option linter.unusedSimpArgs false
set_option linter.unusedVariables false
namespace Go.Proofs.YtogabejpbdmnnaaDoor
open Go

theorem c_List : callable Tryd.prog 13 = true := by kernel_rfl
theorem c_l08Parse : callable Tryd.prog 9 = true := by kernel_rfl
theorem cs_IsSeries : callable Tryd.prog 5 = true := by kernel_rfl
def ratsS (qs : List Qd) : AV := .sl 36 (qs.map ratS) [] false
def listS (o : Option (List Qd)) : AV := match o with | some qs => .tup [ratsS qs, .bool true] | none => .tup [.nil, .bool false]
theorem ratsS_pure (qs : List Qd) : AV.pureL (qs.map ratS) = true := by induction qs <;> simp_all [AV.pureL]
@[simp] theorem ratsSl_pure (qs : List Qd) : (ratsS qs).pure = true := by simp [ratsS, AV.pure, AV.pureL, ratsS_pure]
theorem s_List (xs : List (List UInt8)) (hl : xs.length < 9223372036854775808) (hs : ∀ x ∈ xs, x.length ≤ 1000000) : CallOk Tryd.prog 13 [.sl 9 (strA xs) [] false] (listS (listQ xs)) [] := by
  by_cases h300 : 300 < xs.length
  · rw [listQ, if_pos h300]
    (refine callOk_of_wpc (W := fun _ => false) false hm' Tryd.func13 rfl (by kernel_rfl) (Nat.le_of_ble_eq_true rfl) (go_start ?_); generalize hQ : Post Tryd.prog Tryd.f13 _ _ _ _ _ = Q; simp only [stIn, matL, matA, st00])
    simp (disch := omega) only [go_sem, ↓k_cond, ↓x_idx, ↓k_block, Nat.reduceEqDiff, ↓reduceIte, reduceCtorEq, if_pos, if_neg, decide_eq_true, decide_eq_false, beqT, beqF, bneT, bneF, wrapI, wrapU32, wrapU64, wrapU8, nc_add, nc_addL, nc_addR, nc_mul, nc_mulL, nc_mulR, nc_div, nc_divL, nc_mod, nc_modL, nc_1, nc_sub1, natA_at, natA_put, eatH_one, Int.toNat_natCast, Option.map_some, shr32, shl32, List.getD_cons_zero, List.getD_cons_succ, List.length_set, List.set_cons_zero, List.set_cons_succ, strA_length]
    rw [← hQ]
    exact post_two (.inl rfl) rfl (by first | (simp only [upd_app, ↓reduceIte, Nat.reduceEqDiff]; done) | (simp [upd_app]; done) | (simp [upd_app]; omega)) (by first | (simp only [upd_app, ↓reduceIte, Nat.reduceEqDiff]; done) | (simp [upd_app]; done) | (simp [upd_app]; omega)) rfl rfl
  rw [listQ, if_neg h300]
  obtain ⟨n, hn⟩ : ∃ n, xs.length = n := ⟨_, rfl⟩
  rw [hn] at h300 hl
  (refine callOk_of_wpc (W := fun _ => false) false hm' Tryd.func13 rfl (by kernel_rfl) (Nat.le_of_ble_eq_true rfl) (go_start ?_); generalize hQ : Post Tryd.prog Tryd.f13 _ _ _ _ _ = Q; simp only [stIn, matL, matA, st00])
  simp (disch := omega) only [go_sem, ↓k_cond, ↓x_idx, ↓k_block, Nat.reduceEqDiff, ↓reduceIte, reduceCtorEq, if_pos, if_neg, decide_eq_true, decide_eq_false, beqT, beqF, bneT, bneF, wrapI, wrapU32, wrapU64, wrapU8, nc_add, nc_addL, nc_addR, nc_mul, nc_mulL, nc_mulR, nc_div, nc_divL, nc_mod, nc_modL, nc_1, nc_sub1, natA_at, natA_put, eatH_one, Int.toNat_natCast, Option.map_some, shr32, shl32, List.getD_cons_zero, List.getD_cons_succ, List.length_set, List.set_cons_zero, List.set_cons_succ, strA_length, hn]
  obtain ⟨R, hR⟩ : ∃ R : Nat × List Qd → St → Prop, R = fun p st => st.fr 4 = .ref 0 p.2.length 0 p.2.length ∧ st.fr 0 = .sl 9 (strA xs) [] false ∧ st.fr 13 = .int .i64 n ∧ st.fr 14 = .int .i64 p.1 ∧ (∃ ex, st.h 0 = ⟨36, p.2.map ratS, ex, true, true⟩) ∧ 0 < st.nx ∧ p.1 ≤ n ∧ (xs.take p.1).mapM parseQ = some p.2 := ⟨_, rfl⟩
  refine k_loop R (fun p => n - p.1) (0, []) (by rw [hR]; exact ⟨(by first | (simp only [upd_app, ↓reduceIte, Nat.reduceEqDiff]; done) | (simp [upd_app]; done) | (simp [upd_app]; omega)), (by first | (simp only [upd_app, ↓reduceIte, Nat.reduceEqDiff]; done) | (simp [upd_app]; done) | (simp [upd_app]; omega)), (by first | (simp only [upd_app, ↓reduceIte, Nat.reduceEqDiff]; done) | (simp [upd_app]; done) | (simp [upd_app]; omega)), (by first | (simp only [upd_app, ↓reduceIte, Nat.reduceEqDiff]; done) | (simp [upd_app]; done) | (simp [upd_app]; omega)), ⟨true, by simp [upd_app]⟩, by simp, by simp, by simp⟩) ?_
  rintro ⟨i, qs⟩ ⟨fr, h, nx⟩ hst J hJ
  rw [hR] at hst
  obtain ⟨g4, g0, g13, g14, ⟨ex, hm⟩, hnx, hi, hq⟩ := hst
  simp only at g4 g0 g13 g14 hm hnx hi hq
  have hql : qs.length = i := by have := mapM_len hq; simp at this; omega
  have n1 : (0 = nx) = False := by simp; omega
  have n2 : (nx = 0) = False := by simp; omega
  have hml : (qs.map ratS).length = i := by simp [hql]
  by_cases hin : i < n
  · obtain ⟨x, hx⟩ := get_some (xs := xs) (i := i) (by omega)
    have hrd := s_Parse x (hs x (List.mem_of_getElem? hx))
    cases hp : parseQ x with
    | none =>
      rw [mapM_fail hx hp] at hQ
      simp only [parseV, hp] at hrd
      simp (disch := omega) only [go_sem, ↓k_cond, ↓x_idx, ↓k_block, Nat.reduceEqDiff, ↓reduceIte, reduceCtorEq, if_pos, if_neg, decide_eq_true, decide_eq_false, beqT, beqF, bneT, bneF, wrapI, wrapU32, wrapU64, wrapU8, nc_add, nc_addL, nc_addR, nc_mul, nc_mulL, nc_mulR, nc_div, nc_divL, nc_mod, nc_modL, nc_1, nc_sub1, natA_at, natA_put, eatH_one, Int.toNat_natCast, Option.map_some, shr32, shl32, List.getD_cons_zero, List.getD_cons_succ, List.length_set, List.set_cons_zero, List.set_cons_succ, g4, g0, g13, g14, strA_at, hx, strA_length, hn]
      refine x_callP (hrd) c_Parse (by simp [evA, upd_app, ofVal, ofCell, zeroI]) (by simp [AV.pure, AV.pureL, natA_pure, natI_pure, natS_pure]) (by simp [AV.pure, AV.pureL, natA_pure, natI_pure, natS_pure]) ?_
      simp (disch := omega) only [go_sem, ↓k_cond, ↓x_idx, ↓k_block, Nat.reduceEqDiff, ↓reduceIte, reduceCtorEq, if_pos, if_neg, decide_eq_true, decide_eq_false, beqT, beqF, bneT, bneF, wrapI, wrapU32, wrapU64, wrapU8, nc_add, nc_addL, nc_addR, nc_mul, nc_mulL, nc_mulR, nc_div, nc_divL, nc_mod, nc_modL, nc_1, nc_sub1, natA_at, natA_put, eatH_one, Int.toNat_natCast, Option.map_some, shr32, shl32, List.getD_cons_zero, List.getD_cons_succ, List.length_set, List.set_cons_zero, List.set_cons_succ, g4, g0, g13, g14, zeroI, el_sRat0, List.length_cons, List.length_nil, Nat.reduceAdd]
      rw [← hQ]
      exact post_two (.inl rfl) rfl (by first | (simp only [upd_app, ↓reduceIte, Nat.reduceEqDiff]; done) | (simp [upd_app]; done) | (simp [upd_app]; omega)) (by first | (simp only [upd_app, ↓reduceIte, Nat.reduceEqDiff]; done) | (simp [upd_app]; done) | (simp [upd_app]; omega)) rfl rfl
    | some q =>
      simp only [parseV, hp] at hrd
      have hmt := mapM_take hq hx hp
      have hfin : ∀ st : St, st.fr 4 = .ref 0 (i + 1) 0 (i + 1) → st.fr 0 = .sl 9 (strA xs) [] false → st.fr 13 = .int .i64 n → st.fr 14 = .int .i64 ((i + 1 : Nat) : Int) → (∃ ex, st.h 0 = ⟨36, qs.map ratS ++ [ratS q], ex, true, true⟩) → 0 < st.nx → J st := by
        intro st r4 r0 r13 r14 rh rn
        refine hJ (i + 1, qs ++ [q]) st ?_ (by simp only; omega)
        rw [hR]
        refine ⟨by simpa [hql] using r4, r0, r13, r14, by simpa using rh, rn, hin, hmt⟩
      clear hJ hmt hR hQ hq hs
      rw [hql] at g4
      simp (disch := omega) only [go_sem, ↓k_cond, ↓x_idx, ↓k_block, Nat.reduceEqDiff, ↓reduceIte, reduceCtorEq, if_pos, if_neg, decide_eq_true, decide_eq_false, beqT, beqF, bneT, bneF, wrapI, wrapU32, wrapU64, wrapU8, nc_add, nc_addL, nc_addR, nc_mul, nc_mulL, nc_mulR, nc_div, nc_divL, nc_mod, nc_modL, nc_1, nc_sub1, natA_at, natA_put, eatH_one, Int.toNat_natCast, Option.map_some, shr32, shl32, List.getD_cons_zero, List.getD_cons_succ, List.length_set, List.set_cons_zero, List.set_cons_succ, g4, g0, g13, g14, strA_at, hx, strA_length, hn]
      refine x_callP (hrd) c_Parse (by simp [evA, upd_app, ofVal, ofCell, zeroI]) (by simp [AV.pure, AV.pureL, natA_pure, natI_pure, natS_pure]) (by simp [AV.pure, AV.pureL, natA_pure, natI_pure, natS_pure]) ?_
      simp (disch := omega) only [go_sem, ↓k_cond, ↓x_idx, ↓k_block, Nat.reduceEqDiff, ↓reduceIte, reduceCtorEq, if_pos, if_neg, decide_eq_true, decide_eq_false, beqT, beqF, bneT, bneF, wrapI, wrapU32, wrapU64, wrapU8, nc_add, nc_addL, nc_addR, nc_mul, nc_mulL, nc_mulR, nc_div, nc_divL, nc_mod, nc_modL, nc_1, nc_sub1, natA_at, natA_put, eatH_one, Int.toNat_natCast, Option.map_some, shr32, shl32, List.getD_cons_zero, List.getD_cons_succ, List.length_set, List.set_cons_zero, List.set_cons_succ, g4, g0, g13, g14, ratS, natS, List.length_cons, List.length_nil, Nat.reduceAdd, List.take_succ_cons, List.take_zero, n1, n2, hm, hml, reach]
      exact hfin _ (by first | (simp only [upd_app, ↓reduceIte, Nat.reduceEqDiff]; done) | (simp [upd_app]; done) | (simp [upd_app]; omega)) (by first | (simp only [upd_app, ↓reduceIte, Nat.reduceEqDiff, g0]; done) | (simp [upd_app, g0]; done) | (simp [upd_app, g0]; omega)) (by first | (simp only [upd_app, ↓reduceIte, Nat.reduceEqDiff, g13]; done) | (simp [upd_app, g13]; done) | (simp [upd_app, g13]; omega)) (by first | (simp only [upd_app, ↓reduceIte, Nat.reduceEqDiff]; done) | (simp [upd_app]; done) | (simp [upd_app]; omega)) ⟨false, by simp [upd_app, n1, n2, hm, ratS, natS]⟩ (by simp)
  · obtain rfl : i = n := by omega
    rw [List.take_of_length_le (by omega)] at hq
    rw [hq] at hQ
    simp (disch := omega) only [go_sem, ↓k_cond, ↓x_idx, ↓k_block, Nat.reduceEqDiff, ↓reduceIte, reduceCtorEq, if_pos, if_neg, decide_eq_true, decide_eq_false, beqT, beqF, bneT, bneF, wrapI, wrapU32, wrapU64, wrapU8, nc_add, nc_addL, nc_addR, nc_mul, nc_mulL, nc_mulR, nc_div, nc_divL, nc_mod, nc_modL, nc_1, nc_sub1, natA_at, natA_put, eatH_one, Int.toNat_natCast, Option.map_some, shr32, shl32, List.getD_cons_zero, List.getD_cons_succ, List.length_set, List.set_cons_zero, List.set_cons_succ, g4, g0, g13, g14]
    rw [← hQ]
    have hfz : snapA (⟨_, h, nx⟩ : St) 7 (.ref 0 qs.length 0 qs.length) = some (.sl 36 (qs.map ratS) [] false, [0]) := snap_frozen (st := ⟨fr, h, nx⟩) (d := 6) (by simp [hm]) (by simp [hm]) (by simp [hm]) (by simp) (by simp [hm]; exact List.take_of_length_le (by simp)) (ratsS_pure qs)
    exact post_tup (.inl rfl) rfl (by first | (simp only [upd_app, ↓reduceIte, Nat.reduceEqDiff]; done) | (simp [upd_app]; done) | (simp [upd_app]; omega)) (by first | (simp only [upd_app, ↓reduceIte, Nat.reduceEqDiff]; done) | (simp [upd_app]; done) | (simp [upd_app]; omega)) hfz (snapA_pure rfl) (fun a _ => Nat.zero_le _) (.inl rfl)

theorem s_l08Parse (xs : List (List UInt8)) (hl : xs.length < 9223372036854775808) (hs : ∀ x ∈ xs, x.length ≤ 1000000) : CallOk Tryd.prog 9 [.sl 9 (strA xs) [] false] (listS (serQ xs)) [] := by
  by_cases h1 : xs.length < 1
  · rw [serQ, if_pos (.inl h1)]
    (refine callOk_of_wpc (W := fun _ => false) false hm' Tryd.func9 rfl (by kernel_rfl) (Nat.le_of_ble_eq_true rfl) (go_start ?_); generalize hQ : Post Tryd.prog Tryd.f9 _ _ _ _ _ = Q; simp only [stIn, matL, matA, st00])
    simp (disch := omega) only [go_sem, ↓k_cond, ↓x_idx, ↓k_block, Nat.reduceEqDiff, ↓reduceIte, reduceCtorEq, if_pos, if_neg, decide_eq_true, decide_eq_false, beqT, beqF, bneT, bneF, wrapI, wrapU32, wrapU64, wrapU8, nc_add, nc_addL, nc_addR, nc_mul, nc_mulL, nc_mulR, nc_div, nc_divL, nc_mod, nc_modL, nc_1, nc_sub1, natA_at, natA_put, eatH_one, Int.toNat_natCast, Option.map_some, shr32, shl32, List.getD_cons_zero, List.getD_cons_succ, List.length_set, List.set_cons_zero, List.set_cons_succ, strA_length]
    rw [← hQ]
    exact post_two (.inl rfl) rfl (by first | (simp only [upd_app, ↓reduceIte, Nat.reduceEqDiff]; done) | (simp [upd_app]; done) | (simp [upd_app]; omega)) (by first | (simp only [upd_app, ↓reduceIte, Nat.reduceEqDiff]; done) | (simp [upd_app]; done) | (simp [upd_app]; omega)) rfl rfl
  by_cases h2 : 13 < xs.length
  · rw [serQ, if_pos (.inr h2)]
    (refine callOk_of_wpc (W := fun _ => false) false hm' Tryd.func9 rfl (by kernel_rfl) (Nat.le_of_ble_eq_true rfl) (go_start ?_); generalize hQ : Post Tryd.prog Tryd.f9 _ _ _ _ _ = Q; simp only [stIn, matL, matA, st00])
    simp (disch := omega) only [go_sem, ↓k_cond, ↓x_idx, ↓k_block, Nat.reduceEqDiff, ↓reduceIte, reduceCtorEq, if_pos, if_neg, decide_eq_true, decide_eq_false, beqT, beqF, bneT, bneF, wrapI, wrapU32, wrapU64, wrapU8, nc_add, nc_addL, nc_addR, nc_mul, nc_mulL, nc_mulR, nc_div, nc_divL, nc_mod, nc_modL, nc_1, nc_sub1, natA_at, natA_put, eatH_one, Int.toNat_natCast, Option.map_some, shr32, shl32, List.getD_cons_zero, List.getD_cons_succ, List.length_set, List.set_cons_zero, List.set_cons_succ, strA_length]
    rw [← hQ]
    exact post_two (.inl rfl) rfl (by first | (simp only [upd_app, ↓reduceIte, Nat.reduceEqDiff]; done) | (simp [upd_app]; done) | (simp [upd_app]; omega)) (by first | (simp only [upd_app, ↓reduceIte, Nat.reduceEqDiff]; done) | (simp [upd_app]; done) | (simp [upd_app]; omega)) rfl rfl
  rw [serQ, if_neg (by omega)]
  have hr := s_List xs hl hs
  (refine callOk_of_wpc (W := fun _ => false) false hm' Tryd.func9 rfl (by kernel_rfl) (Nat.le_of_ble_eq_true rfl) (go_start ?_); generalize hQ : Post Tryd.prog Tryd.f9 _ _ _ _ _ = Q; simp only [stIn, matL, matA, st00])
  simp (disch := omega) only [go_sem, ↓k_cond, ↓x_idx, ↓k_block, Nat.reduceEqDiff, ↓reduceIte, reduceCtorEq, if_pos, if_neg, decide_eq_true, decide_eq_false, beqT, beqF, bneT, bneF, wrapI, wrapU32, wrapU64, wrapU8, nc_add, nc_addL, nc_addR, nc_mul, nc_mulL, nc_mulR, nc_div, nc_divL, nc_mod, nc_modL, nc_1, nc_sub1, natA_at, natA_put, eatH_one, Int.toNat_natCast, Option.map_some, shr32, shl32, List.getD_cons_zero, List.getD_cons_succ, List.length_set, List.set_cons_zero, List.set_cons_succ, strA_length]
  cases hq : listQ xs with
  | none =>
    rw [hq] at hr hQ
    simp only [listS] at hr
    refine x_callP hr c_List (by simp [evA, upd_app]) (by simp [AV.pureL, AV.pure]) rfl ?_
    simp (disch := omega) only [go_sem, ↓k_cond, ↓x_idx, ↓k_block, Nat.reduceEqDiff, ↓reduceIte, reduceCtorEq, if_pos, if_neg, decide_eq_true, decide_eq_false, beqT, beqF, bneT, bneF, wrapI, wrapU32, wrapU64, wrapU8, nc_add, nc_addL, nc_addR, nc_mul, nc_mulL, nc_mulR, nc_div, nc_divL, nc_mod, nc_modL, nc_1, nc_sub1, natA_at, natA_put, eatH_one, Int.toNat_natCast, Option.map_some, shr32, shl32, List.getD_cons_zero, List.getD_cons_succ, List.length_set, List.set_cons_zero, List.set_cons_succ]
    rw [← hQ]
    exact post_two (.inl rfl) rfl (by first | (simp only [upd_app, ↓reduceIte, Nat.reduceEqDiff]; done) | (simp [upd_app]; done) | (simp [upd_app]; omega)) (by first | (simp only [upd_app, ↓reduceIte, Nat.reduceEqDiff]; done) | (simp [upd_app]; done) | (simp [upd_app]; omega)) rfl rfl
  | some qs =>
    rw [hq] at hr hQ
    simp only [listS] at hr
    refine x_callP hr c_List (by simp [evA, upd_app]) (by simp [AV.pureL, AV.pure]) (by simp [AV.pure, AV.pureL]) ?_
    simp (disch := omega) only [go_sem, ↓k_cond, ↓x_idx, ↓k_block, Nat.reduceEqDiff, ↓reduceIte, reduceCtorEq, if_pos, if_neg, decide_eq_true, decide_eq_false, beqT, beqF, bneT, bneF, wrapI, wrapU32, wrapU64, wrapU8, nc_add, nc_addL, nc_addR, nc_mul, nc_mulL, nc_mulR, nc_div, nc_divL, nc_mod, nc_modL, nc_1, nc_sub1, natA_at, natA_put, eatH_one, Int.toNat_natCast, Option.map_some, shr32, shl32, List.getD_cons_zero, List.getD_cons_succ, List.length_set, List.set_cons_zero, List.set_cons_succ]
    rw [← hQ]
    exact post_two (.inl rfl) rfl (by first | (simp only [upd_app, ↓reduceIte, Nat.reduceEqDiff]; done) | (simp [upd_app]; done) | (simp [upd_app]; omega)) (by first | (simp only [upd_app, ↓reduceIte, Nat.reduceEqDiff]; done) | (simp [upd_app]; done) | (simp [upd_app]; omega)) (by simp) rfl
theorem s_IsSeries (xs : List (List UInt8)) (hl : xs.length < 9223372036854775808) (hs : ∀ x ∈ xs, x.length ≤ 1000000) : CallOk Tryd.prog 5 [.sl 9 (strA xs) [] false] (.bool (serQ xs).isSome) [] := by
  have hr := s_l08Parse xs hl hs
  (refine callOk_of_wpc (W := fun _ => false) false hm' Tryd.func5 rfl (by kernel_rfl) (Nat.le_of_ble_eq_true rfl) (go_start ?_); generalize hQ : Post Tryd.prog Tryd.f5 _ _ _ _ _ = Q; simp only [stIn, matL, matA, st00])
  simp (disch := omega) only [go_sem, ↓k_cond, ↓x_idx, ↓k_block, Nat.reduceEqDiff, ↓reduceIte, reduceCtorEq, if_pos, if_neg, decide_eq_true, decide_eq_false, beqT, beqF, bneT, bneF, wrapI, wrapU32, wrapU64, wrapU8, nc_add, nc_addL, nc_addR, nc_mul, nc_mulL, nc_mulR, nc_div, nc_divL, nc_mod, nc_modL, nc_1, nc_sub1, natA_at, natA_put, eatH_one, Int.toNat_natCast, Option.map_some, shr32, shl32, List.getD_cons_zero, List.getD_cons_succ, List.length_set, List.set_cons_zero, List.set_cons_succ]
  cases hq : serQ xs with
  | none =>
    rw [hq] at hr hQ
    simp only [listS] at hr
    refine x_callP hr c_l08Parse (by simp [evA, upd_app]) (by simp [AV.pureL, AV.pure]) rfl ?_
    simp (disch := omega) only [go_sem, ↓k_cond, ↓x_idx, ↓k_block, Nat.reduceEqDiff, ↓reduceIte, reduceCtorEq, if_pos, if_neg, decide_eq_true, decide_eq_false, beqT, beqF, bneT, bneF, wrapI, wrapU32, wrapU64, wrapU8, nc_add, nc_addL, nc_addR, nc_mul, nc_mulL, nc_mulR, nc_div, nc_divL, nc_mod, nc_modL, nc_1, nc_sub1, natA_at, natA_put, eatH_one, Int.toNat_natCast, Option.map_some, shr32, shl32, List.getD_cons_zero, List.getD_cons_succ, List.length_set, List.set_cons_zero, List.set_cons_succ]
    rw [← hQ]
    exact post_one (.inl rfl) rfl (by first | (simp only [upd_app, ↓reduceIte, Nat.reduceEqDiff, Option.isSome_none]; done) | (simp [upd_app, Option.isSome_none]; done) | (simp [upd_app, Option.isSome_none]; omega)) rfl
  | some qs =>
    rw [hq] at hr hQ
    simp only [listS] at hr
    refine x_callP hr c_l08Parse (by simp [evA, upd_app]) (by simp [AV.pureL, AV.pure]) (by simp [AV.pure, AV.pureL]) ?_
    simp (disch := omega) only [go_sem, ↓k_cond, ↓x_idx, ↓k_block, Nat.reduceEqDiff, ↓reduceIte, reduceCtorEq, if_pos, if_neg, decide_eq_true, decide_eq_false, beqT, beqF, bneT, bneF, wrapI, wrapU32, wrapU64, wrapU8, nc_add, nc_addL, nc_addR, nc_mul, nc_mulL, nc_mulR, nc_div, nc_divL, nc_mod, nc_modL, nc_1, nc_sub1, natA_at, natA_put, eatH_one, Int.toNat_natCast, Option.map_some, shr32, shl32, List.getD_cons_zero, List.getD_cons_succ, List.length_set, List.set_cons_zero, List.set_cons_succ]
    rw [← hQ]
    exact post_one (.inl rfl) rfl (by first | (simp only [upd_app, ↓reduceIte, Nat.reduceEqDiff, Option.isSome_some]; done) | (simp [upd_app, Option.isSome_some]; done) | (simp [upd_app, Option.isSome_some]; omega)) rfl
end Go.Proofs.YtogabejpbdmnnaaDoor

/- What the laws do with lists of texts: copies with room behind, equality, sizes. -/
set_option linter.unusedSimpArgs false
set_option linter.unusedVariables false
namespace Go.Proofs.YtogabejpbdmnnaaDoor
open Go

theorem passL_snap {st : St} : ∀ {al sargs : List AV} {ids : List Nat}, snapL (snapA st 8) al = some (sargs, ids) → passL st (al.map fun _ => .snap) al = some (sargs, ids, [], [])
  | [], _, _, h => by simp only [snapL, Option.some.injEq, Prod.mk.injEq] at h; obtain ⟨rfl, rfl⟩ := h; rfl
  | a :: al, sargs, ids, h => by
    obtain ⟨y, i, ys, is, h1, h2, h3⟩ := snapL_cons h
    simp only [Prod.mk.injEq] at h3
    obtain ⟨rfl, rfl⟩ := h3
    simp [passL, passA, h1, passL_snap h2]
theorem passL_eat {st : St} : ∀ {al sargs : List AV} {ids : List Nat}, snapL (ownA st 8) al = some (sargs, ids) → passL st (al.map fun _ => .eat) al = some (sargs, [], [], ids)
  | [], _, _, h => by simp only [snapL, Option.some.injEq, Prod.mk.injEq] at h; obtain ⟨rfl, rfl⟩ := h; rfl
  | a :: al, sargs, ids, h => by
    obtain ⟨y, i, ys, is, h1, h2, h3⟩ := snapL_cons h
    simp only [Prod.mk.injEq] at h3
    obtain ⟨rfl, rfl⟩ := h3
    simp [passL, passA, h1, passL_eat h2]
section
variable {P : Program} {W : FuncId → Bool} {ops : Array Oper} {os : List Oper} {fr : Nat → AV} {h : Nat → Blk} {nx : Nat} {K : St → Prop} {d t : Nat} {p : String} {af : Array Edge}
/-- A call that looks at private memory as0 it reads now; its result needs no memory. -/
theorem x_callS {g : FuncId} {args : Array Operand} {ts : Array TypeId} {al sargs : List AV} {ids : List Nat} {r : AV}
    (hc : CallOk P g sargs r []) (hg : callable P g = true) (ha : args.toList.map (evA fr) = al) (hs : snapL (snapA ⟨fr, h, nx⟩ 8) al = some (sargs, ids)) (hr : r.pure = true) (ht : r.solid = true)
    (hk : wpos P W ops os ⟨upd fr d r, h, nx⟩ K) :
    wpos P W ops (⟨some d, .call { callee := .value (.func g), args := args, argTypes := ts }, t, p, af, none⟩ :: os) ⟨fr, h, nx⟩ K := by
  have he : eatH (outH h [] []) [] = h := by funext i; simp [eatH, outH]
  refine x_call (g := g) (first := []) (cap := []) (pm := al.map fun _ => .snap) (outs := []) hc rfl hg (by simp only [List.nil_append, List.append_nil, ha]; exact passL_snap hs) ?_ (by simp) (by simp) (.inr ⟨ht, rfl⟩) (.inl rfl) ?_
  · intro _; rw [matA_pure _ _ _ hr, he]; exact ⟨rfl, rfl⟩
  · rw [matA_pure _ _ _ hr, he]; exact hk
/-- A call that private memory is given to for good. -/
theorem x_callE {g : FuncId} {args : Array Operand} {ts : Array TypeId} {al sargs : List AV} {ids : List Nat} {r : AV}
    (hc : CallOk P g sargs r []) (hg : callable P g = true) (ha : args.toList.map (evA fr) = al) (hs : snapL (ownA ⟨fr, h, nx⟩ 8) al = some (sargs, ids)) (hnd : ids.Nodup) (hr : r.pure = true) (hW : W g = true)
    (hk : wpos P W ops os ⟨upd fr d r, eatH h ids, nx⟩ K) :
    wpos P W ops (⟨some d, .call { callee := .value (.func g), args := args, argTypes := ts }, t, p, af, none⟩ :: os) ⟨fr, h, nx⟩ K := by
  have he : eatH (outH h [] []) ids = eatH h ids := by funext i; simp [eatH, outH]
  refine x_call (g := g) (first := []) (cap := []) (pm := al.map fun _ => .eat) (outs := []) hc rfl hg (by simp only [List.nil_append, List.append_nil, ha]; exact passL_eat hs) ?_ (by simpa using hnd) (by simp) (.inl rfl) (.inl rfl) ?_
  · intro hw; simp [isW, hW] at hw
  · rw [matA_pure _ _ _ hr, he]; exact hk
end

theorem cl_room : callable Tryd.prog 10 = true := by kernel_rfl
theorem cl_sz : callable Tryd.prog 4 = true := by kernel_rfl
theorem cl_to : callable Tryd.prog 6 = true := by kernel_rfl
theorem cl_eq : callable Tryd.prog 12 = true := by kernel_rfl
theorem cl_intact : callable Tryd.prog 8 = true := by kernel_rfl
def roomB (n : Nat) : Nat := if n % 6 = 5 then 0 else if n % 3 = 0 then 1 else n
theorem room_le (n : Nat) : roomB n ≤ n + 1 := by unfold roomB; split; omega; split <;> omega
theorem l_room (n : Nat) (hn : n < 9223372036854775808) : CallOk Tryd.prog 10 [.int .i64 n] (.int .i64 (roomB n)) [] := by
  unfold roomB
  by_cases h1 : n % 6 = 5
  · rw [if_pos h1]
    (refine callOk_of_wpc (W := fun _ => false) false hm' Tryd.func10 rfl (by kernel_rfl) (Nat.le_of_ble_eq_true rfl) (go_start ?_); generalize hQ : Post Tryd.prog Tryd.f10 _ _ _ _ _ = Q; simp only [stIn, matL, matA, st00])
    simp (disch := omega) only [go_sem, ↓k_cond, ↓x_idx, ↓k_block, Nat.reduceEqDiff, ↓reduceIte, reduceCtorEq, if_pos, if_neg, decide_eq_true, decide_eq_false, beqT, beqF, bneT, bneF, wrapI, wrapU32, wrapU64, wrapU8, nc_add, nc_addL, nc_addR, nc_mul, nc_mulL, nc_mulR, nc_div, nc_divL, nc_mod, nc_modL, nc_1, nc_sub1, natA_at, natA_put, eatH_one, Int.toNat_natCast, Option.map_some, shr32, shl32, List.getD_cons_zero, List.getD_cons_succ, List.length_set, List.set_cons_zero, List.set_cons_succ, h1]
    rw [← hQ]
    exact post_one (.inl rfl) rfl (by first | (simp only [upd_app, ↓reduceIte, Nat.reduceEqDiff]; done) | (simp [upd_app]; done) | (simp [upd_app]; omega)) rfl
  by_cases h2 : n % 3 = 0
  · rw [if_neg h1, if_pos h2]
    (refine callOk_of_wpc (W := fun _ => false) false hm' Tryd.func10 rfl (by kernel_rfl) (Nat.le_of_ble_eq_true rfl) (go_start ?_); generalize hQ : Post Tryd.prog Tryd.f10 _ _ _ _ _ = Q; simp only [stIn, matL, matA, st00])
    simp (disch := omega) only [go_sem, ↓k_cond, ↓x_idx, ↓k_block, Nat.reduceEqDiff, ↓reduceIte, reduceCtorEq, if_pos, if_neg, decide_eq_true, decide_eq_false, beqT, beqF, bneT, bneF, wrapI, wrapU32, wrapU64, wrapU8, nc_add, nc_addL, nc_addR, nc_mul, nc_mulL, nc_mulR, nc_div, nc_divL, nc_mod, nc_modL, nc_1, nc_sub1, natA_at, natA_put, eatH_one, Int.toNat_natCast, Option.map_some, shr32, shl32, List.getD_cons_zero, List.getD_cons_succ, List.length_set, List.set_cons_zero, List.set_cons_succ, h2]
    rw [← hQ]
    exact post_one (.inl rfl) rfl (by first | (simp only [upd_app, ↓reduceIte, Nat.reduceEqDiff]; done) | (simp [upd_app]; done) | (simp [upd_app]; omega)) rfl
  · rw [if_neg h1, if_neg h2]
    (refine callOk_of_wpc (W := fun _ => false) false hm' Tryd.func10 rfl (by kernel_rfl) (Nat.le_of_ble_eq_true rfl) (go_start ?_); generalize hQ : Post Tryd.prog Tryd.f10 _ _ _ _ _ = Q; simp only [stIn, matL, matA, st00])
    simp (disch := omega) only [go_sem, ↓k_cond, ↓x_idx, ↓k_block, Nat.reduceEqDiff, ↓reduceIte, reduceCtorEq, if_pos, if_neg, decide_eq_true, decide_eq_false, beqT, beqF, bneT, bneF, wrapI, wrapU32, wrapU64, wrapU8, nc_add, nc_addL, nc_addR, nc_mul, nc_mulL, nc_mulR, nc_div, nc_divL, nc_mod, nc_modL, nc_1, nc_sub1, natA_at, natA_put, eatH_one, Int.toNat_natCast, Option.map_some, shr32, shl32, List.getD_cons_zero, List.getD_cons_succ, List.length_set, List.set_cons_zero, List.set_cons_succ]
    rw [← hQ]
    exact post_one (.inl rfl) rfl (by first | (simp only [upd_app, ↓reduceIte, Nat.reduceEqDiff]; done) | (simp [upd_app]; done) | (simp [upd_app]; omega)) rfl

/-- What is left of a size behind texts; -1 if they are too much. -/
def szL : List (List UInt8) → Int → Int
  | [], l => l
  | x :: xs, l => if l - x.length < 0 then -1 else szL xs (l - x.length)
def szS (xs : List (List UInt8)) (l : Int) : Int := if l - xs.length < 0 then -1 else szL xs (l - xs.length)
theorem szL_bd : ∀ {xs : List (List UInt8)} {l : Int}, 0 ≤ l → 0 ≤ szL xs l → (∀ x ∈ xs, (x.length : Int) ≤ l) ∧ szL xs l ≤ l
  | [], l, h0, _ => by simp [szL]
  | x :: xs, l, h0, h => by
    simp only [szL] at h ⊢
    by_cases hx : l - x.length < 0
    · rw [if_pos hx] at h; omega
    · rw [if_neg hx] at h ⊢
      have := szL_bd (by omega) h
      exact ⟨by intro y hy; rcases List.mem_cons.1 hy with rfl | hy; omega; have := this.1 y hy; omega, by omega⟩
theorem szS_bd {xs : List (List UInt8)} {l : Int} (h0 : 0 ≤ l) (h : 0 ≤ szS xs l) : (xs.length : Int) ≤ l ∧ (∀ x ∈ xs, (x.length : Int) ≤ l) ∧ szS xs l ≤ l := by
  unfold szS at h ⊢
  by_cases hx : l - xs.length < 0
  · rw [if_pos hx] at h; omega
  · rw [if_neg hx] at h ⊢
    have := szL_bd (by omega) h
    exact ⟨by omega, fun x hx => by have := this.1 x hx; omega, by omega⟩
theorem l_sz (xs : List (List UInt8)) (l : Int) (hl0 : 0 ≤ l) (hl1 : l ≤ 1000000) (hn : xs.length < 4611686018427387904) (hs : ∀ x ∈ xs, x.length < 4611686018427387904) :
    CallOk Tryd.prog 4 [.sl 9 (strA xs) [] false, .int .i64 l] (.int .i64 (szS xs l)) [] := by
  obtain ⟨n, hn'⟩ : ∃ n, xs.length = n := ⟨_, rfl⟩
  rw [hn'] at hn
  unfold szS
  rw [hn']
  by_cases h1 : l - n < 0
  · rw [if_pos h1]
    (refine callOk_of_wpc (W := fun _ => false) false hm' Tryd.func4 rfl (by kernel_rfl) (Nat.le_of_ble_eq_true rfl) (go_start ?_); generalize hQ : Post Tryd.prog Tryd.f4 _ _ _ _ _ = Q; simp only [stIn, matL, matA, st00])
    simp (disch := omega) only [go_sem, ↓k_cond, ↓x_idx, ↓k_block, Nat.reduceEqDiff, ↓reduceIte, reduceCtorEq, if_pos, if_neg, decide_eq_true, decide_eq_false, beqT, beqF, bneT, bneF, wrapI, wrapU32, wrapU64, wrapU8, nc_add, nc_addL, nc_addR, nc_mul, nc_mulL, nc_mulR, nc_div, nc_divL, nc_mod, nc_modL, nc_1, nc_sub1, natA_at, natA_put, eatH_one, Int.toNat_natCast, Option.map_some, shr32, shl32, List.getD_cons_zero, List.getD_cons_succ, List.length_set, List.set_cons_zero, List.set_cons_succ, strA_length, hn']
    rw [← hQ]
    exact post_one (.inl rfl) rfl (by first | (simp only [upd_app, ↓reduceIte, Nat.reduceEqDiff]; done) | (simp [upd_app]; done) | (simp [upd_app]; omega)) rfl
  rw [if_neg h1]
  (refine callOk_of_wpc (W := fun _ => false) false hm' Tryd.func4 rfl (by kernel_rfl) (Nat.le_of_ble_eq_true rfl) (go_start ?_); generalize hQ : Post Tryd.prog Tryd.f4 _ _ _ _ _ = Q; simp only [stIn, matL, matA, st00])
  simp (disch := omega) only [go_sem, ↓k_cond, ↓x_idx, ↓k_block, Nat.reduceEqDiff, ↓reduceIte, reduceCtorEq, if_pos, if_neg, decide_eq_true, decide_eq_false, beqT, beqF, bneT, bneF, wrapI, wrapU32, wrapU64, wrapU8, nc_add, nc_addL, nc_addR, nc_mul, nc_mulL, nc_mulR, nc_div, nc_divL, nc_mod, nc_modL, nc_1, nc_sub1, natA_at, natA_put, eatH_one, Int.toNat_natCast, Option.map_some, shr32, shl32, List.getD_cons_zero, List.getD_cons_succ, List.length_set, List.set_cons_zero, List.set_cons_succ, strA_length, hn']
  refine k_loop (fun (p : Nat × Int) st => st.fr 0 = .sl 9 (strA xs) [] false ∧ st.fr 1 = .int .i64 p.2 ∧ st.fr 5 = .int .i64 p.1 ∧ p.1 ≤ n ∧ 0 ≤ p.2 ∧ p.2 ≤ 1000000 ∧ szL xs (l - n) = szL (xs.drop p.1) p.2) (fun p => n - p.1) (0, l - n)
    ⟨(by first | (simp only [upd_app, ↓reduceIte, Nat.reduceEqDiff]; done) | (simp [upd_app]; done) | (simp [upd_app]; omega)), (by first | (simp only [upd_app, ↓reduceIte, Nat.reduceEqDiff]; done) | (simp [upd_app]; done) | (simp [upd_app]; omega)), (by first | (simp only [upd_app, ↓reduceIte, Nat.reduceEqDiff]; done) | (simp [upd_app]; done) | (simp [upd_app]; omega)), by simp, by simp only; omega, by simp only; omega, rfl⟩ ?_
  rintro ⟨i, q⟩ ⟨fr, h, nx⟩ ⟨g0, g1, g5, hi, hq0, hq1, hsz⟩ J hJ
  simp only at g0 g1 g5 hi hq0 hq1 hsz
  by_cases hin : i < n
  · obtain ⟨x, hx⟩ := get_some (xs := xs) (i := i) (by omega)
    have hxl := hs x (List.mem_of_getElem? hx)
    rw [drop_cons hx, szL] at hsz
    by_cases hneg : q - x.length < 0
    · rw [if_pos hneg] at hsz
      rw [hsz] at hQ
      simp (disch := omega) only [go_sem, ↓k_cond, ↓x_idx, ↓k_block, Nat.reduceEqDiff, ↓reduceIte, reduceCtorEq, if_pos, if_neg, decide_eq_true, decide_eq_false, beqT, beqF, bneT, bneF, wrapI, wrapU32, wrapU64, wrapU8, nc_add, nc_addL, nc_addR, nc_mul, nc_mulL, nc_mulR, nc_div, nc_divL, nc_mod, nc_modL, nc_1, nc_sub1, natA_at, natA_put, eatH_one, Int.toNat_natCast, Option.map_some, shr32, shl32, List.getD_cons_zero, List.getD_cons_succ, List.length_set, List.set_cons_zero, List.set_cons_succ, g0, g1, g5, strA_length, strA_at, hx, hn']
      rw [← hQ]
      exact post_one (.inl rfl) rfl (by first | (simp only [upd_app, ↓reduceIte, Nat.reduceEqDiff]; done) | (simp [upd_app]; done) | (simp [upd_app]; omega)) rfl
    · rw [if_neg hneg] at hsz
      simp (disch := omega) only [go_sem, ↓k_cond, ↓x_idx, ↓k_block, Nat.reduceEqDiff, ↓reduceIte, reduceCtorEq, if_pos, if_neg, decide_eq_true, decide_eq_false, beqT, beqF, bneT, bneF, wrapI, wrapU32, wrapU64, wrapU8, nc_add, nc_addL, nc_addR, nc_mul, nc_mulL, nc_mulR, nc_div, nc_divL, nc_mod, nc_modL, nc_1, nc_sub1, natA_at, natA_put, eatH_one, Int.toNat_natCast, Option.map_some, shr32, shl32, List.getD_cons_zero, List.getD_cons_succ, List.length_set, List.set_cons_zero, List.set_cons_succ, g0, g1, g5, strA_length, strA_at, hx, hn']
      exact hJ (i + 1, q - x.length) _ ⟨(by first | (simp only [upd_app, ↓reduceIte, Nat.reduceEqDiff, g0]; done) | (simp [upd_app, g0]; done) | (simp [upd_app, g0]; omega)), (by first | (simp only [upd_app, ↓reduceIte, Nat.reduceEqDiff]; done) | (simp [upd_app]; done) | (simp [upd_app]; omega)), (by first | (simp only [upd_app, ↓reduceIte, Nat.reduceEqDiff]; done) | (simp [upd_app]; done) | (simp [upd_app]; omega)), hin, by simp only; omega, by simp only; omega, hsz⟩ (by simp only; omega)
  · obtain rfl : i = n := by omega
    rw [List.drop_eq_nil_of_le (by omega), szL] at hsz
    rw [hsz] at hQ
    simp (disch := omega) only [go_sem, ↓k_cond, ↓x_idx, ↓k_block, Nat.reduceEqDiff, ↓reduceIte, reduceCtorEq, if_pos, if_neg, decide_eq_true, decide_eq_false, beqT, beqF, bneT, bneF, wrapI, wrapU32, wrapU64, wrapU8, nc_add, nc_addL, nc_addR, nc_mul, nc_mulL, nc_mulR, nc_div, nc_divL, nc_mod, nc_modL, nc_1, nc_sub1, natA_at, natA_put, eatH_one, Int.toNat_natCast, Option.map_some, shr32, shl32, List.getD_cons_zero, List.getD_cons_succ, List.length_set, List.set_cons_zero, List.set_cons_succ, g0, g1, g5, strA_length, hn']
    rw [← hQ]
    exact post_one (.inl rfl) rfl (by first | (simp only [upd_app, ↓reduceIte, Nat.reduceEqDiff, g1]; done) | (simp [upd_app, g1]; done) | (simp [upd_app, g1]; omega)) rfl

theorem beqStr {a b : List UInt8} : (a == b) = decide (a = b) := by rw [Bool.eq_iff_iff]; simp
theorem l_eq (xs ys : List (List UInt8)) (hx : xs.length < 4611686018427387904) (hy : ys.length < 4611686018427387904) : CallOk Tryd.prog 12 [.sl 9 (strA xs) [] false, .sl 9 (strA ys) [] false] (.bool (decide (xs = ys))) [] := by
  by_cases hl : xs.length = ys.length
  · obtain ⟨n, hn⟩ : ∃ n, xs.length = n := ⟨_, rfl⟩
    have hn2 : ys.length = n := by omega
    rw [hn] at hx
    clear hl hy
    (refine callOk_of_wpc (W := fun _ => false) false hm' Tryd.func12 rfl (by kernel_rfl) (Nat.le_of_ble_eq_true rfl) (go_start ?_); generalize hQ : Post Tryd.prog Tryd.f12 _ _ _ _ _ = Q; simp only [stIn, matL, matA, st00])
    simp (disch := omega) only [go_sem, ↓k_cond, ↓x_idx, ↓k_block, Nat.reduceEqDiff, ↓reduceIte, reduceCtorEq, if_pos, if_neg, decide_eq_true, decide_eq_false, beqT, beqF, bneT, bneF, wrapI, wrapU32, wrapU64, wrapU8, nc_add, nc_addL, nc_addR, nc_mul, nc_mulL, nc_mulR, nc_div, nc_divL, nc_mod, nc_modL, nc_1, nc_sub1, natA_at, natA_put, eatH_one, Int.toNat_natCast, Option.map_some, shr32, shl32, List.getD_cons_zero, List.getD_cons_succ, List.length_set, List.set_cons_zero, List.set_cons_succ, strA_length, hn, hn2]
    refine k_loop (fun (i : Nat) st => st.fr 0 = .sl 9 (strA xs) [] false ∧ st.fr 1 = .sl 9 (strA ys) [] false ∧ st.fr 5 = .int .i64 i ∧ i ≤ n ∧ xs.take i = ys.take i) (fun i => n - i) 0 ⟨(by first | (simp only [upd_app, ↓reduceIte, Nat.reduceEqDiff]; done) | (simp [upd_app]; done) | (simp [upd_app]; omega)), (by first | (simp only [upd_app, ↓reduceIte, Nat.reduceEqDiff]; done) | (simp [upd_app]; done) | (simp [upd_app]; omega)), (by first | (simp only [upd_app, ↓reduceIte, Nat.reduceEqDiff]; done) | (simp [upd_app]; done) | (simp [upd_app]; omega)), by omega, by simp⟩ ?_
    rintro i ⟨fr, h, nx⟩ ⟨g0, g1, g5, hi, he⟩ J hJ
    simp only at g0 g1 g5
    by_cases hin : i < n
    · obtain ⟨x, hxx⟩ := get_some (xs := xs) (i := i) (by omega)
      obtain ⟨y, hyy⟩ := get_some (xs := ys) (i := i) (by omega)
      by_cases hxy : x = y
      · subst hxy
        have e : (x == x) = true := by simp
        simp (disch := omega) only [go_sem, ↓k_cond, ↓x_idx, ↓k_block, Nat.reduceEqDiff, ↓reduceIte, reduceCtorEq, if_pos, if_neg, decide_eq_true, decide_eq_false, beqT, beqF, bneT, bneF, wrapI, wrapU32, wrapU64, wrapU8, nc_add, nc_addL, nc_addR, nc_mul, nc_mulL, nc_mulR, nc_div, nc_divL, nc_mod, nc_modL, nc_1, nc_sub1, natA_at, natA_put, eatH_one, Int.toNat_natCast, Option.map_some, shr32, shl32, List.getD_cons_zero, List.getD_cons_succ, List.length_set, List.set_cons_zero, List.set_cons_succ, g0, g1, g5, strA_length, strA_at, hxx, hyy, hn, hn2, e]
        exact hJ (i + 1) _ ⟨(by first | (simp only [upd_app, ↓reduceIte, Nat.reduceEqDiff, g0]; done) | (simp [upd_app, g0]; done) | (simp [upd_app, g0]; omega)), (by first | (simp only [upd_app, ↓reduceIte, Nat.reduceEqDiff, g1]; done) | (simp [upd_app, g1]; done) | (simp [upd_app, g1]; omega)), (by first | (simp only [upd_app, ↓reduceIte, Nat.reduceEqDiff]; done) | (simp [upd_app]; done) | (simp [upd_app]; omega)), hin, by rw [List.take_add_one, List.take_add_one, hxx, hyy, he]⟩ (by omega)
      · have e : (x == y) = false := by simpa using hxy
        have hne : xs ≠ ys := fun h => hxy (by rw [h, hyy] at hxx; exact (Option.some.inj hxx).symm)
        have hd : decide (xs = ys) = false := by simpa using hne
        rw [hd] at hQ
        simp (disch := omega) only [go_sem, ↓k_cond, ↓x_idx, ↓k_block, Nat.reduceEqDiff, ↓reduceIte, reduceCtorEq, if_pos, if_neg, decide_eq_true, decide_eq_false, beqT, beqF, bneT, bneF, wrapI, wrapU32, wrapU64, wrapU8, nc_add, nc_addL, nc_addR, nc_mul, nc_mulL, nc_mulR, nc_div, nc_divL, nc_mod, nc_modL, nc_1, nc_sub1, natA_at, natA_put, eatH_one, Int.toNat_natCast, Option.map_some, shr32, shl32, List.getD_cons_zero, List.getD_cons_succ, List.length_set, List.set_cons_zero, List.set_cons_succ, g0, g1, g5, strA_length, strA_at, hxx, hyy, hn, hn2, e]
        rw [← hQ]
        exact post_one (.inl rfl) rfl (by first | (simp only [upd_app, ↓reduceIte, Nat.reduceEqDiff]; done) | (simp [upd_app]; done) | (simp [upd_app]; omega)) rfl
    · have hd : decide (xs = ys) = true := by
        rw [List.take_of_length_le (by omega), List.take_of_length_le (by omega)] at he; simpa using he
      rw [hd] at hQ
      simp (disch := omega) only [go_sem, ↓k_cond, ↓x_idx, ↓k_block, Nat.reduceEqDiff, ↓reduceIte, reduceCtorEq, if_pos, if_neg, decide_eq_true, decide_eq_false, beqT, beqF, bneT, bneF, wrapI, wrapU32, wrapU64, wrapU8, nc_add, nc_addL, nc_addR, nc_mul, nc_mulL, nc_mulR, nc_div, nc_divL, nc_mod, nc_modL, nc_1, nc_sub1, natA_at, natA_put, eatH_one, Int.toNat_natCast, Option.map_some, shr32, shl32, List.getD_cons_zero, List.getD_cons_succ, List.length_set, List.set_cons_zero, List.set_cons_succ, g0, g1, g5, strA_length, hn]
      rw [← hQ]
      exact post_one (.inl rfl) rfl (by first | (simp only [upd_app, ↓reduceIte, Nat.reduceEqDiff]; done) | (simp [upd_app]; done) | (simp [upd_app]; omega)) rfl
  · have hne : decide (xs = ys) = false := by simp; exact fun h => hl (by rw [h])
    rw [hne]
    (refine callOk_of_wpc (W := fun _ => false) false hm' Tryd.func12 rfl (by kernel_rfl) (Nat.le_of_ble_eq_true rfl) (go_start ?_); generalize hQ : Post Tryd.prog Tryd.f12 _ _ _ _ _ = Q; simp only [stIn, matL, matA, st00])
    simp (disch := omega) only [go_sem, ↓k_cond, ↓x_idx, ↓k_block, Nat.reduceEqDiff, ↓reduceIte, reduceCtorEq, if_pos, if_neg, decide_eq_true, decide_eq_false, beqT, beqF, bneT, bneF, wrapI, wrapU32, wrapU64, wrapU8, nc_add, nc_addL, nc_addR, nc_mul, nc_mulL, nc_mulR, nc_div, nc_divL, nc_mod, nc_modL, nc_1, nc_sub1, natA_at, natA_put, eatH_one, Int.toNat_natCast, Option.map_some, shr32, shl32, List.getD_cons_zero, List.getD_cons_succ, List.length_set, List.set_cons_zero, List.set_cons_succ, strA_length]
    rw [← hQ]
    exact post_one (.inl rfl) rfl (by first | (simp only [upd_app, ↓reduceIte, Nat.reduceEqDiff]; done) | (simp [upd_app]; done) | (simp [upd_app]; omega)) rfl
end Go.Proofs.YtogabejpbdmnnaaDoor
